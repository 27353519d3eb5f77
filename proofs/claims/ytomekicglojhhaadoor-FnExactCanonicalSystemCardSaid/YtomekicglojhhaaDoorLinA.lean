/-
  PLAIN LAW: THE REDUCTION OF A LIST OF ROWS, AS BOTH SIDES RECKON IT: its words, and that its entries turn by stepG. No program is looked at.
-/
import Derived.Test.YtomekicglojhhaaDoorLinK
import Derived.Test.YtomekicglojhhaaDoorPolyN
namespace Go.Proofs.YtomekicglojhhaaDoor

/-- The entry of row i, column j. -/
def en (L : List (List Int)) (i j : Nat) : Int := (L.getD i []).getD j 0
/-- m rows of n residues. -/
structure Mat (p : Int) (m n : Nat) (L : List (List Int)) : Prop where
  len : L.length = m
  row : ∀ v, v ∈ L → v.length = n ∧ Res p v
theorem Mat.get {p : Int} {m n : Nat} {L : List (List Int)} (h : Mat p m n L) {i : Nat} (hi : i < m) : (L.getD i []).length = n ∧ Res p (L.getD i []) := by
  have hl : i < L.length := by rw [h.len]; exact hi
  have : L.getD i [] = L[i] := by simp [List.getD, hl]
  rw [this]; exact h.row _ (List.getElem_mem hl)
theorem Mat.en {p : Int} (hp : 0 < p) {m n : Nat} {L : List (List Int)} (h : Mat p m n L) {i : Nat} (hi : i < m) (j : Nat) : 0 ≤ en L i j ∧ en L i j < p := (h.get hi).2.getD hp j

/-- The first row from k on that has something in column c. -/
def pvFrom (L : List (List Int)) (c : Nat) : Nat → Nat → Nat
  | 0, k => k
  | f + 1, k => if en L k c = 0 then pvFrom L c f (k + 1) else k
theorem pvFrom_spec (L : List (List Int)) (c : Nat) : ∀ (f k : Nat), k ≤ pvFrom L c f k ∧ pvFrom L c f k ≤ k + f ∧ (∀ i, k ≤ i → i < pvFrom L c f k → en L i c = 0) ∧ (pvFrom L c f k < k + f → en L (pvFrom L c f k) c ≠ 0)
  | 0, k => ⟨Nat.le_refl _, Nat.le_refl _, fun i h1 h2 => by unfold pvFrom at h2; omega, fun h => by unfold pvFrom at h; omega⟩
  | f + 1, k => by
    rw [pvFrom]
    split
    · rename_i h0
      obtain ⟨h1, h2, h3, h4⟩ := pvFrom_spec L c f (k + 1)
      refine ⟨by omega, by omega, fun i hi hlt => ?_, fun h => h4 (by omega)⟩
      rcases Nat.lt_or_ge k i with hk | hk
      · exact h3 i (by omega) hlt
      · obtain rfl : i = k := by omega
        exact h0
    · rename_i h0
      exact ⟨Nat.le_refl _, by omega, fun i hi hlt => by omega, fun _ => h0⟩

/-- The three parts of a round. -/
def swapL (L : List (List Int)) (r k : Nat) : List (List Int) := (L.set r (L.getD k [])).set k (L.getD r [])
def scaleV (p iv : Int) (v : List Int) : List Int := v.map fun a => a * iv % p
def scaleL (p : Int) (r : Nat) (iv : Int) (L : List (List Int)) : List (List Int) := L.set r (scaleV p iv (L.getD r []))
/-- The rows below q are done. -/
def elimTo (p : Int) (r : Nat) (f : Nat → Int) (L : List (List Int)) (q : Nat) : List (List Int) :=
  (List.range L.length).map fun i => if i < q ∧ i ≠ r ∧ f i ≠ 0 then addT p (L.getD i []) (-(f i)) (L.getD r []) else L.getD i []

theorem getD_set {α : Type} (L : List α) (i k : Nat) (x d : α) (hi : i < L.length) : (L.set i x).getD k d = if k = i then x else L.getD k d := by
  by_cases h : k = i
  · subst h; simp [List.getD, hi]
  · rw [if_neg h]; simp [List.getD, List.getElem?_set_ne (Ne.symm h)]
@[simp] theorem swapL_length (L : List (List Int)) (r k : Nat) : (swapL L r k).length = L.length := by simp [swapL]
theorem swapL_get {L : List (List Int)} {r k : Nat} (hr : r < L.length) (hk : k < L.length) (i : Nat) : (swapL L r k).getD i [] = if i = k then L.getD r [] else if i = r then L.getD k [] else L.getD i [] := by
  unfold swapL
  rw [getD_set _ _ _ _ _ (by rw [List.length_set]; exact hk)]
  split
  · rfl
  · exact getD_set _ _ _ _ _ hr
@[simp] theorem scaleL_length (p : Int) (r : Nat) (iv : Int) (L : List (List Int)) : (scaleL p r iv L).length = L.length := by simp [scaleL]
theorem scaleL_get {p : Int} {r : Nat} {iv : Int} {L : List (List Int)} (hr : r < L.length) (i : Nat) : (scaleL p r iv L).getD i [] = if i = r then scaleV p iv (L.getD r []) else L.getD i [] := getD_set _ _ _ _ _ hr
@[simp] theorem elimTo_length (p : Int) (r : Nat) (f : Nat → Int) (L : List (List Int)) (q : Nat) : (elimTo p r f L q).length = L.length := by simp [elimTo]
theorem elimTo_get {p : Int} {r : Nat} {f : Nat → Int} {L : List (List Int)} {q i : Nat} (hi : i < L.length) : (elimTo p r f L q).getD i [] = if i < q ∧ i ≠ r ∧ f i ≠ 0 then addT p (L.getD i []) (-(f i)) (L.getD r []) else L.getD i [] := by
  simp [elimTo, List.getD, hi]
theorem scaleV_get (p iv : Int) (v : List Int) (j : Nat) : (scaleV p iv v).getD j 0 = v.getD j 0 * iv % p := by
  unfold scaleV
  by_cases h : j < v.length
  · simp [List.getD, h]
  · simp [List.getD, h]

/-- A round: (the rows found, the rows, the rows beside). -/
def colStep (p : Int) (c : Nat) (s : Nat × List (List Int) × List (List Int)) : Nat × List (List Int) × List (List Int) :=
  if pvFrom s.2.1 c (s.2.1.length - s.1) s.1 < s.2.1.length then
    let k := pvFrom s.2.1 c (s.2.1.length - s.1) s.1
    let iv := invM p (en s.2.1 k c)
    let L2 := scaleL p s.1 iv (swapL s.2.1 s.1 k)
    (s.1 + 1, elimTo p s.1 (fun i => en L2 i c) L2 L2.length, elimTo p s.1 (fun i => en L2 i c) (scaleL p s.1 iv (swapL s.2.2 s.1 k)) s.2.2.length)
  else s
def redTo (p : Int) (L A : List (List Int)) : Nat → Nat × List (List Int) × List (List Int)
  | 0 => (0, L, A)
  | c + 1 => colStep p c (redTo p L A c)
/-- The reduced rows. -/
def redM (p : Int) (n : Nat) (L : List (List Int)) : List (List Int) := (redTo p L [] n).2.1.take (redTo p L [] n).1
end Go.Proofs.YtomekicglojhhaaDoor
