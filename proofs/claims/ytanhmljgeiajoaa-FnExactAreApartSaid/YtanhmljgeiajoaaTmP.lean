/-
  THE TERM OF A PERMUTATION (plain, no program): exchanges of neighbours till the list is sorted.
-/
import Derived.Test.YtanhmljgeiajoaaTmM
namespace Go.Proofs.Ytanhmljgeiajoaa

/-! ### Permutations -/
def permGo : List Int → List Bool → Bool
  | [], _ => true
  | k :: r, seen => if 0 ≤ k ∧ k < seen.length ∧ seen.getD k.toNat true = false then permGo r (seen.set k.toNat true) else false
def permB (l : List Int) : Bool := permGo l (List.replicate l.length false)
theorem permGo_nodup : ∀ {l : List Int} {seen : List Bool}, permGo l seen = true → l.Nodup ∧ ∀ k, k ∈ l → seen.getD k.toNat true = false ∧ 0 ≤ k
  | [], _, _ => ⟨List.nodup_nil, fun k hk => by cases hk⟩
  | k :: r, seen, h => by
    unfold permGo at h
    split at h
    · rename_i hc
      obtain ⟨h1, h2⟩ := permGo_nodup h
      refine ⟨List.nodup_cons.2 ⟨fun hm => ?_, h1⟩, fun x hx => ?_⟩
      · have := (h2 k hm).1
        have hlt : k.toNat < seen.length := by omega
        simp [List.getD, hlt] at this
      · rcases List.mem_cons.1 hx with rfl | hx
        · exact ⟨hc.2.2, hc.1⟩
        · obtain ⟨a, b⟩ := h2 x hx
          refine ⟨?_, b⟩
          by_cases e : k.toNat = x.toNat
          · rw [← e]; exact hc.2.2
          · simpa [List.getD, List.getElem?_set, e] using a
    · cases h

/-! ### The first place that is out of order -/
def swapAt (l : List Int) (i : Nat) : List Int := (l.set i (l.getD (i + 1) 0)).set (i + 1) (l.getD i 0)
def cnt (a : Int) : List Int → Nat
  | [] => 0
  | b :: r => (if b < a then 1 else 0) + cnt a r
def inv : List Int → Nat
  | [] => 0
  | a :: r => cnt a r + inv r
theorem cnt_le (a : Int) : ∀ l : List Int, cnt a l ≤ l.length
  | [] => Nat.le_refl _
  | b :: r => by have := cnt_le a r; simp only [cnt, List.length_cons]; split <;> omega
theorem inv_le : ∀ l : List Int, inv l ≤ l.length * l.length
  | [] => Nat.le_refl _
  | a :: r => by
    have h1 := cnt_le a r
    have h2 := inv_le r
    simp only [inv, List.length_cons]
    have : (r.length + 1) * (r.length + 1) = r.length * r.length + r.length + r.length + 1 := by rw [Nat.add_mul, Nat.mul_add]; omega
    omega
theorem swapAt_zero (a b : Int) (r : List Int) : swapAt (a :: b :: r) 0 = b :: a :: r := by simp [swapAt]
theorem swapAt_succ (a : Int) (r : List Int) (i : Nat) : swapAt (a :: r) (i + 1) = a :: swapAt r i := by simp [swapAt]
theorem swapAt_length (l : List Int) (i : Nat) : (swapAt l i).length = l.length := by simp [swapAt]
theorem swapAt_cnt (c : Int) : ∀ {l : List Int} {i : Nat}, i + 1 < l.length → cnt c (swapAt l i) = cnt c l
  | [], i, h => by simp at h
  | [a], i, h => by simp at h
  | a :: b :: r, 0, h => by rw [swapAt_zero]; simp only [cnt]; omega
  | a :: b :: r, i + 1, h => by
    rw [swapAt_succ]
    show (if a < c then 1 else 0) + cnt c (swapAt (b :: r) i) = (if a < c then 1 else 0) + cnt c (b :: r)
    rw [swapAt_cnt c (show i + 1 < (b :: r).length by simp at h ⊢; omega)]
theorem swapAt_inv : ∀ {l : List Int} {i : Nat}, i + 1 < l.length → l.getD (i + 1) 0 < l.getD i 0 → inv (swapAt l i) + 1 = inv l
  | [], i, h, _ => by simp at h
  | [a], i, h, _ => by simp at h
  | a :: b :: r, 0, h, hd => by
    rw [swapAt_zero]
    have hd' : b < a := by simpa [List.getD] using hd
    have : ¬ a < b := by omega
    simp only [inv, cnt, hd', this, if_true, if_false]; omega
  | a :: b :: r, i + 1, h, hd => by
    rw [swapAt_succ]
    have h' : i + 1 < (b :: r).length := by simpa using h
    have := swapAt_inv (l := b :: r) (i := i) h' (by simpa [List.getD] using hd)
    show cnt a (swapAt (b :: r) i) + inv (swapAt (b :: r) i) + 1 = cnt a (b :: r) + inv (b :: r)
    rw [swapAt_cnt a h']
    omega
theorem swapAt_nodup {l : List Int} {i : Nat} (h : i + 1 < l.length) (hn : l.Nodup) : (swapAt l i).Nodup := by
  have e : (swapAt l i).Perm l := by
    induction l generalizing i with
    | nil => simp at h
    | cons a r ih =>
      cases i with
      | zero =>
        cases r with
        | nil => simp at h
        | cons b r => rw [swapAt_zero]; exact List.Perm.swap a b r
      | succ i => rw [swapAt_succ]; exact (ih (by simpa using h) (List.nodup_cons.1 hn).2).cons a
  exact e.nodup_iff.2 hn
/-- The list rises up to k. -/
def rises (l : List Int) (k : Nat) : Prop := ∀ j, j < k → l.getD j 0 < l.getD (j + 1) 0
def desc : List Int → Option Nat
  | a :: b :: r => if a < b then (desc (b :: r)).map (· + 1) else some 0
  | _ => none
theorem desc_some : ∀ {l : List Int} {k : Nat}, k + 1 < l.length → rises l k → ¬ l.getD k 0 < l.getD (k + 1) 0 → desc l = some k
  | [], k, h, _, _ => by simp at h
  | [a], k, h, _, _ => by simp at h
  | a :: b :: r, 0, h, hr, hd => by
    have : ¬ a < b := by simpa [List.getD] using hd
    simp [desc, this]
  | a :: b :: r, k + 1, h, hr, hd => by
    have h0 : a < b := by simpa [List.getD] using hr 0 (by omega)
    have := desc_some (l := b :: r) (k := k) (by simpa using h) (fun j hj => by simpa [List.getD] using hr (j + 1) (by omega)) (by simpa [List.getD] using hd)
    simp [desc, h0, this]
theorem desc_none : ∀ {l : List Int}, rises l (l.length - 1) → desc l = none
  | [], _ => rfl
  | [a], _ => rfl
  | a :: b :: r, hr => by
    have h0 : a < b := by simpa [List.getD] using hr 0 (by simp)
    have := desc_none (l := b :: r) (fun j hj => by simpa [List.getD] using hr (j + 1) (by simp at hj ⊢; omega))
    simp [desc, h0, this]

/-! ### The nodes -/
def layerN (n i : Nat) : List Nd :=
  let o : List Nd := if 0 < i then (1, (i : Int), noName) :: ((2, 0, noName) :: [joinNd true]) else [(2, 0, noName)]
  if 0 < n - 2 - i then o ++ [(1, ((n - 2 - i : Nat) : Int), noName), joinNd true] else o
theorem layerN_le (n i : Nat) : (layerN n i).length ≤ 5 ∧ 1 ≤ (layerN n i).length := by
  unfold layerN
  split <;> split <;> simp
def nextO (o lay : List Nd) : List Nd := if o.length = 0 then lay else o ++ (lay ++ [joinNd false])
theorem nextO_le (o : List Nd) (n i : Nat) : (nextO o (layerN n i)).length ≤ o.length + 6 ∧ 1 ≤ (nextO o (layerN n i)).length := by
  have := layerN_le n i
  unfold nextO
  split
  · omega
  · simp only [List.length_append, List.length_cons, List.length_nil]; omega
def bub : Nat → List Int → List Nd → List Nd
  | 0, _, o => o
  | f + 1, l, o => match desc l with | none => o | some i => bub f (swapAt l i) (nextO o (layerN l.length i))
def bubR (l : List Int) (o : List Nd) : List Nd := bub (inv l) l o
def permN (l : List Int) : List Nd := if (bubR l []).length = 0 then [(1, (l.length : Int), noName)] else bubR l []
theorem bubR_step {l : List Int} {o : List Nd} {k : Nat} (h : k + 1 < l.length) (hr : rises l k) (hd : l.getD (k + 1) 0 < l.getD k 0) : bubR (swapAt l k) (nextO o (layerN l.length k)) = bubR l o := by
  have hi := swapAt_inv h hd
  have hs := desc_some h hr (by omega)
  unfold bubR
  rw [← hi]
  simp only [bub, hs]
theorem bubR_done {l : List Int} {o : List Nd} (hr : rises l (l.length - 1)) : bubR l o = o := by
  have hs := desc_none hr
  unfold bubR
  cases inv l with
  | zero => rfl
  | succ n => simp only [bub, hs]
theorem nodup_lt {l : List Int} {k : Nat} (hn : l.Nodup) (h : k + 1 < l.length) (hd : ¬ l.getD k 0 < l.getD (k + 1) 0) : l.getD (k + 1) 0 < l.getD k 0 := by
  have e1 : l.getD k 0 = l[k] := by simp [List.getD, List.getElem?_eq_getElem (show k < l.length by omega)]
  have e2 : l.getD (k + 1) 0 = l[k + 1] := by simp [List.getD, List.getElem?_eq_getElem h]
  have : l[k] ≠ l[k + 1] := fun e => by
    have := (List.getElem_inj hn).1 e
    omega
  omega
end Go.Proofs.Ytanhmljgeiajoaa
