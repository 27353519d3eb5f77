/-
  THE PLAIN LAW of wires that are made one: classes, roots, numbers.
-/
import Derived.Test.YtanhmljgeiajoaaGrR
namespace Go.Proofs.Ytanhmljgeiajoaa
open Go.RowKit

/-- C tells the least wire of each wire's class. -/
structure Cls (n : Nat) (C : List Int) : Prop where
  len : C.length = n
  le : ∀ w : Nat, w < n → 0 ≤ C.getD w 0 ∧ C.getD w 0 ≤ w
  fix : ∀ w : Nat, w < n → C.getD (C.getD w 0).toNat 0 = C.getD w 0
/-- P leads from each wire to the least of its class. -/
structure Par (n : Nat) (P C : List Int) : Prop where
  len : P.length = n
  le : ∀ w : Nat, w < n → 0 ≤ P.getD w 0 ∧ P.getD w 0 ≤ w
  same : ∀ w : Nat, w < n → C.getD (P.getD w 0).toNat 0 = C.getD w 0
  root : ∀ w : Nat, w < n → P.getD w 0 = w → C.getD w 0 = w
/-- Two classes are made one. -/
def relV (x y c : Int) : Int := if c = max x y then min x y else c
def relab (x y : Int) (C : List Int) : List Int := C.map (relV x y)
def idW (n : Nat) : List Int := (List.range n).map fun w : Nat => (w : Int)
@[simp] theorem idW_length (n : Nat) : (idW n).length = n := by simp [idW]
theorem idW_get {n w : Nat} (h : w < n) : (idW n)[w]? = some (w : Int) := by simp [idW, h]
theorem idW_getD {n w : Nat} (h : w < n) : (idW n).getD w 0 = (w : Int) := by rw [List.getD_eq_getElem?_getD, idW_get h]; rfl
theorem getD_map_lt {C : List Int} {f : Int → Int} {w : Nat} (h : w < C.length) : (C.map f).getD w 0 = f (C.getD w 0) := by
  rw [List.getD_eq_getElem?_getD, List.getD_eq_getElem?_getD, List.getElem?_map, List.getElem?_eq_getElem h]; rfl
theorem Cls.id (n : Nat) : Cls n (idW n) := ⟨by simp, fun w h => by rw [idW_getD h]; omega, fun w h => by rw [idW_getD h, show ((w : Int)).toNat = w by omega, idW_getD h]⟩
theorem Par.id (n : Nat) : Par n (idW n) (idW n) := ⟨by simp, fun w h => by rw [idW_getD h]; omega, fun w h => by rw [idW_getD h, show ((w : Int)).toNat = w by omega, idW_getD h], fun w h _ => idW_getD h⟩
section
variable {n : Nat} {C P : List Int} {a b : Nat}
theorem relab_getD (hC : Cls n C) (x y : Int) {w : Nat} (h : w < n) : (relab x y C).getD w 0 = relV x y (C.getD w 0) := getD_map_lt (by rw [hC.len]; exact h)
@[simp] theorem relab_length (x y : Int) (C : List Int) : (relab x y C).length = C.length := by simp [relab]
theorem relV_le (x y c : Int) : relV x y c ≤ c := by unfold relV; split <;> omega
theorem Cls.join (hC : Cls n C) (ha : a < n) (hb : b < n) : Cls n (relab (C.getD a 0) (C.getD b 0) C) := by
  have la := hC.le a ha
  have lb := hC.le b hb
  have fa := hC.fix a ha
  have fb := hC.fix b hb
  refine ⟨by rw [relab_length, hC.len], fun w hw => ?_, fun w hw => ?_⟩
  · rw [relab_getD hC _ _ hw]
    have := hC.le w hw
    have := relV_le (C.getD a 0) (C.getD b 0) (C.getD w 0)
    unfold relV at this ⊢
    split <;> omega
  · have lw := hC.le w hw
    rw [relab_getD hC _ _ hw]
    by_cases hm : C.getD w 0 = max (C.getD a 0) (C.getD b 0)
    · have e : relV (C.getD a 0) (C.getD b 0) (C.getD w 0) = min (C.getD a 0) (C.getD b 0) := by unfold relV; rw [if_pos hm]
      rw [e, relab_getD hC _ _ (by omega)]
      have e2 : C.getD (min (C.getD a 0) (C.getD b 0)).toNat 0 = min (C.getD a 0) (C.getD b 0) := by
        by_cases h : C.getD a 0 ≤ C.getD b 0
        · rw [show min (C.getD a 0) (C.getD b 0) = C.getD a 0 by omega]; exact fa
        · rw [show min (C.getD a 0) (C.getD b 0) = C.getD b 0 by omega]; exact fb
      rw [e2]
      unfold relV; split <;> omega
    · have e : relV (C.getD a 0) (C.getD b 0) (C.getD w 0) = C.getD w 0 := by unfold relV; rw [if_neg hm]
      rw [e, relab_getD hC _ _ (by omega), hC.fix w hw, e]
theorem Par.join (hP : Par n P C) (hC : Cls n C) (ha : a < n) (hb : b < n) : Par n (P.set (max (C.getD a 0) (C.getD b 0)).toNat (min (C.getD a 0) (C.getD b 0))) (relab (C.getD a 0) (C.getD b 0) C) := by
  have la := hC.le a ha
  have lb := hC.le b hb
  have fa := hC.fix a ha
  have fb := hC.fix b hb
  obtain ⟨M, hM⟩ : ∃ M, M = max (C.getD a 0) (C.getD b 0) := ⟨_, rfl⟩
  obtain ⟨m, hm⟩ : ∃ m, m = min (C.getD a 0) (C.getD b 0) := ⟨_, rfl⟩
  have e2 : C.getD m.toNat 0 = m := by
    by_cases h : C.getD a 0 ≤ C.getD b 0
    · rw [hm, show min (C.getD a 0) (C.getD b 0) = C.getD a 0 by omega]; exact fa
    · rw [hm, show min (C.getD a 0) (C.getD b 0) = C.getD b 0 by omega]; exact fb
  have eM : C.getD M.toNat 0 = M := by
    by_cases h : C.getD a 0 ≤ C.getD b 0
    · rw [hM, show max (C.getD a 0) (C.getD b 0) = C.getD b 0 by omega]; exact fb
    · rw [hM, show max (C.getD a 0) (C.getD b 0) = C.getD a 0 by omega]; exact fa
  have rM : relV (C.getD a 0) (C.getD b 0) M = m := by unfold relV; rw [if_pos hM, hm]
  have rO : ∀ c, c ≠ M → relV (C.getD a 0) (C.getD b 0) c = c := fun c h => by unfold relV; rw [if_neg (by rw [← hM]; exact h)]
  rw [← hM, ← hm]
  have hget : ∀ w : Nat, w < n → (P.set M.toNat m).getD w 0 = if w = M.toNat then m else P.getD w 0 := fun w hw => by
    rw [List.getD_eq_getElem?_getD, List.getElem?_set, List.getD_eq_getElem?_getD]
    by_cases h : M.toNat = w
    · rw [if_pos h, if_pos h.symm, if_pos (by rw [hP.len]; omega)]; rfl
    · rw [if_neg h, if_neg (fun e => h e.symm)]
  have rm : relV (C.getD a 0) (C.getD b 0) m = m := by
    by_cases h : m = M
    · rw [h, rM, h]
    · exact rO m h
  refine ⟨by rw [List.length_set, hP.len], fun w hw => ?_, fun w hw => ?_, fun w hw he => ?_⟩
  · rw [hget w hw]
    have := hP.le w hw
    split
    · rename_i h; subst h; omega
    · exact this
  · rw [hget w hw, relab_getD hC _ _ hw]
    split
    · rename_i h
      subst h
      rw [relab_getD hC _ _ (by omega), e2, eM, rM, rm]
    · have := hP.le w hw
      rw [relab_getD hC _ _ (by omega), hP.same w hw]
  · rw [hget w hw] at he
    rw [relab_getD hC _ _ hw]
    by_cases h : w = M.toNat
    · rw [if_pos h] at he
      have hwM : (w : Int) = M := by omega
      rw [h, eM, rM]; omega
    · rw [if_neg h] at he
      rw [hP.root w hw he]
      exact rO _ (by omega)
/-- From each wire one comes to the least of its class. -/
theorem Par.end_ (hP : Par n P C) {w : Nat} (hw : w < n) (h : P.getD w 0 = w) : C.getD w 0 = w := hP.root w hw h
end
/-- How many classes begin below a wire. -/
def nrM (C : List Int) : Nat → Nat
  | 0 => 0
  | w + 1 => nrM C w + (if C.getD w 0 = (w : Int) then 1 else 0)
theorem nrM_le (C : List Int) : ∀ w, nrM C w ≤ w
  | 0 => Nat.le_refl _
  | w + 1 => by have := nrM_le C w; unfold nrM; split <;> omega
/-- The number of each wire's class. -/
def numM (C : List Int) : List Int := C.map fun c => (nrM C c.toNat : Int)
@[simp] theorem numM_length (C : List Int) : (numM C).length = C.length := by simp [numM]
theorem numM_get {n : Nat} {C : List Int} (hC : Cls n C) {w : Nat} (h : w < n) : (numM C)[w]? = some (nrM C (C.getD w 0).toNat : Int) := by
  unfold numM
  rw [List.getElem?_map, List.getD_eq_getElem?_getD, List.getElem?_eq_getElem (by rw [hC.len]; exact h)]; rfl
/-- .. after the first pass of the reference. -/
def num0 (C : List Int) : List Int := (List.range C.length).map fun w => if C.getD w 0 = (w : Int) then (nrM C w : Int) else 0
@[simp] theorem num0_length (C : List Int) : (num0 C).length = C.length := by simp [num0]
theorem num0_get {C : List Int} {w : Nat} (h : w < C.length) : (num0 C)[w]? = some (if C.getD w 0 = (w : Int) then (nrM C w : Int) else 0) := by simp [num0, h]
/-- All pairs are made one, one behind the other. -/
def joinsM (C : List Int) : List (Int × Int) → List Int
  | [] => C
  | q :: r => joinsM (relab (C.getD q.1.toNat 0) (C.getD q.2.toNat 0) C) r
theorem joinsM_append (l m : List (Int × Int)) : ∀ C, joinsM C (l ++ m) = joinsM (joinsM C l) m := by
  induction l with
  | nil => intro C; rfl
  | cons q r ih => intro C; exact ih _
theorem Cls.joins {n : Nat} : ∀ {l : List (Int × Int)} {C : List Int}, Cls n C → (∀ q, q ∈ l → (0 ≤ q.1 ∧ q.1 < n) ∧ 0 ≤ q.2 ∧ q.2 < n) → Cls n (joinsM C l)
  | [], _, h, _ => h
  | q :: r, C, h, hq => by
    have := hq q (by simp)
    show Cls n (joinsM (relab (C.getD q.1.toNat 0) (C.getD q.2.toNat 0) C) r)
    exact Cls.joins (l := r) (h.join (a := q.1.toNat) (b := q.2.toNat) (by omega) (by omega)) fun x hx => hq x (by simp [hx])
theorem relab_comm (x y : Int) (C : List Int) : relab x y C = relab y x C := by
  unfold relab relV
  rw [Int.max_comm, Int.min_comm]
/-- The pairs of an edge: each of its wires with the first. -/
def pairsE (e : Eg) : List (Int × Int) := (e.2.2.1 ++ e.2.2.2).map fun w => ((e.2.2.1 ++ e.2.2.2).getD 0 0, w)
def pairsG (g : Gr) : List (Int × Int) := g.2.1.flatMap pairsE
def clsG (g : Gr) : List Int := joinsM (idW g.1.toNat) (pairsG g)
/-- What ComponentsOf answers. -/
def cpM (g : Gr) : List Int × Int × Bool := if grB g then (numM (clsG g), (nrM (clsG g) g.1.toNat : Int), true) else ([], 0, false)
end Go.Proofs.Ytanhmljgeiajoaa
