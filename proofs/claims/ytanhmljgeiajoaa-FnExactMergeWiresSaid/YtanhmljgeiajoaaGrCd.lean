/-
  THE PLAIN LAW of classes, edge after edge.
-/
import Derived.Test.YtanhmljgeiajoaaGrC
import Derived.Test.YtanhmljgeiajoaaGrW
namespace Go.Proofs.Ytanhmljgeiajoaa
open Go.RowKit

/-- Classes behind some edges. -/
def clsK (n : Nat) (es : List Eg) (k : Nat) : List Int := joinsM (idW n) ((es.take k).flatMap pairsE)
/-- .. and behind some wires of a further one. -/
def clsJ (D : List Int) (L : List Int) (j : Nat) : List Int := joinsM D ((L.take j).map fun w => (L.getD 0 0, w))
theorem clsK_zero (n : Nat) (es : List Eg) : clsK n es 0 = idW n := by simp [clsK, joinsM]
theorem clsJ_zero (D L : List Int) : clsJ D L 0 = D := by simp [clsJ, joinsM]
theorem clsK_step {n : Nat} {es : List Eg} {k : Nat} {e : Eg} (h : es[k]? = some e) : clsK n es (k + 1) = clsJ (clsK n es k) (e.2.2.1 ++ e.2.2.2) (e.2.2.1.length + e.2.2.2.length) := by
  unfold clsK clsJ
  have hL : (e.2.2.1 ++ e.2.2.2).take (e.2.2.1.length + e.2.2.2.length) = e.2.2.1 ++ e.2.2.2 := List.take_of_length_le (by simp)
  rw [hL, List.take_add_one, h, List.flatMap_append, joinsM_append]
  simp [pairsE]
theorem clsJ_step {D L : List Int} {j : Nat} {a b : Nat} (ha : L.getD 0 0 = (a : Int)) (h : L[j]? = some (b : Int)) : clsJ D L (j + 1) = relab ((clsJ D L j).getD a 0) ((clsJ D L j).getD b 0) (clsJ D L j) := by
  unfold clsJ
  rw [List.take_add_one, h, List.map_append, joinsM_append, ha]
  simp [joinsM]
theorem clsK_all (g : Gr) (n : Nat) (h : g.1 = (n : Int)) : clsK n g.2.1 g.2.1.length = clsG g := by
  unfold clsK clsG pairsG
  rw [List.take_length, h, Int.toNat_natCast]
theorem getD0_in {n : Nat} {L : List Int} (hin : ∀ x, x ∈ L → 0 ≤ x ∧ x < (n : Int)) (hl : 1 ≤ L.length) : ∃ a : Nat, L.getD 0 0 = (a : Int) ∧ a < n ∧ L[0]? = some (a : Int) := by
  cases L with
  | nil => simp at hl
  | cons x r =>
    have := hin x (by simp)
    exact ⟨x.toNat, by show x = _; omega, by omega, by rw [show ((x.toNat : Nat) : Int) = x by omega]; rfl⟩
theorem Cls.clsJ {n : Nat} {D : List Int} (hD : Cls n D) {L : List Int} (hin : ∀ x, x ∈ L → 0 ≤ x ∧ x < (n : Int)) (j : Nat) : Cls n (clsJ D L j) := by
  refine Cls.joins hD fun q hq => ?_
  obtain ⟨x, hx, rfl⟩ := List.mem_map.1 hq
  have hxL := List.mem_of_mem_take hx
  obtain ⟨a, h1, h2, _⟩ := getD0_in hin (by cases L with | nil => cases hxL | cons => simp)
  have := hin x hxL
  simp only [h1]
  omega
theorem Cls.clsK {n : Nat} {es : List Eg} (hin : inW (n : Int) (edW es) = true) : ∀ k, k ≤ es.length → Cls n (clsK n es k)
  | 0, _ => by rw [clsK_zero]; exact Cls.id n
  | k + 1, hk => by
    have h : es[k]? = some es[k] := List.getElem?_eq_getElem (by omega)
    rw [clsK_step h]
    have hm := mem_edW_of (List.mem_of_getElem? h)
    exact Cls.clsJ (Cls.clsK hin k (by omega)) (fun x hx => by
      rcases List.mem_append.1 hx with hx | hx
      · exact inW_iff.1 hin x (hm.1 x hx)
      · exact inW_iff.1 hin x (hm.2 x hx)) _
/-- Numbers: a wire that is not the least of its class. -/
theorem nrM_skip {C : List Int} {k : Nat} (h : C.getD k 0 ≠ (k : Int)) : nrM C (k + 1) = nrM C k := by rw [nrM, if_neg h]; rfl
theorem nrM_new {C : List Int} {k : Nat} (h : C.getD k 0 = (k : Int)) : nrM C (k + 1) = nrM C k + 1 := by rw [nrM, if_pos h]
theorem numM_at {n : Nat} {C : List Int} (hC : Cls n C) {k r : Nat} (hk : k < n) (hr : C.getD k 0 = (r : Int)) : (numM C)[k]? = some (nrM C r : Int) := by
  rw [numM_get hC hk, hr, Int.toNat_natCast]
theorem numM_take {C : List Int} {k : Nat} {x : Int} (h : (numM C)[k]? = some x) : (numM C).take (k + 1) = (numM C).take k ++ [x] := by
  rw [List.take_add_one, h]; rfl
theorem num0_take {C : List Int} {k : Nat} (h : k < C.length) : (num0 C).take (k + 1) = (num0 C).take k ++ [if C.getD k 0 = (k : Int) then (nrM C k : Int) else 0] := by
  rw [List.take_add_one, num0_get h]; rfl
end Go.Proofs.Ytanhmljgeiajoaa
