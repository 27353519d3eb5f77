/-
  THE PLAIN LAW of wires that are glued.
-/
import Derived.Test.YtanhmljgeiajoaaGrCd
import Derived.Test.YtanhmljgeiajoaaGrQ
namespace Go.Proofs.Ytanhmljgeiajoaa
open Go.RowKit

theorem mid_skip {xs ys : List Int} {c : Nat} {v : Int} (hx : xs[c]? = some v) (hy : ys[c]? = some v) : xs.take c ++ ys.drop c = xs.take (c + 1) ++ ys.drop (c + 1) := by
  rw [List.take_add_one, hx, drop_of hy]; simp
theorem mid_set {xs ys : List Int} {c : Nat} {v : Int} (hc : c < ys.length) (hx : xs[c]? = some v) : (xs.take c ++ ys.drop c).set c v = xs.take (c + 1) ++ ys.drop (c + 1) := by
  have hl := (List.getElem?_eq_some_iff.1 hx).1
  have ht : (xs.take c).length = c := by rw [List.length_take]; omega
  rw [List.set_append_right _ _ (by omega), ht, Nat.sub_self, List.take_add_one, hx, List.drop_eq_getElem_cons hc, List.set_cons_zero, List.append_assoc]; rfl
theorem relab_get {x y : Int} {D : List Int} {c : Nat} {v : Int} (h : D[c]? = some v) : (relab x y D)[c]? = some (relV x y v) := by
  unfold relab; rw [List.getElem?_map, h]; rfl
/-- Classes behind some pairs. -/
def clsP (n : Nat) (ps : List (Int × Int)) (j : Nat) : List Int := joinsM (idW n) (ps.take j)
theorem clsP_zero (n : Nat) (ps : List (Int × Int)) : clsP n ps 0 = idW n := by simp [clsP, joinsM]
theorem clsP_step {n : Nat} {ps : List (Int × Int)} {j a b : Nat} (h : ps[j]? = some ((a : Int), (b : Int))) : clsP n ps (j + 1) = relab ((clsP n ps j).getD a 0) ((clsP n ps j).getD b 0) (clsP n ps j) := by
  unfold clsP
  rw [List.take_add_one, h, joinsM_append]
  simp [joinsM]
theorem clsP_all (n : Nat) (ps : List (Int × Int)) : clsP n ps ps.length = joinsM (idW n) ps := by unfold clsP; rw [List.take_length]
theorem Cls.clsP {n : Nat} {ps : List (Int × Int)} (hin : ∀ q, q ∈ ps → (0 ≤ q.1 ∧ q.1 < n) ∧ 0 ≤ q.2 ∧ q.2 < n) (j : Nat) : Cls n (clsP n ps j) := Cls.joins (Cls.id n) fun q hq => hin q (List.mem_of_mem_take hq)
theorem seen_all {n : Nat} {l : List Int} {r : Nat} (hr : r < n) (h : (r : Int) ∈ l) : (seenM n l)[r]? = some true := by
  rw [seenM_get hr, List.contains_iff_mem.2 h]
theorem grB_full {g : Gr} (h : grB g = true) {n : Nat} (hn : g.1 = (n : Int)) {w : Nat} (hw : w < n) : (w : Int) ∈ allW g := by
  unfold grB at h
  simp only [Bool.and_eq_true] at h
  have := h.2.2.2
  unfold fullW at this
  rw [hn, Int.toNat_natCast] at this
  exact List.contains_iff_mem.1 (List.all_eq_true.1 this w (List.mem_range.2 hw))
theorem seenM_put {n : Nat} {C : List Int} {k u : Nat} (hk : C[k]? = some (u : Int)) (hu : u < n) : seenM n (C.take (k + 1)) = (seenM n (C.take k)).set u true := by
  rw [List.take_add_one, hk]; exact seenM_in hu
end Go.Proofs.Ytanhmljgeiajoaa
