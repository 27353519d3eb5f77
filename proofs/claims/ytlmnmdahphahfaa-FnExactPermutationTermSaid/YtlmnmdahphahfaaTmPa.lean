/-
  THE WALKS: the parts of a term: the reference's tmTop, tmParts, tmOne, its least helpers.
-/
import Derived.Test.YtlmnmdahphahfaaTmX
import Derived.Test.YtlmnmdahphahfaaTmT
namespace Go.Proofs.Ytlmnmdahphahfaa
open Go.RowKit

theorem bx1' {w : World} {B : Nat} {x : Value} {t : TypeId} (h : w.heap[B]? = some (.cells #[x] t)) : w.cell? ⟨B, 0, none⟩ = some x := (bx1 h).1
theorem l1Most_any (a b : Int) (w : World) : Calls Try.prog 82 #[.int .i64 a, .int .i64 b] w fun e w' => e = .returned (.int .i64 (mx a b)) ∧ w' = w := by
  go_enter Try.func82, Try.ntmps82
  go_wp2
  all_goals go_ret
  all_goals (refine ⟨ret_int ?_, rfl⟩; unfold mx; first | rw [if_pos (by omega)] | rw [if_neg (by omega)])
theorem tmMirrorKind_any (k : Int) (w : World) (h1 : 1 ≤ k) (h2 : k ≤ 14) : Calls Try.prog 90 #[.int .i64 k] w fun e w' => e = .returned (.int .i64 (mirK k)) ∧ w' = w := by
  by_cases ha : 3 ≤ k ∧ k ≤ 8
  · have hA : inB k 3 8 = true := decide_eq_true ha
    have e : mirK k = k + 6 := if_pos ha
    have e_h := Lib.hid e
    clear e
    go_enter Try.func90, Try.ntmps90
    go_wp2_with (fail)
    refine (l1In_any _ _ _ _).mono ?_
    rintro e w' ⟨rfl, rfl⟩
    rw [hA]
    go_wp2_with (fail)
    go_ret
    exact ⟨ret_int e_h.out.symm, rfl⟩
  · have hA : inB k 3 8 = false := decide_eq_false ha
    by_cases hb : 9 ≤ k ∧ k ≤ 14
    · have hB : inB k 9 14 = true := decide_eq_true hb
      have e : mirK k = k - 6 := by unfold mirK; rw [if_neg ha, if_pos hb]
      have e_h := Lib.hid e
      clear e
      go_enter Try.func90, Try.ntmps90
      go_wp2_with (fail)
      refine (l1In_any _ _ _ _).mono ?_
      rintro e w' ⟨rfl, rfl⟩
      rw [hA]
      go_wp2_with (fail)
      refine (l1In_any _ _ _ _).mono ?_
      rintro e w' ⟨rfl, rfl⟩
      rw [hB]
      go_wp2_with (fail)
      go_ret
      exact ⟨ret_int e_h.out.symm, rfl⟩
    · have hB : inB k 9 14 = false := decide_eq_false hb
      have e : mirK k = k := by unfold mirK; rw [if_neg ha, if_neg hb]
      have e_h := Lib.hid e
      clear e
      go_enter Try.func90, Try.ntmps90
      go_wp2_with (fail)
      refine (l1In_any _ _ _ _).mono ?_
      rintro e w' ⟨rfl, rfl⟩
      rw [hA]
      go_wp2_with (fail)
      refine (l1In_any _ _ _ _).mono ?_
      rintro e w' ⟨rfl, rfl⟩
      rw [hB]
      go_wp2_with (fail)
      go_ret
      exact ⟨ret_int e_h.out.symm, rfl⟩

/-- The last node's kind. -/
def topK : Tr → Int
  | .leaf n => n.1
  | .node p _ _ => kd p
def topNd : Tr → Nd
  | .leaf n => n
  | .node p _ _ => joinNd p
theorem flat_top (t : Tr) {m : Nat} (hm : (flat t).length = m + 1) : (flat t)[m]? = some (topNd t) := by
  cases t with
  | leaf n => have : m = 0 := by simpa [flat] using hm.symm
              subst this; rfl
  | node p a b =>
    have e : m = (flat a ++ flat b).length := by simp only [flat, List.length_append, List.length_cons, List.length_nil] at hm ⊢; omega
    subst e
    simp [flat, topNd, ← List.append_assoc]
theorem topNd_kind (t : Tr) : (topNd t).1 = topK t := by cases t <;> rfl
theorem tmTop_any {v : Value} {t : Tr} {fp : List Nat} {w : World} (h : OwTm w v (flat t) fp) :
    Calls Try.prog 80 #[v] w fun e w' => e = .returned (.int .i64 (topK t)) ∧ Below w.heap.size w w' := by
  obtain ⟨A, c, rfl, h, -⟩ := h
  have hc1 := h.2.1
  have hc2 := h.2.2.1
  unfold maxLen at hc2
  have hp := sz_pos t
  obtain ⟨m, hm⟩ : ∃ m, (flat t).length = m + 1 := ⟨sz t - 1, by unfold sz at hp ⊢; omega⟩
  have hb0 := below_alloc w (.cells #[.slice A (flat t).length c] tTerm)
  obtain ⟨q0, q1⟩ := bx1 (heap_alloc_new w (.cells #[.slice A (flat t).length c] tTerm))
  obtain ⟨ad, k, x, s, hA, hl, h0, -, -⟩ := (h.rd.below hb0).at_ (j := m) (by omega)
  rw [flat_top t hm] at hl
  have hk : topK t = k := by rw [← topNd_kind, Option.some.inj hl]
  subst hA
  rw [hm] at h0 q0 q1 hb0 hc1 ⊢
  rw [hk]
  have hi : ((m + 1 : Nat) : Int) - 1 = (m : Int) := by omega
  have hk_h := Lib.hid hk
  have hl_h := Lib.hid hl
  have hm_h := Lib.hid hm
  have hp_h := Lib.hid hp
  have hb0_h := Lib.hid hb0
  clear hk hl hm hp hb0
  clear h
  go_enter Try.func80, Try.ntmps80
  go_wp2_with (fail)
  go_ret
  exact ⟨rfl, hb0_h.out⟩
end Go.Proofs.Ytlmnmdahphahfaa
