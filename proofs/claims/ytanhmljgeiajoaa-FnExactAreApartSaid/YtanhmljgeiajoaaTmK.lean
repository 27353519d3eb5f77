/-
  THE WALKS: the reference's leaves (tmKind, tmArity, tmLeaf).
-/
import Derived.Test.YtanhmljgeiajoaaTmL
import Derived.Deep.QuietTactic
import Derived.BigQuiet
namespace Go.Proofs.Ytanhmljgeiajoaa
open Go.RowKit

theorem ret_two {a b c d : Int} (h : (a, b) = (c, d)) : Ending.returned (.tuple #[.int .i64 a, .int .i64 b]) = .returned (.tuple #[.int .i64 c, .int .i64 d]) := by
  rw [(Prod.mk.inj h).1, (Prod.mk.inj h).2]
set_option maxHeartbeats 1000000 in
theorem tmKind_any (k : Int) (w : World) :
    Calls Try.prog 130 #[.int .i64 k] w fun e w' => e = .returned (.tuple #[.int .i64 (kindTy k).1, .int .i64 (kindTy k).2]) ∧ w' = w := by
  go_enter Try.func130, Try.ntmps130
  go_wp2
  all_goals go_ret2
  all_goals (refine ⟨ret_two ?_, rfl⟩; simp_all [kindTy])
theorem leafB_of {k v : Int} {s : ByteArray} {b : Bool} (h : b = true ↔ (s = noName ∧ ((k = 1 ∧ 0 ≤ v ∧ v ≤ 12) ∨ ((k = 7 ∨ k = 13) ∧ 0 ≤ v ∧ v ≤ 96) ∨ (2 ≤ k ∧ k ≤ 14 ∧ k ≠ 7 ∧ k ≠ 13 ∧ v = 0)))) : b = leafB (k, v, s) := by
  rw [Bool.eq_iff_iff, h]; simp [leafB]
set_option maxHeartbeats 2000000 in
theorem tmLeaf_any (k v : Int) (s : ByteArray) (w : World) :
    Calls Try.prog 129 #[.agg #[.int .i64 k, .int .i64 v, .string s]] w fun e w' => ∃ b, e = .returned (.bool b) ∧ b = leafB (k, v, s) ∧ Below w.heap.size w w' := by
  by_cases hs : s = noName
  · subst hs
    have he : (!noName.toList.isEmpty) = false := by rw [ByteArray.toList_eq]; rfl
    have he2 : noName.toList = [] := by rw [ByteArray.toList_eq]; rfl
    go_enter Try.func129, Try.ntmps129
    go_wp2_with (fail)
    refine (l1In_any _ _ _ _).mono ?_
    rintro e w' ⟨rfl, rfl⟩
    cases h14 : inB k 1 14
    · have H14 := Lib.hid h14
      clear h14
      go_wp2_with (fail)
      go_ret
      refine ⟨_, rfl, leafB_of ?_, below_alloc _ _⟩
      have : ¬ (1 ≤ k ∧ k ≤ 14) := by simpa [inB] using H14.out
      simp
      omega
    · have H14 := Lib.hid h14
      clear h14
      by_cases h1 : k = 1
      · have hb : (k == 1) = true := by simp [h1]
        have h1_h := Lib.hid h1
        clear h1
        go_wp2_with (fail)
        refine (l1In_any _ _ _ _).mono ?_
        rintro e w' ⟨rfl, rfl⟩
        go_wp2_with (fail)
        go_ret
        refine ⟨_, rfl, leafB_of ?_, below_alloc _ _⟩
        have := h1_h.out
        simp [inB]
        omega
      · have hb : (k == 1) = false := by simp [h1]
        by_cases h7 : k = 7 ∨ k = 13
        · have h3 : 1 ≤ k ∧ k ≤ 14 := by omega
          by_cases h77 : k = 7
          · have hb7 : (k == 7) = true := by simp [h77]
            have h1_h := Lib.hid h1
            have h7_h := Lib.hid h7
            have h77_h := Lib.hid h77
            clear h1 h7 h77
            go_wp2_with (fail)
            refine (l1In_any _ _ _ _).mono ?_
            rintro e w' ⟨rfl, rfl⟩
            go_wp2_with (fail)
            go_ret
            refine ⟨_, rfl, leafB_of ?_, below_alloc _ _⟩
            have := h77_h.out
            simp [inB]
            omega
          · have h13 : k = 13 := by omega
            have hb7 : (k == 7) = false := by simp [h77]
            have hb13 : (k == 13) = true := by simp [h13]
            have h1_h := Lib.hid h1
            have h7_h := Lib.hid h7
            have h77_h := Lib.hid h77
            have h13_h := Lib.hid h13
            clear h1 h7 h77 h13
            go_wp2_with (fail)
            refine (l1In_any _ _ _ _).mono ?_
            rintro e w' ⟨rfl, rfl⟩
            go_wp2_with (fail)
            go_ret
            refine ⟨_, rfl, leafB_of ?_, below_alloc _ _⟩
            have := h13_h.out
            simp [inB]
            omega
        · have hb7 : (k == 7) = false := by simp; omega
          have hb13 : (k == 13) = false := by simp; omega
          have h1_h := Lib.hid h1
          have h7_h := Lib.hid h7
          clear h1 h7
          go_wp2_with (fail)
          go_ret
          refine ⟨_, rfl, leafB_of ?_, below_alloc _ _⟩
          have h14 : 1 ≤ k ∧ k ≤ 14 := by simpa [inB] using H14.out
          have a1 := h1_h.out
          have a2 := h7_h.out
          simp
          omega
  · have he : (!s.toList.isEmpty) = true := by
      simp only [Bool.not_eq_true', List.isEmpty_eq_false_iff]
      exact fun h => hs (name_yes (by simp [h]))
    have hs_h := Lib.hid hs
    clear hs
    go_enter Try.func129, Try.ntmps129
    go_wp2_with (fail)
    go_ret
    refine ⟨_, rfl, leafB_of ?_, below_alloc _ _⟩
    have := hs_h.out
    simp [this]
end Go.Proofs.Ytanhmljgeiajoaa
