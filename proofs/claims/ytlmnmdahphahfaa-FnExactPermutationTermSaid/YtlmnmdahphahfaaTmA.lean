/-
  THE WALKS: the leaves of a term, on both sides.
-/
import Derived.Test.YtlmnmdahphahfaaNd
import Derived.Test.YtlmnmdahphahfaaRegH
import Derived.StillTailTactics
import Derived.IntWalk
import Derived.Outline
namespace Go.Proofs.Ytlmnmdahphahfaa
open Go.RowKit

def inB (n lo hi : Int) : Bool := decide (lo ≤ n ∧ n ≤ hi)
def hvB (k : Int) : Bool := decide (k = 7 ∨ k = 13)
def gvB (k v : Int) : Bool := if hvB k then inB v 0 96 else decide (v = 0)
theorem within_any (n lo hi : Int) (w : World) :
    Calls Try.prog 57 #[.int .i64 n, .int .i64 lo, .int .i64 hi] w fun e w' => e = .returned (.bool (inB n lo hi)) ∧ w' = w := by
  go_enter Try.func57, Try.ntmps57
  go_wp2
  all_goals go_ret
  all_goals (refine ⟨ret_bool ?_, rfl⟩; unfold inB; simp; try omega)
theorem l1In_any (n lo hi : Int) (w : World) :
    Calls Try.prog 55 #[.int .i64 n, .int .i64 lo, .int .i64 hi] w fun e w' => e = .returned (.bool (inB n lo hi)) ∧ w' = w := by
  go_enter Try.func55, Try.ntmps55
  go_wp2
  all_goals go_ret
  all_goals (refine ⟨ret_bool ?_, rfl⟩; unfold inB; simp; try omega)
theorem hasValue_any (k : Int) (w : World) :
    Calls Try.prog 114 #[.int .i64 k] w fun e w' => e = .returned (.bool (hvB k)) ∧ w' = w := by
  go_enter Try.func114, Try.ntmps114
  go_wp2
  all_goals go_ret
  all_goals (refine ⟨ret_bool ?_, rfl⟩; unfold hvB; by_cases h7 : k = 7 <;> by_cases h13 : k = 13 <;> simp_all)
theorem isGenerator_any (k : Int) (w : World) :
    Calls Try.prog 104 #[.int .i64 k] w fun e w' => e = .returned (.bool (inB k 3 14)) ∧ w' = w := by
  go_enter Try.func104, Try.ntmps104
  go_wp2_with (fail)
  refine (within_any _ _ _ _).mono ?_
  rintro e w' ⟨rfl, rfl⟩
  go_wp2_with (fail)
  go_ret
  exact ⟨rfl, rfl⟩
theorem isGeneratorValue_any (k v : Int) (w : World) :
    Calls Try.prog 106 #[.int .i64 k, .int .i64 v] w fun e w' => e = .returned (.bool (gvB k v)) ∧ w' = w := by
  have hb := hasValue_any k w
  unfold gvB
  cases hk : hvB k
  · rw [hk] at hb
    have HB := Lib.hid hb
    clear hb hk
    go_enter Try.func106, Try.ntmps106
    go_wp2_with (fail)
    refine HB.out.mono ?_
    rintro e w' ⟨rfl, rfl⟩
    go_wp2_with (fail)
    go_ret
    exact ⟨rfl, rfl⟩
  · rw [hk] at hb
    have HB := Lib.hid hb
    clear hb hk
    go_enter Try.func106, Try.ntmps106
    go_wp2_with (fail)
    refine HB.out.mono ?_
    rintro e w' ⟨rfl, rfl⟩
    go_wp2_with (fail)
    refine (within_any _ _ _ _).mono ?_
    rintro e w' ⟨rfl, rfl⟩
    go_wp2_with (fail)
    go_ret
    exact ⟨rfl, rfl⟩
end Go.Proofs.Ytlmnmdahphahfaa
