/-
  THE WALKS: the leaves of a term, on both sides.
-/
import Derived.Test.YtanhmljgeiajoaaNd
import Derived.Test.YtanhmljgeiajoaaRegH
import Derived.StillTailTactics
import Derived.IntWalk
import Derived.Outline
namespace Go.Proofs.Ytanhmljgeiajoaa
open Go.RowKit

def inB (n lo hi : Int) : Bool := decide (lo ≤ n ∧ n ≤ hi)
def hvB (k : Int) : Bool := decide (k = 7 ∨ k = 13)
def gvB (k v : Int) : Bool := if hvB k then inB v 0 96 else decide (v = 0)
theorem within_any (n lo hi : Int) (w : World) :
    Calls Try.prog 67 #[.int .i64 n, .int .i64 lo, .int .i64 hi] w fun e w' => e = .returned (.bool (inB n lo hi)) ∧ w' = w := by
  go_enter Try.func67, Try.ntmps67
  go_wp2
  all_goals go_ret
  all_goals (refine ⟨ret_bool ?_, rfl⟩; unfold inB; simp; try omega)
theorem l1In_any (n lo hi : Int) (w : World) :
    Calls Try.prog 65 #[.int .i64 n, .int .i64 lo, .int .i64 hi] w fun e w' => e = .returned (.bool (inB n lo hi)) ∧ w' = w := by
  go_enter Try.func65, Try.ntmps65
  go_wp2
  all_goals go_ret
  all_goals (refine ⟨ret_bool ?_, rfl⟩; unfold inB; simp; try omega)
theorem hasValue_any (k : Int) (w : World) :
    Calls Try.prog 149 #[.int .i64 k] w fun e w' => e = .returned (.bool (hvB k)) ∧ w' = w := by
  go_enter Try.func149, Try.ntmps149
  go_wp2
  all_goals go_ret
  all_goals (refine ⟨ret_bool ?_, rfl⟩; unfold hvB; by_cases h7 : k = 7 <;> by_cases h13 : k = 13 <;> simp_all)
theorem isGenerator_any (k : Int) (w : World) :
    Calls Try.prog 131 #[.int .i64 k] w fun e w' => e = .returned (.bool (inB k 3 14)) ∧ w' = w := by
  go_enter Try.func131, Try.ntmps131
  go_wp2_with (fail)
  refine (within_any _ _ _ _).mono ?_
  rintro e w' ⟨rfl, rfl⟩
  go_wp2_with (fail)
  go_ret
  exact ⟨rfl, rfl⟩
theorem isGeneratorValue_any (k v : Int) (w : World) :
    Calls Try.prog 132 #[.int .i64 k, .int .i64 v] w fun e w' => e = .returned (.bool (gvB k v)) ∧ w' = w := by
  have hb := hasValue_any k w
  unfold gvB
  cases hk : hvB k
  · rw [hk] at hb
    have HB := Lib.hid hb
    clear hb hk
    go_enter Try.func132, Try.ntmps132
    go_wp2_with (fail)
    refine HB.out.mono ?_
    rintro e w' ⟨rfl, rfl⟩
    go_wp2_with (fail)
    go_ret
    exact ⟨rfl, rfl⟩
  · rw [hk] at hb
    have HB := Lib.hid hb
    clear hb hk
    go_enter Try.func132, Try.ntmps132
    go_wp2_with (fail)
    refine HB.out.mono ?_
    rintro e w' ⟨rfl, rfl⟩
    go_wp2_with (fail)
    refine (within_any _ _ _ _).mono ?_
    rintro e w' ⟨rfl, rfl⟩
    go_wp2_with (fail)
    go_ret
    exact ⟨rfl, rfl⟩
end Go.Proofs.Ytanhmljgeiajoaa
