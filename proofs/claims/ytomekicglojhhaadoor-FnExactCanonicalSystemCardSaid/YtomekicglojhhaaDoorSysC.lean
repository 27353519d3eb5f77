/-
  THE WALKS: is it a system: the program's side.
-/
import Derived.Test.YtomekicglojhhaaDoorSysB
import Derived.StillTailTactics
namespace Go.Proofs.YtomekicglojhhaaDoor
open Go.RowKit

theorem stillC' {P : Program} {f : FuncId} {args : Array Value} {w : World} {v : Value} (h : Calls P f args w fun e w' => e = .returned v ∧ w = w') : Calls P f args w fun e w'' => e = .returned v ∧ w'' = w :=
  h.mono fun _ _ ⟨h1, h2⟩ => ⟨h1, h2.symm⟩

set_option maxHeartbeats 400000 in
theorem within_any (n lo hi : Int) (w : World) :
    Calls Tryd.prog 67 #[.int .i64 n, .int .i64 lo, .int .i64 hi] w fun e w' => e = .returned (.bool (decide (lo ≤ n) && decide (n ≤ hi))) ∧ w = w' := by
  by_cases h : lo ≤ n
  · have h1 : decide (lo ≤ n) = true := decide_eq_true h
    rw [h1]
    clear h1
    go_enter Tryd.func67, Tryd.ntmps67
    go_wp2_with (fail)
    go_ret
    exact ⟨rfl, rfl⟩
  · have h1 : decide (lo ≤ n) = false := decide_eq_false h
    rw [h1]
    clear h1
    go_enter Tryd.func67, Tryd.ntmps67
    go_wp2_with (fail)
    go_ret
    exact ⟨rfl, rfl⟩

set_option maxHeartbeats 400000 in
theorem size_any (a b : Int) (r : Value) (w : World) (ha : 0 ≤ a ∧ a ≤ 24) (hb : 0 ≤ b ∧ b ≤ 100) :
    Calls Tryd.prog 72 #[.agg #[.int .i64 a, .int .i64 b, r]] w fun e w' => e = .returned (.int .i64 (a + b)) ∧ w' = w.alloc (.cells #[.int .i64 a, .int .i64 b, r] 27) := by
  have ww : IntKind.i64.wrap (a + b) = a + b := IntWalk.i64_in _ (by omega)
  go_enter Tryd.func72, Tryd.ntmps72
  go_wp2_with (fail)
  go_ret
  exact ⟨rfl, rfl⟩
end Go.Proofs.YtomekicglojhhaaDoor
