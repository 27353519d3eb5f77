/-
  THE WALK: impl.generatorWires.
-/
import Derived.Test.YtanhmljgeiajoaaTmA
namespace Go.Proofs.Ytanhmljgeiajoaa
open Go.RowKit
set_option maxHeartbeats 1600000 in
theorem generatorWires_any (k : Int) (w : World) (h1 : 3 ≤ k) (h2 : k ≤ 14) :
    Calls Try.prog 133 #[.int .i64 k] w fun e w' => e = .returned (.agg #[.int .i64 (kindTy k).1, .int .i64 (kindTy k).2]) ∧ Below w.heap.size w w' := by
  have hc : k = 3 ∨ k = 4 ∨ k = 5 ∨ k = 6 ∨ k = 7 ∨ k = 8 ∨ k = 9 ∨ k = 10 ∨ k = 11 ∨ k = 12 ∨ k = 13 ∨ k = 14 := by omega
  rcases hc with rfl | rfl | rfl | rfl | rfl | rfl | rfl | rfl | rfl | rfl | rfl | rfl
  all_goals
    clear h1 h2
    go_enter Try.func133, Try.ntmps133
    go_wp2_with (fail)
    refine bodyPost_ret (v := .agg #[.int .i64 (kindTy _).1, .int .i64 (kindTy _).2]) (by simp [results, Try.results133, go_sem]; exact ⟨rfl, rfl⟩) rfl ⟨rfl, ?_⟩
    first
    | exact ((Below.refl _ _).alloc (Nat.le_refl _) _).alloc (by simp) _
    | exact (((Below.refl _ _).alloc (Nat.le_refl _) _).alloc (by simp) _).alloc (by simp; omega) _
end Go.Proofs.Ytanhmljgeiajoaa
