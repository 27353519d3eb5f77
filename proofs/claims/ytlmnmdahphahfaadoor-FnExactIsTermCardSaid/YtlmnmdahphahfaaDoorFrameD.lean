/-
  A LAW's LAST STEP, ONCE FOR ALL: a call that answers true and leaves all old memory as it was meets the given statement's post.
-/
import Derived.Test.YtlmnmdahphahfaaDoorCards
import Derived.Test.YtlmnmdahphahfaaDoorTie
import Derived.Test.YtlmnmdahphahfaaDoorFieldT
import Derived.Test.YtlmnmdahphahfaaDoorFrameP
import Derived.ProofKit
import Derived.OpenShut
import Derived.Deep.DeepHandedRow
import Derived.Lib.LaidTab
namespace Go.Proofs.YtlmnmdahphahfaaDoor
open Go.ChangeShapes Go.WideShapes Go.ChangeAt Go.RowKit

theorem gTab : Tryd.prog.globalNamed "loop.example/g01073/impl.smallPrimes" = some 0 := by kernel_rfl
theorem gTabType : (Tryd.prog.globals[0]?).map (·.type) = some 51 := by kernel_rfl
theorem cellsTab : Tryd.prog.cellsOf 51 = 4 := by kernel_rfl
/-- What the row's list gives: the table of small primes. -/
theorem tab_of_laid {W : World} (h : laidMetH Tryd.prog [("loop.example/g01073/impl.smallPrimes", Rows.laid_loop_example_g01073_impl_smallPrimes)] W) : Tab W := by
  have ht : Lib.TabIs Tryd.prog W "loop.example/g01073/impl.smallPrimes" .i64 [2, 3, 5, 7] :=
    Lib.tabIs_of_head (rest := []) gTab gTabType Tryd.underlying51 Tryd.underlying3 cellsInt cellsTab h
  exact ⟨ht.cell gTab 0 (by decide), ht.cell gTab 1 (by decide), ht.cell gTab 2 (by decide), ht.cell gTab 3 (by decide)⟩

section
variable {H : Type} {enc : TypeId × Value → H} {P : Program} {W W' : World}

end

/-- The variables that the rows name are the table alone. -/
theorem vars_ok : ∀ n ∈ ["loop.example/g01073/impl.smallPrimes"], ∀ g t, Tryd.prog.globalNamed n = some g → (Tryd.prog.globals[g]?).map (·.type) = some t → Tryd.prog.readableRec t = true ∧ t < Tryd.prog.types.size := by
  intro n hn g t h1 h2
  obtain rfl := List.mem_singleton.1 hn
  obtain rfl := Option.some.inj (gTab.symm.trans h1)
  obtain rfl := Option.some.inj (gTabType.symm.trans h2)
  exact ⟨by kernel_rfl, of_decide_eq_true (by kernel_rfl)⟩

/-- A WORLD FOR THE WITNESS: the settled one, the table holding what its initialiser lays. -/
noncomputable def laidWorld (os : Os) : World :=
  { World.holding Tryd.prog os ⟨#[], #[], []⟩ with heap := (World.holding Tryd.prog os ⟨#[], #[], []⟩).heap.modify 0 fun
      | .cells _ t frozen => .cells #[.int .i64 2, .int .i64 3, .int .i64 5, .int .i64 7] t frozen
      | o => o }
theorem laid_met (os : Os) (args : Array Value) : laidMet Tryd.prog [("loop.example/g01073/impl.smallPrimes", Rows.laid_loop_example_g01073_impl_smallPrimes)] ((laidWorld os).forCall (fun _ _ => 0) ⟨#[], args, []⟩).memory :=
  laidMet_of_run' 8 (by kernel_rfl) (by kernel_rfl)

end Go.Proofs.YtlmnmdahphahfaaDoor
