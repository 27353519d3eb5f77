/-
  THE CONTRACTS of PermutationTerm in the law generator's shape.
-/
import Derived.Test.YtlmnmdahphahfaaTmQf
import Derived.Test.YtlmnmdahphahfaaTmJl
namespace Go.Proofs.Ytlmnmdahphahfaa
open Go.RowKit

theorem prM_ok (l : List Int) : OkN (prM l).1 := by
  unfold prM
  split
  · exact okM_ok _
  · exact .of (by simp)
theorem sPermutationTerm_law {v : Value} {l : List Int} {w : World} (h : RdIV w v l) (hl : l.length ≤ 1048576) :
    Calls Try.prog 37 #[v] w fun e w' => ∃ v' fp, e = .returned (.tuple #[v', .bool (prM l).2]) ∧ OwTm w' v' (prM l).1 fp ∧ FreshL w.heap.size fp ∧ Below w.heap.size w w' := sPermutationTerm_any h hl
theorem iPermutationTerm_law {v : Value} {l : List Int} {w : World} (h : RdIV w v l) (hl : l.length ≤ 1048576) :
    Calls Try.prog 39 #[v] w fun e w' => ∃ v' fp, e = .returned (.tuple #[v', .bool (prM l).2]) ∧ OwTm w' v' (prM l).1 fp ∧ FreshL w.heap.size fp ∧ Below w.heap.size w w' := iPermutationTerm_any h hl
end Go.Proofs.Ytlmnmdahphahfaa
