/-
  WHAT CAME IN: a term (a struct of one field, a slice of nodes).
-/
import Derived.Test.YtanhmljgeiajoaaFrameP
import Derived.Test.YtanhmljgeiajoaaNd
import Derived.Deep.Slices
import Derived.Deep.Fields
import Derived.Lib.SmallJoins
namespace Go.Proofs.Ytanhmljgeiajoaa
open Go.ChangeShapes Go.WideShapes Go.ChangeAt Go.RowKit

theorem cellsStr : Try.prog.cellsOf 9 = 1 := by kernel_rfl
theorem three_of {α : Type} {l : List α} (h : l.length = 3) : ∃ a b c, l = [a, b, c] := by
  match l, h with
  | [a, b, c], _ => exact ⟨a, b, c, rfl⟩
theorem one_of {α : Type} {l : List α} (h : l.length = 1) : ∃ a, l = [a] := by
  match l, h with
  | [a], _ => exact ⟨a, rfl⟩
/-- The bounds of what came in. -/
def BigTm (l : List Nd) : Prop := l.length ≤ maxLen ∧ ∀ n, n ∈ l → n.2.2.size ≤ maxLen
end Go.Proofs.Ytanhmljgeiajoaa
