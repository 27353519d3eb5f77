/-
  No cell of these rows narrows 'for every input' (looked for: loops, veiled, ifaces, maps, wideKeys, modest, calm, conditions, laid).
  DERIVED. THE GIVEN ROWS OF THIS SEAT. 4 by the template 'for every input the law returns true; each argument reads behind the call as it read before'; 0 by the template 'total and deterministic' (their statements: YtjompikdkhhlgaaGreatTotals.lean).
  GIVEN WITH THE SEED: the statements are not yours to turn. If you find one false, say at which input.
  Laid BY PROGRAM, IN A SANDBOX (cutbox-rows.mjs): the forced cells as the released guide's own fill.sh prints them over the translation 992a5d5b86aeb0df… (all of the seat's roots in one cut). By AI agents, Wed Nov 11 2026. No macro, syntax, notation, axiom, sorry.
-/
import Derived.Test.YtjompikdkhhlgaaGreatChecked
import GoSem.Claim
import GoSem.ClaimJoined
import GoSem.ClaimMapViews
import Derived.JoinedTies
import Derived.KernelRfl
namespace Go.Proofs.YtjompikdkhhlgaaGreat
/- THE CELL 'sum', in the pinned program and in every row, IS THE sha256 OF THE DUMP (.gsa) THAT YtjompikdkhhlgaaGreatProg.lean LOADS. Nothing in Lean hashes anything: it is a label: what it is worth is what the hold of that sum in a sandbox is worth. -/
noncomputable def Tryz.pinned : Pinned := { name := "ytjompikdkhhlgaagreat", sum := "992a5d5b86aeb0df2630cb8e575aa0cdc203cb48cefbd3736a7dbced9334facf", checked := Tryz.checked }
namespace Rows
def none {H : Type} : Left H := { results := [], args := [] }

/-- 'laws.FnExactCanonicalGraph': WHATEVER THE INPUT: true; the input reads as it did. -/
def fnExactCanonicalGraphSpec : ChangeSpec := { name := "fnExactCanonicalGraph", fn := fun _ => fun
  | [d] => { results := [.lit (.bool true)], args := [d] }
  | _ => none }
def fnExactCanonicalGraphRow : OpenClaim := { program := "ytjompikdkhhlgaagreat", sum := "992a5d5b86aeb0df2630cb8e575aa0cdc203cb48cefbd3736a7dbced9334facf", func := "loop.example/g01073/laws.FnExactCanonicalGraph", spec := "fnExactCanonicalGraph", unfollowed := true, recurses := true, apart := false }
def FnExactCanonicalGraphSaid : Prop := fnExactCanonicalGraphRow.holds Tryz.pinned (OpenSpec.ofChange fnExactCanonicalGraphSpec)

/-- ITS FALSE NEIGHBOUR: 'it returns false'. Refute it at one input. -/
def fnExactCanonicalGraphWrong : ChangeSpec := { name := "fnExactCanonicalGraph", fn := fun _ => fun
  | [d] => { results := [.lit (.bool false)], args := [d] }
  | _ => none }
def FnExactCanonicalGraphWrongFalsely : Prop := fnExactCanonicalGraphRow.holds Tryz.pinned (OpenSpec.ofChange fnExactCanonicalGraphWrong)

/-- 'laws.FnExactSameGraphs': WHATEVER THE INPUT: true; the input reads as it did. -/
def fnExactSameGraphsSpec : ChangeSpec := { name := "fnExactSameGraphs", fn := fun _ => fun
  | [d1, d2] => { results := [.lit (.bool true)], args := [d1, d2] }
  | _ => none }
def fnExactSameGraphsRow : OpenClaim := { program := "ytjompikdkhhlgaagreat", sum := "992a5d5b86aeb0df2630cb8e575aa0cdc203cb48cefbd3736a7dbced9334facf", func := "loop.example/g01073/laws.FnExactSameGraphs", spec := "fnExactSameGraphs", unfollowed := true, recurses := true, apart := false }
def FnExactSameGraphsSaid : Prop := fnExactSameGraphsRow.holds Tryz.pinned (OpenSpec.ofChange fnExactSameGraphsSpec)

/-- ITS FALSE NEIGHBOUR: 'it returns false'. Refute it at one input. -/
def fnExactSameGraphsWrong : ChangeSpec := { name := "fnExactSameGraphs", fn := fun _ => fun
  | [d1, d2] => { results := [.lit (.bool false)], args := [d1, d2] }
  | _ => none }
def FnExactSameGraphsWrongFalsely : Prop := fnExactSameGraphsRow.holds Tryz.pinned (OpenSpec.ofChange fnExactSameGraphsWrong)

/-- 'laws.FnExactIsomorphismOf': WHATEVER THE INPUT: true; the input reads as it did. -/
def fnExactIsomorphismOfSpec : ChangeSpec := { name := "fnExactIsomorphismOf", fn := fun _ => fun
  | [d1, d2] => { results := [.lit (.bool true)], args := [d1, d2] }
  | _ => none }
def fnExactIsomorphismOfRow : OpenClaim := { program := "ytjompikdkhhlgaagreat", sum := "992a5d5b86aeb0df2630cb8e575aa0cdc203cb48cefbd3736a7dbced9334facf", func := "loop.example/g01073/laws.FnExactIsomorphismOf", spec := "fnExactIsomorphismOf", unfollowed := true, recurses := true, apart := false }
def FnExactIsomorphismOfSaid : Prop := fnExactIsomorphismOfRow.holds Tryz.pinned (OpenSpec.ofChange fnExactIsomorphismOfSpec)

/-- ITS FALSE NEIGHBOUR: 'it returns false'. Refute it at one input. -/
def fnExactIsomorphismOfWrong : ChangeSpec := { name := "fnExactIsomorphismOf", fn := fun _ => fun
  | [d1, d2] => { results := [.lit (.bool false)], args := [d1, d2] }
  | _ => none }
def FnExactIsomorphismOfWrongFalsely : Prop := fnExactIsomorphismOfRow.holds Tryz.pinned (OpenSpec.ofChange fnExactIsomorphismOfWrong)

/-- 'laws.FnExactSpiderGraph': WHATEVER THE INPUT: true; the input reads as it did. -/
def fnExactSpiderGraphSpec : ChangeSpec := { name := "fnExactSpiderGraph", fn := fun _ => fun
  | [d1, d2] => { results := [.lit (.bool true)], args := [d1, d2] }
  | _ => none }
def fnExactSpiderGraphRow : OpenClaim := { program := "ytjompikdkhhlgaagreat", sum := "992a5d5b86aeb0df2630cb8e575aa0cdc203cb48cefbd3736a7dbced9334facf", func := "loop.example/g01073/laws.FnExactSpiderGraph", spec := "fnExactSpiderGraph", unfollowed := true, recurses := true, apart := false }
def FnExactSpiderGraphSaid : Prop := fnExactSpiderGraphRow.holds Tryz.pinned (OpenSpec.ofChange fnExactSpiderGraphSpec)

/-- ITS FALSE NEIGHBOUR: 'it returns false'. Refute it at one input. -/
def fnExactSpiderGraphWrong : ChangeSpec := { name := "fnExactSpiderGraph", fn := fun _ => fun
  | [d1, d2] => { results := [.lit (.bool false)], args := [d1, d2] }
  | _ => none }
def FnExactSpiderGraphWrongFalsely : Prop := fnExactSpiderGraphRow.holds Tryz.pinned (OpenSpec.ofChange fnExactSpiderGraphWrong)

/- THE SECOND FORM. 'bulk': how many values and letters a reading holds, each counted each time it is reached (what is shared counts as often as it is met; a slice's spare places count too). A statement '..UptoSaid' is the law's where the arguments, and the package variables that the reading takes, are together of bulk at most 1048576: NARROWER than '..Said'. Prove '..Said' where nothing that the law and all that it calls make is longer than what came in: it says more and counts as full. Else prove '..UptoSaid'. A law counts once. -/
mutual
def uptoBulk {H : Type} : DataW H → Nat
  | .lit (.string bytes) => bytes.length + 1
  | .lit _ => 1
  | .nil => 1
  | .ptr d => uptoBulk d + 1
  | .slice elems spare => uptoBulkAll elems + uptoBulkAll spare + 1
  | .agg parts => uptoBulkAll parts + 1
  | .iface _ d => uptoBulk d + 1
  | .map entries => uptoBulkEntries entries + 1
  | .held _ => 1
def uptoBulkAll {H : Type} : List (DataW H) → Nat
  | [] => 0
  | d :: r => uptoBulk d + uptoBulkAll r
def uptoBulkEntries {H : Type} : List (Lit × DataW H) → Nat
  | [] => 0
  | x :: r => uptoBulkEntry x + uptoBulkEntries r
def uptoBulkEntry {H : Type} : Lit × DataW H → Nat
  | (.string bytes, d) => bytes.length + uptoBulk d + 1
  | (_, d) => uptoBulk d + 1
 end
def uptoSmall : (H : Type) → List (DataW H) → Bool := fun _ ds => decide (uptoBulkAll ds ≤ 1048576)
def OpenSpec.upto (s : _root_.Go.ChangeSpec) : _root_.Go.OpenSpec := { _root_.Go.OpenSpec.ofChange s with cond := some uptoSmall }

/-- 'laws.FnExactCanonicalGraph', WHERE WHAT IT READS IS OF BULK AT MOST 1048576: true; the input reads as it did. -/
def fnExactCanonicalGraphUptoRow : OpenClaim := { program := "ytjompikdkhhlgaagreat", sum := "992a5d5b86aeb0df2630cb8e575aa0cdc203cb48cefbd3736a7dbced9334facf", func := "loop.example/g01073/laws.FnExactCanonicalGraph", spec := "fnExactCanonicalGraph", unfollowed := true, recurses := true, apart := false, narrowed := true }
def FnExactCanonicalGraphUptoSaid : Prop := fnExactCanonicalGraphUptoRow.holds Tryz.pinned (OpenSpec.upto fnExactCanonicalGraphSpec)

/-- 'laws.FnExactSameGraphs', WHERE WHAT IT READS IS OF BULK AT MOST 1048576: true; the input reads as it did. -/
def fnExactSameGraphsUptoRow : OpenClaim := { program := "ytjompikdkhhlgaagreat", sum := "992a5d5b86aeb0df2630cb8e575aa0cdc203cb48cefbd3736a7dbced9334facf", func := "loop.example/g01073/laws.FnExactSameGraphs", spec := "fnExactSameGraphs", unfollowed := true, recurses := true, apart := false, narrowed := true }
def FnExactSameGraphsUptoSaid : Prop := fnExactSameGraphsUptoRow.holds Tryz.pinned (OpenSpec.upto fnExactSameGraphsSpec)

/-- 'laws.FnExactIsomorphismOf', WHERE WHAT IT READS IS OF BULK AT MOST 1048576: true; the input reads as it did. -/
def fnExactIsomorphismOfUptoRow : OpenClaim := { program := "ytjompikdkhhlgaagreat", sum := "992a5d5b86aeb0df2630cb8e575aa0cdc203cb48cefbd3736a7dbced9334facf", func := "loop.example/g01073/laws.FnExactIsomorphismOf", spec := "fnExactIsomorphismOf", unfollowed := true, recurses := true, apart := false, narrowed := true }
def FnExactIsomorphismOfUptoSaid : Prop := fnExactIsomorphismOfUptoRow.holds Tryz.pinned (OpenSpec.upto fnExactIsomorphismOfSpec)

/-- 'laws.FnExactSpiderGraph', WHERE WHAT IT READS IS OF BULK AT MOST 1048576: true; the input reads as it did. -/
def fnExactSpiderGraphUptoRow : OpenClaim := { program := "ytjompikdkhhlgaagreat", sum := "992a5d5b86aeb0df2630cb8e575aa0cdc203cb48cefbd3736a7dbced9334facf", func := "loop.example/g01073/laws.FnExactSpiderGraph", spec := "fnExactSpiderGraph", unfollowed := true, recurses := true, apart := false, narrowed := true }
def FnExactSpiderGraphUptoSaid : Prop := fnExactSpiderGraphUptoRow.holds Tryz.pinned (OpenSpec.upto fnExactSpiderGraphSpec)

end Rows
end Go.Proofs.YtjompikdkhhlgaaGreat
