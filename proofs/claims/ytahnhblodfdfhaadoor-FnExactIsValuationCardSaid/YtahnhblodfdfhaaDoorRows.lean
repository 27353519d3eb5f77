/-
  NARROWER THAN 'FOR EVERY INPUT', by the rows' own cells (each row's printed sentence says how): FnExactEliminateLast: laid · FnExactHiddenValues: laid · FnExactComposeRelations: laid · FnExactSystemOfGraph: laid · FnExactIsValuation: laid · FnExactLeafRelation: laid · FnExactDimensionOf: laid.
  DERIVED. THE GIVEN ROWS OF THIS SEAT. 7 by the template 'for every input the law returns true; each argument reads behind the call as it read before'; 0 by the template 'total and deterministic' (their statements: YtahnhblodfdfhaaDoorTotals.lean).
  GIVEN WITH THE SEED: the statements are not yours to turn. If you find one false, say at which input.
  Laid BY PROGRAM, IN A SANDBOX (cutbox-rows.mjs): the forced cells as the released guide's own fill.sh prints them over the translation 4ab39b6d1bde5fe0… (all of the seat's roots in one cut). By AI agents, Wed Nov 11 2026. No macro, syntax, notation, axiom, sorry.
-/
import Derived.Test.YtahnhblodfdfhaaDoorChecked
import GoSem.Claim
import GoSem.ClaimJoined
import GoSem.ClaimMapViews
import Derived.JoinedTies
import Derived.KernelRfl
namespace Go.Proofs.YtahnhblodfdfhaaDoor
/- THE CELL 'sum', in the pinned program and in every row, IS THE sha256 OF THE DUMP (.gsa) THAT YtahnhblodfdfhaaDoorProg.lean LOADS. Nothing in Lean hashes anything: it is a label: what it is worth is what the hold of that sum in a sandbox is worth. -/
noncomputable def Tryd.pinned : Pinned := { name := "ytahnhblodfdfhaadoor", sum := "4ab39b6d1bde5fe028a39d551aaa3562bd796a637db8a37c0ae0b068014dce38", checked := Tryd.checked }
namespace Rows
def none {H : Type} : Left H := { results := [], args := [] }

/- WHAT THE LISTED PACKAGE-LEVEL VARIABLES READ AS WHEN THE CALL BEGINS. Each datum BY PROGRAM (the guide's laid-datum.mjs) off the statement by which the dump's own 'gosem.cut.vars' lays the variable. In a bare row this is a premise. The card (YtahnhblodfdfhaaDoorCards.lean) ties it to the program's text. -/
def laid_loop_example_g01073_impl_smallPrimes {H : Type} : DataW H := .agg [.lit (.int .i64 2), .lit (.int .i64 3), .lit (.int .i64 5), .lit (.int .i64 7)]

/-- 'laws.FnExactEliminateLast': WHATEVER THE INPUT: true; the input reads as it did. -/
def fnExactEliminateLastSpec : ChangeSpec := { name := "fnExactEliminateLast", vars := ["loop.example/g01073/impl.smallPrimes"], fn := fun _ => fun
  | [d1, d2, g1] => { results := [.lit (.bool true)], args := [d1, d2], vars := [g1] }
  | _ => none }
def fnExactEliminateLastRow : OpenClaim := { program := "ytahnhblodfdfhaadoor", sum := "4ab39b6d1bde5fe028a39d551aaa3562bd796a637db8a37c0ae0b068014dce38", func := "loop.example/g01073/laws.FnExactEliminateLast", spec := "fnExactEliminateLast", unfollowed := true, recurses := true, named := ["loop.example/g01073/impl.smallPrimes"], apart := false, laid := [("loop.example/g01073/impl.smallPrimes", laid_loop_example_g01073_impl_smallPrimes)] }
def FnExactEliminateLastSaid : Prop := fnExactEliminateLastRow.holds Tryd.pinned (OpenSpec.ofChange fnExactEliminateLastSpec)

/-- ITS FALSE NEIGHBOUR: 'it returns false'. Refute it at one input. -/
def fnExactEliminateLastWrong : ChangeSpec := { name := "fnExactEliminateLast", vars := ["loop.example/g01073/impl.smallPrimes"], fn := fun _ => fun
  | [d1, d2, g1] => { results := [.lit (.bool false)], args := [d1, d2], vars := [g1] }
  | _ => none }
def FnExactEliminateLastWrongFalsely : Prop := fnExactEliminateLastRow.holds Tryd.pinned (OpenSpec.ofChange fnExactEliminateLastWrong)

/-- 'laws.FnExactHiddenValues': WHATEVER THE INPUT: true; the input reads as it did. -/
def fnExactHiddenValuesSpec : ChangeSpec := { name := "fnExactHiddenValues", vars := ["loop.example/g01073/impl.smallPrimes"], fn := fun _ => fun
  | [d1, d2, d3, g1] => { results := [.lit (.bool true)], args := [d1, d2, d3], vars := [g1] }
  | _ => none }
def fnExactHiddenValuesRow : OpenClaim := { program := "ytahnhblodfdfhaadoor", sum := "4ab39b6d1bde5fe028a39d551aaa3562bd796a637db8a37c0ae0b068014dce38", func := "loop.example/g01073/laws.FnExactHiddenValues", spec := "fnExactHiddenValues", unfollowed := true, recurses := true, named := ["loop.example/g01073/impl.smallPrimes"], apart := false, laid := [("loop.example/g01073/impl.smallPrimes", laid_loop_example_g01073_impl_smallPrimes)] }
def FnExactHiddenValuesSaid : Prop := fnExactHiddenValuesRow.holds Tryd.pinned (OpenSpec.ofChange fnExactHiddenValuesSpec)

/-- ITS FALSE NEIGHBOUR: 'it returns false'. Refute it at one input. -/
def fnExactHiddenValuesWrong : ChangeSpec := { name := "fnExactHiddenValues", vars := ["loop.example/g01073/impl.smallPrimes"], fn := fun _ => fun
  | [d1, d2, d3, g1] => { results := [.lit (.bool false)], args := [d1, d2, d3], vars := [g1] }
  | _ => none }
def FnExactHiddenValuesWrongFalsely : Prop := fnExactHiddenValuesRow.holds Tryd.pinned (OpenSpec.ofChange fnExactHiddenValuesWrong)

/-- 'laws.FnExactComposeRelations': WHATEVER THE INPUT: true; the input reads as it did. -/
def fnExactComposeRelationsSpec : ChangeSpec := { name := "fnExactComposeRelations", vars := ["loop.example/g01073/impl.smallPrimes"], fn := fun _ => fun
  | [d1, d2, d3, g1] => { results := [.lit (.bool true)], args := [d1, d2, d3], vars := [g1] }
  | _ => none }
def fnExactComposeRelationsRow : OpenClaim := { program := "ytahnhblodfdfhaadoor", sum := "4ab39b6d1bde5fe028a39d551aaa3562bd796a637db8a37c0ae0b068014dce38", func := "loop.example/g01073/laws.FnExactComposeRelations", spec := "fnExactComposeRelations", unfollowed := true, recurses := true, named := ["loop.example/g01073/impl.smallPrimes"], apart := false, laid := [("loop.example/g01073/impl.smallPrimes", laid_loop_example_g01073_impl_smallPrimes)] }
def FnExactComposeRelationsSaid : Prop := fnExactComposeRelationsRow.holds Tryd.pinned (OpenSpec.ofChange fnExactComposeRelationsSpec)

/-- ITS FALSE NEIGHBOUR: 'it returns false'. Refute it at one input. -/
def fnExactComposeRelationsWrong : ChangeSpec := { name := "fnExactComposeRelations", vars := ["loop.example/g01073/impl.smallPrimes"], fn := fun _ => fun
  | [d1, d2, d3, g1] => { results := [.lit (.bool false)], args := [d1, d2, d3], vars := [g1] }
  | _ => none }
def FnExactComposeRelationsWrongFalsely : Prop := fnExactComposeRelationsRow.holds Tryd.pinned (OpenSpec.ofChange fnExactComposeRelationsWrong)

/-- 'laws.FnExactSystemOfGraph': WHATEVER THE INPUT: true; the input reads as it did. -/
def fnExactSystemOfGraphSpec : ChangeSpec := { name := "fnExactSystemOfGraph", vars := ["loop.example/g01073/impl.smallPrimes"], fn := fun _ => fun
  | [d1, d2, g1] => { results := [.lit (.bool true)], args := [d1, d2], vars := [g1] }
  | _ => none }
def fnExactSystemOfGraphRow : OpenClaim := { program := "ytahnhblodfdfhaadoor", sum := "4ab39b6d1bde5fe028a39d551aaa3562bd796a637db8a37c0ae0b068014dce38", func := "loop.example/g01073/laws.FnExactSystemOfGraph", spec := "fnExactSystemOfGraph", unfollowed := true, recurses := true, named := ["loop.example/g01073/impl.smallPrimes"], apart := false, laid := [("loop.example/g01073/impl.smallPrimes", laid_loop_example_g01073_impl_smallPrimes)] }
def FnExactSystemOfGraphSaid : Prop := fnExactSystemOfGraphRow.holds Tryd.pinned (OpenSpec.ofChange fnExactSystemOfGraphSpec)

/-- ITS FALSE NEIGHBOUR: 'it returns false'. Refute it at one input. -/
def fnExactSystemOfGraphWrong : ChangeSpec := { name := "fnExactSystemOfGraph", vars := ["loop.example/g01073/impl.smallPrimes"], fn := fun _ => fun
  | [d1, d2, g1] => { results := [.lit (.bool false)], args := [d1, d2], vars := [g1] }
  | _ => none }
def FnExactSystemOfGraphWrongFalsely : Prop := fnExactSystemOfGraphRow.holds Tryd.pinned (OpenSpec.ofChange fnExactSystemOfGraphWrong)

/-- 'laws.FnExactIsValuation': WHATEVER THE INPUT: true; the input reads as it did. -/
def fnExactIsValuationSpec : ChangeSpec := { name := "fnExactIsValuation", vars := ["loop.example/g01073/impl.smallPrimes"], fn := fun _ => fun
  | [d1, d2, d3, g1] => { results := [.lit (.bool true)], args := [d1, d2, d3], vars := [g1] }
  | _ => none }
def fnExactIsValuationRow : OpenClaim := { program := "ytahnhblodfdfhaadoor", sum := "4ab39b6d1bde5fe028a39d551aaa3562bd796a637db8a37c0ae0b068014dce38", func := "loop.example/g01073/laws.FnExactIsValuation", spec := "fnExactIsValuation", unfollowed := true, recurses := true, named := ["loop.example/g01073/impl.smallPrimes"], apart := false, laid := [("loop.example/g01073/impl.smallPrimes", laid_loop_example_g01073_impl_smallPrimes)] }
def FnExactIsValuationSaid : Prop := fnExactIsValuationRow.holds Tryd.pinned (OpenSpec.ofChange fnExactIsValuationSpec)

/-- ITS FALSE NEIGHBOUR: 'it returns false'. Refute it at one input. -/
def fnExactIsValuationWrong : ChangeSpec := { name := "fnExactIsValuation", vars := ["loop.example/g01073/impl.smallPrimes"], fn := fun _ => fun
  | [d1, d2, d3, g1] => { results := [.lit (.bool false)], args := [d1, d2, d3], vars := [g1] }
  | _ => none }
def FnExactIsValuationWrongFalsely : Prop := fnExactIsValuationRow.holds Tryd.pinned (OpenSpec.ofChange fnExactIsValuationWrong)

/-- 'laws.FnExactLeafRelation': WHATEVER THE INPUT: true; the input reads as it did. -/
def fnExactLeafRelationSpec : ChangeSpec := { name := "fnExactLeafRelation", vars := ["loop.example/g01073/impl.smallPrimes"], fn := fun _ => fun
  | [d1, d2, g1] => { results := [.lit (.bool true)], args := [d1, d2], vars := [g1] }
  | _ => none }
def fnExactLeafRelationRow : OpenClaim := { program := "ytahnhblodfdfhaadoor", sum := "4ab39b6d1bde5fe028a39d551aaa3562bd796a637db8a37c0ae0b068014dce38", func := "loop.example/g01073/laws.FnExactLeafRelation", spec := "fnExactLeafRelation", unfollowed := true, recurses := true, named := ["loop.example/g01073/impl.smallPrimes"], apart := false, laid := [("loop.example/g01073/impl.smallPrimes", laid_loop_example_g01073_impl_smallPrimes)] }
def FnExactLeafRelationSaid : Prop := fnExactLeafRelationRow.holds Tryd.pinned (OpenSpec.ofChange fnExactLeafRelationSpec)

/-- ITS FALSE NEIGHBOUR: 'it returns false'. Refute it at one input. -/
def fnExactLeafRelationWrong : ChangeSpec := { name := "fnExactLeafRelation", vars := ["loop.example/g01073/impl.smallPrimes"], fn := fun _ => fun
  | [d1, d2, g1] => { results := [.lit (.bool false)], args := [d1, d2], vars := [g1] }
  | _ => none }
def FnExactLeafRelationWrongFalsely : Prop := fnExactLeafRelationRow.holds Tryd.pinned (OpenSpec.ofChange fnExactLeafRelationWrong)

/-- 'laws.FnExactDimensionOf': WHATEVER THE INPUT: true; the input reads as it did. -/
def fnExactDimensionOfSpec : ChangeSpec := { name := "fnExactDimensionOf", vars := ["loop.example/g01073/impl.smallPrimes"], fn := fun _ => fun
  | [d1, d2, g1] => { results := [.lit (.bool true)], args := [d1, d2], vars := [g1] }
  | _ => none }
def fnExactDimensionOfRow : OpenClaim := { program := "ytahnhblodfdfhaadoor", sum := "4ab39b6d1bde5fe028a39d551aaa3562bd796a637db8a37c0ae0b068014dce38", func := "loop.example/g01073/laws.FnExactDimensionOf", spec := "fnExactDimensionOf", unfollowed := true, recurses := true, named := ["loop.example/g01073/impl.smallPrimes"], apart := false, laid := [("loop.example/g01073/impl.smallPrimes", laid_loop_example_g01073_impl_smallPrimes)] }
def FnExactDimensionOfSaid : Prop := fnExactDimensionOfRow.holds Tryd.pinned (OpenSpec.ofChange fnExactDimensionOfSpec)

/-- ITS FALSE NEIGHBOUR: 'it returns false'. Refute it at one input. -/
def fnExactDimensionOfWrong : ChangeSpec := { name := "fnExactDimensionOf", vars := ["loop.example/g01073/impl.smallPrimes"], fn := fun _ => fun
  | [d1, d2, g1] => { results := [.lit (.bool false)], args := [d1, d2], vars := [g1] }
  | _ => none }
def FnExactDimensionOfWrongFalsely : Prop := fnExactDimensionOfRow.holds Tryd.pinned (OpenSpec.ofChange fnExactDimensionOfWrong)

/- THE SECOND FORM. 'bulk': how many values and letters a reading holds, each counted each time it is reached (what is shared counts as often as it is met; a slice's spare places count too). A statement '..UptoSaid' is the law's where the arguments, and the package variables that the reading takes, are together of bulk at most 1048576: NARROWER than '..Said'. Prove '..Said' where nothing that the law and all that it calls make is longer than what came in: it says more and counts as full. Else prove '..UptoSaid'. A law counts once. -/
mutual
def uptoBulk {H : Type} : DataW H → Nat
  | .lit (.string bytes) => bytes.length + 1
  | .lit _ => 1
  | .nil => 1
  | .ptr d => uptoBulk d + 1
  | .slice elems spare => uptoBulkAll elems + uptoBulkAll spare + 1
  | .agg parts => uptoBulkAll parts + 1
  | .iface _ d => uptoBulk d + 1
  | .map entries => uptoBulkEntries entries + 1
  | .held _ => 1
def uptoBulkAll {H : Type} : List (DataW H) → Nat
  | [] => 0
  | d :: r => uptoBulk d + uptoBulkAll r
def uptoBulkEntries {H : Type} : List (Lit × DataW H) → Nat
  | [] => 0
  | x :: r => uptoBulkEntry x + uptoBulkEntries r
def uptoBulkEntry {H : Type} : Lit × DataW H → Nat
  | (.string bytes, d) => bytes.length + uptoBulk d + 1
  | (_, d) => uptoBulk d + 1
 end
def uptoSmall : (H : Type) → List (DataW H) → Bool := fun _ ds => decide (uptoBulkAll ds ≤ 1048576)
def OpenSpec.upto (s : _root_.Go.ChangeSpec) : _root_.Go.OpenSpec := { _root_.Go.OpenSpec.ofChange s with cond := some uptoSmall }

/-- 'laws.FnExactEliminateLast', WHERE WHAT IT READS IS OF BULK AT MOST 1048576: true; the input reads as it did. -/
def fnExactEliminateLastUptoRow : OpenClaim := { program := "ytahnhblodfdfhaadoor", sum := "4ab39b6d1bde5fe028a39d551aaa3562bd796a637db8a37c0ae0b068014dce38", func := "loop.example/g01073/laws.FnExactEliminateLast", spec := "fnExactEliminateLast", unfollowed := true, recurses := true, named := ["loop.example/g01073/impl.smallPrimes"], apart := false, laid := [("loop.example/g01073/impl.smallPrimes", laid_loop_example_g01073_impl_smallPrimes)], narrowed := true }
def FnExactEliminateLastUptoSaid : Prop := fnExactEliminateLastUptoRow.holds Tryd.pinned (OpenSpec.upto fnExactEliminateLastSpec)

/-- 'laws.FnExactHiddenValues', WHERE WHAT IT READS IS OF BULK AT MOST 1048576: true; the input reads as it did. -/
def fnExactHiddenValuesUptoRow : OpenClaim := { program := "ytahnhblodfdfhaadoor", sum := "4ab39b6d1bde5fe028a39d551aaa3562bd796a637db8a37c0ae0b068014dce38", func := "loop.example/g01073/laws.FnExactHiddenValues", spec := "fnExactHiddenValues", unfollowed := true, recurses := true, named := ["loop.example/g01073/impl.smallPrimes"], apart := false, laid := [("loop.example/g01073/impl.smallPrimes", laid_loop_example_g01073_impl_smallPrimes)], narrowed := true }
def FnExactHiddenValuesUptoSaid : Prop := fnExactHiddenValuesUptoRow.holds Tryd.pinned (OpenSpec.upto fnExactHiddenValuesSpec)

/-- 'laws.FnExactComposeRelations', WHERE WHAT IT READS IS OF BULK AT MOST 1048576: true; the input reads as it did. -/
def fnExactComposeRelationsUptoRow : OpenClaim := { program := "ytahnhblodfdfhaadoor", sum := "4ab39b6d1bde5fe028a39d551aaa3562bd796a637db8a37c0ae0b068014dce38", func := "loop.example/g01073/laws.FnExactComposeRelations", spec := "fnExactComposeRelations", unfollowed := true, recurses := true, named := ["loop.example/g01073/impl.smallPrimes"], apart := false, laid := [("loop.example/g01073/impl.smallPrimes", laid_loop_example_g01073_impl_smallPrimes)], narrowed := true }
def FnExactComposeRelationsUptoSaid : Prop := fnExactComposeRelationsUptoRow.holds Tryd.pinned (OpenSpec.upto fnExactComposeRelationsSpec)

/-- 'laws.FnExactSystemOfGraph', WHERE WHAT IT READS IS OF BULK AT MOST 1048576: true; the input reads as it did. -/
def fnExactSystemOfGraphUptoRow : OpenClaim := { program := "ytahnhblodfdfhaadoor", sum := "4ab39b6d1bde5fe028a39d551aaa3562bd796a637db8a37c0ae0b068014dce38", func := "loop.example/g01073/laws.FnExactSystemOfGraph", spec := "fnExactSystemOfGraph", unfollowed := true, recurses := true, named := ["loop.example/g01073/impl.smallPrimes"], apart := false, laid := [("loop.example/g01073/impl.smallPrimes", laid_loop_example_g01073_impl_smallPrimes)], narrowed := true }
def FnExactSystemOfGraphUptoSaid : Prop := fnExactSystemOfGraphUptoRow.holds Tryd.pinned (OpenSpec.upto fnExactSystemOfGraphSpec)

/-- 'laws.FnExactIsValuation', WHERE WHAT IT READS IS OF BULK AT MOST 1048576: true; the input reads as it did. -/
def fnExactIsValuationUptoRow : OpenClaim := { program := "ytahnhblodfdfhaadoor", sum := "4ab39b6d1bde5fe028a39d551aaa3562bd796a637db8a37c0ae0b068014dce38", func := "loop.example/g01073/laws.FnExactIsValuation", spec := "fnExactIsValuation", unfollowed := true, recurses := true, named := ["loop.example/g01073/impl.smallPrimes"], apart := false, laid := [("loop.example/g01073/impl.smallPrimes", laid_loop_example_g01073_impl_smallPrimes)], narrowed := true }
def FnExactIsValuationUptoSaid : Prop := fnExactIsValuationUptoRow.holds Tryd.pinned (OpenSpec.upto fnExactIsValuationSpec)

/-- 'laws.FnExactLeafRelation', WHERE WHAT IT READS IS OF BULK AT MOST 1048576: true; the input reads as it did. -/
def fnExactLeafRelationUptoRow : OpenClaim := { program := "ytahnhblodfdfhaadoor", sum := "4ab39b6d1bde5fe028a39d551aaa3562bd796a637db8a37c0ae0b068014dce38", func := "loop.example/g01073/laws.FnExactLeafRelation", spec := "fnExactLeafRelation", unfollowed := true, recurses := true, named := ["loop.example/g01073/impl.smallPrimes"], apart := false, laid := [("loop.example/g01073/impl.smallPrimes", laid_loop_example_g01073_impl_smallPrimes)], narrowed := true }
def FnExactLeafRelationUptoSaid : Prop := fnExactLeafRelationUptoRow.holds Tryd.pinned (OpenSpec.upto fnExactLeafRelationSpec)

/-- 'laws.FnExactDimensionOf', WHERE WHAT IT READS IS OF BULK AT MOST 1048576: true; the input reads as it did. -/
def fnExactDimensionOfUptoRow : OpenClaim := { program := "ytahnhblodfdfhaadoor", sum := "4ab39b6d1bde5fe028a39d551aaa3562bd796a637db8a37c0ae0b068014dce38", func := "loop.example/g01073/laws.FnExactDimensionOf", spec := "fnExactDimensionOf", unfollowed := true, recurses := true, named := ["loop.example/g01073/impl.smallPrimes"], apart := false, laid := [("loop.example/g01073/impl.smallPrimes", laid_loop_example_g01073_impl_smallPrimes)], narrowed := true }
def FnExactDimensionOfUptoSaid : Prop := fnExactDimensionOfUptoRow.holds Tryd.pinned (OpenSpec.upto fnExactDimensionOfSpec)

end Rows
end Go.Proofs.YtahnhblodfdfhaaDoor
