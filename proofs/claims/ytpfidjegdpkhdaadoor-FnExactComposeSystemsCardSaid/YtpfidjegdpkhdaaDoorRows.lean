/-
  NARROWER THAN 'FOR EVERY INPUT', by the rows' own cells (each row's printed sentence says how): FnExactEliminateLast: laid · FnExactMeetSystems: laid · FnExactComposeSystems: laid · FnExactHiddenValues: laid · FnExactRangeOf: laid · FnExactDomainOf: laid · FnExactIsTotal: laid · FnExactIsSingleValued: laid · FnExactConverseRelation: laid · FnExactTensorRelations: laid · FnExactFunctionOf: laid · FnExactOrthogonalRelation: laid.
  DERIVED. THE GIVEN ROWS OF THIS SEAT. 12 by the template 'for every input the law returns true; each argument reads behind the call as it read before'; 0 by the template 'total and deterministic' (their statements: YtpfidjegdpkhdaaDoorTotals.lean).
  GIVEN WITH THE SEED: the statements are not yours to turn. If you find one false, say at which input.
  Laid BY PROGRAM, IN A SANDBOX (cutbox-rows.mjs): the forced cells as the released guide's own fill.sh prints them over the translation 6187db5448c80e02… (all of the seat's roots in one cut). By AI agents, Wed Nov 11 2026. No macro, syntax, notation, axiom, sorry.
-/
import Derived.Test.YtpfidjegdpkhdaaDoorChecked
import GoSem.Claim
import GoSem.ClaimJoined
import GoSem.ClaimMapViews
import Derived.JoinedTies
import Derived.KernelRfl
namespace Go.Proofs.YtpfidjegdpkhdaaDoor
/- THE CELL 'sum', in the pinned program and in every row, IS THE sha256 OF THE DUMP (.gsa) THAT YtpfidjegdpkhdaaDoorProg.lean LOADS. Nothing in Lean hashes anything: it is a label: what it is worth is what the hold of that sum in a sandbox is worth. -/
noncomputable def Tryd.pinned : Pinned := { name := "ytpfidjegdpkhdaadoor", sum := "6187db5448c80e0241e20fc3d44d9ae956085e9c1a33ee00c482a5d87bb6558c", checked := Tryd.checked }
namespace Rows
def none {H : Type} : Left H := { results := [], args := [] }

/- WHAT THE LISTED PACKAGE-LEVEL VARIABLES READ AS WHEN THE CALL BEGINS. Each datum BY PROGRAM (the guide's laid-datum.mjs) off the statement by which the dump's own 'gosem.cut.vars' lays the variable. In a bare row this is a premise. The card (YtpfidjegdpkhdaaDoorCards.lean) ties it to the program's text. -/
def laid_loop_example_g01073_impl_smallPrimes {H : Type} : DataW H := .agg [.lit (.int .i64 2), .lit (.int .i64 3), .lit (.int .i64 5), .lit (.int .i64 7)]

/-- 'laws.FnExactEliminateLast': WHATEVER THE INPUT: true; the input reads as it did. -/
def fnExactEliminateLastSpec : ChangeSpec := { name := "fnExactEliminateLast", vars := ["loop.example/g01073/impl.smallPrimes"], fn := fun _ => fun
  | [d1, d2, g1] => { results := [.lit (.bool true)], args := [d1, d2], vars := [g1] }
  | _ => none }
def fnExactEliminateLastRow : OpenClaim := { program := "ytpfidjegdpkhdaadoor", sum := "6187db5448c80e0241e20fc3d44d9ae956085e9c1a33ee00c482a5d87bb6558c", func := "loop.example/g01073/laws.FnExactEliminateLast", spec := "fnExactEliminateLast", unfollowed := true, recurses := true, named := ["loop.example/g01073/impl.smallPrimes"], apart := false, laid := [("loop.example/g01073/impl.smallPrimes", laid_loop_example_g01073_impl_smallPrimes)] }
def FnExactEliminateLastSaid : Prop := fnExactEliminateLastRow.holds Tryd.pinned (OpenSpec.ofChange fnExactEliminateLastSpec)

/-- ITS FALSE NEIGHBOUR: 'it returns false'. Refute it at one input. -/
def fnExactEliminateLastWrong : ChangeSpec := { name := "fnExactEliminateLast", vars := ["loop.example/g01073/impl.smallPrimes"], fn := fun _ => fun
  | [d1, d2, g1] => { results := [.lit (.bool false)], args := [d1, d2], vars := [g1] }
  | _ => none }
def FnExactEliminateLastWrongFalsely : Prop := fnExactEliminateLastRow.holds Tryd.pinned (OpenSpec.ofChange fnExactEliminateLastWrong)

/-- 'laws.FnExactMeetSystems': WHATEVER THE INPUT: true; the input reads as it did. -/
def fnExactMeetSystemsSpec : ChangeSpec := { name := "fnExactMeetSystems", vars := ["loop.example/g01073/impl.smallPrimes"], fn := fun _ => fun
  | [d1, d2, d3, g1] => { results := [.lit (.bool true)], args := [d1, d2, d3], vars := [g1] }
  | _ => none }
def fnExactMeetSystemsRow : OpenClaim := { program := "ytpfidjegdpkhdaadoor", sum := "6187db5448c80e0241e20fc3d44d9ae956085e9c1a33ee00c482a5d87bb6558c", func := "loop.example/g01073/laws.FnExactMeetSystems", spec := "fnExactMeetSystems", named := ["loop.example/g01073/impl.smallPrimes"], apart := false, laid := [("loop.example/g01073/impl.smallPrimes", laid_loop_example_g01073_impl_smallPrimes)] }
def FnExactMeetSystemsSaid : Prop := fnExactMeetSystemsRow.holds Tryd.pinned (OpenSpec.ofChange fnExactMeetSystemsSpec)

/-- ITS FALSE NEIGHBOUR: 'it returns false'. Refute it at one input. -/
def fnExactMeetSystemsWrong : ChangeSpec := { name := "fnExactMeetSystems", vars := ["loop.example/g01073/impl.smallPrimes"], fn := fun _ => fun
  | [d1, d2, d3, g1] => { results := [.lit (.bool false)], args := [d1, d2, d3], vars := [g1] }
  | _ => none }
def FnExactMeetSystemsWrongFalsely : Prop := fnExactMeetSystemsRow.holds Tryd.pinned (OpenSpec.ofChange fnExactMeetSystemsWrong)

/-- 'laws.FnExactComposeSystems': WHATEVER THE INPUT: true; the input reads as it did. -/
def fnExactComposeSystemsSpec : ChangeSpec := { name := "fnExactComposeSystems", vars := ["loop.example/g01073/impl.smallPrimes"], fn := fun _ => fun
  | [d1, d2, d3, d4, g1] => { results := [.lit (.bool true)], args := [d1, d2, d3, d4], vars := [g1] }
  | _ => none }
def fnExactComposeSystemsRow : OpenClaim := { program := "ytpfidjegdpkhdaadoor", sum := "6187db5448c80e0241e20fc3d44d9ae956085e9c1a33ee00c482a5d87bb6558c", func := "loop.example/g01073/laws.FnExactComposeSystems", spec := "fnExactComposeSystems", named := ["loop.example/g01073/impl.smallPrimes"], apart := false, laid := [("loop.example/g01073/impl.smallPrimes", laid_loop_example_g01073_impl_smallPrimes)] }
def FnExactComposeSystemsSaid : Prop := fnExactComposeSystemsRow.holds Tryd.pinned (OpenSpec.ofChange fnExactComposeSystemsSpec)

/-- ITS FALSE NEIGHBOUR: 'it returns false'. Refute it at one input. -/
def fnExactComposeSystemsWrong : ChangeSpec := { name := "fnExactComposeSystems", vars := ["loop.example/g01073/impl.smallPrimes"], fn := fun _ => fun
  | [d1, d2, d3, d4, g1] => { results := [.lit (.bool false)], args := [d1, d2, d3, d4], vars := [g1] }
  | _ => none }
def FnExactComposeSystemsWrongFalsely : Prop := fnExactComposeSystemsRow.holds Tryd.pinned (OpenSpec.ofChange fnExactComposeSystemsWrong)

/-- 'laws.FnExactHiddenValues': WHATEVER THE INPUT: true; the input reads as it did. -/
def fnExactHiddenValuesSpec : ChangeSpec := { name := "fnExactHiddenValues", vars := ["loop.example/g01073/impl.smallPrimes"], fn := fun _ => fun
  | [d1, d2, d3, g1] => { results := [.lit (.bool true)], args := [d1, d2, d3], vars := [g1] }
  | _ => none }
def fnExactHiddenValuesRow : OpenClaim := { program := "ytpfidjegdpkhdaadoor", sum := "6187db5448c80e0241e20fc3d44d9ae956085e9c1a33ee00c482a5d87bb6558c", func := "loop.example/g01073/laws.FnExactHiddenValues", spec := "fnExactHiddenValues", unfollowed := true, recurses := true, named := ["loop.example/g01073/impl.smallPrimes"], apart := false, laid := [("loop.example/g01073/impl.smallPrimes", laid_loop_example_g01073_impl_smallPrimes)] }
def FnExactHiddenValuesSaid : Prop := fnExactHiddenValuesRow.holds Tryd.pinned (OpenSpec.ofChange fnExactHiddenValuesSpec)

/-- ITS FALSE NEIGHBOUR: 'it returns false'. Refute it at one input. -/
def fnExactHiddenValuesWrong : ChangeSpec := { name := "fnExactHiddenValues", vars := ["loop.example/g01073/impl.smallPrimes"], fn := fun _ => fun
  | [d1, d2, d3, g1] => { results := [.lit (.bool false)], args := [d1, d2, d3], vars := [g1] }
  | _ => none }
def FnExactHiddenValuesWrongFalsely : Prop := fnExactHiddenValuesRow.holds Tryd.pinned (OpenSpec.ofChange fnExactHiddenValuesWrong)

/-- 'laws.FnExactRangeOf': WHATEVER THE INPUT: true; the input reads as it did. -/
def fnExactRangeOfSpec : ChangeSpec := { name := "fnExactRangeOf", vars := ["loop.example/g01073/impl.smallPrimes"], fn := fun _ => fun
  | [d1, d2, g1] => { results := [.lit (.bool true)], args := [d1, d2], vars := [g1] }
  | _ => none }
def fnExactRangeOfRow : OpenClaim := { program := "ytpfidjegdpkhdaadoor", sum := "6187db5448c80e0241e20fc3d44d9ae956085e9c1a33ee00c482a5d87bb6558c", func := "loop.example/g01073/laws.FnExactRangeOf", spec := "fnExactRangeOf", unfollowed := true, recurses := true, named := ["loop.example/g01073/impl.smallPrimes"], apart := false, laid := [("loop.example/g01073/impl.smallPrimes", laid_loop_example_g01073_impl_smallPrimes)] }
def FnExactRangeOfSaid : Prop := fnExactRangeOfRow.holds Tryd.pinned (OpenSpec.ofChange fnExactRangeOfSpec)

/-- ITS FALSE NEIGHBOUR: 'it returns false'. Refute it at one input. -/
def fnExactRangeOfWrong : ChangeSpec := { name := "fnExactRangeOf", vars := ["loop.example/g01073/impl.smallPrimes"], fn := fun _ => fun
  | [d1, d2, g1] => { results := [.lit (.bool false)], args := [d1, d2], vars := [g1] }
  | _ => none }
def FnExactRangeOfWrongFalsely : Prop := fnExactRangeOfRow.holds Tryd.pinned (OpenSpec.ofChange fnExactRangeOfWrong)

/-- 'laws.FnExactDomainOf': WHATEVER THE INPUT: true; the input reads as it did. -/
def fnExactDomainOfSpec : ChangeSpec := { name := "fnExactDomainOf", vars := ["loop.example/g01073/impl.smallPrimes"], fn := fun _ => fun
  | [d1, d2, g1] => { results := [.lit (.bool true)], args := [d1, d2], vars := [g1] }
  | _ => none }
def fnExactDomainOfRow : OpenClaim := { program := "ytpfidjegdpkhdaadoor", sum := "6187db5448c80e0241e20fc3d44d9ae956085e9c1a33ee00c482a5d87bb6558c", func := "loop.example/g01073/laws.FnExactDomainOf", spec := "fnExactDomainOf", unfollowed := true, recurses := true, named := ["loop.example/g01073/impl.smallPrimes"], apart := false, laid := [("loop.example/g01073/impl.smallPrimes", laid_loop_example_g01073_impl_smallPrimes)] }
def FnExactDomainOfSaid : Prop := fnExactDomainOfRow.holds Tryd.pinned (OpenSpec.ofChange fnExactDomainOfSpec)

/-- ITS FALSE NEIGHBOUR: 'it returns false'. Refute it at one input. -/
def fnExactDomainOfWrong : ChangeSpec := { name := "fnExactDomainOf", vars := ["loop.example/g01073/impl.smallPrimes"], fn := fun _ => fun
  | [d1, d2, g1] => { results := [.lit (.bool false)], args := [d1, d2], vars := [g1] }
  | _ => none }
def FnExactDomainOfWrongFalsely : Prop := fnExactDomainOfRow.holds Tryd.pinned (OpenSpec.ofChange fnExactDomainOfWrong)

/-- 'laws.FnExactIsTotal': WHATEVER THE INPUT: true; the input reads as it did. -/
def fnExactIsTotalSpec : ChangeSpec := { name := "fnExactIsTotal", vars := ["loop.example/g01073/impl.smallPrimes"], fn := fun _ => fun
  | [d1, d2, g1] => { results := [.lit (.bool true)], args := [d1, d2], vars := [g1] }
  | _ => none }
def fnExactIsTotalRow : OpenClaim := { program := "ytpfidjegdpkhdaadoor", sum := "6187db5448c80e0241e20fc3d44d9ae956085e9c1a33ee00c482a5d87bb6558c", func := "loop.example/g01073/laws.FnExactIsTotal", spec := "fnExactIsTotal", unfollowed := true, recurses := true, named := ["loop.example/g01073/impl.smallPrimes"], apart := false, laid := [("loop.example/g01073/impl.smallPrimes", laid_loop_example_g01073_impl_smallPrimes)] }
def FnExactIsTotalSaid : Prop := fnExactIsTotalRow.holds Tryd.pinned (OpenSpec.ofChange fnExactIsTotalSpec)

/-- ITS FALSE NEIGHBOUR: 'it returns false'. Refute it at one input. -/
def fnExactIsTotalWrong : ChangeSpec := { name := "fnExactIsTotal", vars := ["loop.example/g01073/impl.smallPrimes"], fn := fun _ => fun
  | [d1, d2, g1] => { results := [.lit (.bool false)], args := [d1, d2], vars := [g1] }
  | _ => none }
def FnExactIsTotalWrongFalsely : Prop := fnExactIsTotalRow.holds Tryd.pinned (OpenSpec.ofChange fnExactIsTotalWrong)

/-- 'laws.FnExactIsSingleValued': WHATEVER THE INPUT: true; the input reads as it did. -/
def fnExactIsSingleValuedSpec : ChangeSpec := { name := "fnExactIsSingleValued", vars := ["loop.example/g01073/impl.smallPrimes"], fn := fun _ => fun
  | [d1, d2, g1] => { results := [.lit (.bool true)], args := [d1, d2], vars := [g1] }
  | _ => none }
def fnExactIsSingleValuedRow : OpenClaim := { program := "ytpfidjegdpkhdaadoor", sum := "6187db5448c80e0241e20fc3d44d9ae956085e9c1a33ee00c482a5d87bb6558c", func := "loop.example/g01073/laws.FnExactIsSingleValued", spec := "fnExactIsSingleValued", unfollowed := true, recurses := true, named := ["loop.example/g01073/impl.smallPrimes"], apart := false, laid := [("loop.example/g01073/impl.smallPrimes", laid_loop_example_g01073_impl_smallPrimes)] }
def FnExactIsSingleValuedSaid : Prop := fnExactIsSingleValuedRow.holds Tryd.pinned (OpenSpec.ofChange fnExactIsSingleValuedSpec)

/-- ITS FALSE NEIGHBOUR: 'it returns false'. Refute it at one input. -/
def fnExactIsSingleValuedWrong : ChangeSpec := { name := "fnExactIsSingleValued", vars := ["loop.example/g01073/impl.smallPrimes"], fn := fun _ => fun
  | [d1, d2, g1] => { results := [.lit (.bool false)], args := [d1, d2], vars := [g1] }
  | _ => none }
def FnExactIsSingleValuedWrongFalsely : Prop := fnExactIsSingleValuedRow.holds Tryd.pinned (OpenSpec.ofChange fnExactIsSingleValuedWrong)

/-- 'laws.FnExactConverseRelation': WHATEVER THE INPUT: true; the input reads as it did. -/
def fnExactConverseRelationSpec : ChangeSpec := { name := "fnExactConverseRelation", vars := ["loop.example/g01073/impl.smallPrimes"], fn := fun _ => fun
  | [d1, d2, g1] => { results := [.lit (.bool true)], args := [d1, d2], vars := [g1] }
  | _ => none }
def fnExactConverseRelationRow : OpenClaim := { program := "ytpfidjegdpkhdaadoor", sum := "6187db5448c80e0241e20fc3d44d9ae956085e9c1a33ee00c482a5d87bb6558c", func := "loop.example/g01073/laws.FnExactConverseRelation", spec := "fnExactConverseRelation", unfollowed := true, recurses := true, named := ["loop.example/g01073/impl.smallPrimes"], apart := false, laid := [("loop.example/g01073/impl.smallPrimes", laid_loop_example_g01073_impl_smallPrimes)] }
def FnExactConverseRelationSaid : Prop := fnExactConverseRelationRow.holds Tryd.pinned (OpenSpec.ofChange fnExactConverseRelationSpec)

/-- ITS FALSE NEIGHBOUR: 'it returns false'. Refute it at one input. -/
def fnExactConverseRelationWrong : ChangeSpec := { name := "fnExactConverseRelation", vars := ["loop.example/g01073/impl.smallPrimes"], fn := fun _ => fun
  | [d1, d2, g1] => { results := [.lit (.bool false)], args := [d1, d2], vars := [g1] }
  | _ => none }
def FnExactConverseRelationWrongFalsely : Prop := fnExactConverseRelationRow.holds Tryd.pinned (OpenSpec.ofChange fnExactConverseRelationWrong)

/-- 'laws.FnExactTensorRelations': WHATEVER THE INPUT: true; the input reads as it did. -/
def fnExactTensorRelationsSpec : ChangeSpec := { name := "fnExactTensorRelations", vars := ["loop.example/g01073/impl.smallPrimes"], fn := fun _ => fun
  | [d1, d2, d3, g1] => { results := [.lit (.bool true)], args := [d1, d2, d3], vars := [g1] }
  | _ => none }
def fnExactTensorRelationsRow : OpenClaim := { program := "ytpfidjegdpkhdaadoor", sum := "6187db5448c80e0241e20fc3d44d9ae956085e9c1a33ee00c482a5d87bb6558c", func := "loop.example/g01073/laws.FnExactTensorRelations", spec := "fnExactTensorRelations", unfollowed := true, recurses := true, named := ["loop.example/g01073/impl.smallPrimes"], apart := false, laid := [("loop.example/g01073/impl.smallPrimes", laid_loop_example_g01073_impl_smallPrimes)] }
def FnExactTensorRelationsSaid : Prop := fnExactTensorRelationsRow.holds Tryd.pinned (OpenSpec.ofChange fnExactTensorRelationsSpec)

/-- ITS FALSE NEIGHBOUR: 'it returns false'. Refute it at one input. -/
def fnExactTensorRelationsWrong : ChangeSpec := { name := "fnExactTensorRelations", vars := ["loop.example/g01073/impl.smallPrimes"], fn := fun _ => fun
  | [d1, d2, d3, g1] => { results := [.lit (.bool false)], args := [d1, d2, d3], vars := [g1] }
  | _ => none }
def FnExactTensorRelationsWrongFalsely : Prop := fnExactTensorRelationsRow.holds Tryd.pinned (OpenSpec.ofChange fnExactTensorRelationsWrong)

/-- 'laws.FnExactFunctionOf': WHATEVER THE INPUT: true; the input reads as it did. -/
def fnExactFunctionOfSpec : ChangeSpec := { name := "fnExactFunctionOf", vars := ["loop.example/g01073/impl.smallPrimes"], fn := fun _ => fun
  | [d1, d2, g1] => { results := [.lit (.bool true)], args := [d1, d2], vars := [g1] }
  | _ => none }
def fnExactFunctionOfRow : OpenClaim := { program := "ytpfidjegdpkhdaadoor", sum := "6187db5448c80e0241e20fc3d44d9ae956085e9c1a33ee00c482a5d87bb6558c", func := "loop.example/g01073/laws.FnExactFunctionOf", spec := "fnExactFunctionOf", unfollowed := true, recurses := true, named := ["loop.example/g01073/impl.smallPrimes"], apart := false, laid := [("loop.example/g01073/impl.smallPrimes", laid_loop_example_g01073_impl_smallPrimes)] }
def FnExactFunctionOfSaid : Prop := fnExactFunctionOfRow.holds Tryd.pinned (OpenSpec.ofChange fnExactFunctionOfSpec)

/-- ITS FALSE NEIGHBOUR: 'it returns false'. Refute it at one input. -/
def fnExactFunctionOfWrong : ChangeSpec := { name := "fnExactFunctionOf", vars := ["loop.example/g01073/impl.smallPrimes"], fn := fun _ => fun
  | [d1, d2, g1] => { results := [.lit (.bool false)], args := [d1, d2], vars := [g1] }
  | _ => none }
def FnExactFunctionOfWrongFalsely : Prop := fnExactFunctionOfRow.holds Tryd.pinned (OpenSpec.ofChange fnExactFunctionOfWrong)

/-- 'laws.FnExactOrthogonalRelation': WHATEVER THE INPUT: true; the input reads as it did. -/
def fnExactOrthogonalRelationSpec : ChangeSpec := { name := "fnExactOrthogonalRelation", vars := ["loop.example/g01073/impl.smallPrimes"], fn := fun _ => fun
  | [d1, d2, g1] => { results := [.lit (.bool true)], args := [d1, d2], vars := [g1] }
  | _ => none }
def fnExactOrthogonalRelationRow : OpenClaim := { program := "ytpfidjegdpkhdaadoor", sum := "6187db5448c80e0241e20fc3d44d9ae956085e9c1a33ee00c482a5d87bb6558c", func := "loop.example/g01073/laws.FnExactOrthogonalRelation", spec := "fnExactOrthogonalRelation", unfollowed := true, recurses := true, named := ["loop.example/g01073/impl.smallPrimes"], apart := false, laid := [("loop.example/g01073/impl.smallPrimes", laid_loop_example_g01073_impl_smallPrimes)] }
def FnExactOrthogonalRelationSaid : Prop := fnExactOrthogonalRelationRow.holds Tryd.pinned (OpenSpec.ofChange fnExactOrthogonalRelationSpec)

/-- ITS FALSE NEIGHBOUR: 'it returns false'. Refute it at one input. -/
def fnExactOrthogonalRelationWrong : ChangeSpec := { name := "fnExactOrthogonalRelation", vars := ["loop.example/g01073/impl.smallPrimes"], fn := fun _ => fun
  | [d1, d2, g1] => { results := [.lit (.bool false)], args := [d1, d2], vars := [g1] }
  | _ => none }
def FnExactOrthogonalRelationWrongFalsely : Prop := fnExactOrthogonalRelationRow.holds Tryd.pinned (OpenSpec.ofChange fnExactOrthogonalRelationWrong)

/- THE SECOND FORM. 'bulk': how many values and letters a reading holds, each counted each time it is reached (what is shared counts as often as it is met; a slice's spare places count too). A statement '..UptoSaid' is the law's where the arguments, and the package variables that the reading takes, are together of bulk at most 1048576: NARROWER than '..Said'. Prove '..Said' where nothing that the law and all that it calls make is longer than what came in: it says more and counts as full. Else prove '..UptoSaid'. A law counts once. -/
mutual
def uptoBulk {H : Type} : DataW H → Nat
  | .lit (.string bytes) => bytes.length + 1
  | .lit _ => 1
  | .nil => 1
  | .ptr d => uptoBulk d + 1
  | .slice elems spare => uptoBulkAll elems + uptoBulkAll spare + 1
  | .agg parts => uptoBulkAll parts + 1
  | .iface _ d => uptoBulk d + 1
  | .map entries => uptoBulkEntries entries + 1
  | .held _ => 1
def uptoBulkAll {H : Type} : List (DataW H) → Nat
  | [] => 0
  | d :: r => uptoBulk d + uptoBulkAll r
def uptoBulkEntries {H : Type} : List (Lit × DataW H) → Nat
  | [] => 0
  | x :: r => uptoBulkEntry x + uptoBulkEntries r
def uptoBulkEntry {H : Type} : Lit × DataW H → Nat
  | (.string bytes, d) => bytes.length + uptoBulk d + 1
  | (_, d) => uptoBulk d + 1
 end
def uptoSmall : (H : Type) → List (DataW H) → Bool := fun _ ds => decide (uptoBulkAll ds ≤ 1048576)
def OpenSpec.upto (s : _root_.Go.ChangeSpec) : _root_.Go.OpenSpec := { _root_.Go.OpenSpec.ofChange s with cond := some uptoSmall }

/-- 'laws.FnExactEliminateLast', WHERE WHAT IT READS IS OF BULK AT MOST 1048576: true; the input reads as it did. -/
def fnExactEliminateLastUptoRow : OpenClaim := { program := "ytpfidjegdpkhdaadoor", sum := "6187db5448c80e0241e20fc3d44d9ae956085e9c1a33ee00c482a5d87bb6558c", func := "loop.example/g01073/laws.FnExactEliminateLast", spec := "fnExactEliminateLast", unfollowed := true, recurses := true, named := ["loop.example/g01073/impl.smallPrimes"], apart := false, laid := [("loop.example/g01073/impl.smallPrimes", laid_loop_example_g01073_impl_smallPrimes)], narrowed := true }
def FnExactEliminateLastUptoSaid : Prop := fnExactEliminateLastUptoRow.holds Tryd.pinned (OpenSpec.upto fnExactEliminateLastSpec)

/-- 'laws.FnExactMeetSystems', WHERE WHAT IT READS IS OF BULK AT MOST 1048576: true; the input reads as it did. -/
def fnExactMeetSystemsUptoRow : OpenClaim := { program := "ytpfidjegdpkhdaadoor", sum := "6187db5448c80e0241e20fc3d44d9ae956085e9c1a33ee00c482a5d87bb6558c", func := "loop.example/g01073/laws.FnExactMeetSystems", spec := "fnExactMeetSystems", named := ["loop.example/g01073/impl.smallPrimes"], apart := false, laid := [("loop.example/g01073/impl.smallPrimes", laid_loop_example_g01073_impl_smallPrimes)], narrowed := true }
def FnExactMeetSystemsUptoSaid : Prop := fnExactMeetSystemsUptoRow.holds Tryd.pinned (OpenSpec.upto fnExactMeetSystemsSpec)

/-- 'laws.FnExactComposeSystems', WHERE WHAT IT READS IS OF BULK AT MOST 1048576: true; the input reads as it did. -/
def fnExactComposeSystemsUptoRow : OpenClaim := { program := "ytpfidjegdpkhdaadoor", sum := "6187db5448c80e0241e20fc3d44d9ae956085e9c1a33ee00c482a5d87bb6558c", func := "loop.example/g01073/laws.FnExactComposeSystems", spec := "fnExactComposeSystems", named := ["loop.example/g01073/impl.smallPrimes"], apart := false, laid := [("loop.example/g01073/impl.smallPrimes", laid_loop_example_g01073_impl_smallPrimes)], narrowed := true }
def FnExactComposeSystemsUptoSaid : Prop := fnExactComposeSystemsUptoRow.holds Tryd.pinned (OpenSpec.upto fnExactComposeSystemsSpec)

/-- 'laws.FnExactHiddenValues', WHERE WHAT IT READS IS OF BULK AT MOST 1048576: true; the input reads as it did. -/
def fnExactHiddenValuesUptoRow : OpenClaim := { program := "ytpfidjegdpkhdaadoor", sum := "6187db5448c80e0241e20fc3d44d9ae956085e9c1a33ee00c482a5d87bb6558c", func := "loop.example/g01073/laws.FnExactHiddenValues", spec := "fnExactHiddenValues", unfollowed := true, recurses := true, named := ["loop.example/g01073/impl.smallPrimes"], apart := false, laid := [("loop.example/g01073/impl.smallPrimes", laid_loop_example_g01073_impl_smallPrimes)], narrowed := true }
def FnExactHiddenValuesUptoSaid : Prop := fnExactHiddenValuesUptoRow.holds Tryd.pinned (OpenSpec.upto fnExactHiddenValuesSpec)

/-- 'laws.FnExactRangeOf', WHERE WHAT IT READS IS OF BULK AT MOST 1048576: true; the input reads as it did. -/
def fnExactRangeOfUptoRow : OpenClaim := { program := "ytpfidjegdpkhdaadoor", sum := "6187db5448c80e0241e20fc3d44d9ae956085e9c1a33ee00c482a5d87bb6558c", func := "loop.example/g01073/laws.FnExactRangeOf", spec := "fnExactRangeOf", unfollowed := true, recurses := true, named := ["loop.example/g01073/impl.smallPrimes"], apart := false, laid := [("loop.example/g01073/impl.smallPrimes", laid_loop_example_g01073_impl_smallPrimes)], narrowed := true }
def FnExactRangeOfUptoSaid : Prop := fnExactRangeOfUptoRow.holds Tryd.pinned (OpenSpec.upto fnExactRangeOfSpec)

/-- 'laws.FnExactDomainOf', WHERE WHAT IT READS IS OF BULK AT MOST 1048576: true; the input reads as it did. -/
def fnExactDomainOfUptoRow : OpenClaim := { program := "ytpfidjegdpkhdaadoor", sum := "6187db5448c80e0241e20fc3d44d9ae956085e9c1a33ee00c482a5d87bb6558c", func := "loop.example/g01073/laws.FnExactDomainOf", spec := "fnExactDomainOf", unfollowed := true, recurses := true, named := ["loop.example/g01073/impl.smallPrimes"], apart := false, laid := [("loop.example/g01073/impl.smallPrimes", laid_loop_example_g01073_impl_smallPrimes)], narrowed := true }
def FnExactDomainOfUptoSaid : Prop := fnExactDomainOfUptoRow.holds Tryd.pinned (OpenSpec.upto fnExactDomainOfSpec)

/-- 'laws.FnExactIsTotal', WHERE WHAT IT READS IS OF BULK AT MOST 1048576: true; the input reads as it did. -/
def fnExactIsTotalUptoRow : OpenClaim := { program := "ytpfidjegdpkhdaadoor", sum := "6187db5448c80e0241e20fc3d44d9ae956085e9c1a33ee00c482a5d87bb6558c", func := "loop.example/g01073/laws.FnExactIsTotal", spec := "fnExactIsTotal", unfollowed := true, recurses := true, named := ["loop.example/g01073/impl.smallPrimes"], apart := false, laid := [("loop.example/g01073/impl.smallPrimes", laid_loop_example_g01073_impl_smallPrimes)], narrowed := true }
def FnExactIsTotalUptoSaid : Prop := fnExactIsTotalUptoRow.holds Tryd.pinned (OpenSpec.upto fnExactIsTotalSpec)

/-- 'laws.FnExactIsSingleValued', WHERE WHAT IT READS IS OF BULK AT MOST 1048576: true; the input reads as it did. -/
def fnExactIsSingleValuedUptoRow : OpenClaim := { program := "ytpfidjegdpkhdaadoor", sum := "6187db5448c80e0241e20fc3d44d9ae956085e9c1a33ee00c482a5d87bb6558c", func := "loop.example/g01073/laws.FnExactIsSingleValued", spec := "fnExactIsSingleValued", unfollowed := true, recurses := true, named := ["loop.example/g01073/impl.smallPrimes"], apart := false, laid := [("loop.example/g01073/impl.smallPrimes", laid_loop_example_g01073_impl_smallPrimes)], narrowed := true }
def FnExactIsSingleValuedUptoSaid : Prop := fnExactIsSingleValuedUptoRow.holds Tryd.pinned (OpenSpec.upto fnExactIsSingleValuedSpec)

/-- 'laws.FnExactConverseRelation', WHERE WHAT IT READS IS OF BULK AT MOST 1048576: true; the input reads as it did. -/
def fnExactConverseRelationUptoRow : OpenClaim := { program := "ytpfidjegdpkhdaadoor", sum := "6187db5448c80e0241e20fc3d44d9ae956085e9c1a33ee00c482a5d87bb6558c", func := "loop.example/g01073/laws.FnExactConverseRelation", spec := "fnExactConverseRelation", unfollowed := true, recurses := true, named := ["loop.example/g01073/impl.smallPrimes"], apart := false, laid := [("loop.example/g01073/impl.smallPrimes", laid_loop_example_g01073_impl_smallPrimes)], narrowed := true }
def FnExactConverseRelationUptoSaid : Prop := fnExactConverseRelationUptoRow.holds Tryd.pinned (OpenSpec.upto fnExactConverseRelationSpec)

/-- 'laws.FnExactTensorRelations', WHERE WHAT IT READS IS OF BULK AT MOST 1048576: true; the input reads as it did. -/
def fnExactTensorRelationsUptoRow : OpenClaim := { program := "ytpfidjegdpkhdaadoor", sum := "6187db5448c80e0241e20fc3d44d9ae956085e9c1a33ee00c482a5d87bb6558c", func := "loop.example/g01073/laws.FnExactTensorRelations", spec := "fnExactTensorRelations", unfollowed := true, recurses := true, named := ["loop.example/g01073/impl.smallPrimes"], apart := false, laid := [("loop.example/g01073/impl.smallPrimes", laid_loop_example_g01073_impl_smallPrimes)], narrowed := true }
def FnExactTensorRelationsUptoSaid : Prop := fnExactTensorRelationsUptoRow.holds Tryd.pinned (OpenSpec.upto fnExactTensorRelationsSpec)

/-- 'laws.FnExactFunctionOf', WHERE WHAT IT READS IS OF BULK AT MOST 1048576: true; the input reads as it did. -/
def fnExactFunctionOfUptoRow : OpenClaim := { program := "ytpfidjegdpkhdaadoor", sum := "6187db5448c80e0241e20fc3d44d9ae956085e9c1a33ee00c482a5d87bb6558c", func := "loop.example/g01073/laws.FnExactFunctionOf", spec := "fnExactFunctionOf", unfollowed := true, recurses := true, named := ["loop.example/g01073/impl.smallPrimes"], apart := false, laid := [("loop.example/g01073/impl.smallPrimes", laid_loop_example_g01073_impl_smallPrimes)], narrowed := true }
def FnExactFunctionOfUptoSaid : Prop := fnExactFunctionOfUptoRow.holds Tryd.pinned (OpenSpec.upto fnExactFunctionOfSpec)

/-- 'laws.FnExactOrthogonalRelation', WHERE WHAT IT READS IS OF BULK AT MOST 1048576: true; the input reads as it did. -/
def fnExactOrthogonalRelationUptoRow : OpenClaim := { program := "ytpfidjegdpkhdaadoor", sum := "6187db5448c80e0241e20fc3d44d9ae956085e9c1a33ee00c482a5d87bb6558c", func := "loop.example/g01073/laws.FnExactOrthogonalRelation", spec := "fnExactOrthogonalRelation", unfollowed := true, recurses := true, named := ["loop.example/g01073/impl.smallPrimes"], apart := false, laid := [("loop.example/g01073/impl.smallPrimes", laid_loop_example_g01073_impl_smallPrimes)], narrowed := true }
def FnExactOrthogonalRelationUptoSaid : Prop := fnExactOrthogonalRelationUptoRow.holds Tryd.pinned (OpenSpec.upto fnExactOrthogonalRelationSpec)

end Rows
end Go.Proofs.YtpfidjegdpkhdaaDoor
