/-
  NARROWER THAN 'FOR EVERY INPUT', by the rows' own cells (each row's printed sentence says how): FnExactDenoteGraph: laid · FnExactWireValues: laid · FnExactDenoteTerm: laid · FnExactMatrixOfTerm: laid.
  DERIVED. THE GIVEN ROWS OF THIS SEAT. 4 by the template 'for every input the law returns true; each argument reads behind the call as it read before'; 0 by the template 'total and deterministic' (their statements: YtahnhblodfdfhaaGreatDoorTotals.lean).
  GIVEN WITH THE SEED: the statements are not yours to turn. If you find one false, say at which input.
  Laid BY PROGRAM, IN A SANDBOX (cutbox-rows.mjs): the forced cells as the released guide's own fill.sh prints them over the translation a38b9a85959be846… (all of the seat's roots in one cut). By AI agents, Wed Nov 11 2026. No macro, syntax, notation, axiom, sorry.
-/
import Derived.Test.YtahnhblodfdfhaaGreatDoorChecked
import GoSem.Claim
import GoSem.ClaimJoined
import GoSem.ClaimMapViews
import Derived.JoinedTies
import Derived.KernelRfl
namespace Go.Proofs.YtahnhblodfdfhaaGreatDoor
/- THE CELL 'sum', in the pinned program and in every row, IS THE sha256 OF THE DUMP (.gsa) THAT YtahnhblodfdfhaaGreatDoorProg.lean LOADS. Nothing in Lean hashes anything: it is a label: what it is worth is what the hold of that sum in a sandbox is worth. -/
noncomputable def Tryz.pinned : Pinned := { name := "ytahnhblodfdfhaagreatdoor", sum := "a38b9a85959be84660a187914aacdb2792857583329a51461d3d359be475be20", checked := Tryz.checked }
namespace Rows
def none {H : Type} : Left H := { results := [], args := [] }

/- WHAT THE LISTED PACKAGE-LEVEL VARIABLES READ AS WHEN THE CALL BEGINS. Each datum BY PROGRAM (the guide's laid-datum.mjs) off the statement by which the dump's own 'gosem.cut.vars' lays the variable. In a bare row this is a premise. The card (YtahnhblodfdfhaaGreatDoorCards.lean) ties it to the program's text. -/
def laid_loop_example_g01073_impl_smallPrimes {H : Type} : DataW H := .agg [.lit (.int .i64 2), .lit (.int .i64 3), .lit (.int .i64 5), .lit (.int .i64 7)]

/-- 'laws.FnExactDenoteGraph': WHATEVER THE INPUT: true; the input reads as it did. -/
def fnExactDenoteGraphSpec : ChangeSpec := { name := "fnExactDenoteGraph", vars := ["loop.example/g01073/impl.smallPrimes"], fn := fun _ => fun
  | [d1, d2, g1] => { results := [.lit (.bool true)], args := [d1, d2], vars := [g1] }
  | _ => none }
def fnExactDenoteGraphRow : OpenClaim := { program := "ytahnhblodfdfhaagreatdoor", sum := "a38b9a85959be84660a187914aacdb2792857583329a51461d3d359be475be20", func := "loop.example/g01073/laws.FnExactDenoteGraph", spec := "fnExactDenoteGraph", unfollowed := true, recurses := true, named := ["loop.example/g01073/impl.smallPrimes"], apart := false, laid := [("loop.example/g01073/impl.smallPrimes", laid_loop_example_g01073_impl_smallPrimes)] }
def FnExactDenoteGraphSaid : Prop := fnExactDenoteGraphRow.holds Tryz.pinned (OpenSpec.ofChange fnExactDenoteGraphSpec)

/-- ITS FALSE NEIGHBOUR: 'it returns false'. Refute it at one input. -/
def fnExactDenoteGraphWrong : ChangeSpec := { name := "fnExactDenoteGraph", vars := ["loop.example/g01073/impl.smallPrimes"], fn := fun _ => fun
  | [d1, d2, g1] => { results := [.lit (.bool false)], args := [d1, d2], vars := [g1] }
  | _ => none }
def FnExactDenoteGraphWrongFalsely : Prop := fnExactDenoteGraphRow.holds Tryz.pinned (OpenSpec.ofChange fnExactDenoteGraphWrong)

/-- 'laws.FnExactWireValues': WHATEVER THE INPUT: true; the input reads as it did. -/
def fnExactWireValuesSpec : ChangeSpec := { name := "fnExactWireValues", vars := ["loop.example/g01073/impl.smallPrimes"], fn := fun _ => fun
  | [d1, d2, d3, d4, g1] => { results := [.lit (.bool true)], args := [d1, d2, d3, d4], vars := [g1] }
  | _ => none }
def fnExactWireValuesRow : OpenClaim := { program := "ytahnhblodfdfhaagreatdoor", sum := "a38b9a85959be84660a187914aacdb2792857583329a51461d3d359be475be20", func := "loop.example/g01073/laws.FnExactWireValues", spec := "fnExactWireValues", unfollowed := true, recurses := true, named := ["loop.example/g01073/impl.smallPrimes"], apart := false, laid := [("loop.example/g01073/impl.smallPrimes", laid_loop_example_g01073_impl_smallPrimes)] }
def FnExactWireValuesSaid : Prop := fnExactWireValuesRow.holds Tryz.pinned (OpenSpec.ofChange fnExactWireValuesSpec)

/-- ITS FALSE NEIGHBOUR: 'it returns false'. Refute it at one input. -/
def fnExactWireValuesWrong : ChangeSpec := { name := "fnExactWireValues", vars := ["loop.example/g01073/impl.smallPrimes"], fn := fun _ => fun
  | [d1, d2, d3, d4, g1] => { results := [.lit (.bool false)], args := [d1, d2, d3, d4], vars := [g1] }
  | _ => none }
def FnExactWireValuesWrongFalsely : Prop := fnExactWireValuesRow.holds Tryz.pinned (OpenSpec.ofChange fnExactWireValuesWrong)

/-- 'laws.FnExactDenoteTerm': WHATEVER THE INPUT: true; the input reads as it did. -/
def fnExactDenoteTermSpec : ChangeSpec := { name := "fnExactDenoteTerm", vars := ["loop.example/g01073/impl.smallPrimes"], fn := fun _ => fun
  | [d1, d2, g1] => { results := [.lit (.bool true)], args := [d1, d2], vars := [g1] }
  | _ => none }
def fnExactDenoteTermRow : OpenClaim := { program := "ytahnhblodfdfhaagreatdoor", sum := "a38b9a85959be84660a187914aacdb2792857583329a51461d3d359be475be20", func := "loop.example/g01073/laws.FnExactDenoteTerm", spec := "fnExactDenoteTerm", unfollowed := true, recurses := true, named := ["loop.example/g01073/impl.smallPrimes"], apart := false, laid := [("loop.example/g01073/impl.smallPrimes", laid_loop_example_g01073_impl_smallPrimes)] }
def FnExactDenoteTermSaid : Prop := fnExactDenoteTermRow.holds Tryz.pinned (OpenSpec.ofChange fnExactDenoteTermSpec)

/-- ITS FALSE NEIGHBOUR: 'it returns false'. Refute it at one input. -/
def fnExactDenoteTermWrong : ChangeSpec := { name := "fnExactDenoteTerm", vars := ["loop.example/g01073/impl.smallPrimes"], fn := fun _ => fun
  | [d1, d2, g1] => { results := [.lit (.bool false)], args := [d1, d2], vars := [g1] }
  | _ => none }
def FnExactDenoteTermWrongFalsely : Prop := fnExactDenoteTermRow.holds Tryz.pinned (OpenSpec.ofChange fnExactDenoteTermWrong)

/-- 'laws.FnExactMatrixOfTerm': WHATEVER THE INPUT: true; the input reads as it did. -/
def fnExactMatrixOfTermSpec : ChangeSpec := { name := "fnExactMatrixOfTerm", vars := ["loop.example/g01073/impl.smallPrimes"], fn := fun _ => fun
  | [d1, d2, g1] => { results := [.lit (.bool true)], args := [d1, d2], vars := [g1] }
  | _ => none }
def fnExactMatrixOfTermRow : OpenClaim := { program := "ytahnhblodfdfhaagreatdoor", sum := "a38b9a85959be84660a187914aacdb2792857583329a51461d3d359be475be20", func := "loop.example/g01073/laws.FnExactMatrixOfTerm", spec := "fnExactMatrixOfTerm", unfollowed := true, recurses := true, named := ["loop.example/g01073/impl.smallPrimes"], apart := false, laid := [("loop.example/g01073/impl.smallPrimes", laid_loop_example_g01073_impl_smallPrimes)] }
def FnExactMatrixOfTermSaid : Prop := fnExactMatrixOfTermRow.holds Tryz.pinned (OpenSpec.ofChange fnExactMatrixOfTermSpec)

/-- ITS FALSE NEIGHBOUR: 'it returns false'. Refute it at one input. -/
def fnExactMatrixOfTermWrong : ChangeSpec := { name := "fnExactMatrixOfTerm", vars := ["loop.example/g01073/impl.smallPrimes"], fn := fun _ => fun
  | [d1, d2, g1] => { results := [.lit (.bool false)], args := [d1, d2], vars := [g1] }
  | _ => none }
def FnExactMatrixOfTermWrongFalsely : Prop := fnExactMatrixOfTermRow.holds Tryz.pinned (OpenSpec.ofChange fnExactMatrixOfTermWrong)

/- THE SECOND FORM. 'bulk': how many values and letters a reading holds, each counted each time it is reached (what is shared counts as often as it is met; a slice's spare places count too). A statement '..UptoSaid' is the law's where the arguments, and the package variables that the reading takes, are together of bulk at most 1048576: NARROWER than '..Said'. Prove '..Said' where nothing that the law and all that it calls make is longer than what came in: it says more and counts as full. Else prove '..UptoSaid'. A law counts once. -/
mutual
def uptoBulk {H : Type} : DataW H → Nat
  | .lit (.string bytes) => bytes.length + 1
  | .lit _ => 1
  | .nil => 1
  | .ptr d => uptoBulk d + 1
  | .slice elems spare => uptoBulkAll elems + uptoBulkAll spare + 1
  | .agg parts => uptoBulkAll parts + 1
  | .iface _ d => uptoBulk d + 1
  | .map entries => uptoBulkEntries entries + 1
  | .held _ => 1
def uptoBulkAll {H : Type} : List (DataW H) → Nat
  | [] => 0
  | d :: r => uptoBulk d + uptoBulkAll r
def uptoBulkEntries {H : Type} : List (Lit × DataW H) → Nat
  | [] => 0
  | x :: r => uptoBulkEntry x + uptoBulkEntries r
def uptoBulkEntry {H : Type} : Lit × DataW H → Nat
  | (.string bytes, d) => bytes.length + uptoBulk d + 1
  | (_, d) => uptoBulk d + 1
 end
def uptoSmall : (H : Type) → List (DataW H) → Bool := fun _ ds => decide (uptoBulkAll ds ≤ 1048576)
def OpenSpec.upto (s : _root_.Go.ChangeSpec) : _root_.Go.OpenSpec := { _root_.Go.OpenSpec.ofChange s with cond := some uptoSmall }

/-- 'laws.FnExactDenoteGraph', WHERE WHAT IT READS IS OF BULK AT MOST 1048576: true; the input reads as it did. -/
def fnExactDenoteGraphUptoRow : OpenClaim := { program := "ytahnhblodfdfhaagreatdoor", sum := "a38b9a85959be84660a187914aacdb2792857583329a51461d3d359be475be20", func := "loop.example/g01073/laws.FnExactDenoteGraph", spec := "fnExactDenoteGraph", unfollowed := true, recurses := true, named := ["loop.example/g01073/impl.smallPrimes"], apart := false, laid := [("loop.example/g01073/impl.smallPrimes", laid_loop_example_g01073_impl_smallPrimes)], narrowed := true }
def FnExactDenoteGraphUptoSaid : Prop := fnExactDenoteGraphUptoRow.holds Tryz.pinned (OpenSpec.upto fnExactDenoteGraphSpec)

/-- 'laws.FnExactWireValues', WHERE WHAT IT READS IS OF BULK AT MOST 1048576: true; the input reads as it did. -/
def fnExactWireValuesUptoRow : OpenClaim := { program := "ytahnhblodfdfhaagreatdoor", sum := "a38b9a85959be84660a187914aacdb2792857583329a51461d3d359be475be20", func := "loop.example/g01073/laws.FnExactWireValues", spec := "fnExactWireValues", unfollowed := true, recurses := true, named := ["loop.example/g01073/impl.smallPrimes"], apart := false, laid := [("loop.example/g01073/impl.smallPrimes", laid_loop_example_g01073_impl_smallPrimes)], narrowed := true }
def FnExactWireValuesUptoSaid : Prop := fnExactWireValuesUptoRow.holds Tryz.pinned (OpenSpec.upto fnExactWireValuesSpec)

/-- 'laws.FnExactDenoteTerm', WHERE WHAT IT READS IS OF BULK AT MOST 1048576: true; the input reads as it did. -/
def fnExactDenoteTermUptoRow : OpenClaim := { program := "ytahnhblodfdfhaagreatdoor", sum := "a38b9a85959be84660a187914aacdb2792857583329a51461d3d359be475be20", func := "loop.example/g01073/laws.FnExactDenoteTerm", spec := "fnExactDenoteTerm", unfollowed := true, recurses := true, named := ["loop.example/g01073/impl.smallPrimes"], apart := false, laid := [("loop.example/g01073/impl.smallPrimes", laid_loop_example_g01073_impl_smallPrimes)], narrowed := true }
def FnExactDenoteTermUptoSaid : Prop := fnExactDenoteTermUptoRow.holds Tryz.pinned (OpenSpec.upto fnExactDenoteTermSpec)

/-- 'laws.FnExactMatrixOfTerm', WHERE WHAT IT READS IS OF BULK AT MOST 1048576: true; the input reads as it did. -/
def fnExactMatrixOfTermUptoRow : OpenClaim := { program := "ytahnhblodfdfhaagreatdoor", sum := "a38b9a85959be84660a187914aacdb2792857583329a51461d3d359be475be20", func := "loop.example/g01073/laws.FnExactMatrixOfTerm", spec := "fnExactMatrixOfTerm", unfollowed := true, recurses := true, named := ["loop.example/g01073/impl.smallPrimes"], apart := false, laid := [("loop.example/g01073/impl.smallPrimes", laid_loop_example_g01073_impl_smallPrimes)], narrowed := true }
def FnExactMatrixOfTermUptoSaid : Prop := fnExactMatrixOfTermUptoRow.holds Tryz.pinned (OpenSpec.upto fnExactMatrixOfTermSpec)

end Rows
end Go.Proofs.YtahnhblodfdfhaaGreatDoor
