/-
  NARROWER THAN 'FOR EVERY INPUT', by the rows' own cells (each row's printed sentence says how): FnExactIsPoly: laid · FnExactPolyEval: laid · FnExactPolyRoots: laid · FnExactPolyAdd: laid · FnExactPolyMul: laid · FnExactPolyDivide: laid · FnExactPolyGcd: laid.
  DERIVED. THE GIVEN ROWS OF THIS SEAT. 7 by the template 'for every input the law returns true; each argument reads behind the call as it read before'; 0 by the template 'total and deterministic' (their statements: YtbgofkalanigfaaDoorTotals.lean).
  GIVEN WITH THE SEED: the statements are not yours to turn. If you find one false, say at which input.
  Laid BY PROGRAM, IN A SANDBOX (cutbox-rows.mjs): the forced cells as the released guide's own fill.sh prints them over the translation 9be126bb300db913… (all of the seat's roots in one cut). By AI agents, Wed Nov 11 2026. No macro, syntax, notation, axiom, sorry.
-/
import Derived.Test.YtbgofkalanigfaaDoorChecked
import GoSem.Claim
import GoSem.ClaimJoined
import GoSem.ClaimMapViews
import Derived.JoinedTies
import Derived.KernelRfl
namespace Go.Proofs.YtbgofkalanigfaaDoor
/- THE CELL 'sum', in the pinned program and in every row, IS THE sha256 OF THE DUMP (.gsa) THAT YtbgofkalanigfaaDoorProg.lean LOADS. Nothing in Lean hashes anything: it is a label: what it is worth is what the hold of that sum in a sandbox is worth. -/
noncomputable def Tryd.pinned : Pinned := { name := "ytbgofkalanigfaadoor", sum := "9be126bb300db913c645528087e96a805fb4769dc0497dd08dbcc2fa529376a5", checked := Tryd.checked }
namespace Rows
def none {H : Type} : Left H := { results := [], args := [] }

/- WHAT THE LISTED PACKAGE-LEVEL VARIABLES READ AS WHEN THE CALL BEGINS. Each datum BY PROGRAM (the guide's laid-datum.mjs) off the statement by which the dump's own 'gosem.cut.vars' lays the variable. In a bare row this is a premise. The card (YtbgofkalanigfaaDoorCards.lean) ties it to the program's text. -/
def laid_loop_example_g01073_impl_smallPrimes {H : Type} : DataW H := .agg [.lit (.int .i64 2), .lit (.int .i64 3), .lit (.int .i64 5), .lit (.int .i64 7)]

/-- 'laws.FnExactIsPoly': WHATEVER THE INPUT: true; the input reads as it did. -/
def fnExactIsPolySpec : ChangeSpec := { name := "fnExactIsPoly", vars := ["loop.example/g01073/impl.smallPrimes"], fn := fun _ => fun
  | [d1, d2, g1] => { results := [.lit (.bool true)], args := [d1, d2], vars := [g1] }
  | _ => none }
def fnExactIsPolyRow : OpenClaim := { program := "ytbgofkalanigfaadoor", sum := "9be126bb300db913c645528087e96a805fb4769dc0497dd08dbcc2fa529376a5", func := "loop.example/g01073/laws.FnExactIsPoly", spec := "fnExactIsPoly", named := ["loop.example/g01073/impl.smallPrimes"], apart := false, laid := [("loop.example/g01073/impl.smallPrimes", laid_loop_example_g01073_impl_smallPrimes)] }
def FnExactIsPolySaid : Prop := fnExactIsPolyRow.holds Tryd.pinned (OpenSpec.ofChange fnExactIsPolySpec)

/-- ITS FALSE NEIGHBOUR: 'it returns false'. Refute it at one input. -/
def fnExactIsPolyWrong : ChangeSpec := { name := "fnExactIsPoly", vars := ["loop.example/g01073/impl.smallPrimes"], fn := fun _ => fun
  | [d1, d2, g1] => { results := [.lit (.bool false)], args := [d1, d2], vars := [g1] }
  | _ => none }
def FnExactIsPolyWrongFalsely : Prop := fnExactIsPolyRow.holds Tryd.pinned (OpenSpec.ofChange fnExactIsPolyWrong)

/-- 'laws.FnExactPolyEval': WHATEVER THE INPUT: true; the input reads as it did. -/
def fnExactPolyEvalSpec : ChangeSpec := { name := "fnExactPolyEval", vars := ["loop.example/g01073/impl.smallPrimes"], fn := fun _ => fun
  | [d1, d2, d3, g1] => { results := [.lit (.bool true)], args := [d1, d2, d3], vars := [g1] }
  | _ => none }
def fnExactPolyEvalRow : OpenClaim := { program := "ytbgofkalanigfaadoor", sum := "9be126bb300db913c645528087e96a805fb4769dc0497dd08dbcc2fa529376a5", func := "loop.example/g01073/laws.FnExactPolyEval", spec := "fnExactPolyEval", unfollowed := true, recurses := true, named := ["loop.example/g01073/impl.smallPrimes"], apart := false, laid := [("loop.example/g01073/impl.smallPrimes", laid_loop_example_g01073_impl_smallPrimes)] }
def FnExactPolyEvalSaid : Prop := fnExactPolyEvalRow.holds Tryd.pinned (OpenSpec.ofChange fnExactPolyEvalSpec)

/-- ITS FALSE NEIGHBOUR: 'it returns false'. Refute it at one input. -/
def fnExactPolyEvalWrong : ChangeSpec := { name := "fnExactPolyEval", vars := ["loop.example/g01073/impl.smallPrimes"], fn := fun _ => fun
  | [d1, d2, d3, g1] => { results := [.lit (.bool false)], args := [d1, d2, d3], vars := [g1] }
  | _ => none }
def FnExactPolyEvalWrongFalsely : Prop := fnExactPolyEvalRow.holds Tryd.pinned (OpenSpec.ofChange fnExactPolyEvalWrong)

/-- 'laws.FnExactPolyRoots': WHATEVER THE INPUT: true; the input reads as it did. -/
def fnExactPolyRootsSpec : ChangeSpec := { name := "fnExactPolyRoots", vars := ["loop.example/g01073/impl.smallPrimes"], fn := fun _ => fun
  | [d1, d2, g1] => { results := [.lit (.bool true)], args := [d1, d2], vars := [g1] }
  | _ => none }
def fnExactPolyRootsRow : OpenClaim := { program := "ytbgofkalanigfaadoor", sum := "9be126bb300db913c645528087e96a805fb4769dc0497dd08dbcc2fa529376a5", func := "loop.example/g01073/laws.FnExactPolyRoots", spec := "fnExactPolyRoots", unfollowed := true, recurses := true, named := ["loop.example/g01073/impl.smallPrimes"], apart := false, laid := [("loop.example/g01073/impl.smallPrimes", laid_loop_example_g01073_impl_smallPrimes)] }
def FnExactPolyRootsSaid : Prop := fnExactPolyRootsRow.holds Tryd.pinned (OpenSpec.ofChange fnExactPolyRootsSpec)

/-- ITS FALSE NEIGHBOUR: 'it returns false'. Refute it at one input. -/
def fnExactPolyRootsWrong : ChangeSpec := { name := "fnExactPolyRoots", vars := ["loop.example/g01073/impl.smallPrimes"], fn := fun _ => fun
  | [d1, d2, g1] => { results := [.lit (.bool false)], args := [d1, d2], vars := [g1] }
  | _ => none }
def FnExactPolyRootsWrongFalsely : Prop := fnExactPolyRootsRow.holds Tryd.pinned (OpenSpec.ofChange fnExactPolyRootsWrong)

/-- 'laws.FnExactPolyAdd': WHATEVER THE INPUT: true; the input reads as it did. -/
def fnExactPolyAddSpec : ChangeSpec := { name := "fnExactPolyAdd", vars := ["loop.example/g01073/impl.smallPrimes"], fn := fun _ => fun
  | [d1, d2, d3, g1] => { results := [.lit (.bool true)], args := [d1, d2, d3], vars := [g1] }
  | _ => none }
def fnExactPolyAddRow : OpenClaim := { program := "ytbgofkalanigfaadoor", sum := "9be126bb300db913c645528087e96a805fb4769dc0497dd08dbcc2fa529376a5", func := "loop.example/g01073/laws.FnExactPolyAdd", spec := "fnExactPolyAdd", named := ["loop.example/g01073/impl.smallPrimes"], apart := false, laid := [("loop.example/g01073/impl.smallPrimes", laid_loop_example_g01073_impl_smallPrimes)] }
def FnExactPolyAddSaid : Prop := fnExactPolyAddRow.holds Tryd.pinned (OpenSpec.ofChange fnExactPolyAddSpec)

/-- ITS FALSE NEIGHBOUR: 'it returns false'. Refute it at one input. -/
def fnExactPolyAddWrong : ChangeSpec := { name := "fnExactPolyAdd", vars := ["loop.example/g01073/impl.smallPrimes"], fn := fun _ => fun
  | [d1, d2, d3, g1] => { results := [.lit (.bool false)], args := [d1, d2, d3], vars := [g1] }
  | _ => none }
def FnExactPolyAddWrongFalsely : Prop := fnExactPolyAddRow.holds Tryd.pinned (OpenSpec.ofChange fnExactPolyAddWrong)

/-- 'laws.FnExactPolyMul': WHATEVER THE INPUT: true; the input reads as it did. -/
def fnExactPolyMulSpec : ChangeSpec := { name := "fnExactPolyMul", vars := ["loop.example/g01073/impl.smallPrimes"], fn := fun _ => fun
  | [d1, d2, d3, g1] => { results := [.lit (.bool true)], args := [d1, d2, d3], vars := [g1] }
  | _ => none }
def fnExactPolyMulRow : OpenClaim := { program := "ytbgofkalanigfaadoor", sum := "9be126bb300db913c645528087e96a805fb4769dc0497dd08dbcc2fa529376a5", func := "loop.example/g01073/laws.FnExactPolyMul", spec := "fnExactPolyMul", named := ["loop.example/g01073/impl.smallPrimes"], apart := false, laid := [("loop.example/g01073/impl.smallPrimes", laid_loop_example_g01073_impl_smallPrimes)] }
def FnExactPolyMulSaid : Prop := fnExactPolyMulRow.holds Tryd.pinned (OpenSpec.ofChange fnExactPolyMulSpec)

/-- ITS FALSE NEIGHBOUR: 'it returns false'. Refute it at one input. -/
def fnExactPolyMulWrong : ChangeSpec := { name := "fnExactPolyMul", vars := ["loop.example/g01073/impl.smallPrimes"], fn := fun _ => fun
  | [d1, d2, d3, g1] => { results := [.lit (.bool false)], args := [d1, d2, d3], vars := [g1] }
  | _ => none }
def FnExactPolyMulWrongFalsely : Prop := fnExactPolyMulRow.holds Tryd.pinned (OpenSpec.ofChange fnExactPolyMulWrong)

/-- 'laws.FnExactPolyDivide': WHATEVER THE INPUT: true; the input reads as it did. -/
def fnExactPolyDivideSpec : ChangeSpec := { name := "fnExactPolyDivide", vars := ["loop.example/g01073/impl.smallPrimes"], fn := fun _ => fun
  | [d1, d2, d3, g1] => { results := [.lit (.bool true)], args := [d1, d2, d3], vars := [g1] }
  | _ => none }
def fnExactPolyDivideRow : OpenClaim := { program := "ytbgofkalanigfaadoor", sum := "9be126bb300db913c645528087e96a805fb4769dc0497dd08dbcc2fa529376a5", func := "loop.example/g01073/laws.FnExactPolyDivide", spec := "fnExactPolyDivide", named := ["loop.example/g01073/impl.smallPrimes"], apart := false, laid := [("loop.example/g01073/impl.smallPrimes", laid_loop_example_g01073_impl_smallPrimes)] }
def FnExactPolyDivideSaid : Prop := fnExactPolyDivideRow.holds Tryd.pinned (OpenSpec.ofChange fnExactPolyDivideSpec)

/-- ITS FALSE NEIGHBOUR: 'it returns false'. Refute it at one input. -/
def fnExactPolyDivideWrong : ChangeSpec := { name := "fnExactPolyDivide", vars := ["loop.example/g01073/impl.smallPrimes"], fn := fun _ => fun
  | [d1, d2, d3, g1] => { results := [.lit (.bool false)], args := [d1, d2, d3], vars := [g1] }
  | _ => none }
def FnExactPolyDivideWrongFalsely : Prop := fnExactPolyDivideRow.holds Tryd.pinned (OpenSpec.ofChange fnExactPolyDivideWrong)

/-- 'laws.FnExactPolyGcd': WHATEVER THE INPUT: true; the input reads as it did. -/
def fnExactPolyGcdSpec : ChangeSpec := { name := "fnExactPolyGcd", vars := ["loop.example/g01073/impl.smallPrimes"], fn := fun _ => fun
  | [d1, d2, d3, g1] => { results := [.lit (.bool true)], args := [d1, d2, d3], vars := [g1] }
  | _ => none }
def fnExactPolyGcdRow : OpenClaim := { program := "ytbgofkalanigfaadoor", sum := "9be126bb300db913c645528087e96a805fb4769dc0497dd08dbcc2fa529376a5", func := "loop.example/g01073/laws.FnExactPolyGcd", spec := "fnExactPolyGcd", named := ["loop.example/g01073/impl.smallPrimes"], apart := false, laid := [("loop.example/g01073/impl.smallPrimes", laid_loop_example_g01073_impl_smallPrimes)] }
def FnExactPolyGcdSaid : Prop := fnExactPolyGcdRow.holds Tryd.pinned (OpenSpec.ofChange fnExactPolyGcdSpec)

/-- ITS FALSE NEIGHBOUR: 'it returns false'. Refute it at one input. -/
def fnExactPolyGcdWrong : ChangeSpec := { name := "fnExactPolyGcd", vars := ["loop.example/g01073/impl.smallPrimes"], fn := fun _ => fun
  | [d1, d2, d3, g1] => { results := [.lit (.bool false)], args := [d1, d2, d3], vars := [g1] }
  | _ => none }
def FnExactPolyGcdWrongFalsely : Prop := fnExactPolyGcdRow.holds Tryd.pinned (OpenSpec.ofChange fnExactPolyGcdWrong)

/- THE SECOND FORM. 'bulk': how many values and letters a reading holds, each counted each time it is reached (what is shared counts as often as it is met; a slice's spare places count too). A statement '..UptoSaid' is the law's where the arguments, and the package variables that the reading takes, are together of bulk at most 1048576: NARROWER than '..Said'. Prove '..Said' where nothing that the law and all that it calls make is longer than what came in: it says more and counts as full. Else prove '..UptoSaid'. A law counts once. -/
mutual
def uptoBulk {H : Type} : DataW H → Nat
  | .lit (.string bytes) => bytes.length + 1
  | .lit _ => 1
  | .nil => 1
  | .ptr d => uptoBulk d + 1
  | .slice elems spare => uptoBulkAll elems + uptoBulkAll spare + 1
  | .agg parts => uptoBulkAll parts + 1
  | .iface _ d => uptoBulk d + 1
  | .map entries => uptoBulkEntries entries + 1
  | .held _ => 1
def uptoBulkAll {H : Type} : List (DataW H) → Nat
  | [] => 0
  | d :: r => uptoBulk d + uptoBulkAll r
def uptoBulkEntries {H : Type} : List (Lit × DataW H) → Nat
  | [] => 0
  | x :: r => uptoBulkEntry x + uptoBulkEntries r
def uptoBulkEntry {H : Type} : Lit × DataW H → Nat
  | (.string bytes, d) => bytes.length + uptoBulk d + 1
  | (_, d) => uptoBulk d + 1
 end
def uptoSmall : (H : Type) → List (DataW H) → Bool := fun _ ds => decide (uptoBulkAll ds ≤ 1048576)
def OpenSpec.upto (s : _root_.Go.ChangeSpec) : _root_.Go.OpenSpec := { _root_.Go.OpenSpec.ofChange s with cond := some uptoSmall }

/-- 'laws.FnExactIsPoly', WHERE WHAT IT READS IS OF BULK AT MOST 1048576: true; the input reads as it did. -/
def fnExactIsPolyUptoRow : OpenClaim := { program := "ytbgofkalanigfaadoor", sum := "9be126bb300db913c645528087e96a805fb4769dc0497dd08dbcc2fa529376a5", func := "loop.example/g01073/laws.FnExactIsPoly", spec := "fnExactIsPoly", named := ["loop.example/g01073/impl.smallPrimes"], apart := false, laid := [("loop.example/g01073/impl.smallPrimes", laid_loop_example_g01073_impl_smallPrimes)], narrowed := true }
def FnExactIsPolyUptoSaid : Prop := fnExactIsPolyUptoRow.holds Tryd.pinned (OpenSpec.upto fnExactIsPolySpec)

/-- 'laws.FnExactPolyEval', WHERE WHAT IT READS IS OF BULK AT MOST 1048576: true; the input reads as it did. -/
def fnExactPolyEvalUptoRow : OpenClaim := { program := "ytbgofkalanigfaadoor", sum := "9be126bb300db913c645528087e96a805fb4769dc0497dd08dbcc2fa529376a5", func := "loop.example/g01073/laws.FnExactPolyEval", spec := "fnExactPolyEval", unfollowed := true, recurses := true, named := ["loop.example/g01073/impl.smallPrimes"], apart := false, laid := [("loop.example/g01073/impl.smallPrimes", laid_loop_example_g01073_impl_smallPrimes)], narrowed := true }
def FnExactPolyEvalUptoSaid : Prop := fnExactPolyEvalUptoRow.holds Tryd.pinned (OpenSpec.upto fnExactPolyEvalSpec)

/-- 'laws.FnExactPolyRoots', WHERE WHAT IT READS IS OF BULK AT MOST 1048576: true; the input reads as it did. -/
def fnExactPolyRootsUptoRow : OpenClaim := { program := "ytbgofkalanigfaadoor", sum := "9be126bb300db913c645528087e96a805fb4769dc0497dd08dbcc2fa529376a5", func := "loop.example/g01073/laws.FnExactPolyRoots", spec := "fnExactPolyRoots", unfollowed := true, recurses := true, named := ["loop.example/g01073/impl.smallPrimes"], apart := false, laid := [("loop.example/g01073/impl.smallPrimes", laid_loop_example_g01073_impl_smallPrimes)], narrowed := true }
def FnExactPolyRootsUptoSaid : Prop := fnExactPolyRootsUptoRow.holds Tryd.pinned (OpenSpec.upto fnExactPolyRootsSpec)

/-- 'laws.FnExactPolyAdd', WHERE WHAT IT READS IS OF BULK AT MOST 1048576: true; the input reads as it did. -/
def fnExactPolyAddUptoRow : OpenClaim := { program := "ytbgofkalanigfaadoor", sum := "9be126bb300db913c645528087e96a805fb4769dc0497dd08dbcc2fa529376a5", func := "loop.example/g01073/laws.FnExactPolyAdd", spec := "fnExactPolyAdd", named := ["loop.example/g01073/impl.smallPrimes"], apart := false, laid := [("loop.example/g01073/impl.smallPrimes", laid_loop_example_g01073_impl_smallPrimes)], narrowed := true }
def FnExactPolyAddUptoSaid : Prop := fnExactPolyAddUptoRow.holds Tryd.pinned (OpenSpec.upto fnExactPolyAddSpec)

/-- 'laws.FnExactPolyMul', WHERE WHAT IT READS IS OF BULK AT MOST 1048576: true; the input reads as it did. -/
def fnExactPolyMulUptoRow : OpenClaim := { program := "ytbgofkalanigfaadoor", sum := "9be126bb300db913c645528087e96a805fb4769dc0497dd08dbcc2fa529376a5", func := "loop.example/g01073/laws.FnExactPolyMul", spec := "fnExactPolyMul", named := ["loop.example/g01073/impl.smallPrimes"], apart := false, laid := [("loop.example/g01073/impl.smallPrimes", laid_loop_example_g01073_impl_smallPrimes)], narrowed := true }
def FnExactPolyMulUptoSaid : Prop := fnExactPolyMulUptoRow.holds Tryd.pinned (OpenSpec.upto fnExactPolyMulSpec)

/-- 'laws.FnExactPolyDivide', WHERE WHAT IT READS IS OF BULK AT MOST 1048576: true; the input reads as it did. -/
def fnExactPolyDivideUptoRow : OpenClaim := { program := "ytbgofkalanigfaadoor", sum := "9be126bb300db913c645528087e96a805fb4769dc0497dd08dbcc2fa529376a5", func := "loop.example/g01073/laws.FnExactPolyDivide", spec := "fnExactPolyDivide", named := ["loop.example/g01073/impl.smallPrimes"], apart := false, laid := [("loop.example/g01073/impl.smallPrimes", laid_loop_example_g01073_impl_smallPrimes)], narrowed := true }
def FnExactPolyDivideUptoSaid : Prop := fnExactPolyDivideUptoRow.holds Tryd.pinned (OpenSpec.upto fnExactPolyDivideSpec)

/-- 'laws.FnExactPolyGcd', WHERE WHAT IT READS IS OF BULK AT MOST 1048576: true; the input reads as it did. -/
def fnExactPolyGcdUptoRow : OpenClaim := { program := "ytbgofkalanigfaadoor", sum := "9be126bb300db913c645528087e96a805fb4769dc0497dd08dbcc2fa529376a5", func := "loop.example/g01073/laws.FnExactPolyGcd", spec := "fnExactPolyGcd", named := ["loop.example/g01073/impl.smallPrimes"], apart := false, laid := [("loop.example/g01073/impl.smallPrimes", laid_loop_example_g01073_impl_smallPrimes)], narrowed := true }
def FnExactPolyGcdUptoSaid : Prop := fnExactPolyGcdUptoRow.holds Tryd.pinned (OpenSpec.upto fnExactPolyGcdSpec)

end Rows
end Go.Proofs.YtbgofkalanigfaaDoor
