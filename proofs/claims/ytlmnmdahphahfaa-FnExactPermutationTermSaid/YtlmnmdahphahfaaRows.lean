/-
  No cell of these rows narrows 'for every input' (looked for: loops, veiled, ifaces, maps, wideKeys, modest, calm, conditions, laid).
  DERIVED. THE GIVEN ROWS OF THIS SEAT. 10 by the template 'for every input the law returns true; each argument reads behind the call as it read before'; 0 by the template 'total and deterministic' (their statements: YtlmnmdahphahfaaTotals.lean).
  GIVEN WITH THE SEED: the statements are not yours to turn. If you find one false, say at which input.
  Laid BY PROGRAM, IN A SANDBOX (cutbox-rows.mjs): the forced cells as the released guide's own fill.sh prints them over the translation 0ac4ef68bd59713c… (all of the seat's roots in one cut). By AI agents, Wed Nov 11 2026. No macro, syntax, notation, axiom, sorry.
-/
import Derived.Test.YtlmnmdahphahfaaChecked
import GoSem.Claim
import GoSem.ClaimJoined
import GoSem.ClaimMapViews
import Derived.JoinedTies
import Derived.KernelRfl
namespace Go.Proofs.Ytlmnmdahphahfaa
/- THE CELL 'sum', in the pinned program and in every row, IS THE sha256 OF THE DUMP (.gsa) THAT YtlmnmdahphahfaaProg.lean LOADS. Nothing in Lean hashes anything: it is a label: what it is worth is what the hold of that sum in a sandbox is worth. -/
noncomputable def Try.pinned : Pinned := { name := "ytlmnmdahphahfaa", sum := "0ac4ef68bd59713c2f387a293d09b1db46279424620942d86fcfcb3a516d0ae4", checked := Try.checked }
namespace Rows
def none {H : Type} : Left H := { results := [], args := [] }

/-- 'laws.FnExactTypeOf': WHATEVER THE INPUT: true; the input reads as it did. -/
def fnExactTypeOfSpec : ChangeSpec := { name := "fnExactTypeOf", fn := fun _ => fun
  | [d] => { results := [.lit (.bool true)], args := [d] }
  | _ => none }
def fnExactTypeOfRow : OpenClaim := { program := "ytlmnmdahphahfaa", sum := "0ac4ef68bd59713c2f387a293d09b1db46279424620942d86fcfcb3a516d0ae4", func := "loop.example/g01073/laws.FnExactTypeOf", spec := "fnExactTypeOf", unfollowed := true, recurses := true, apart := false }
def FnExactTypeOfSaid : Prop := fnExactTypeOfRow.holds Try.pinned (OpenSpec.ofChange fnExactTypeOfSpec)

/-- ITS FALSE NEIGHBOUR: 'it returns false'. Refute it at one input. -/
def fnExactTypeOfWrong : ChangeSpec := { name := "fnExactTypeOf", fn := fun _ => fun
  | [d] => { results := [.lit (.bool false)], args := [d] }
  | _ => none }
def FnExactTypeOfWrongFalsely : Prop := fnExactTypeOfRow.holds Try.pinned (OpenSpec.ofChange fnExactTypeOfWrong)

/-- 'laws.FnExactWidthOf': WHATEVER THE INPUT: true; the input reads as it did. -/
def fnExactWidthOfSpec : ChangeSpec := { name := "fnExactWidthOf", fn := fun _ => fun
  | [d] => { results := [.lit (.bool true)], args := [d] }
  | _ => none }
def fnExactWidthOfRow : OpenClaim := { program := "ytlmnmdahphahfaa", sum := "0ac4ef68bd59713c2f387a293d09b1db46279424620942d86fcfcb3a516d0ae4", func := "loop.example/g01073/laws.FnExactWidthOf", spec := "fnExactWidthOf", unfollowed := true, recurses := true, apart := false }
def FnExactWidthOfSaid : Prop := fnExactWidthOfRow.holds Try.pinned (OpenSpec.ofChange fnExactWidthOfSpec)

/-- ITS FALSE NEIGHBOUR: 'it returns false'. Refute it at one input. -/
def fnExactWidthOfWrong : ChangeSpec := { name := "fnExactWidthOf", fn := fun _ => fun
  | [d] => { results := [.lit (.bool false)], args := [d] }
  | _ => none }
def FnExactWidthOfWrongFalsely : Prop := fnExactWidthOfRow.holds Try.pinned (OpenSpec.ofChange fnExactWidthOfWrong)

/-- 'laws.FnExactCountKinds': WHATEVER THE INPUT: true; the input reads as it did. -/
def fnExactCountKindsSpec : ChangeSpec := { name := "fnExactCountKinds", fn := fun _ => fun
  | [d] => { results := [.lit (.bool true)], args := [d] }
  | _ => none }
def fnExactCountKindsRow : OpenClaim := { program := "ytlmnmdahphahfaa", sum := "0ac4ef68bd59713c2f387a293d09b1db46279424620942d86fcfcb3a516d0ae4", func := "loop.example/g01073/laws.FnExactCountKinds", spec := "fnExactCountKinds", unfollowed := true, recurses := true, apart := false }
def FnExactCountKindsSaid : Prop := fnExactCountKindsRow.holds Try.pinned (OpenSpec.ofChange fnExactCountKindsSpec)

/-- ITS FALSE NEIGHBOUR: 'it returns false'. Refute it at one input. -/
def fnExactCountKindsWrong : ChangeSpec := { name := "fnExactCountKinds", fn := fun _ => fun
  | [d] => { results := [.lit (.bool false)], args := [d] }
  | _ => none }
def FnExactCountKindsWrongFalsely : Prop := fnExactCountKindsRow.holds Try.pinned (OpenSpec.ofChange fnExactCountKindsWrong)

/-- 'laws.FnExactSubtermAt': WHATEVER THE INPUT: true; the input reads as it did. -/
def fnExactSubtermAtSpec : ChangeSpec := { name := "fnExactSubtermAt", fn := fun _ => fun
  | [d1, d2] => { results := [.lit (.bool true)], args := [d1, d2] }
  | _ => none }
def fnExactSubtermAtRow : OpenClaim := { program := "ytlmnmdahphahfaa", sum := "0ac4ef68bd59713c2f387a293d09b1db46279424620942d86fcfcb3a516d0ae4", func := "loop.example/g01073/laws.FnExactSubtermAt", spec := "fnExactSubtermAt", unfollowed := true, recurses := true, apart := false }
def FnExactSubtermAtSaid : Prop := fnExactSubtermAtRow.holds Try.pinned (OpenSpec.ofChange fnExactSubtermAtSpec)

/-- ITS FALSE NEIGHBOUR: 'it returns false'. Refute it at one input. -/
def fnExactSubtermAtWrong : ChangeSpec := { name := "fnExactSubtermAt", fn := fun _ => fun
  | [d1, d2] => { results := [.lit (.bool false)], args := [d1, d2] }
  | _ => none }
def FnExactSubtermAtWrongFalsely : Prop := fnExactSubtermAtRow.holds Try.pinned (OpenSpec.ofChange fnExactSubtermAtWrong)

/-- 'laws.FnExactParTerm': WHATEVER THE INPUT: true; the input reads as it did. -/
def fnExactParTermSpec : ChangeSpec := { name := "fnExactParTerm", fn := fun _ => fun
  | [d1, d2] => { results := [.lit (.bool true)], args := [d1, d2] }
  | _ => none }
def fnExactParTermRow : OpenClaim := { program := "ytlmnmdahphahfaa", sum := "0ac4ef68bd59713c2f387a293d09b1db46279424620942d86fcfcb3a516d0ae4", func := "loop.example/g01073/laws.FnExactParTerm", spec := "fnExactParTerm", unfollowed := true, recurses := true, apart := false }
def FnExactParTermSaid : Prop := fnExactParTermRow.holds Try.pinned (OpenSpec.ofChange fnExactParTermSpec)

/-- ITS FALSE NEIGHBOUR: 'it returns false'. Refute it at one input. -/
def fnExactParTermWrong : ChangeSpec := { name := "fnExactParTerm", fn := fun _ => fun
  | [d1, d2] => { results := [.lit (.bool false)], args := [d1, d2] }
  | _ => none }
def FnExactParTermWrongFalsely : Prop := fnExactParTermRow.holds Try.pinned (OpenSpec.ofChange fnExactParTermWrong)

/-- 'laws.FnExactSeqTerm': WHATEVER THE INPUT: true; the input reads as it did. -/
def fnExactSeqTermSpec : ChangeSpec := { name := "fnExactSeqTerm", fn := fun _ => fun
  | [d1, d2] => { results := [.lit (.bool true)], args := [d1, d2] }
  | _ => none }
def fnExactSeqTermRow : OpenClaim := { program := "ytlmnmdahphahfaa", sum := "0ac4ef68bd59713c2f387a293d09b1db46279424620942d86fcfcb3a516d0ae4", func := "loop.example/g01073/laws.FnExactSeqTerm", spec := "fnExactSeqTerm", unfollowed := true, recurses := true, apart := false }
def FnExactSeqTermSaid : Prop := fnExactSeqTermRow.holds Try.pinned (OpenSpec.ofChange fnExactSeqTermSpec)

/-- ITS FALSE NEIGHBOUR: 'it returns false'. Refute it at one input. -/
def fnExactSeqTermWrong : ChangeSpec := { name := "fnExactSeqTerm", fn := fun _ => fun
  | [d1, d2] => { results := [.lit (.bool false)], args := [d1, d2] }
  | _ => none }
def FnExactSeqTermWrongFalsely : Prop := fnExactSeqTermRow.holds Try.pinned (OpenSpec.ofChange fnExactSeqTermWrong)

/-- 'laws.FnExactReplaceAt': WHATEVER THE INPUT: true; the input reads as it did. -/
def fnExactReplaceAtSpec : ChangeSpec := { name := "fnExactReplaceAt", fn := fun _ => fun
  | [d1, d2, d3] => { results := [.lit (.bool true)], args := [d1, d2, d3] }
  | _ => none }
def fnExactReplaceAtRow : OpenClaim := { program := "ytlmnmdahphahfaa", sum := "0ac4ef68bd59713c2f387a293d09b1db46279424620942d86fcfcb3a516d0ae4", func := "loop.example/g01073/laws.FnExactReplaceAt", spec := "fnExactReplaceAt", unfollowed := true, recurses := true, apart := false }
def FnExactReplaceAtSaid : Prop := fnExactReplaceAtRow.holds Try.pinned (OpenSpec.ofChange fnExactReplaceAtSpec)

/-- ITS FALSE NEIGHBOUR: 'it returns false'. Refute it at one input. -/
def fnExactReplaceAtWrong : ChangeSpec := { name := "fnExactReplaceAt", fn := fun _ => fun
  | [d1, d2, d3] => { results := [.lit (.bool false)], args := [d1, d2, d3] }
  | _ => none }
def FnExactReplaceAtWrongFalsely : Prop := fnExactReplaceAtRow.holds Try.pinned (OpenSpec.ofChange fnExactReplaceAtWrong)

/-- 'laws.FnExactMirrorTerm': WHATEVER THE INPUT: true; the input reads as it did. -/
def fnExactMirrorTermSpec : ChangeSpec := { name := "fnExactMirrorTerm", fn := fun _ => fun
  | [d] => { results := [.lit (.bool true)], args := [d] }
  | _ => none }
def fnExactMirrorTermRow : OpenClaim := { program := "ytlmnmdahphahfaa", sum := "0ac4ef68bd59713c2f387a293d09b1db46279424620942d86fcfcb3a516d0ae4", func := "loop.example/g01073/laws.FnExactMirrorTerm", spec := "fnExactMirrorTerm", unfollowed := true, recurses := true, apart := false }
def FnExactMirrorTermSaid : Prop := fnExactMirrorTermRow.holds Try.pinned (OpenSpec.ofChange fnExactMirrorTermSpec)

/-- ITS FALSE NEIGHBOUR: 'it returns false'. Refute it at one input. -/
def fnExactMirrorTermWrong : ChangeSpec := { name := "fnExactMirrorTerm", fn := fun _ => fun
  | [d] => { results := [.lit (.bool false)], args := [d] }
  | _ => none }
def FnExactMirrorTermWrongFalsely : Prop := fnExactMirrorTermRow.holds Try.pinned (OpenSpec.ofChange fnExactMirrorTermWrong)

/-- 'laws.FnExactPermutationTerm': WHATEVER THE INPUT: true; the input reads as it did. -/
def fnExactPermutationTermSpec : ChangeSpec := { name := "fnExactPermutationTerm", fn := fun _ => fun
  | [d] => { results := [.lit (.bool true)], args := [d] }
  | _ => none }
def fnExactPermutationTermRow : OpenClaim := { program := "ytlmnmdahphahfaa", sum := "0ac4ef68bd59713c2f387a293d09b1db46279424620942d86fcfcb3a516d0ae4", func := "loop.example/g01073/laws.FnExactPermutationTerm", spec := "fnExactPermutationTerm", unfollowed := true, recurses := true, apart := false }
def FnExactPermutationTermSaid : Prop := fnExactPermutationTermRow.holds Try.pinned (OpenSpec.ofChange fnExactPermutationTermSpec)

/-- ITS FALSE NEIGHBOUR: 'it returns false'. Refute it at one input. -/
def fnExactPermutationTermWrong : ChangeSpec := { name := "fnExactPermutationTerm", fn := fun _ => fun
  | [d] => { results := [.lit (.bool false)], args := [d] }
  | _ => none }
def FnExactPermutationTermWrongFalsely : Prop := fnExactPermutationTermRow.holds Try.pinned (OpenSpec.ofChange fnExactPermutationTermWrong)

/-- 'laws.FnExactTidyTerm': WHATEVER THE INPUT: true; the input reads as it did. -/
def fnExactTidyTermSpec : ChangeSpec := { name := "fnExactTidyTerm", fn := fun _ => fun
  | [d] => { results := [.lit (.bool true)], args := [d] }
  | _ => none }
def fnExactTidyTermRow : OpenClaim := { program := "ytlmnmdahphahfaa", sum := "0ac4ef68bd59713c2f387a293d09b1db46279424620942d86fcfcb3a516d0ae4", func := "loop.example/g01073/laws.FnExactTidyTerm", spec := "fnExactTidyTerm", unfollowed := true, recurses := true, apart := false }
def FnExactTidyTermSaid : Prop := fnExactTidyTermRow.holds Try.pinned (OpenSpec.ofChange fnExactTidyTermSpec)

/-- ITS FALSE NEIGHBOUR: 'it returns false'. Refute it at one input. -/
def fnExactTidyTermWrong : ChangeSpec := { name := "fnExactTidyTerm", fn := fun _ => fun
  | [d] => { results := [.lit (.bool false)], args := [d] }
  | _ => none }
def FnExactTidyTermWrongFalsely : Prop := fnExactTidyTermRow.holds Try.pinned (OpenSpec.ofChange fnExactTidyTermWrong)

/- THE SECOND FORM. 'bulk': how many values and letters a reading holds, each counted each time it is reached (what is shared counts as often as it is met; a slice's spare places count too). A statement '..UptoSaid' is the law's where the arguments, and the package variables that the reading takes, are together of bulk at most 1048576: NARROWER than '..Said'. Prove '..Said' where nothing that the law and all that it calls make is longer than what came in: it says more and counts as full. Else prove '..UptoSaid'. A law counts once. -/
mutual
def uptoBulk {H : Type} : DataW H → Nat
  | .lit (.string bytes) => bytes.length + 1
  | .lit _ => 1
  | .nil => 1
  | .ptr d => uptoBulk d + 1
  | .slice elems spare => uptoBulkAll elems + uptoBulkAll spare + 1
  | .agg parts => uptoBulkAll parts + 1
  | .iface _ d => uptoBulk d + 1
  | .map entries => uptoBulkEntries entries + 1
  | .held _ => 1
def uptoBulkAll {H : Type} : List (DataW H) → Nat
  | [] => 0
  | d :: r => uptoBulk d + uptoBulkAll r
def uptoBulkEntries {H : Type} : List (Lit × DataW H) → Nat
  | [] => 0
  | x :: r => uptoBulkEntry x + uptoBulkEntries r
def uptoBulkEntry {H : Type} : Lit × DataW H → Nat
  | (.string bytes, d) => bytes.length + uptoBulk d + 1
  | (_, d) => uptoBulk d + 1
 end
def uptoSmall : (H : Type) → List (DataW H) → Bool := fun _ ds => decide (uptoBulkAll ds ≤ 1048576)
def OpenSpec.upto (s : _root_.Go.ChangeSpec) : _root_.Go.OpenSpec := { _root_.Go.OpenSpec.ofChange s with cond := some uptoSmall }

/-- 'laws.FnExactTypeOf', WHERE WHAT IT READS IS OF BULK AT MOST 1048576: true; the input reads as it did. -/
def fnExactTypeOfUptoRow : OpenClaim := { program := "ytlmnmdahphahfaa", sum := "0ac4ef68bd59713c2f387a293d09b1db46279424620942d86fcfcb3a516d0ae4", func := "loop.example/g01073/laws.FnExactTypeOf", spec := "fnExactTypeOf", unfollowed := true, recurses := true, apart := false, narrowed := true }
def FnExactTypeOfUptoSaid : Prop := fnExactTypeOfUptoRow.holds Try.pinned (OpenSpec.upto fnExactTypeOfSpec)

/-- 'laws.FnExactWidthOf', WHERE WHAT IT READS IS OF BULK AT MOST 1048576: true; the input reads as it did. -/
def fnExactWidthOfUptoRow : OpenClaim := { program := "ytlmnmdahphahfaa", sum := "0ac4ef68bd59713c2f387a293d09b1db46279424620942d86fcfcb3a516d0ae4", func := "loop.example/g01073/laws.FnExactWidthOf", spec := "fnExactWidthOf", unfollowed := true, recurses := true, apart := false, narrowed := true }
def FnExactWidthOfUptoSaid : Prop := fnExactWidthOfUptoRow.holds Try.pinned (OpenSpec.upto fnExactWidthOfSpec)

/-- 'laws.FnExactCountKinds', WHERE WHAT IT READS IS OF BULK AT MOST 1048576: true; the input reads as it did. -/
def fnExactCountKindsUptoRow : OpenClaim := { program := "ytlmnmdahphahfaa", sum := "0ac4ef68bd59713c2f387a293d09b1db46279424620942d86fcfcb3a516d0ae4", func := "loop.example/g01073/laws.FnExactCountKinds", spec := "fnExactCountKinds", unfollowed := true, recurses := true, apart := false, narrowed := true }
def FnExactCountKindsUptoSaid : Prop := fnExactCountKindsUptoRow.holds Try.pinned (OpenSpec.upto fnExactCountKindsSpec)

/-- 'laws.FnExactSubtermAt', WHERE WHAT IT READS IS OF BULK AT MOST 1048576: true; the input reads as it did. -/
def fnExactSubtermAtUptoRow : OpenClaim := { program := "ytlmnmdahphahfaa", sum := "0ac4ef68bd59713c2f387a293d09b1db46279424620942d86fcfcb3a516d0ae4", func := "loop.example/g01073/laws.FnExactSubtermAt", spec := "fnExactSubtermAt", unfollowed := true, recurses := true, apart := false, narrowed := true }
def FnExactSubtermAtUptoSaid : Prop := fnExactSubtermAtUptoRow.holds Try.pinned (OpenSpec.upto fnExactSubtermAtSpec)

/-- 'laws.FnExactParTerm', WHERE WHAT IT READS IS OF BULK AT MOST 1048576: true; the input reads as it did. -/
def fnExactParTermUptoRow : OpenClaim := { program := "ytlmnmdahphahfaa", sum := "0ac4ef68bd59713c2f387a293d09b1db46279424620942d86fcfcb3a516d0ae4", func := "loop.example/g01073/laws.FnExactParTerm", spec := "fnExactParTerm", unfollowed := true, recurses := true, apart := false, narrowed := true }
def FnExactParTermUptoSaid : Prop := fnExactParTermUptoRow.holds Try.pinned (OpenSpec.upto fnExactParTermSpec)

/-- 'laws.FnExactSeqTerm', WHERE WHAT IT READS IS OF BULK AT MOST 1048576: true; the input reads as it did. -/
def fnExactSeqTermUptoRow : OpenClaim := { program := "ytlmnmdahphahfaa", sum := "0ac4ef68bd59713c2f387a293d09b1db46279424620942d86fcfcb3a516d0ae4", func := "loop.example/g01073/laws.FnExactSeqTerm", spec := "fnExactSeqTerm", unfollowed := true, recurses := true, apart := false, narrowed := true }
def FnExactSeqTermUptoSaid : Prop := fnExactSeqTermUptoRow.holds Try.pinned (OpenSpec.upto fnExactSeqTermSpec)

/-- 'laws.FnExactReplaceAt', WHERE WHAT IT READS IS OF BULK AT MOST 1048576: true; the input reads as it did. -/
def fnExactReplaceAtUptoRow : OpenClaim := { program := "ytlmnmdahphahfaa", sum := "0ac4ef68bd59713c2f387a293d09b1db46279424620942d86fcfcb3a516d0ae4", func := "loop.example/g01073/laws.FnExactReplaceAt", spec := "fnExactReplaceAt", unfollowed := true, recurses := true, apart := false, narrowed := true }
def FnExactReplaceAtUptoSaid : Prop := fnExactReplaceAtUptoRow.holds Try.pinned (OpenSpec.upto fnExactReplaceAtSpec)

/-- 'laws.FnExactMirrorTerm', WHERE WHAT IT READS IS OF BULK AT MOST 1048576: true; the input reads as it did. -/
def fnExactMirrorTermUptoRow : OpenClaim := { program := "ytlmnmdahphahfaa", sum := "0ac4ef68bd59713c2f387a293d09b1db46279424620942d86fcfcb3a516d0ae4", func := "loop.example/g01073/laws.FnExactMirrorTerm", spec := "fnExactMirrorTerm", unfollowed := true, recurses := true, apart := false, narrowed := true }
def FnExactMirrorTermUptoSaid : Prop := fnExactMirrorTermUptoRow.holds Try.pinned (OpenSpec.upto fnExactMirrorTermSpec)

/-- 'laws.FnExactPermutationTerm', WHERE WHAT IT READS IS OF BULK AT MOST 1048576: true; the input reads as it did. -/
def fnExactPermutationTermUptoRow : OpenClaim := { program := "ytlmnmdahphahfaa", sum := "0ac4ef68bd59713c2f387a293d09b1db46279424620942d86fcfcb3a516d0ae4", func := "loop.example/g01073/laws.FnExactPermutationTerm", spec := "fnExactPermutationTerm", unfollowed := true, recurses := true, apart := false, narrowed := true }
def FnExactPermutationTermUptoSaid : Prop := fnExactPermutationTermUptoRow.holds Try.pinned (OpenSpec.upto fnExactPermutationTermSpec)

/-- 'laws.FnExactTidyTerm', WHERE WHAT IT READS IS OF BULK AT MOST 1048576: true; the input reads as it did. -/
def fnExactTidyTermUptoRow : OpenClaim := { program := "ytlmnmdahphahfaa", sum := "0ac4ef68bd59713c2f387a293d09b1db46279424620942d86fcfcb3a516d0ae4", func := "loop.example/g01073/laws.FnExactTidyTerm", spec := "fnExactTidyTerm", unfollowed := true, recurses := true, apart := false, narrowed := true }
def FnExactTidyTermUptoSaid : Prop := fnExactTidyTermUptoRow.holds Try.pinned (OpenSpec.upto fnExactTidyTermSpec)

end Rows
end Go.Proofs.Ytlmnmdahphahfaa
