/-
  DERIVED. GIVEN WITH THE SEED: THE CARDS: each row of YtpfidjegdpkhdaaDoorRows.lean that lists a variable, with what it lists TIED to the program's text (the seventh form; the later family's looks); each row that meets fmt, with fmt's text TOLD by the authors' own Lean function (tested against real Go, not proved from fmt's source: count such statements apart). THE CARD IS WHAT COUNTS. Prove the row's statement (the work); the ties are given (YtpfidjegdpkhdaaDoorTie.lean); close each card by the builder's one call (the guide's Derived/Test/ToyasCard.lean, 'card_holds'). Laid BY PROGRAM, IN A SANDBOX (cutbox-door.mjs). By AI agents, Wed Nov 11 2026. No macro, syntax, notation, axiom, sorry.
-/
import Derived.Test.YtpfidjegdpkhdaaDoorRows
import GoSem.ClaimSeven
namespace Go.Proofs.YtpfidjegdpkhdaaDoor
namespace Rows

/-- THE TIED CARD OF 'laws.FnExactEliminateLast'. -/
def fnExactEliminateLastCard : Claim7 := { stood := { row := fnExactEliminateLastRow, standIns := [], harness := (true, "42c6f7b78e268010f932a7e8aee69681c977ad1541ca53c993ea6baed0b4da0c"), looks := false }, kinds := [], alts := [], laidByText := true, laidKinds := [.data], laidTests := true, laidLooks := .later }
def FnExactEliminateLastCardSaid : Prop := Claim7.holds Tryd.pinned (.plain (OpenSpec.ofChange fnExactEliminateLastSpec)) fnExactEliminateLastCard

/-- THE TIED CARD OF 'laws.FnExactMeetSystems'. -/
def fnExactMeetSystemsCard : Claim7 := { stood := { row := fnExactMeetSystemsRow, standIns := [], harness := (true, "42c6f7b78e268010f932a7e8aee69681c977ad1541ca53c993ea6baed0b4da0c"), looks := false }, kinds := [], alts := [], laidByText := true, laidKinds := [.data], laidTests := true, laidLooks := .later }
def FnExactMeetSystemsCardSaid : Prop := Claim7.holds Tryd.pinned (.plain (OpenSpec.ofChange fnExactMeetSystemsSpec)) fnExactMeetSystemsCard

/-- THE TIED CARD OF 'laws.FnExactComposeSystems'. -/
def fnExactComposeSystemsCard : Claim7 := { stood := { row := fnExactComposeSystemsRow, standIns := [], harness := (true, "42c6f7b78e268010f932a7e8aee69681c977ad1541ca53c993ea6baed0b4da0c"), looks := false }, kinds := [], alts := [], laidByText := true, laidKinds := [.data], laidTests := true, laidLooks := .later }
def FnExactComposeSystemsCardSaid : Prop := Claim7.holds Tryd.pinned (.plain (OpenSpec.ofChange fnExactComposeSystemsSpec)) fnExactComposeSystemsCard

/-- THE TIED CARD OF 'laws.FnExactHiddenValues'. -/
def fnExactHiddenValuesCard : Claim7 := { stood := { row := fnExactHiddenValuesRow, standIns := [], harness := (true, "42c6f7b78e268010f932a7e8aee69681c977ad1541ca53c993ea6baed0b4da0c"), looks := false }, kinds := [], alts := [], laidByText := true, laidKinds := [.data], laidTests := true, laidLooks := .later }
def FnExactHiddenValuesCardSaid : Prop := Claim7.holds Tryd.pinned (.plain (OpenSpec.ofChange fnExactHiddenValuesSpec)) fnExactHiddenValuesCard

/-- THE TIED CARD OF 'laws.FnExactRangeOf'. -/
def fnExactRangeOfCard : Claim7 := { stood := { row := fnExactRangeOfRow, standIns := [], harness := (true, "42c6f7b78e268010f932a7e8aee69681c977ad1541ca53c993ea6baed0b4da0c"), looks := false }, kinds := [], alts := [], laidByText := true, laidKinds := [.data], laidTests := true, laidLooks := .later }
def FnExactRangeOfCardSaid : Prop := Claim7.holds Tryd.pinned (.plain (OpenSpec.ofChange fnExactRangeOfSpec)) fnExactRangeOfCard

/-- THE TIED CARD OF 'laws.FnExactDomainOf'. -/
def fnExactDomainOfCard : Claim7 := { stood := { row := fnExactDomainOfRow, standIns := [], harness := (true, "42c6f7b78e268010f932a7e8aee69681c977ad1541ca53c993ea6baed0b4da0c"), looks := false }, kinds := [], alts := [], laidByText := true, laidKinds := [.data], laidTests := true, laidLooks := .later }
def FnExactDomainOfCardSaid : Prop := Claim7.holds Tryd.pinned (.plain (OpenSpec.ofChange fnExactDomainOfSpec)) fnExactDomainOfCard

/-- THE TIED CARD OF 'laws.FnExactIsTotal'. -/
def fnExactIsTotalCard : Claim7 := { stood := { row := fnExactIsTotalRow, standIns := [], harness := (true, "42c6f7b78e268010f932a7e8aee69681c977ad1541ca53c993ea6baed0b4da0c"), looks := false }, kinds := [], alts := [], laidByText := true, laidKinds := [.data], laidTests := true, laidLooks := .later }
def FnExactIsTotalCardSaid : Prop := Claim7.holds Tryd.pinned (.plain (OpenSpec.ofChange fnExactIsTotalSpec)) fnExactIsTotalCard

/-- THE TIED CARD OF 'laws.FnExactIsSingleValued'. -/
def fnExactIsSingleValuedCard : Claim7 := { stood := { row := fnExactIsSingleValuedRow, standIns := [], harness := (true, "42c6f7b78e268010f932a7e8aee69681c977ad1541ca53c993ea6baed0b4da0c"), looks := false }, kinds := [], alts := [], laidByText := true, laidKinds := [.data], laidTests := true, laidLooks := .later }
def FnExactIsSingleValuedCardSaid : Prop := Claim7.holds Tryd.pinned (.plain (OpenSpec.ofChange fnExactIsSingleValuedSpec)) fnExactIsSingleValuedCard

/-- THE TIED CARD OF 'laws.FnExactConverseRelation'. -/
def fnExactConverseRelationCard : Claim7 := { stood := { row := fnExactConverseRelationRow, standIns := [], harness := (true, "42c6f7b78e268010f932a7e8aee69681c977ad1541ca53c993ea6baed0b4da0c"), looks := false }, kinds := [], alts := [], laidByText := true, laidKinds := [.data], laidTests := true, laidLooks := .later }
def FnExactConverseRelationCardSaid : Prop := Claim7.holds Tryd.pinned (.plain (OpenSpec.ofChange fnExactConverseRelationSpec)) fnExactConverseRelationCard

/-- THE TIED CARD OF 'laws.FnExactTensorRelations'. -/
def fnExactTensorRelationsCard : Claim7 := { stood := { row := fnExactTensorRelationsRow, standIns := [], harness := (true, "42c6f7b78e268010f932a7e8aee69681c977ad1541ca53c993ea6baed0b4da0c"), looks := false }, kinds := [], alts := [], laidByText := true, laidKinds := [.data], laidTests := true, laidLooks := .later }
def FnExactTensorRelationsCardSaid : Prop := Claim7.holds Tryd.pinned (.plain (OpenSpec.ofChange fnExactTensorRelationsSpec)) fnExactTensorRelationsCard

/-- THE TIED CARD OF 'laws.FnExactFunctionOf'. -/
def fnExactFunctionOfCard : Claim7 := { stood := { row := fnExactFunctionOfRow, standIns := [], harness := (true, "42c6f7b78e268010f932a7e8aee69681c977ad1541ca53c993ea6baed0b4da0c"), looks := false }, kinds := [], alts := [], laidByText := true, laidKinds := [.data], laidTests := true, laidLooks := .later }
def FnExactFunctionOfCardSaid : Prop := Claim7.holds Tryd.pinned (.plain (OpenSpec.ofChange fnExactFunctionOfSpec)) fnExactFunctionOfCard

/-- THE TIED CARD OF 'laws.FnExactOrthogonalRelation'. -/
def fnExactOrthogonalRelationCard : Claim7 := { stood := { row := fnExactOrthogonalRelationRow, standIns := [], harness := (true, "42c6f7b78e268010f932a7e8aee69681c977ad1541ca53c993ea6baed0b4da0c"), looks := false }, kinds := [], alts := [], laidByText := true, laidKinds := [.data], laidTests := true, laidLooks := .later }
def FnExactOrthogonalRelationCardSaid : Prop := Claim7.holds Tryd.pinned (.plain (OpenSpec.ofChange fnExactOrthogonalRelationSpec)) fnExactOrthogonalRelationCard

/-- THE SECOND FORM's CARD OF 'laws.FnExactEliminateLast'. -/
def fnExactEliminateLastUptoCard : Claim7 := { stood := { row := fnExactEliminateLastUptoRow, standIns := [], harness := (true, "42c6f7b78e268010f932a7e8aee69681c977ad1541ca53c993ea6baed0b4da0c"), looks := false }, kinds := [], alts := [], laidByText := true, laidKinds := [.data], laidTests := true, laidLooks := .later }
def FnExactEliminateLastUptoCardSaid : Prop := Claim7.holds Tryd.pinned (.plain (OpenSpec.upto fnExactEliminateLastSpec)) fnExactEliminateLastUptoCard

/-- THE SECOND FORM's CARD OF 'laws.FnExactMeetSystems'. -/
def fnExactMeetSystemsUptoCard : Claim7 := { stood := { row := fnExactMeetSystemsUptoRow, standIns := [], harness := (true, "42c6f7b78e268010f932a7e8aee69681c977ad1541ca53c993ea6baed0b4da0c"), looks := false }, kinds := [], alts := [], laidByText := true, laidKinds := [.data], laidTests := true, laidLooks := .later }
def FnExactMeetSystemsUptoCardSaid : Prop := Claim7.holds Tryd.pinned (.plain (OpenSpec.upto fnExactMeetSystemsSpec)) fnExactMeetSystemsUptoCard

/-- THE SECOND FORM's CARD OF 'laws.FnExactComposeSystems'. -/
def fnExactComposeSystemsUptoCard : Claim7 := { stood := { row := fnExactComposeSystemsUptoRow, standIns := [], harness := (true, "42c6f7b78e268010f932a7e8aee69681c977ad1541ca53c993ea6baed0b4da0c"), looks := false }, kinds := [], alts := [], laidByText := true, laidKinds := [.data], laidTests := true, laidLooks := .later }
def FnExactComposeSystemsUptoCardSaid : Prop := Claim7.holds Tryd.pinned (.plain (OpenSpec.upto fnExactComposeSystemsSpec)) fnExactComposeSystemsUptoCard

/-- THE SECOND FORM's CARD OF 'laws.FnExactHiddenValues'. -/
def fnExactHiddenValuesUptoCard : Claim7 := { stood := { row := fnExactHiddenValuesUptoRow, standIns := [], harness := (true, "42c6f7b78e268010f932a7e8aee69681c977ad1541ca53c993ea6baed0b4da0c"), looks := false }, kinds := [], alts := [], laidByText := true, laidKinds := [.data], laidTests := true, laidLooks := .later }
def FnExactHiddenValuesUptoCardSaid : Prop := Claim7.holds Tryd.pinned (.plain (OpenSpec.upto fnExactHiddenValuesSpec)) fnExactHiddenValuesUptoCard

/-- THE SECOND FORM's CARD OF 'laws.FnExactRangeOf'. -/
def fnExactRangeOfUptoCard : Claim7 := { stood := { row := fnExactRangeOfUptoRow, standIns := [], harness := (true, "42c6f7b78e268010f932a7e8aee69681c977ad1541ca53c993ea6baed0b4da0c"), looks := false }, kinds := [], alts := [], laidByText := true, laidKinds := [.data], laidTests := true, laidLooks := .later }
def FnExactRangeOfUptoCardSaid : Prop := Claim7.holds Tryd.pinned (.plain (OpenSpec.upto fnExactRangeOfSpec)) fnExactRangeOfUptoCard

/-- THE SECOND FORM's CARD OF 'laws.FnExactDomainOf'. -/
def fnExactDomainOfUptoCard : Claim7 := { stood := { row := fnExactDomainOfUptoRow, standIns := [], harness := (true, "42c6f7b78e268010f932a7e8aee69681c977ad1541ca53c993ea6baed0b4da0c"), looks := false }, kinds := [], alts := [], laidByText := true, laidKinds := [.data], laidTests := true, laidLooks := .later }
def FnExactDomainOfUptoCardSaid : Prop := Claim7.holds Tryd.pinned (.plain (OpenSpec.upto fnExactDomainOfSpec)) fnExactDomainOfUptoCard

/-- THE SECOND FORM's CARD OF 'laws.FnExactIsTotal'. -/
def fnExactIsTotalUptoCard : Claim7 := { stood := { row := fnExactIsTotalUptoRow, standIns := [], harness := (true, "42c6f7b78e268010f932a7e8aee69681c977ad1541ca53c993ea6baed0b4da0c"), looks := false }, kinds := [], alts := [], laidByText := true, laidKinds := [.data], laidTests := true, laidLooks := .later }
def FnExactIsTotalUptoCardSaid : Prop := Claim7.holds Tryd.pinned (.plain (OpenSpec.upto fnExactIsTotalSpec)) fnExactIsTotalUptoCard

/-- THE SECOND FORM's CARD OF 'laws.FnExactIsSingleValued'. -/
def fnExactIsSingleValuedUptoCard : Claim7 := { stood := { row := fnExactIsSingleValuedUptoRow, standIns := [], harness := (true, "42c6f7b78e268010f932a7e8aee69681c977ad1541ca53c993ea6baed0b4da0c"), looks := false }, kinds := [], alts := [], laidByText := true, laidKinds := [.data], laidTests := true, laidLooks := .later }
def FnExactIsSingleValuedUptoCardSaid : Prop := Claim7.holds Tryd.pinned (.plain (OpenSpec.upto fnExactIsSingleValuedSpec)) fnExactIsSingleValuedUptoCard

/-- THE SECOND FORM's CARD OF 'laws.FnExactConverseRelation'. -/
def fnExactConverseRelationUptoCard : Claim7 := { stood := { row := fnExactConverseRelationUptoRow, standIns := [], harness := (true, "42c6f7b78e268010f932a7e8aee69681c977ad1541ca53c993ea6baed0b4da0c"), looks := false }, kinds := [], alts := [], laidByText := true, laidKinds := [.data], laidTests := true, laidLooks := .later }
def FnExactConverseRelationUptoCardSaid : Prop := Claim7.holds Tryd.pinned (.plain (OpenSpec.upto fnExactConverseRelationSpec)) fnExactConverseRelationUptoCard

/-- THE SECOND FORM's CARD OF 'laws.FnExactTensorRelations'. -/
def fnExactTensorRelationsUptoCard : Claim7 := { stood := { row := fnExactTensorRelationsUptoRow, standIns := [], harness := (true, "42c6f7b78e268010f932a7e8aee69681c977ad1541ca53c993ea6baed0b4da0c"), looks := false }, kinds := [], alts := [], laidByText := true, laidKinds := [.data], laidTests := true, laidLooks := .later }
def FnExactTensorRelationsUptoCardSaid : Prop := Claim7.holds Tryd.pinned (.plain (OpenSpec.upto fnExactTensorRelationsSpec)) fnExactTensorRelationsUptoCard

/-- THE SECOND FORM's CARD OF 'laws.FnExactFunctionOf'. -/
def fnExactFunctionOfUptoCard : Claim7 := { stood := { row := fnExactFunctionOfUptoRow, standIns := [], harness := (true, "42c6f7b78e268010f932a7e8aee69681c977ad1541ca53c993ea6baed0b4da0c"), looks := false }, kinds := [], alts := [], laidByText := true, laidKinds := [.data], laidTests := true, laidLooks := .later }
def FnExactFunctionOfUptoCardSaid : Prop := Claim7.holds Tryd.pinned (.plain (OpenSpec.upto fnExactFunctionOfSpec)) fnExactFunctionOfUptoCard

/-- THE SECOND FORM's CARD OF 'laws.FnExactOrthogonalRelation'. -/
def fnExactOrthogonalRelationUptoCard : Claim7 := { stood := { row := fnExactOrthogonalRelationUptoRow, standIns := [], harness := (true, "42c6f7b78e268010f932a7e8aee69681c977ad1541ca53c993ea6baed0b4da0c"), looks := false }, kinds := [], alts := [], laidByText := true, laidKinds := [.data], laidTests := true, laidLooks := .later }
def FnExactOrthogonalRelationUptoCardSaid : Prop := Claim7.holds Tryd.pinned (.plain (OpenSpec.upto fnExactOrthogonalRelationSpec)) fnExactOrthogonalRelationUptoCard
end Rows
end Go.Proofs.YtpfidjegdpkhdaaDoor
