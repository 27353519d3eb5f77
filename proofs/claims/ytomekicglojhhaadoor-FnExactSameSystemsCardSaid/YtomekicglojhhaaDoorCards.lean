/-
  DERIVED. GIVEN WITH THE SEED: THE CARDS: each row of YtomekicglojhhaaDoorRows.lean that lists a variable, with what it lists TIED to the program's text (the seventh form; the later family's looks); each row that meets fmt, with fmt's text TOLD by the authors' own Lean function (tested against real Go, not proved from fmt's source: count such statements apart). THE CARD IS WHAT COUNTS. Prove the row's statement (the work); the ties are given (YtomekicglojhhaaDoorTie.lean); close each card by the builder's one call (the guide's Derived/Test/ToyasCard.lean, 'card_holds'). Laid BY PROGRAM, IN A SANDBOX (cutbox-door.mjs). By AI agents, Wed Nov 11 2026. No macro, syntax, notation, axiom, sorry.
-/
import Derived.Test.YtomekicglojhhaaDoorRows
import GoSem.ClaimSeven
namespace Go.Proofs.YtomekicglojhhaaDoor
namespace Rows

/-- THE TIED CARD OF 'laws.FnExactIsSystem'. -/
def fnExactIsSystemCard : Claim7 := { stood := { row := fnExactIsSystemRow, standIns := [], harness := (true, "a2a404adfc0086eee05a0e64953c4fd04a82ec2e03e6df1909c07fe7c2454b3e"), looks := false }, kinds := [], alts := [], laidByText := true, laidKinds := [.data], laidTests := true, laidLooks := .later }
def FnExactIsSystemCardSaid : Prop := Claim7.holds Tryd.pinned (.plain (OpenSpec.ofChange fnExactIsSystemSpec)) fnExactIsSystemCard

/-- THE TIED CARD OF 'laws.FnExactMeetSystems'. -/
def fnExactMeetSystemsCard : Claim7 := { stood := { row := fnExactMeetSystemsRow, standIns := [], harness := (true, "a2a404adfc0086eee05a0e64953c4fd04a82ec2e03e6df1909c07fe7c2454b3e"), looks := false }, kinds := [], alts := [], laidByText := true, laidKinds := [.data], laidTests := true, laidLooks := .later }
def FnExactMeetSystemsCardSaid : Prop := Claim7.holds Tryd.pinned (.plain (OpenSpec.ofChange fnExactMeetSystemsSpec)) fnExactMeetSystemsCard

/-- THE TIED CARD OF 'laws.FnExactComposeSystems'. -/
def fnExactComposeSystemsCard : Claim7 := { stood := { row := fnExactComposeSystemsRow, standIns := [], harness := (true, "a2a404adfc0086eee05a0e64953c4fd04a82ec2e03e6df1909c07fe7c2454b3e"), looks := false }, kinds := [], alts := [], laidByText := true, laidKinds := [.data], laidTests := true, laidLooks := .later }
def FnExactComposeSystemsCardSaid : Prop := Claim7.holds Tryd.pinned (.plain (OpenSpec.ofChange fnExactComposeSystemsSpec)) fnExactComposeSystemsCard

/-- THE TIED CARD OF 'laws.FnExactEliminateLast'. -/
def fnExactEliminateLastCard : Claim7 := { stood := { row := fnExactEliminateLastRow, standIns := [], harness := (true, "a2a404adfc0086eee05a0e64953c4fd04a82ec2e03e6df1909c07fe7c2454b3e"), looks := false }, kinds := [], alts := [], laidByText := true, laidKinds := [.data], laidTests := true, laidLooks := .later }
def FnExactEliminateLastCardSaid : Prop := Claim7.holds Tryd.pinned (.plain (OpenSpec.ofChange fnExactEliminateLastSpec)) fnExactEliminateLastCard

/-- THE TIED CARD OF 'laws.FnExactCanonicalSystem'. -/
def fnExactCanonicalSystemCard : Claim7 := { stood := { row := fnExactCanonicalSystemRow, standIns := [], harness := (true, "a2a404adfc0086eee05a0e64953c4fd04a82ec2e03e6df1909c07fe7c2454b3e"), looks := false }, kinds := [], alts := [], laidByText := true, laidKinds := [.data], laidTests := true, laidLooks := .later }
def FnExactCanonicalSystemCardSaid : Prop := Claim7.holds Tryd.pinned (.plain (OpenSpec.ofChange fnExactCanonicalSystemSpec)) fnExactCanonicalSystemCard

/-- THE TIED CARD OF 'laws.FnExactSameSystems'. -/
def fnExactSameSystemsCard : Claim7 := { stood := { row := fnExactSameSystemsRow, standIns := [], harness := (true, "a2a404adfc0086eee05a0e64953c4fd04a82ec2e03e6df1909c07fe7c2454b3e"), looks := false }, kinds := [], alts := [], laidByText := true, laidKinds := [.data], laidTests := true, laidLooks := .later }
def FnExactSameSystemsCardSaid : Prop := Claim7.holds Tryd.pinned (.plain (OpenSpec.ofChange fnExactSameSystemsSpec)) fnExactSameSystemsCard

/-- THE TIED CARD OF 'laws.FnExactRelationOfSystem'. -/
def fnExactRelationOfSystemCard : Claim7 := { stood := { row := fnExactRelationOfSystemRow, standIns := [], harness := (true, "a2a404adfc0086eee05a0e64953c4fd04a82ec2e03e6df1909c07fe7c2454b3e"), looks := false }, kinds := [], alts := [], laidByText := true, laidKinds := [.data], laidTests := true, laidLooks := .later }
def FnExactRelationOfSystemCardSaid : Prop := Claim7.holds Tryd.pinned (.plain (OpenSpec.ofChange fnExactRelationOfSystemSpec)) fnExactRelationOfSystemCard

/-- THE TIED CARD OF 'laws.FnExactHiddenValues'. -/
def fnExactHiddenValuesCard : Claim7 := { stood := { row := fnExactHiddenValuesRow, standIns := [], harness := (true, "a2a404adfc0086eee05a0e64953c4fd04a82ec2e03e6df1909c07fe7c2454b3e"), looks := false }, kinds := [], alts := [], laidByText := true, laidKinds := [.data], laidTests := true, laidLooks := .later }
def FnExactHiddenValuesCardSaid : Prop := Claim7.holds Tryd.pinned (.plain (OpenSpec.ofChange fnExactHiddenValuesSpec)) fnExactHiddenValuesCard

/-- THE TIED CARD OF 'laws.FnExactRangeOf'. -/
def fnExactRangeOfCard : Claim7 := { stood := { row := fnExactRangeOfRow, standIns := [], harness := (true, "a2a404adfc0086eee05a0e64953c4fd04a82ec2e03e6df1909c07fe7c2454b3e"), looks := false }, kinds := [], alts := [], laidByText := true, laidKinds := [.data], laidTests := true, laidLooks := .later }
def FnExactRangeOfCardSaid : Prop := Claim7.holds Tryd.pinned (.plain (OpenSpec.ofChange fnExactRangeOfSpec)) fnExactRangeOfCard

/-- THE TIED CARD OF 'laws.FnExactDomainOf'. -/
def fnExactDomainOfCard : Claim7 := { stood := { row := fnExactDomainOfRow, standIns := [], harness := (true, "a2a404adfc0086eee05a0e64953c4fd04a82ec2e03e6df1909c07fe7c2454b3e"), looks := false }, kinds := [], alts := [], laidByText := true, laidKinds := [.data], laidTests := true, laidLooks := .later }
def FnExactDomainOfCardSaid : Prop := Claim7.holds Tryd.pinned (.plain (OpenSpec.ofChange fnExactDomainOfSpec)) fnExactDomainOfCard

/-- THE TIED CARD OF 'laws.FnExactIsTotal'. -/
def fnExactIsTotalCard : Claim7 := { stood := { row := fnExactIsTotalRow, standIns := [], harness := (true, "a2a404adfc0086eee05a0e64953c4fd04a82ec2e03e6df1909c07fe7c2454b3e"), looks := false }, kinds := [], alts := [], laidByText := true, laidKinds := [.data], laidTests := true, laidLooks := .later }
def FnExactIsTotalCardSaid : Prop := Claim7.holds Tryd.pinned (.plain (OpenSpec.ofChange fnExactIsTotalSpec)) fnExactIsTotalCard

/-- THE TIED CARD OF 'laws.FnExactIsSingleValued'. -/
def fnExactIsSingleValuedCard : Claim7 := { stood := { row := fnExactIsSingleValuedRow, standIns := [], harness := (true, "a2a404adfc0086eee05a0e64953c4fd04a82ec2e03e6df1909c07fe7c2454b3e"), looks := false }, kinds := [], alts := [], laidByText := true, laidKinds := [.data], laidTests := true, laidLooks := .later }
def FnExactIsSingleValuedCardSaid : Prop := Claim7.holds Tryd.pinned (.plain (OpenSpec.ofChange fnExactIsSingleValuedSpec)) fnExactIsSingleValuedCard

/-- THE SECOND FORM's CARD OF 'laws.FnExactIsSystem'. -/
def fnExactIsSystemUptoCard : Claim7 := { stood := { row := fnExactIsSystemUptoRow, standIns := [], harness := (true, "a2a404adfc0086eee05a0e64953c4fd04a82ec2e03e6df1909c07fe7c2454b3e"), looks := false }, kinds := [], alts := [], laidByText := true, laidKinds := [.data], laidTests := true, laidLooks := .later }
def FnExactIsSystemUptoCardSaid : Prop := Claim7.holds Tryd.pinned (.plain (OpenSpec.upto fnExactIsSystemSpec)) fnExactIsSystemUptoCard

/-- THE SECOND FORM's CARD OF 'laws.FnExactMeetSystems'. -/
def fnExactMeetSystemsUptoCard : Claim7 := { stood := { row := fnExactMeetSystemsUptoRow, standIns := [], harness := (true, "a2a404adfc0086eee05a0e64953c4fd04a82ec2e03e6df1909c07fe7c2454b3e"), looks := false }, kinds := [], alts := [], laidByText := true, laidKinds := [.data], laidTests := true, laidLooks := .later }
def FnExactMeetSystemsUptoCardSaid : Prop := Claim7.holds Tryd.pinned (.plain (OpenSpec.upto fnExactMeetSystemsSpec)) fnExactMeetSystemsUptoCard

/-- THE SECOND FORM's CARD OF 'laws.FnExactComposeSystems'. -/
def fnExactComposeSystemsUptoCard : Claim7 := { stood := { row := fnExactComposeSystemsUptoRow, standIns := [], harness := (true, "a2a404adfc0086eee05a0e64953c4fd04a82ec2e03e6df1909c07fe7c2454b3e"), looks := false }, kinds := [], alts := [], laidByText := true, laidKinds := [.data], laidTests := true, laidLooks := .later }
def FnExactComposeSystemsUptoCardSaid : Prop := Claim7.holds Tryd.pinned (.plain (OpenSpec.upto fnExactComposeSystemsSpec)) fnExactComposeSystemsUptoCard

/-- THE SECOND FORM's CARD OF 'laws.FnExactEliminateLast'. -/
def fnExactEliminateLastUptoCard : Claim7 := { stood := { row := fnExactEliminateLastUptoRow, standIns := [], harness := (true, "a2a404adfc0086eee05a0e64953c4fd04a82ec2e03e6df1909c07fe7c2454b3e"), looks := false }, kinds := [], alts := [], laidByText := true, laidKinds := [.data], laidTests := true, laidLooks := .later }
def FnExactEliminateLastUptoCardSaid : Prop := Claim7.holds Tryd.pinned (.plain (OpenSpec.upto fnExactEliminateLastSpec)) fnExactEliminateLastUptoCard

/-- THE SECOND FORM's CARD OF 'laws.FnExactCanonicalSystem'. -/
def fnExactCanonicalSystemUptoCard : Claim7 := { stood := { row := fnExactCanonicalSystemUptoRow, standIns := [], harness := (true, "a2a404adfc0086eee05a0e64953c4fd04a82ec2e03e6df1909c07fe7c2454b3e"), looks := false }, kinds := [], alts := [], laidByText := true, laidKinds := [.data], laidTests := true, laidLooks := .later }
def FnExactCanonicalSystemUptoCardSaid : Prop := Claim7.holds Tryd.pinned (.plain (OpenSpec.upto fnExactCanonicalSystemSpec)) fnExactCanonicalSystemUptoCard

/-- THE SECOND FORM's CARD OF 'laws.FnExactSameSystems'. -/
def fnExactSameSystemsUptoCard : Claim7 := { stood := { row := fnExactSameSystemsUptoRow, standIns := [], harness := (true, "a2a404adfc0086eee05a0e64953c4fd04a82ec2e03e6df1909c07fe7c2454b3e"), looks := false }, kinds := [], alts := [], laidByText := true, laidKinds := [.data], laidTests := true, laidLooks := .later }
def FnExactSameSystemsUptoCardSaid : Prop := Claim7.holds Tryd.pinned (.plain (OpenSpec.upto fnExactSameSystemsSpec)) fnExactSameSystemsUptoCard

/-- THE SECOND FORM's CARD OF 'laws.FnExactRelationOfSystem'. -/
def fnExactRelationOfSystemUptoCard : Claim7 := { stood := { row := fnExactRelationOfSystemUptoRow, standIns := [], harness := (true, "a2a404adfc0086eee05a0e64953c4fd04a82ec2e03e6df1909c07fe7c2454b3e"), looks := false }, kinds := [], alts := [], laidByText := true, laidKinds := [.data], laidTests := true, laidLooks := .later }
def FnExactRelationOfSystemUptoCardSaid : Prop := Claim7.holds Tryd.pinned (.plain (OpenSpec.upto fnExactRelationOfSystemSpec)) fnExactRelationOfSystemUptoCard

/-- THE SECOND FORM's CARD OF 'laws.FnExactHiddenValues'. -/
def fnExactHiddenValuesUptoCard : Claim7 := { stood := { row := fnExactHiddenValuesUptoRow, standIns := [], harness := (true, "a2a404adfc0086eee05a0e64953c4fd04a82ec2e03e6df1909c07fe7c2454b3e"), looks := false }, kinds := [], alts := [], laidByText := true, laidKinds := [.data], laidTests := true, laidLooks := .later }
def FnExactHiddenValuesUptoCardSaid : Prop := Claim7.holds Tryd.pinned (.plain (OpenSpec.upto fnExactHiddenValuesSpec)) fnExactHiddenValuesUptoCard

/-- THE SECOND FORM's CARD OF 'laws.FnExactRangeOf'. -/
def fnExactRangeOfUptoCard : Claim7 := { stood := { row := fnExactRangeOfUptoRow, standIns := [], harness := (true, "a2a404adfc0086eee05a0e64953c4fd04a82ec2e03e6df1909c07fe7c2454b3e"), looks := false }, kinds := [], alts := [], laidByText := true, laidKinds := [.data], laidTests := true, laidLooks := .later }
def FnExactRangeOfUptoCardSaid : Prop := Claim7.holds Tryd.pinned (.plain (OpenSpec.upto fnExactRangeOfSpec)) fnExactRangeOfUptoCard

/-- THE SECOND FORM's CARD OF 'laws.FnExactDomainOf'. -/
def fnExactDomainOfUptoCard : Claim7 := { stood := { row := fnExactDomainOfUptoRow, standIns := [], harness := (true, "a2a404adfc0086eee05a0e64953c4fd04a82ec2e03e6df1909c07fe7c2454b3e"), looks := false }, kinds := [], alts := [], laidByText := true, laidKinds := [.data], laidTests := true, laidLooks := .later }
def FnExactDomainOfUptoCardSaid : Prop := Claim7.holds Tryd.pinned (.plain (OpenSpec.upto fnExactDomainOfSpec)) fnExactDomainOfUptoCard

/-- THE SECOND FORM's CARD OF 'laws.FnExactIsTotal'. -/
def fnExactIsTotalUptoCard : Claim7 := { stood := { row := fnExactIsTotalUptoRow, standIns := [], harness := (true, "a2a404adfc0086eee05a0e64953c4fd04a82ec2e03e6df1909c07fe7c2454b3e"), looks := false }, kinds := [], alts := [], laidByText := true, laidKinds := [.data], laidTests := true, laidLooks := .later }
def FnExactIsTotalUptoCardSaid : Prop := Claim7.holds Tryd.pinned (.plain (OpenSpec.upto fnExactIsTotalSpec)) fnExactIsTotalUptoCard

/-- THE SECOND FORM's CARD OF 'laws.FnExactIsSingleValued'. -/
def fnExactIsSingleValuedUptoCard : Claim7 := { stood := { row := fnExactIsSingleValuedUptoRow, standIns := [], harness := (true, "a2a404adfc0086eee05a0e64953c4fd04a82ec2e03e6df1909c07fe7c2454b3e"), looks := false }, kinds := [], alts := [], laidByText := true, laidKinds := [.data], laidTests := true, laidLooks := .later }
def FnExactIsSingleValuedUptoCardSaid : Prop := Claim7.holds Tryd.pinned (.plain (OpenSpec.upto fnExactIsSingleValuedSpec)) fnExactIsSingleValuedUptoCard
end Rows
end Go.Proofs.YtomekicglojhhaaDoor
