/-
  DERIVED. GIVEN WITH THE SEED: THE CARDS: each row of YtahnhblodfdfhaaDoorRows.lean that lists a variable, with what it lists TIED to the program's text (the seventh form; the later family's looks); each row that meets fmt, with fmt's text TOLD by the authors' own Lean function (tested against real Go, not proved from fmt's source: count such statements apart). THE CARD IS WHAT COUNTS. Prove the row's statement (the work); the ties are given (YtahnhblodfdfhaaDoorTie.lean); close each card by the builder's one call (the guide's Derived/Test/ToyasCard.lean, 'card_holds'). Laid BY PROGRAM, IN A SANDBOX (cutbox-door.mjs). By AI agents, Wed Nov 11 2026. No macro, syntax, notation, axiom, sorry.
-/
import Derived.Test.YtahnhblodfdfhaaDoorRows
import GoSem.ClaimSeven
namespace Go.Proofs.YtahnhblodfdfhaaDoor
namespace Rows

/-- THE TIED CARD OF 'laws.FnExactEliminateLast'. -/
def fnExactEliminateLastCard : Claim7 := { stood := { row := fnExactEliminateLastRow, standIns := [], harness := (true, "b5d7631b44cc91b3cc70d670b9c75def51f7dc415b0f1877c88e0135dcdd3fac"), looks := false }, kinds := [], alts := [], laidByText := true, laidKinds := [.data], laidTests := true, laidLooks := .later }
def FnExactEliminateLastCardSaid : Prop := Claim7.holds Tryd.pinned (.plain (OpenSpec.ofChange fnExactEliminateLastSpec)) fnExactEliminateLastCard

/-- THE TIED CARD OF 'laws.FnExactHiddenValues'. -/
def fnExactHiddenValuesCard : Claim7 := { stood := { row := fnExactHiddenValuesRow, standIns := [], harness := (true, "b5d7631b44cc91b3cc70d670b9c75def51f7dc415b0f1877c88e0135dcdd3fac"), looks := false }, kinds := [], alts := [], laidByText := true, laidKinds := [.data], laidTests := true, laidLooks := .later }
def FnExactHiddenValuesCardSaid : Prop := Claim7.holds Tryd.pinned (.plain (OpenSpec.ofChange fnExactHiddenValuesSpec)) fnExactHiddenValuesCard

/-- THE TIED CARD OF 'laws.FnExactComposeRelations'. -/
def fnExactComposeRelationsCard : Claim7 := { stood := { row := fnExactComposeRelationsRow, standIns := [], harness := (true, "b5d7631b44cc91b3cc70d670b9c75def51f7dc415b0f1877c88e0135dcdd3fac"), looks := false }, kinds := [], alts := [], laidByText := true, laidKinds := [.data], laidTests := true, laidLooks := .later }
def FnExactComposeRelationsCardSaid : Prop := Claim7.holds Tryd.pinned (.plain (OpenSpec.ofChange fnExactComposeRelationsSpec)) fnExactComposeRelationsCard

/-- THE TIED CARD OF 'laws.FnExactSystemOfGraph'. -/
def fnExactSystemOfGraphCard : Claim7 := { stood := { row := fnExactSystemOfGraphRow, standIns := [], harness := (true, "b5d7631b44cc91b3cc70d670b9c75def51f7dc415b0f1877c88e0135dcdd3fac"), looks := false }, kinds := [], alts := [], laidByText := true, laidKinds := [.data], laidTests := true, laidLooks := .later }
def FnExactSystemOfGraphCardSaid : Prop := Claim7.holds Tryd.pinned (.plain (OpenSpec.ofChange fnExactSystemOfGraphSpec)) fnExactSystemOfGraphCard

/-- THE TIED CARD OF 'laws.FnExactIsValuation'. -/
def fnExactIsValuationCard : Claim7 := { stood := { row := fnExactIsValuationRow, standIns := [], harness := (true, "b5d7631b44cc91b3cc70d670b9c75def51f7dc415b0f1877c88e0135dcdd3fac"), looks := false }, kinds := [], alts := [], laidByText := true, laidKinds := [.data], laidTests := true, laidLooks := .later }
def FnExactIsValuationCardSaid : Prop := Claim7.holds Tryd.pinned (.plain (OpenSpec.ofChange fnExactIsValuationSpec)) fnExactIsValuationCard

/-- THE TIED CARD OF 'laws.FnExactLeafRelation'. -/
def fnExactLeafRelationCard : Claim7 := { stood := { row := fnExactLeafRelationRow, standIns := [], harness := (true, "b5d7631b44cc91b3cc70d670b9c75def51f7dc415b0f1877c88e0135dcdd3fac"), looks := false }, kinds := [], alts := [], laidByText := true, laidKinds := [.data], laidTests := true, laidLooks := .later }
def FnExactLeafRelationCardSaid : Prop := Claim7.holds Tryd.pinned (.plain (OpenSpec.ofChange fnExactLeafRelationSpec)) fnExactLeafRelationCard

/-- THE TIED CARD OF 'laws.FnExactDimensionOf'. -/
def fnExactDimensionOfCard : Claim7 := { stood := { row := fnExactDimensionOfRow, standIns := [], harness := (true, "b5d7631b44cc91b3cc70d670b9c75def51f7dc415b0f1877c88e0135dcdd3fac"), looks := false }, kinds := [], alts := [], laidByText := true, laidKinds := [.data], laidTests := true, laidLooks := .later }
def FnExactDimensionOfCardSaid : Prop := Claim7.holds Tryd.pinned (.plain (OpenSpec.ofChange fnExactDimensionOfSpec)) fnExactDimensionOfCard

/-- THE SECOND FORM's CARD OF 'laws.FnExactEliminateLast'. -/
def fnExactEliminateLastUptoCard : Claim7 := { stood := { row := fnExactEliminateLastUptoRow, standIns := [], harness := (true, "b5d7631b44cc91b3cc70d670b9c75def51f7dc415b0f1877c88e0135dcdd3fac"), looks := false }, kinds := [], alts := [], laidByText := true, laidKinds := [.data], laidTests := true, laidLooks := .later }
def FnExactEliminateLastUptoCardSaid : Prop := Claim7.holds Tryd.pinned (.plain (OpenSpec.upto fnExactEliminateLastSpec)) fnExactEliminateLastUptoCard

/-- THE SECOND FORM's CARD OF 'laws.FnExactHiddenValues'. -/
def fnExactHiddenValuesUptoCard : Claim7 := { stood := { row := fnExactHiddenValuesUptoRow, standIns := [], harness := (true, "b5d7631b44cc91b3cc70d670b9c75def51f7dc415b0f1877c88e0135dcdd3fac"), looks := false }, kinds := [], alts := [], laidByText := true, laidKinds := [.data], laidTests := true, laidLooks := .later }
def FnExactHiddenValuesUptoCardSaid : Prop := Claim7.holds Tryd.pinned (.plain (OpenSpec.upto fnExactHiddenValuesSpec)) fnExactHiddenValuesUptoCard

/-- THE SECOND FORM's CARD OF 'laws.FnExactComposeRelations'. -/
def fnExactComposeRelationsUptoCard : Claim7 := { stood := { row := fnExactComposeRelationsUptoRow, standIns := [], harness := (true, "b5d7631b44cc91b3cc70d670b9c75def51f7dc415b0f1877c88e0135dcdd3fac"), looks := false }, kinds := [], alts := [], laidByText := true, laidKinds := [.data], laidTests := true, laidLooks := .later }
def FnExactComposeRelationsUptoCardSaid : Prop := Claim7.holds Tryd.pinned (.plain (OpenSpec.upto fnExactComposeRelationsSpec)) fnExactComposeRelationsUptoCard

/-- THE SECOND FORM's CARD OF 'laws.FnExactSystemOfGraph'. -/
def fnExactSystemOfGraphUptoCard : Claim7 := { stood := { row := fnExactSystemOfGraphUptoRow, standIns := [], harness := (true, "b5d7631b44cc91b3cc70d670b9c75def51f7dc415b0f1877c88e0135dcdd3fac"), looks := false }, kinds := [], alts := [], laidByText := true, laidKinds := [.data], laidTests := true, laidLooks := .later }
def FnExactSystemOfGraphUptoCardSaid : Prop := Claim7.holds Tryd.pinned (.plain (OpenSpec.upto fnExactSystemOfGraphSpec)) fnExactSystemOfGraphUptoCard

/-- THE SECOND FORM's CARD OF 'laws.FnExactIsValuation'. -/
def fnExactIsValuationUptoCard : Claim7 := { stood := { row := fnExactIsValuationUptoRow, standIns := [], harness := (true, "b5d7631b44cc91b3cc70d670b9c75def51f7dc415b0f1877c88e0135dcdd3fac"), looks := false }, kinds := [], alts := [], laidByText := true, laidKinds := [.data], laidTests := true, laidLooks := .later }
def FnExactIsValuationUptoCardSaid : Prop := Claim7.holds Tryd.pinned (.plain (OpenSpec.upto fnExactIsValuationSpec)) fnExactIsValuationUptoCard

/-- THE SECOND FORM's CARD OF 'laws.FnExactLeafRelation'. -/
def fnExactLeafRelationUptoCard : Claim7 := { stood := { row := fnExactLeafRelationUptoRow, standIns := [], harness := (true, "b5d7631b44cc91b3cc70d670b9c75def51f7dc415b0f1877c88e0135dcdd3fac"), looks := false }, kinds := [], alts := [], laidByText := true, laidKinds := [.data], laidTests := true, laidLooks := .later }
def FnExactLeafRelationUptoCardSaid : Prop := Claim7.holds Tryd.pinned (.plain (OpenSpec.upto fnExactLeafRelationSpec)) fnExactLeafRelationUptoCard

/-- THE SECOND FORM's CARD OF 'laws.FnExactDimensionOf'. -/
def fnExactDimensionOfUptoCard : Claim7 := { stood := { row := fnExactDimensionOfUptoRow, standIns := [], harness := (true, "b5d7631b44cc91b3cc70d670b9c75def51f7dc415b0f1877c88e0135dcdd3fac"), looks := false }, kinds := [], alts := [], laidByText := true, laidKinds := [.data], laidTests := true, laidLooks := .later }
def FnExactDimensionOfUptoCardSaid : Prop := Claim7.holds Tryd.pinned (.plain (OpenSpec.upto fnExactDimensionOfSpec)) fnExactDimensionOfUptoCard
end Rows
end Go.Proofs.YtahnhblodfdfhaaDoor
