/-
  DERIVED. GIVEN WITH THE SEED: THE CARDS: each row of YtahnhblodfdfhaaGreatDoorRows.lean that lists a variable, with what it lists TIED to the program's text (the seventh form; the later family's looks); each row that meets fmt, with fmt's text TOLD by the authors' own Lean function (tested against real Go, not proved from fmt's source: count such statements apart). THE CARD IS WHAT COUNTS. Prove the row's statement (the work); the ties are given (YtahnhblodfdfhaaGreatDoorTie.lean); close each card by the builder's one call (the guide's Derived/Test/ToyasCard.lean, 'card_holds'). Laid BY PROGRAM, IN A SANDBOX (cutbox-door.mjs). By AI agents, Wed Nov 11 2026. No macro, syntax, notation, axiom, sorry.
-/
import Derived.Test.YtahnhblodfdfhaaGreatDoorRows
import GoSem.ClaimSeven
namespace Go.Proofs.YtahnhblodfdfhaaGreatDoor
namespace Rows

/-- THE TIED CARD OF 'laws.FnExactDenoteGraph'. -/
def fnExactDenoteGraphCard : Claim7 := { stood := { row := fnExactDenoteGraphRow, standIns := [], harness := (true, "957c0067b5dd68ce48e2920a88e45fae6c88ec89419ce5fe44a5746a5a58ab81"), looks := false }, kinds := [], alts := [], laidByText := true, laidKinds := [.data], laidTests := true, laidLooks := .later }
def FnExactDenoteGraphCardSaid : Prop := Claim7.holds Tryz.pinned (.plain (OpenSpec.ofChange fnExactDenoteGraphSpec)) fnExactDenoteGraphCard

/-- THE TIED CARD OF 'laws.FnExactWireValues'. -/
def fnExactWireValuesCard : Claim7 := { stood := { row := fnExactWireValuesRow, standIns := [], harness := (true, "957c0067b5dd68ce48e2920a88e45fae6c88ec89419ce5fe44a5746a5a58ab81"), looks := false }, kinds := [], alts := [], laidByText := true, laidKinds := [.data], laidTests := true, laidLooks := .later }
def FnExactWireValuesCardSaid : Prop := Claim7.holds Tryz.pinned (.plain (OpenSpec.ofChange fnExactWireValuesSpec)) fnExactWireValuesCard

/-- THE TIED CARD OF 'laws.FnExactDenoteTerm'. -/
def fnExactDenoteTermCard : Claim7 := { stood := { row := fnExactDenoteTermRow, standIns := [], harness := (true, "957c0067b5dd68ce48e2920a88e45fae6c88ec89419ce5fe44a5746a5a58ab81"), looks := false }, kinds := [], alts := [], laidByText := true, laidKinds := [.data], laidTests := true, laidLooks := .later }
def FnExactDenoteTermCardSaid : Prop := Claim7.holds Tryz.pinned (.plain (OpenSpec.ofChange fnExactDenoteTermSpec)) fnExactDenoteTermCard

/-- THE TIED CARD OF 'laws.FnExactMatrixOfTerm'. -/
def fnExactMatrixOfTermCard : Claim7 := { stood := { row := fnExactMatrixOfTermRow, standIns := [], harness := (true, "957c0067b5dd68ce48e2920a88e45fae6c88ec89419ce5fe44a5746a5a58ab81"), looks := false }, kinds := [], alts := [], laidByText := true, laidKinds := [.data], laidTests := true, laidLooks := .later }
def FnExactMatrixOfTermCardSaid : Prop := Claim7.holds Tryz.pinned (.plain (OpenSpec.ofChange fnExactMatrixOfTermSpec)) fnExactMatrixOfTermCard

/-- THE SECOND FORM's CARD OF 'laws.FnExactDenoteGraph'. -/
def fnExactDenoteGraphUptoCard : Claim7 := { stood := { row := fnExactDenoteGraphUptoRow, standIns := [], harness := (true, "957c0067b5dd68ce48e2920a88e45fae6c88ec89419ce5fe44a5746a5a58ab81"), looks := false }, kinds := [], alts := [], laidByText := true, laidKinds := [.data], laidTests := true, laidLooks := .later }
def FnExactDenoteGraphUptoCardSaid : Prop := Claim7.holds Tryz.pinned (.plain (OpenSpec.upto fnExactDenoteGraphSpec)) fnExactDenoteGraphUptoCard

/-- THE SECOND FORM's CARD OF 'laws.FnExactWireValues'. -/
def fnExactWireValuesUptoCard : Claim7 := { stood := { row := fnExactWireValuesUptoRow, standIns := [], harness := (true, "957c0067b5dd68ce48e2920a88e45fae6c88ec89419ce5fe44a5746a5a58ab81"), looks := false }, kinds := [], alts := [], laidByText := true, laidKinds := [.data], laidTests := true, laidLooks := .later }
def FnExactWireValuesUptoCardSaid : Prop := Claim7.holds Tryz.pinned (.plain (OpenSpec.upto fnExactWireValuesSpec)) fnExactWireValuesUptoCard

/-- THE SECOND FORM's CARD OF 'laws.FnExactDenoteTerm'. -/
def fnExactDenoteTermUptoCard : Claim7 := { stood := { row := fnExactDenoteTermUptoRow, standIns := [], harness := (true, "957c0067b5dd68ce48e2920a88e45fae6c88ec89419ce5fe44a5746a5a58ab81"), looks := false }, kinds := [], alts := [], laidByText := true, laidKinds := [.data], laidTests := true, laidLooks := .later }
def FnExactDenoteTermUptoCardSaid : Prop := Claim7.holds Tryz.pinned (.plain (OpenSpec.upto fnExactDenoteTermSpec)) fnExactDenoteTermUptoCard

/-- THE SECOND FORM's CARD OF 'laws.FnExactMatrixOfTerm'. -/
def fnExactMatrixOfTermUptoCard : Claim7 := { stood := { row := fnExactMatrixOfTermUptoRow, standIns := [], harness := (true, "957c0067b5dd68ce48e2920a88e45fae6c88ec89419ce5fe44a5746a5a58ab81"), looks := false }, kinds := [], alts := [], laidByText := true, laidKinds := [.data], laidTests := true, laidLooks := .later }
def FnExactMatrixOfTermUptoCardSaid : Prop := Claim7.holds Tryz.pinned (.plain (OpenSpec.upto fnExactMatrixOfTermSpec)) fnExactMatrixOfTermUptoCard
end Rows
end Go.Proofs.YtahnhblodfdfhaaGreatDoor
