/-
  DERIVED. GIVEN WITH THE SEED: THE CARDS: each row of YtjompikdkhhlgaaGreatDoorRows.lean that lists a variable, with what it lists TIED to the program's text (the seventh form; the later family's looks); each row that meets fmt, with fmt's text TOLD by the authors' own Lean function (tested against real Go, not proved from fmt's source: count such statements apart). THE CARD IS WHAT COUNTS. Prove the row's statement (the work); the ties are given (YtjompikdkhhlgaaGreatDoorTie.lean); close each card by the builder's one call (the guide's Derived/Test/ToyasCard.lean, 'card_holds'). Laid BY PROGRAM, IN A SANDBOX (cutbox-door.mjs). By AI agents, Wed Nov 11 2026. No macro, syntax, notation, axiom, sorry.
-/
import Derived.Test.YtjompikdkhhlgaaGreatDoorRows
import GoSem.ClaimSeven
namespace Go.Proofs.YtjompikdkhhlgaaGreatDoor
namespace Rows

/-- THE TIED CARD OF 'laws.FnExactWireValues'. -/
def fnExactWireValuesCard : Claim7 := { stood := { row := fnExactWireValuesRow, standIns := [], harness := (true, "178a3a2397a0247b6cfb3a6ef52ffc2d7aa5195a620e94cbe45c92f80dcd8c1c"), looks := false }, kinds := [], alts := [], laidByText := true, laidKinds := [.data], laidTests := true, laidLooks := .later }
def FnExactWireValuesCardSaid : Prop := Claim7.holds Tryz.pinned (.plain (OpenSpec.ofChange fnExactWireValuesSpec)) fnExactWireValuesCard

/-- THE SECOND FORM's CARD OF 'laws.FnExactWireValues'. -/
def fnExactWireValuesUptoCard : Claim7 := { stood := { row := fnExactWireValuesUptoRow, standIns := [], harness := (true, "178a3a2397a0247b6cfb3a6ef52ffc2d7aa5195a620e94cbe45c92f80dcd8c1c"), looks := false }, kinds := [], alts := [], laidByText := true, laidKinds := [.data], laidTests := true, laidLooks := .later }
def FnExactWireValuesUptoCardSaid : Prop := Claim7.holds Tryz.pinned (.plain (OpenSpec.upto fnExactWireValuesSpec)) fnExactWireValuesUptoCard
end Rows
end Go.Proofs.YtjompikdkhhlgaaGreatDoor
