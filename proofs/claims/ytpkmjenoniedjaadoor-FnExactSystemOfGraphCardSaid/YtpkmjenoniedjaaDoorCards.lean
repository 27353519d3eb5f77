/-
  DERIVED. GIVEN WITH THE SEED: THE CARDS: each row of YtpkmjenoniedjaaDoorRows.lean that lists a variable, with what it lists TIED to the program's text (the seventh form; the later family's looks); each row that meets fmt, with fmt's text TOLD by the authors' own Lean function (tested against real Go, not proved from fmt's source: count such statements apart). THE CARD IS WHAT COUNTS. Prove the row's statement (the work); the ties are given (YtpkmjenoniedjaaDoorTie.lean); close each card by the builder's one call (the guide's Derived/Test/ToyasCard.lean, 'card_holds'). Laid BY PROGRAM, IN A SANDBOX (cutbox-door.mjs). By AI agents, Wed Nov 11 2026. No macro, syntax, notation, axiom, sorry.
-/
import Derived.Test.YtpkmjenoniedjaaDoorRows
import GoSem.ClaimSeven
namespace Go.Proofs.YtpkmjenoniedjaaDoor
namespace Rows

/-- THE TIED CARD OF 'laws.FnExactSystemOfGraph'. -/
def fnExactSystemOfGraphCard : Claim7 := { stood := { row := fnExactSystemOfGraphRow, standIns := [], harness := (true, "e5e3d3a7dc3dc32cd6687637d4398721aa5ed5d775ba491d71f90e1ab811645e"), looks := false }, kinds := [], alts := [], laidByText := true, laidKinds := [.data], laidTests := true, laidLooks := .later }
def FnExactSystemOfGraphCardSaid : Prop := Claim7.holds Tryd.pinned (.plain (OpenSpec.ofChange fnExactSystemOfGraphSpec)) fnExactSystemOfGraphCard

/-- THE SECOND FORM's CARD OF 'laws.FnExactSystemOfGraph'. -/
def fnExactSystemOfGraphUptoCard : Claim7 := { stood := { row := fnExactSystemOfGraphUptoRow, standIns := [], harness := (true, "e5e3d3a7dc3dc32cd6687637d4398721aa5ed5d775ba491d71f90e1ab811645e"), looks := false }, kinds := [], alts := [], laidByText := true, laidKinds := [.data], laidTests := true, laidLooks := .later }
def FnExactSystemOfGraphUptoCardSaid : Prop := Claim7.holds Tryd.pinned (.plain (OpenSpec.upto fnExactSystemOfGraphSpec)) fnExactSystemOfGraphUptoCard
end Rows
end Go.Proofs.YtpkmjenoniedjaaDoor
