/-
  DERIVED. GIVEN WITH THE SEED: THE CARDS: each row of YtjompikdkhhlgaaDoorRows.lean that lists a variable, with what it lists TIED to the program's text (the seventh form; the later family's looks); each row that meets fmt, with fmt's text TOLD by the authors' own Lean function (tested against real Go, not proved from fmt's source: count such statements apart). THE CARD IS WHAT COUNTS. Prove the row's statement (the work); the ties are given (YtjompikdkhhlgaaDoorTie.lean); close each card by the builder's one call (the guide's Derived/Test/ToyasCard.lean, 'card_holds'). Laid BY PROGRAM, IN A SANDBOX (cutbox-door.mjs). By AI agents, Wed Nov 11 2026. No macro, syntax, notation, axiom, sorry.
-/
import Derived.Test.YtjompikdkhhlgaaDoorRows
import GoSem.ClaimSeven
namespace Go.Proofs.YtjompikdkhhlgaaDoor
namespace Rows

/-- THE TIED CARD OF 'laws.FnExactHiddenValues'. -/
def fnExactHiddenValuesCard : Claim7 := { stood := { row := fnExactHiddenValuesRow, standIns := [], harness := (true, "e728950ab21c34eeac6bafea2046be912f1c0aa38fee30aad2d259bdc82dce13"), looks := false }, kinds := [], alts := [], laidByText := true, laidKinds := [.data], laidTests := true, laidLooks := .later }
def FnExactHiddenValuesCardSaid : Prop := Claim7.holds Tryd.pinned (.plain (OpenSpec.ofChange fnExactHiddenValuesSpec)) fnExactHiddenValuesCard

/-- THE TIED CARD OF 'laws.FnExactSystemOfGraph'. -/
def fnExactSystemOfGraphCard : Claim7 := { stood := { row := fnExactSystemOfGraphRow, standIns := [], harness := (true, "e728950ab21c34eeac6bafea2046be912f1c0aa38fee30aad2d259bdc82dce13"), looks := false }, kinds := [], alts := [], laidByText := true, laidKinds := [.data], laidTests := true, laidLooks := .later }
def FnExactSystemOfGraphCardSaid : Prop := Claim7.holds Tryd.pinned (.plain (OpenSpec.ofChange fnExactSystemOfGraphSpec)) fnExactSystemOfGraphCard

/-- THE SECOND FORM's CARD OF 'laws.FnExactHiddenValues'. -/
def fnExactHiddenValuesUptoCard : Claim7 := { stood := { row := fnExactHiddenValuesUptoRow, standIns := [], harness := (true, "e728950ab21c34eeac6bafea2046be912f1c0aa38fee30aad2d259bdc82dce13"), looks := false }, kinds := [], alts := [], laidByText := true, laidKinds := [.data], laidTests := true, laidLooks := .later }
def FnExactHiddenValuesUptoCardSaid : Prop := Claim7.holds Tryd.pinned (.plain (OpenSpec.upto fnExactHiddenValuesSpec)) fnExactHiddenValuesUptoCard

/-- THE SECOND FORM's CARD OF 'laws.FnExactSystemOfGraph'. -/
def fnExactSystemOfGraphUptoCard : Claim7 := { stood := { row := fnExactSystemOfGraphUptoRow, standIns := [], harness := (true, "e728950ab21c34eeac6bafea2046be912f1c0aa38fee30aad2d259bdc82dce13"), looks := false }, kinds := [], alts := [], laidByText := true, laidKinds := [.data], laidTests := true, laidLooks := .later }
def FnExactSystemOfGraphUptoCardSaid : Prop := Claim7.holds Tryd.pinned (.plain (OpenSpec.upto fnExactSystemOfGraphSpec)) fnExactSystemOfGraphUptoCard
end Rows
end Go.Proofs.YtjompikdkhhlgaaDoor
