/-
  DERIVED. GIVEN WITH THE SEED: THE CARDS: each row of YtbgofkalanigfaaDoorRows.lean that lists a variable, with what it lists TIED to the program's text (the seventh form; the later family's looks); each row that meets fmt, with fmt's text TOLD by the authors' own Lean function (tested against real Go, not proved from fmt's source: count such statements apart). THE CARD IS WHAT COUNTS. Prove the row's statement (the work); the ties are given (YtbgofkalanigfaaDoorTie.lean); close each card by the builder's one call (the guide's Derived/Test/ToyasCard.lean, 'card_holds'). Laid BY PROGRAM, IN A SANDBOX (cutbox-door.mjs). By AI agents, Wed Nov 11 2026. No macro, syntax, notation, axiom, sorry.
-/
import Derived.Test.YtbgofkalanigfaaDoorRows
import GoSem.ClaimSeven
namespace Go.Proofs.YtbgofkalanigfaaDoor
namespace Rows

/-- THE TIED CARD OF 'laws.FnExactIsPoly'. -/
def fnExactIsPolyCard : Claim7 := { stood := { row := fnExactIsPolyRow, standIns := [], harness := (true, "e8c074abfc368b2f47d20fc71e00557bdce6dc31ec56a9fd8f0645bf91011a1e"), looks := false }, kinds := [], alts := [], laidByText := true, laidKinds := [.data], laidTests := true, laidLooks := .later }
def FnExactIsPolyCardSaid : Prop := Claim7.holds Tryd.pinned (.plain (OpenSpec.ofChange fnExactIsPolySpec)) fnExactIsPolyCard

/-- THE TIED CARD OF 'laws.FnExactPolyEval'. -/
def fnExactPolyEvalCard : Claim7 := { stood := { row := fnExactPolyEvalRow, standIns := [], harness := (true, "e8c074abfc368b2f47d20fc71e00557bdce6dc31ec56a9fd8f0645bf91011a1e"), looks := false }, kinds := [], alts := [], laidByText := true, laidKinds := [.data], laidTests := true, laidLooks := .later }
def FnExactPolyEvalCardSaid : Prop := Claim7.holds Tryd.pinned (.plain (OpenSpec.ofChange fnExactPolyEvalSpec)) fnExactPolyEvalCard

/-- THE TIED CARD OF 'laws.FnExactPolyRoots'. -/
def fnExactPolyRootsCard : Claim7 := { stood := { row := fnExactPolyRootsRow, standIns := [], harness := (true, "e8c074abfc368b2f47d20fc71e00557bdce6dc31ec56a9fd8f0645bf91011a1e"), looks := false }, kinds := [], alts := [], laidByText := true, laidKinds := [.data], laidTests := true, laidLooks := .later }
def FnExactPolyRootsCardSaid : Prop := Claim7.holds Tryd.pinned (.plain (OpenSpec.ofChange fnExactPolyRootsSpec)) fnExactPolyRootsCard

/-- THE TIED CARD OF 'laws.FnExactPolyAdd'. -/
def fnExactPolyAddCard : Claim7 := { stood := { row := fnExactPolyAddRow, standIns := [], harness := (true, "e8c074abfc368b2f47d20fc71e00557bdce6dc31ec56a9fd8f0645bf91011a1e"), looks := false }, kinds := [], alts := [], laidByText := true, laidKinds := [.data], laidTests := true, laidLooks := .later }
def FnExactPolyAddCardSaid : Prop := Claim7.holds Tryd.pinned (.plain (OpenSpec.ofChange fnExactPolyAddSpec)) fnExactPolyAddCard

/-- THE TIED CARD OF 'laws.FnExactPolyMul'. -/
def fnExactPolyMulCard : Claim7 := { stood := { row := fnExactPolyMulRow, standIns := [], harness := (true, "e8c074abfc368b2f47d20fc71e00557bdce6dc31ec56a9fd8f0645bf91011a1e"), looks := false }, kinds := [], alts := [], laidByText := true, laidKinds := [.data], laidTests := true, laidLooks := .later }
def FnExactPolyMulCardSaid : Prop := Claim7.holds Tryd.pinned (.plain (OpenSpec.ofChange fnExactPolyMulSpec)) fnExactPolyMulCard

/-- THE TIED CARD OF 'laws.FnExactPolyDivide'. -/
def fnExactPolyDivideCard : Claim7 := { stood := { row := fnExactPolyDivideRow, standIns := [], harness := (true, "e8c074abfc368b2f47d20fc71e00557bdce6dc31ec56a9fd8f0645bf91011a1e"), looks := false }, kinds := [], alts := [], laidByText := true, laidKinds := [.data], laidTests := true, laidLooks := .later }
def FnExactPolyDivideCardSaid : Prop := Claim7.holds Tryd.pinned (.plain (OpenSpec.ofChange fnExactPolyDivideSpec)) fnExactPolyDivideCard

/-- THE TIED CARD OF 'laws.FnExactPolyGcd'. -/
def fnExactPolyGcdCard : Claim7 := { stood := { row := fnExactPolyGcdRow, standIns := [], harness := (true, "e8c074abfc368b2f47d20fc71e00557bdce6dc31ec56a9fd8f0645bf91011a1e"), looks := false }, kinds := [], alts := [], laidByText := true, laidKinds := [.data], laidTests := true, laidLooks := .later }
def FnExactPolyGcdCardSaid : Prop := Claim7.holds Tryd.pinned (.plain (OpenSpec.ofChange fnExactPolyGcdSpec)) fnExactPolyGcdCard

/-- THE SECOND FORM's CARD OF 'laws.FnExactIsPoly'. -/
def fnExactIsPolyUptoCard : Claim7 := { stood := { row := fnExactIsPolyUptoRow, standIns := [], harness := (true, "e8c074abfc368b2f47d20fc71e00557bdce6dc31ec56a9fd8f0645bf91011a1e"), looks := false }, kinds := [], alts := [], laidByText := true, laidKinds := [.data], laidTests := true, laidLooks := .later }
def FnExactIsPolyUptoCardSaid : Prop := Claim7.holds Tryd.pinned (.plain (OpenSpec.upto fnExactIsPolySpec)) fnExactIsPolyUptoCard

/-- THE SECOND FORM's CARD OF 'laws.FnExactPolyEval'. -/
def fnExactPolyEvalUptoCard : Claim7 := { stood := { row := fnExactPolyEvalUptoRow, standIns := [], harness := (true, "e8c074abfc368b2f47d20fc71e00557bdce6dc31ec56a9fd8f0645bf91011a1e"), looks := false }, kinds := [], alts := [], laidByText := true, laidKinds := [.data], laidTests := true, laidLooks := .later }
def FnExactPolyEvalUptoCardSaid : Prop := Claim7.holds Tryd.pinned (.plain (OpenSpec.upto fnExactPolyEvalSpec)) fnExactPolyEvalUptoCard

/-- THE SECOND FORM's CARD OF 'laws.FnExactPolyRoots'. -/
def fnExactPolyRootsUptoCard : Claim7 := { stood := { row := fnExactPolyRootsUptoRow, standIns := [], harness := (true, "e8c074abfc368b2f47d20fc71e00557bdce6dc31ec56a9fd8f0645bf91011a1e"), looks := false }, kinds := [], alts := [], laidByText := true, laidKinds := [.data], laidTests := true, laidLooks := .later }
def FnExactPolyRootsUptoCardSaid : Prop := Claim7.holds Tryd.pinned (.plain (OpenSpec.upto fnExactPolyRootsSpec)) fnExactPolyRootsUptoCard

/-- THE SECOND FORM's CARD OF 'laws.FnExactPolyAdd'. -/
def fnExactPolyAddUptoCard : Claim7 := { stood := { row := fnExactPolyAddUptoRow, standIns := [], harness := (true, "e8c074abfc368b2f47d20fc71e00557bdce6dc31ec56a9fd8f0645bf91011a1e"), looks := false }, kinds := [], alts := [], laidByText := true, laidKinds := [.data], laidTests := true, laidLooks := .later }
def FnExactPolyAddUptoCardSaid : Prop := Claim7.holds Tryd.pinned (.plain (OpenSpec.upto fnExactPolyAddSpec)) fnExactPolyAddUptoCard

/-- THE SECOND FORM's CARD OF 'laws.FnExactPolyMul'. -/
def fnExactPolyMulUptoCard : Claim7 := { stood := { row := fnExactPolyMulUptoRow, standIns := [], harness := (true, "e8c074abfc368b2f47d20fc71e00557bdce6dc31ec56a9fd8f0645bf91011a1e"), looks := false }, kinds := [], alts := [], laidByText := true, laidKinds := [.data], laidTests := true, laidLooks := .later }
def FnExactPolyMulUptoCardSaid : Prop := Claim7.holds Tryd.pinned (.plain (OpenSpec.upto fnExactPolyMulSpec)) fnExactPolyMulUptoCard

/-- THE SECOND FORM's CARD OF 'laws.FnExactPolyDivide'. -/
def fnExactPolyDivideUptoCard : Claim7 := { stood := { row := fnExactPolyDivideUptoRow, standIns := [], harness := (true, "e8c074abfc368b2f47d20fc71e00557bdce6dc31ec56a9fd8f0645bf91011a1e"), looks := false }, kinds := [], alts := [], laidByText := true, laidKinds := [.data], laidTests := true, laidLooks := .later }
def FnExactPolyDivideUptoCardSaid : Prop := Claim7.holds Tryd.pinned (.plain (OpenSpec.upto fnExactPolyDivideSpec)) fnExactPolyDivideUptoCard

/-- THE SECOND FORM's CARD OF 'laws.FnExactPolyGcd'. -/
def fnExactPolyGcdUptoCard : Claim7 := { stood := { row := fnExactPolyGcdUptoRow, standIns := [], harness := (true, "e8c074abfc368b2f47d20fc71e00557bdce6dc31ec56a9fd8f0645bf91011a1e"), looks := false }, kinds := [], alts := [], laidByText := true, laidKinds := [.data], laidTests := true, laidLooks := .later }
def FnExactPolyGcdUptoCardSaid : Prop := Claim7.holds Tryd.pinned (.plain (OpenSpec.upto fnExactPolyGcdSpec)) fnExactPolyGcdUptoCard
end Rows
end Go.Proofs.YtbgofkalanigfaaDoor
