/-
  DERIVED. GIVEN WITH THE SEED: THE CARDS: each row of YtbdhekefhcjhaaaGreatDoorRows.lean that lists a variable, with what it lists TIED to the program's text (the seventh form; the later family's looks); each row that meets fmt, with fmt's text TOLD by the authors' own Lean function (tested against real Go, not proved from fmt's source: count such statements apart). THE CARD IS WHAT COUNTS. Prove the row's statement (the work); the ties are given (YtbdhekefhcjhaaaGreatDoorTie.lean); close each card by the builder's one call (the guide's Derived/Test/ToyasCard.lean, 'card_holds'). Laid BY PROGRAM, IN A SANDBOX (cutbox-door.mjs). By AI agents, Wed Nov 11 2026. No macro, syntax, notation, axiom, sorry.
-/
import Derived.Test.YtbdhekefhcjhaaaGreatDoorRows
import GoSem.ClaimSeven
namespace Go.Proofs.YtbdhekefhcjhaaaGreatDoor
namespace Rows

/-- THE TIED CARD OF 'treemergelaw08.PrintWords'. -/
def printWordsCard : Claim7 := { stood := { row := printWordsRow, standIns := [], harness := (true, "5200a504f6b3f42ad9cb6168fd73ebabfc9fe196e82416a437ddbf350c7ca1cd"), looks := false }, kinds := [], alts := [], laidByText := true, laidKinds := [.widerDeep], laidTests := true, laidLooks := .later }
def PrintWordsCardSaid : Prop := Claim7.holds Tryz.pinned (.plain (OpenSpec.ofChange printWordsSpec)) printWordsCard

/-- THE TIED CARD OF 'treemergelaw08.PrintTexts'. -/
def printTextsCard : Claim7 := { stood := { row := printTextsRow, standIns := [], harness := (true, "5200a504f6b3f42ad9cb6168fd73ebabfc9fe196e82416a437ddbf350c7ca1cd"), looks := false }, kinds := [], alts := [], laidByText := true, laidKinds := [.widerDeep], laidTests := true, laidLooks := .later }
def PrintTextsCardSaid : Prop := Claim7.holds Tryz.pinned (.plain (OpenSpec.ofChange printTextsSpec)) printTextsCard

/-- THE TIED CARD OF 'treemergelaw08.PrintLays'. -/
def printLaysCard : Claim7 := { stood := { row := printLaysRow, standIns := [], harness := (true, "5200a504f6b3f42ad9cb6168fd73ebabfc9fe196e82416a437ddbf350c7ca1cd"), looks := false }, kinds := [], alts := [], laidByText := true, laidKinds := [.widerDeep], laidTests := true, laidLooks := .later }
def PrintLaysCardSaid : Prop := Claim7.holds Tryz.pinned (.plain (OpenSpec.ofChange printLaysSpec)) printLaysCard

/-- THE SECOND FORM's CARD OF 'treemergelaw08.PrintWords'. -/
def printWordsUptoCard : Claim7 := { stood := { row := printWordsUptoRow, standIns := [], harness := (true, "5200a504f6b3f42ad9cb6168fd73ebabfc9fe196e82416a437ddbf350c7ca1cd"), looks := false }, kinds := [], alts := [], laidByText := true, laidKinds := [.widerDeep], laidTests := true, laidLooks := .later }
def PrintWordsUptoCardSaid : Prop := Claim7.holds Tryz.pinned (.plain (OpenSpec.upto printWordsSpec)) printWordsUptoCard

/-- THE SECOND FORM's CARD OF 'treemergelaw08.PrintTexts'. -/
def printTextsUptoCard : Claim7 := { stood := { row := printTextsUptoRow, standIns := [], harness := (true, "5200a504f6b3f42ad9cb6168fd73ebabfc9fe196e82416a437ddbf350c7ca1cd"), looks := false }, kinds := [], alts := [], laidByText := true, laidKinds := [.widerDeep], laidTests := true, laidLooks := .later }
def PrintTextsUptoCardSaid : Prop := Claim7.holds Tryz.pinned (.plain (OpenSpec.upto printTextsSpec)) printTextsUptoCard

/-- THE SECOND FORM's CARD OF 'treemergelaw08.PrintLays'. -/
def printLaysUptoCard : Claim7 := { stood := { row := printLaysUptoRow, standIns := [], harness := (true, "5200a504f6b3f42ad9cb6168fd73ebabfc9fe196e82416a437ddbf350c7ca1cd"), looks := false }, kinds := [], alts := [], laidByText := true, laidKinds := [.widerDeep], laidTests := true, laidLooks := .later }
def PrintLaysUptoCardSaid : Prop := Claim7.holds Tryz.pinned (.plain (OpenSpec.upto printLaysSpec)) printLaysUptoCard
end Rows
end Go.Proofs.YtbdhekefhcjhaaaGreatDoor
