/-
  DERIVED. GIVEN WITH THE SEED: THE CARDS: each row of YtigmilhpeodhbaaGreatDoorRows.lean that lists a variable, with what it lists TIED to the program's text (the seventh form; the later family's looks); each row that meets fmt, with fmt's text TOLD by the authors' own Lean function (tested against real Go, not proved from fmt's source: count such statements apart). THE CARD IS WHAT COUNTS. Prove the row's statement (the work); the ties are given (YtigmilhpeodhbaaGreatDoorTie.lean); close each card by the builder's one call (the guide's Derived/Test/ToyasCard.lean, 'card_holds'). Laid BY PROGRAM, IN A SANDBOX (cutbox-door.mjs). By AI agents, Wed Nov 11 2026. No macro, syntax, notation, axiom, sorry.
-/
import Derived.Test.YtigmilhpeodhbaaGreatDoorRows
import GoSem.ClaimSeven
namespace Go.Proofs.YtigmilhpeodhbaaGreatDoor
namespace Rows

/-- THE TIED CARD OF 'treemergelaw09.ParseFiles'. -/
def parseFilesCard : Claim7 := { stood := { row := parseFilesRow, standIns := [], harness := (true, "10fa68673f35ebcc3d440af811b57260013ae6d40f7737b067337502e7da8b9c"), looks := true }, kinds := [], alts := [], laidByText := true, laidKinds := [.data, .data, .data, .sentinel, .sentinel, .widerDeep], laidTests := true, laidLooks := .later }
def ParseFilesCardSaid : Prop := Claim7.holds Tryz.pinned (.plain (OpenSpec.ofChange parseFilesSpec)) parseFilesCard

/-- THE TIED CARD OF 'treemergelaw09.ParseExprs'. -/
def parseExprsCard : Claim7 := { stood := { row := parseExprsRow, standIns := [], harness := (true, "10fa68673f35ebcc3d440af811b57260013ae6d40f7737b067337502e7da8b9c"), looks := true }, kinds := [], alts := [], laidByText := true, laidKinds := [.data, .data, .data, .sentinel, .sentinel, .widerDeep], laidTests := true, laidLooks := .later }
def ParseExprsCardSaid : Prop := Claim7.holds Tryz.pinned (.plain (OpenSpec.ofChange parseExprsSpec)) parseExprsCard

/-- THE TIED CARD OF 'treemergelaw09.ParseStmts'. -/
def parseStmtsCard : Claim7 := { stood := { row := parseStmtsRow, standIns := [], harness := (true, "10fa68673f35ebcc3d440af811b57260013ae6d40f7737b067337502e7da8b9c"), looks := true }, kinds := [], alts := [], laidByText := true, laidKinds := [.data, .data, .data, .sentinel, .sentinel, .widerDeep], laidTests := true, laidLooks := .later }
def ParseStmtsCardSaid : Prop := Claim7.holds Tryz.pinned (.plain (OpenSpec.ofChange parseStmtsSpec)) parseStmtsCard

/-- THE TIED CARD OF 'treemergelaw09.ParseLossless'. -/
def parseLosslessCard : Claim7 := { stood := { row := parseLosslessRow, standIns := [], harness := (true, "10fa68673f35ebcc3d440af811b57260013ae6d40f7737b067337502e7da8b9c"), looks := true }, kinds := [], alts := [], laidByText := true, laidKinds := [.data, .data, .data, .sentinel, .sentinel, .widerDeep], laidTests := true, laidLooks := .later }
def ParseLosslessCardSaid : Prop := Claim7.holds Tryz.pinned (.plain (OpenSpec.ofChange parseLosslessSpec)) parseLosslessCard

/-- THE TIED CARD OF 'treemergelaw09.ParsePrinted'. -/
def parsePrintedCard : Claim7 := { stood := { row := parsePrintedRow, standIns := [], harness := (true, "10fa68673f35ebcc3d440af811b57260013ae6d40f7737b067337502e7da8b9c"), looks := true }, kinds := [], alts := [], laidByText := true, laidKinds := [.data, .data, .data, .sentinel, .sentinel, .widerDeep], laidTests := true, laidLooks := .later }
def ParsePrintedCardSaid : Prop := Claim7.holds Tryz.pinned (.plain (OpenSpec.ofChange parsePrintedSpec)) parsePrintedCard

/-- THE SECOND FORM's CARD OF 'treemergelaw09.ParseFiles'. -/
def parseFilesUptoCard : Claim7 := { stood := { row := parseFilesUptoRow, standIns := [], harness := (true, "10fa68673f35ebcc3d440af811b57260013ae6d40f7737b067337502e7da8b9c"), looks := true }, kinds := [], alts := [], laidByText := true, laidKinds := [.data, .data, .data, .sentinel, .sentinel, .widerDeep], laidTests := true, laidLooks := .later }
def ParseFilesUptoCardSaid : Prop := Claim7.holds Tryz.pinned (.plain (OpenSpec.upto parseFilesSpec)) parseFilesUptoCard

/-- THE SECOND FORM's CARD OF 'treemergelaw09.ParseExprs'. -/
def parseExprsUptoCard : Claim7 := { stood := { row := parseExprsUptoRow, standIns := [], harness := (true, "10fa68673f35ebcc3d440af811b57260013ae6d40f7737b067337502e7da8b9c"), looks := true }, kinds := [], alts := [], laidByText := true, laidKinds := [.data, .data, .data, .sentinel, .sentinel, .widerDeep], laidTests := true, laidLooks := .later }
def ParseExprsUptoCardSaid : Prop := Claim7.holds Tryz.pinned (.plain (OpenSpec.upto parseExprsSpec)) parseExprsUptoCard

/-- THE SECOND FORM's CARD OF 'treemergelaw09.ParseStmts'. -/
def parseStmtsUptoCard : Claim7 := { stood := { row := parseStmtsUptoRow, standIns := [], harness := (true, "10fa68673f35ebcc3d440af811b57260013ae6d40f7737b067337502e7da8b9c"), looks := true }, kinds := [], alts := [], laidByText := true, laidKinds := [.data, .data, .data, .sentinel, .sentinel, .widerDeep], laidTests := true, laidLooks := .later }
def ParseStmtsUptoCardSaid : Prop := Claim7.holds Tryz.pinned (.plain (OpenSpec.upto parseStmtsSpec)) parseStmtsUptoCard

/-- THE SECOND FORM's CARD OF 'treemergelaw09.ParseLossless'. -/
def parseLosslessUptoCard : Claim7 := { stood := { row := parseLosslessUptoRow, standIns := [], harness := (true, "10fa68673f35ebcc3d440af811b57260013ae6d40f7737b067337502e7da8b9c"), looks := true }, kinds := [], alts := [], laidByText := true, laidKinds := [.data, .data, .data, .sentinel, .sentinel, .widerDeep], laidTests := true, laidLooks := .later }
def ParseLosslessUptoCardSaid : Prop := Claim7.holds Tryz.pinned (.plain (OpenSpec.upto parseLosslessSpec)) parseLosslessUptoCard

/-- THE SECOND FORM's CARD OF 'treemergelaw09.ParsePrinted'. -/
def parsePrintedUptoCard : Claim7 := { stood := { row := parsePrintedUptoRow, standIns := [], harness := (true, "10fa68673f35ebcc3d440af811b57260013ae6d40f7737b067337502e7da8b9c"), looks := true }, kinds := [], alts := [], laidByText := true, laidKinds := [.data, .data, .data, .sentinel, .sentinel, .widerDeep], laidTests := true, laidLooks := .later }
def ParsePrintedUptoCardSaid : Prop := Claim7.holds Tryz.pinned (.plain (OpenSpec.upto parsePrintedSpec)) parsePrintedUptoCard
end Rows
end Go.Proofs.YtigmilhpeodhbaaGreatDoor
