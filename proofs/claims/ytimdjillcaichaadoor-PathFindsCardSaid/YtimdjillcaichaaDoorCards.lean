/-
  DERIVED. GIVEN WITH THE SEED: THE CARDS: each row of YtimdjillcaichaaDoorRows.lean that lists a variable, with what it lists TIED to the program's text (the seventh form; the later family's looks); each row that meets fmt, with fmt's text TOLD by the authors' own Lean function (tested against real Go, not proved from fmt's source: count such statements apart). THE CARD IS WHAT COUNTS. Prove the row's statement (the work); the ties are given (YtimdjillcaichaaDoorTie.lean); close each card by the builder's one call (the guide's Derived/Test/ToyasCard.lean, 'card_holds'). Laid BY PROGRAM, IN A SANDBOX (cutbox-door.mjs). By AI agents, Wed Nov 11 2026. No macro, syntax, notation, axiom, sorry.
-/
import Derived.Test.YtimdjillcaichaaDoorRows
import GoSem.ClaimSeven
namespace Go.Proofs.YtimdjillcaichaaDoor
namespace Rows

/-- THE TIED CARD OF 'treemergelaw10.PathFinds'. -/
def pathFindsCard : Claim7 := { stood := { row := pathFindsRow, standIns := [], harness := (true, "fa90f8b6a9b702f0a8f8c87a2cac7f783eba6a206c13afcaa29ef1429e2a2cb9"), looks := true }, kinds := [], alts := [], laidByText := true, laidKinds := [.widerDeep], laidTests := true, laidLooks := .later }
def PathFindsCardSaid : Prop := Claim7.holds Tryd.pinned (.plain (OpenSpec.ofChange pathFindsSpec)) pathFindsCard

/-- THE TIED CARD OF 'treemergelaw10.PathChanges'. -/
def pathChangesCard : Claim7 := { stood := { row := pathChangesRow, standIns := [], harness := (true, "fa90f8b6a9b702f0a8f8c87a2cac7f783eba6a206c13afcaa29ef1429e2a2cb9"), looks := true }, kinds := [], alts := [], laidByText := true, laidKinds := [.widerDeep], laidTests := true, laidLooks := .later }
def PathChangesCardSaid : Prop := Claim7.holds Tryd.pinned (.plain (OpenSpec.ofChange pathChangesSpec)) pathChangesCard

/-- THE TIED CARD OF 'treemergelaw10.PathReplaces'. -/
def pathReplacesCard : Claim7 := { stood := { row := pathReplacesRow, standIns := [], harness := (true, "fa90f8b6a9b702f0a8f8c87a2cac7f783eba6a206c13afcaa29ef1429e2a2cb9"), looks := true }, kinds := [], alts := [], laidByText := true, laidKinds := [.widerDeep], laidTests := true, laidLooks := .later }
def PathReplacesCardSaid : Prop := Claim7.holds Tryd.pinned (.plain (OpenSpec.ofChange pathReplacesSpec)) pathReplacesCard

/-- THE TIED CARD OF 'treemergelaw10.PathIndexes'. -/
def pathIndexesCard : Claim7 := { stood := { row := pathIndexesRow, standIns := [], harness := (true, "fa90f8b6a9b702f0a8f8c87a2cac7f783eba6a206c13afcaa29ef1429e2a2cb9"), looks := true }, kinds := [], alts := [], laidByText := true, laidKinds := [.widerDeep], laidTests := true, laidLooks := .later }
def PathIndexesCardSaid : Prop := Claim7.holds Tryd.pinned (.plain (OpenSpec.ofChange pathIndexesSpec)) pathIndexesCard

/-- THE TIED CARD OF 'treemergelaw10.PathRemoves'. -/
def pathRemovesCard : Claim7 := { stood := { row := pathRemovesRow, standIns := [], harness := (true, "fa90f8b6a9b702f0a8f8c87a2cac7f783eba6a206c13afcaa29ef1429e2a2cb9"), looks := true }, kinds := [], alts := [], laidByText := true, laidKinds := [.widerDeep], laidTests := true, laidLooks := .later }
def PathRemovesCardSaid : Prop := Claim7.holds Tryd.pinned (.plain (OpenSpec.ofChange pathRemovesSpec)) pathRemovesCard

/-- THE TIED CARD OF 'treemergelaw10.PathBack'. -/
def pathBackCard : Claim7 := { stood := { row := pathBackRow, standIns := [], harness := (true, "fa90f8b6a9b702f0a8f8c87a2cac7f783eba6a206c13afcaa29ef1429e2a2cb9"), looks := true }, kinds := [], alts := [], laidByText := true, laidKinds := [.widerDeep], laidTests := true, laidLooks := .later }
def PathBackCardSaid : Prop := Claim7.holds Tryd.pinned (.plain (OpenSpec.ofChange pathBackSpec)) pathBackCard

/-- THE TIED CARD OF 'treemergelaw05.TokenReads'. -/
def tokenReadsCard : Claim7 := { stood := { row := tokenReadsRow, standIns := [], harness := (true, "fa90f8b6a9b702f0a8f8c87a2cac7f783eba6a206c13afcaa29ef1429e2a2cb9"), looks := true }, kinds := [], alts := [], laidByText := true, laidKinds := [.data, .data, .data, .sentinel, .sentinel], laidTests := true, laidLooks := .later }
def TokenReadsCardSaid : Prop := Claim7.holds Tryd.pinned (.plain (OpenSpec.ofChange tokenReadsSpec)) tokenReadsCard

/-- THE TIED CARD OF 'treemergelaw05.TokenKinds'. -/
def tokenKindsCard : Claim7 := { stood := { row := tokenKindsRow, standIns := [], harness := (true, "fa90f8b6a9b702f0a8f8c87a2cac7f783eba6a206c13afcaa29ef1429e2a2cb9"), looks := true }, kinds := [], alts := [], laidByText := true, laidKinds := [.data, .data, .data, .sentinel, .sentinel], laidTests := true, laidLooks := .later }
def TokenKindsCardSaid : Prop := Claim7.holds Tryd.pinned (.plain (OpenSpec.ofChange tokenKindsSpec)) tokenKindsCard

/-- THE TIED CARD OF 'treemergelaw05.TokenJoins'. -/
def tokenJoinsCard : Claim7 := { stood := { row := tokenJoinsRow, standIns := [], harness := (true, "fa90f8b6a9b702f0a8f8c87a2cac7f783eba6a206c13afcaa29ef1429e2a2cb9"), looks := true }, kinds := [], alts := [], laidByText := true, laidKinds := [.data, .data, .data, .sentinel, .sentinel], laidTests := true, laidLooks := .later }
def TokenJoinsCardSaid : Prop := Claim7.holds Tryd.pinned (.plain (OpenSpec.ofChange tokenJoinsSpec)) tokenJoinsCard

/-- THE TIED CARD OF 'treemergelaw05.TokenLossless'. -/
def tokenLosslessCard : Claim7 := { stood := { row := tokenLosslessRow, standIns := [], harness := (true, "fa90f8b6a9b702f0a8f8c87a2cac7f783eba6a206c13afcaa29ef1429e2a2cb9"), looks := true }, kinds := [], alts := [], laidByText := true, laidKinds := [.data, .data, .data, .sentinel, .sentinel], laidTests := true, laidLooks := .later }
def TokenLosslessCardSaid : Prop := Claim7.holds Tryd.pinned (.plain (OpenSpec.ofChange tokenLosslessSpec)) tokenLosslessCard

/-- THE TIED CARD OF 'treemergelaw05.TokenGaps'. -/
def tokenGapsCard : Claim7 := { stood := { row := tokenGapsRow, standIns := [], harness := (true, "fa90f8b6a9b702f0a8f8c87a2cac7f783eba6a206c13afcaa29ef1429e2a2cb9"), looks := true }, kinds := [], alts := [], laidByText := true, laidKinds := [.data, .data, .data, .sentinel, .sentinel], laidTests := true, laidLooks := .later }
def TokenGapsCardSaid : Prop := Claim7.holds Tryd.pinned (.plain (OpenSpec.ofChange tokenGapsSpec)) tokenGapsCard

/-- THE TIED CARD OF 'treemergelaw05.TokenBlanks'. -/
def tokenBlanksCard : Claim7 := { stood := { row := tokenBlanksRow, standIns := [], harness := (true, "fa90f8b6a9b702f0a8f8c87a2cac7f783eba6a206c13afcaa29ef1429e2a2cb9"), looks := true }, kinds := [], alts := [], laidByText := true, laidKinds := [.data, .data, .data, .sentinel, .sentinel], laidTests := true, laidLooks := .later }
def TokenBlanksCardSaid : Prop := Claim7.holds Tryd.pinned (.plain (OpenSpec.ofChange tokenBlanksSpec)) tokenBlanksCard

/-- THE TIED CARD OF 'treemergelaw05.TokenPlaces'. -/
def tokenPlacesCard : Claim7 := { stood := { row := tokenPlacesRow, standIns := [], harness := (true, "fa90f8b6a9b702f0a8f8c87a2cac7f783eba6a206c13afcaa29ef1429e2a2cb9"), looks := true }, kinds := [], alts := [], laidByText := true, laidKinds := [.data, .data, .data, .sentinel, .sentinel], laidTests := true, laidLooks := .later }
def TokenPlacesCardSaid : Prop := Claim7.holds Tryd.pinned (.plain (OpenSpec.ofChange tokenPlacesSpec)) tokenPlacesCard

/-- THE SECOND FORM's CARD OF 'treemergelaw10.PathFinds'. -/
def pathFindsUptoCard : Claim7 := { stood := { row := pathFindsUptoRow, standIns := [], harness := (true, "fa90f8b6a9b702f0a8f8c87a2cac7f783eba6a206c13afcaa29ef1429e2a2cb9"), looks := true }, kinds := [], alts := [], laidByText := true, laidKinds := [.widerDeep], laidTests := true, laidLooks := .later }
def PathFindsUptoCardSaid : Prop := Claim7.holds Tryd.pinned (.plain (OpenSpec.upto pathFindsSpec)) pathFindsUptoCard

/-- THE SECOND FORM's CARD OF 'treemergelaw10.PathChanges'. -/
def pathChangesUptoCard : Claim7 := { stood := { row := pathChangesUptoRow, standIns := [], harness := (true, "fa90f8b6a9b702f0a8f8c87a2cac7f783eba6a206c13afcaa29ef1429e2a2cb9"), looks := true }, kinds := [], alts := [], laidByText := true, laidKinds := [.widerDeep], laidTests := true, laidLooks := .later }
def PathChangesUptoCardSaid : Prop := Claim7.holds Tryd.pinned (.plain (OpenSpec.upto pathChangesSpec)) pathChangesUptoCard

/-- THE SECOND FORM's CARD OF 'treemergelaw10.PathReplaces'. -/
def pathReplacesUptoCard : Claim7 := { stood := { row := pathReplacesUptoRow, standIns := [], harness := (true, "fa90f8b6a9b702f0a8f8c87a2cac7f783eba6a206c13afcaa29ef1429e2a2cb9"), looks := true }, kinds := [], alts := [], laidByText := true, laidKinds := [.widerDeep], laidTests := true, laidLooks := .later }
def PathReplacesUptoCardSaid : Prop := Claim7.holds Tryd.pinned (.plain (OpenSpec.upto pathReplacesSpec)) pathReplacesUptoCard

/-- THE SECOND FORM's CARD OF 'treemergelaw10.PathIndexes'. -/
def pathIndexesUptoCard : Claim7 := { stood := { row := pathIndexesUptoRow, standIns := [], harness := (true, "fa90f8b6a9b702f0a8f8c87a2cac7f783eba6a206c13afcaa29ef1429e2a2cb9"), looks := true }, kinds := [], alts := [], laidByText := true, laidKinds := [.widerDeep], laidTests := true, laidLooks := .later }
def PathIndexesUptoCardSaid : Prop := Claim7.holds Tryd.pinned (.plain (OpenSpec.upto pathIndexesSpec)) pathIndexesUptoCard

/-- THE SECOND FORM's CARD OF 'treemergelaw10.PathRemoves'. -/
def pathRemovesUptoCard : Claim7 := { stood := { row := pathRemovesUptoRow, standIns := [], harness := (true, "fa90f8b6a9b702f0a8f8c87a2cac7f783eba6a206c13afcaa29ef1429e2a2cb9"), looks := true }, kinds := [], alts := [], laidByText := true, laidKinds := [.widerDeep], laidTests := true, laidLooks := .later }
def PathRemovesUptoCardSaid : Prop := Claim7.holds Tryd.pinned (.plain (OpenSpec.upto pathRemovesSpec)) pathRemovesUptoCard

/-- THE SECOND FORM's CARD OF 'treemergelaw10.PathBack'. -/
def pathBackUptoCard : Claim7 := { stood := { row := pathBackUptoRow, standIns := [], harness := (true, "fa90f8b6a9b702f0a8f8c87a2cac7f783eba6a206c13afcaa29ef1429e2a2cb9"), looks := true }, kinds := [], alts := [], laidByText := true, laidKinds := [.widerDeep], laidTests := true, laidLooks := .later }
def PathBackUptoCardSaid : Prop := Claim7.holds Tryd.pinned (.plain (OpenSpec.upto pathBackSpec)) pathBackUptoCard

/-- THE SECOND FORM's CARD OF 'treemergelaw05.TokenReads'. -/
def tokenReadsUptoCard : Claim7 := { stood := { row := tokenReadsUptoRow, standIns := [], harness := (true, "fa90f8b6a9b702f0a8f8c87a2cac7f783eba6a206c13afcaa29ef1429e2a2cb9"), looks := true }, kinds := [], alts := [], laidByText := true, laidKinds := [.data, .data, .data, .sentinel, .sentinel], laidTests := true, laidLooks := .later }
def TokenReadsUptoCardSaid : Prop := Claim7.holds Tryd.pinned (.plain (OpenSpec.upto tokenReadsSpec)) tokenReadsUptoCard

/-- THE SECOND FORM's CARD OF 'treemergelaw05.TokenKinds'. -/
def tokenKindsUptoCard : Claim7 := { stood := { row := tokenKindsUptoRow, standIns := [], harness := (true, "fa90f8b6a9b702f0a8f8c87a2cac7f783eba6a206c13afcaa29ef1429e2a2cb9"), looks := true }, kinds := [], alts := [], laidByText := true, laidKinds := [.data, .data, .data, .sentinel, .sentinel], laidTests := true, laidLooks := .later }
def TokenKindsUptoCardSaid : Prop := Claim7.holds Tryd.pinned (.plain (OpenSpec.upto tokenKindsSpec)) tokenKindsUptoCard

/-- THE SECOND FORM's CARD OF 'treemergelaw05.TokenJoins'. -/
def tokenJoinsUptoCard : Claim7 := { stood := { row := tokenJoinsUptoRow, standIns := [], harness := (true, "fa90f8b6a9b702f0a8f8c87a2cac7f783eba6a206c13afcaa29ef1429e2a2cb9"), looks := true }, kinds := [], alts := [], laidByText := true, laidKinds := [.data, .data, .data, .sentinel, .sentinel], laidTests := true, laidLooks := .later }
def TokenJoinsUptoCardSaid : Prop := Claim7.holds Tryd.pinned (.plain (OpenSpec.upto tokenJoinsSpec)) tokenJoinsUptoCard

/-- THE SECOND FORM's CARD OF 'treemergelaw05.TokenLossless'. -/
def tokenLosslessUptoCard : Claim7 := { stood := { row := tokenLosslessUptoRow, standIns := [], harness := (true, "fa90f8b6a9b702f0a8f8c87a2cac7f783eba6a206c13afcaa29ef1429e2a2cb9"), looks := true }, kinds := [], alts := [], laidByText := true, laidKinds := [.data, .data, .data, .sentinel, .sentinel], laidTests := true, laidLooks := .later }
def TokenLosslessUptoCardSaid : Prop := Claim7.holds Tryd.pinned (.plain (OpenSpec.upto tokenLosslessSpec)) tokenLosslessUptoCard

/-- THE SECOND FORM's CARD OF 'treemergelaw05.TokenGaps'. -/
def tokenGapsUptoCard : Claim7 := { stood := { row := tokenGapsUptoRow, standIns := [], harness := (true, "fa90f8b6a9b702f0a8f8c87a2cac7f783eba6a206c13afcaa29ef1429e2a2cb9"), looks := true }, kinds := [], alts := [], laidByText := true, laidKinds := [.data, .data, .data, .sentinel, .sentinel], laidTests := true, laidLooks := .later }
def TokenGapsUptoCardSaid : Prop := Claim7.holds Tryd.pinned (.plain (OpenSpec.upto tokenGapsSpec)) tokenGapsUptoCard

/-- THE SECOND FORM's CARD OF 'treemergelaw05.TokenBlanks'. -/
def tokenBlanksUptoCard : Claim7 := { stood := { row := tokenBlanksUptoRow, standIns := [], harness := (true, "fa90f8b6a9b702f0a8f8c87a2cac7f783eba6a206c13afcaa29ef1429e2a2cb9"), looks := true }, kinds := [], alts := [], laidByText := true, laidKinds := [.data, .data, .data, .sentinel, .sentinel], laidTests := true, laidLooks := .later }
def TokenBlanksUptoCardSaid : Prop := Claim7.holds Tryd.pinned (.plain (OpenSpec.upto tokenBlanksSpec)) tokenBlanksUptoCard

/-- THE SECOND FORM's CARD OF 'treemergelaw05.TokenPlaces'. -/
def tokenPlacesUptoCard : Claim7 := { stood := { row := tokenPlacesUptoRow, standIns := [], harness := (true, "fa90f8b6a9b702f0a8f8c87a2cac7f783eba6a206c13afcaa29ef1429e2a2cb9"), looks := true }, kinds := [], alts := [], laidByText := true, laidKinds := [.data, .data, .data, .sentinel, .sentinel], laidTests := true, laidLooks := .later }
def TokenPlacesUptoCardSaid : Prop := Claim7.holds Tryd.pinned (.plain (OpenSpec.upto tokenPlacesSpec)) tokenPlacesUptoCard
end Rows
end Go.Proofs.YtimdjillcaichaaDoor
