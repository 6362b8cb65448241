/-
  DERIVED. GIVEN WITH THE SEED: THE CARDS: each row of YtbdhekefhcjhaaaDoorRows.lean that lists a variable, with what it lists TIED to the program's text (the seventh form; the later family's looks); each row that meets fmt, with fmt's text TOLD by the authors' own Lean function (tested against real Go, not proved from fmt's source: count such statements apart). THE CARD IS WHAT COUNTS. Prove the row's statement (the work); the ties are given (YtbdhekefhcjhaaaDoorTie.lean); close each card by the builder's one call (the guide's Derived/Test/ToyasCard.lean, 'card_holds'). Laid BY PROGRAM, IN A SANDBOX (cutbox-door.mjs). By AI agents, Wed Nov 11 2026. No macro, syntax, notation, axiom, sorry.
-/
import Derived.Test.YtbdhekefhcjhaaaDoorRows
import GoSem.ClaimSeven
namespace Go.Proofs.YtbdhekefhcjhaaaDoor
namespace Rows

/-- THE TIED CARD OF 'treemergelaw08.PrintLayout'. -/
def printLayoutCard : Claim7 := { stood := { row := printLayoutRow, standIns := [], harness := (true, "b1db2054704f68c873ba8b65970e5b11a5602bdb50d04bce6b065c82ffba8f6a"), looks := false }, kinds := [], alts := [], laidByText := true, laidKinds := [.widerDeep], laidTests := true, laidLooks := .later }
def PrintLayoutCardSaid : Prop := Claim7.holds Tryd.pinned (.plain (OpenSpec.ofChange printLayoutSpec)) printLayoutCard

/-- THE TIED CARD OF 'treemergelaw08.PrintNumbers'. -/
def printNumbersCard : Claim7 := { stood := { row := printNumbersRow, standIns := [], harness := (true, "b1db2054704f68c873ba8b65970e5b11a5602bdb50d04bce6b065c82ffba8f6a"), looks := false }, kinds := [], alts := [], laidByText := true, laidKinds := [.widerDeep], laidTests := true, laidLooks := .later }
def PrintNumbersCardSaid : Prop := Claim7.holds Tryd.pinned (.plain (OpenSpec.ofChange printNumbersSpec)) printNumbersCard

/-- THE SECOND FORM's CARD OF 'treemergelaw08.PrintLayout'. -/
def printLayoutUptoCard : Claim7 := { stood := { row := printLayoutUptoRow, standIns := [], harness := (true, "b1db2054704f68c873ba8b65970e5b11a5602bdb50d04bce6b065c82ffba8f6a"), looks := false }, kinds := [], alts := [], laidByText := true, laidKinds := [.widerDeep], laidTests := true, laidLooks := .later }
def PrintLayoutUptoCardSaid : Prop := Claim7.holds Tryd.pinned (.plain (OpenSpec.upto printLayoutSpec)) printLayoutUptoCard

/-- THE SECOND FORM's CARD OF 'treemergelaw08.PrintNumbers'. -/
def printNumbersUptoCard : Claim7 := { stood := { row := printNumbersUptoRow, standIns := [], harness := (true, "b1db2054704f68c873ba8b65970e5b11a5602bdb50d04bce6b065c82ffba8f6a"), looks := false }, kinds := [], alts := [], laidByText := true, laidKinds := [.widerDeep], laidTests := true, laidLooks := .later }
def PrintNumbersUptoCardSaid : Prop := Claim7.holds Tryd.pinned (.plain (OpenSpec.upto printNumbersSpec)) printNumbersUptoCard
end Rows
end Go.Proofs.YtbdhekefhcjhaaaDoor
