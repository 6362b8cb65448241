/-
  DERIVED. GIVEN WITH THE SEED: THE CARDS: each row of YtimcdpioclioiaaGreatDoorRows.lean that lists a variable, with what it lists TIED to the program's text (the seventh form; the later family's looks); each row that meets fmt, with fmt's text TOLD by the authors' own Lean function (tested against real Go, not proved from fmt's source: count such statements apart). THE CARD IS WHAT COUNTS. Prove the row's statement (the work); the ties are given (YtimcdpioclioiaaGreatDoorTie.lean); close each card by the builder's one call (the guide's Derived/Test/ToyasCard.lean, 'card_holds'). Laid BY PROGRAM, IN A SANDBOX (cutbox-door.mjs). By AI agents, Wed Nov 11 2026. No macro, syntax, notation, axiom, sorry.
-/
import Derived.Test.YtimcdpioclioiaaGreatDoorRows
import GoSem.ClaimSeven
namespace Go.Proofs.YtimcdpioclioiaaGreatDoor
namespace Rows

/-- THE TIED CARD OF 'treemergelaw08.PrintTokens'. -/
def printTokensCard : Claim7 := { stood := { row := printTokensRow, standIns := [], harness := (true, "d540b839b18a8a7be95f76dd623d0ac02b1343d36b01abeab60fbb6c0cbc59d6"), looks := true }, kinds := [], alts := [], laidByText := true, laidKinds := [.data, .data, .data, .sentinel, .sentinel, .widerDeep], laidTests := true, laidLooks := .later }
def PrintTokensCardSaid : Prop := Claim7.holds Tryz.pinned (.plain (OpenSpec.ofChange printTokensSpec)) printTokensCard

/-- THE SECOND FORM's CARD OF 'treemergelaw08.PrintTokens'. -/
def printTokensUptoCard : Claim7 := { stood := { row := printTokensUptoRow, standIns := [], harness := (true, "d540b839b18a8a7be95f76dd623d0ac02b1343d36b01abeab60fbb6c0cbc59d6"), looks := true }, kinds := [], alts := [], laidByText := true, laidKinds := [.data, .data, .data, .sentinel, .sentinel, .widerDeep], laidTests := true, laidLooks := .later }
def PrintTokensUptoCardSaid : Prop := Claim7.holds Tryz.pinned (.plain (OpenSpec.upto printTokensSpec)) printTokensUptoCard
end Rows
end Go.Proofs.YtimcdpioclioiaaGreatDoor
