/-
  DERIVED. GIVEN WITH THE SEED: THE CARDS: each row of YtpnkemogepoioaaGreatDoorRows.lean that lists a variable, with what it lists TIED to the program's text (the seventh form; the later family's looks); each row that meets fmt, with fmt's text TOLD by the authors' own Lean function (tested against real Go, not proved from fmt's source: count such statements apart). THE CARD IS WHAT COUNTS. Prove the row's statement (the work); the ties are given (YtpnkemogepoioaaGreatDoorTie.lean); close each card by the builder's one call (the guide's Derived/Test/ToyasCard.lean, 'card_holds'). Laid BY PROGRAM, IN A SANDBOX (cutbox-door.mjs). By AI agents, Wed Nov 11 2026. No macro, syntax, notation, axiom, sorry.
-/
import Derived.Test.YtpnkemogepoioaaGreatDoorRows
import GoSem.ClaimSeven
namespace Go.Proofs.YtpnkemogepoioaaGreatDoor
namespace Rows

/-- THE TIED CARD OF 'treemergelaw11.ProjectChecks'. -/
def projectChecksCard : Claim7 := { stood := { row := projectChecksRow, standIns := [], harness := (true, "310b62d87b2a581fc7a43294a7a3c96bddc4b31902e82386b657c8c4f1b570bc"), looks := true }, kinds := [], alts := [], laidByText := true, laidKinds := [.data, .data, .data, .sentinel, .sentinel, .widerDeep], laidTests := true, laidLooks := .later }
def ProjectChecksCardSaid : Prop := Claim7.holds Tryz.pinned (.plain (OpenSpec.ofChange projectChecksSpec)) projectChecksCard

/-- THE TIED CARD OF 'treemergelaw11.ProjectDecls'. -/
def projectDeclsCard : Claim7 := { stood := { row := projectDeclsRow, standIns := [], harness := (true, "310b62d87b2a581fc7a43294a7a3c96bddc4b31902e82386b657c8c4f1b570bc"), looks := true }, kinds := [], alts := [], laidByText := true, laidKinds := [.data, .data, .data, .sentinel, .sentinel, .widerDeep], laidTests := true, laidLooks := .later }
def ProjectDeclsCardSaid : Prop := Claim7.holds Tryz.pinned (.plain (OpenSpec.ofChange projectDeclsSpec)) projectDeclsCard

/-- THE TIED CARD OF 'treemergelaw11.ProjectOrder'. -/
def projectOrderCard : Claim7 := { stood := { row := projectOrderRow, standIns := [], harness := (true, "310b62d87b2a581fc7a43294a7a3c96bddc4b31902e82386b657c8c4f1b570bc"), looks := true }, kinds := [], alts := [], laidByText := true, laidKinds := [.data, .data, .data, .sentinel, .sentinel, .widerDeep], laidTests := true, laidLooks := .later }
def ProjectOrderCardSaid : Prop := Claim7.holds Tryz.pinned (.plain (OpenSpec.ofChange projectOrderSpec)) projectOrderCard

/-- THE TIED CARD OF 'treemergelaw11.ProjectMakes'. -/
def projectMakesCard : Claim7 := { stood := { row := projectMakesRow, standIns := [], harness := (true, "310b62d87b2a581fc7a43294a7a3c96bddc4b31902e82386b657c8c4f1b570bc"), looks := true }, kinds := [], alts := [], laidByText := true, laidKinds := [.data, .data, .data, .sentinel, .sentinel, .widerDeep], laidTests := true, laidLooks := .later }
def ProjectMakesCardSaid : Prop := Claim7.holds Tryz.pinned (.plain (OpenSpec.ofChange projectMakesSpec)) projectMakesCard

/-- THE TIED CARD OF 'treemergelaw11.ProjectLoads'. -/
def projectLoadsCard : Claim7 := { stood := { row := projectLoadsRow, standIns := [], harness := (true, "310b62d87b2a581fc7a43294a7a3c96bddc4b31902e82386b657c8c4f1b570bc"), looks := true }, kinds := [], alts := [], laidByText := true, laidKinds := [.data, .data, .data, .sentinel, .sentinel, .widerDeep], laidTests := true, laidLooks := .later }
def ProjectLoadsCardSaid : Prop := Claim7.holds Tryz.pinned (.plain (OpenSpec.ofChange projectLoadsSpec)) projectLoadsCard

/-- THE SECOND FORM's CARD OF 'treemergelaw11.ProjectChecks'. -/
def projectChecksUptoCard : Claim7 := { stood := { row := projectChecksUptoRow, standIns := [], harness := (true, "310b62d87b2a581fc7a43294a7a3c96bddc4b31902e82386b657c8c4f1b570bc"), looks := true }, kinds := [], alts := [], laidByText := true, laidKinds := [.data, .data, .data, .sentinel, .sentinel, .widerDeep], laidTests := true, laidLooks := .later }
def ProjectChecksUptoCardSaid : Prop := Claim7.holds Tryz.pinned (.plain (OpenSpec.upto projectChecksSpec)) projectChecksUptoCard

/-- THE SECOND FORM's CARD OF 'treemergelaw11.ProjectDecls'. -/
def projectDeclsUptoCard : Claim7 := { stood := { row := projectDeclsUptoRow, standIns := [], harness := (true, "310b62d87b2a581fc7a43294a7a3c96bddc4b31902e82386b657c8c4f1b570bc"), looks := true }, kinds := [], alts := [], laidByText := true, laidKinds := [.data, .data, .data, .sentinel, .sentinel, .widerDeep], laidTests := true, laidLooks := .later }
def ProjectDeclsUptoCardSaid : Prop := Claim7.holds Tryz.pinned (.plain (OpenSpec.upto projectDeclsSpec)) projectDeclsUptoCard

/-- THE SECOND FORM's CARD OF 'treemergelaw11.ProjectOrder'. -/
def projectOrderUptoCard : Claim7 := { stood := { row := projectOrderUptoRow, standIns := [], harness := (true, "310b62d87b2a581fc7a43294a7a3c96bddc4b31902e82386b657c8c4f1b570bc"), looks := true }, kinds := [], alts := [], laidByText := true, laidKinds := [.data, .data, .data, .sentinel, .sentinel, .widerDeep], laidTests := true, laidLooks := .later }
def ProjectOrderUptoCardSaid : Prop := Claim7.holds Tryz.pinned (.plain (OpenSpec.upto projectOrderSpec)) projectOrderUptoCard

/-- THE SECOND FORM's CARD OF 'treemergelaw11.ProjectMakes'. -/
def projectMakesUptoCard : Claim7 := { stood := { row := projectMakesUptoRow, standIns := [], harness := (true, "310b62d87b2a581fc7a43294a7a3c96bddc4b31902e82386b657c8c4f1b570bc"), looks := true }, kinds := [], alts := [], laidByText := true, laidKinds := [.data, .data, .data, .sentinel, .sentinel, .widerDeep], laidTests := true, laidLooks := .later }
def ProjectMakesUptoCardSaid : Prop := Claim7.holds Tryz.pinned (.plain (OpenSpec.upto projectMakesSpec)) projectMakesUptoCard

/-- THE SECOND FORM's CARD OF 'treemergelaw11.ProjectLoads'. -/
def projectLoadsUptoCard : Claim7 := { stood := { row := projectLoadsUptoRow, standIns := [], harness := (true, "310b62d87b2a581fc7a43294a7a3c96bddc4b31902e82386b657c8c4f1b570bc"), looks := true }, kinds := [], alts := [], laidByText := true, laidKinds := [.data, .data, .data, .sentinel, .sentinel, .widerDeep], laidTests := true, laidLooks := .later }
def ProjectLoadsUptoCardSaid : Prop := Claim7.holds Tryz.pinned (.plain (OpenSpec.upto projectLoadsSpec)) projectLoadsUptoCard
end Rows
end Go.Proofs.YtpnkemogepoioaaGreatDoor
