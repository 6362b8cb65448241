/-
  NARROWER THAN 'FOR EVERY INPUT', by the rows' own cells (each row's printed sentence says how): PrintLayout: loops, laid · PrintNumbers: loops, laid.
  DERIVED. THE GIVEN ROWS OF THIS SEAT. 2 by the template 'for every input the law returns true; each argument reads behind the call as it read before'; 0 by the template 'total and deterministic' (their statements: YtbdhekefhcjhaaaDoorTotals.lean).
  GIVEN WITH THE SEED: the statements are not yours to turn. If you find one false, say at which input.
  Laid BY PROGRAM, IN A SANDBOX (cutbox-rows.mjs): the forced cells as the released guide's own fill.sh prints them over the translation 886376fb0d80f3e5… (all of the seat's roots in one cut). By AI agents, Wed Nov 11 2026. No macro, syntax, notation, axiom, sorry.
-/
import Derived.Test.YtbdhekefhcjhaaaDoorChecked
import GoSem.Claim
import GoSem.ClaimJoined
import GoSem.ClaimMapViews
import Derived.JoinedTies
import Derived.KernelRfl
namespace Go.Proofs.YtbdhekefhcjhaaaDoor
/- THE CELL 'sum', in the pinned program and in every row, IS THE sha256 OF THE DUMP (.gsa) THAT YtbdhekefhcjhaaaDoorProg.lean LOADS. Nothing in Lean hashes anything: it is a label: what it is worth is what the hold of that sum in a sandbox is worth. -/
noncomputable def Tryd.pinned : Pinned := { name := "ytbdhekefhcjhaaadoor", sum := "886376fb0d80f3e5603d415eec8f52b71b275eba92cf6031a37adec8cb54fbdc", checked := Tryd.checked }
namespace Rows
def none {H : Type} : Left H := { results := [], args := [] }

/- WHAT THE LISTED PACKAGE-LEVEL VARIABLES READ AS WHEN THE CALL BEGINS. Each datum BY PROGRAM (the guide's laid-datum.mjs) off the statement by which the dump's own 'gosem.cut.vars' lays the variable. In a bare row this is a premise. The card (YtbdhekefhcjhaaaDoorCards.lean) ties it to the program's text. -/
def laid_treemerge_grammar_shapes {H : Type} : DataW H := .agg [.agg [.nil, .agg [.lit (.int .i64 0), .lit (.int .i64 0)], .lit (.int .i64 0), .nil, .lit (.int .i64 0)], .agg [.nil, .agg [.lit (.int .i64 0), .lit (.int .i64 1)], .lit (.int .i64 0), .nil, .lit (.int .i64 1)], .agg [.slice [.agg [.lit (.int .i64 3), .lit (.int .i64 0)], .agg [.lit (.int .i64 5), .lit (.int .i64 0)], .agg [.lit (.int .i64 6), .lit (.int .i64 0)]] [], .agg [.lit (.int .i64 0), .lit (.int .i64 0)], .lit (.int .i64 1), .nil, .lit (.int .i64 2)], .agg [.nil, .agg [.lit (.int .i64 4), .lit (.int .i64 0)], .lit (.int .i64 0), .nil, .lit (.int .i64 2)], .agg [.slice [.agg [.lit (.int .i64 5), .lit (.int .i64 0)]] [], .agg [.lit (.int .i64 0), .lit (.int .i64 0)], .lit (.int .i64 1), .nil, .lit (.int .i64 1)], .agg [.nil, .agg [.lit (.int .i64 0), .lit (.int .i64 0)], .lit (.int .i64 1), .nil, .lit (.int .i64 1)], .agg [.nil, .agg [.lit (.int .i64 0), .lit (.int .i64 2)], .lit (.int .i64 0), .nil, .lit (.int .i64 2)], .agg [.slice [.agg [.lit (.int .i64 8), .lit (.int .i64 0)]] [], .agg [.lit (.int .i64 2), .lit (.int .i64 0)], .lit (.int .i64 1), .nil, .lit (.int .i64 4)], .agg [.nil, .agg [.lit (.int .i64 0), .lit (.int .i64 0)], .lit (.int .i64 2), .nil, .lit (.int .i64 2)], .agg [.slice [.agg [.lit (.int .i64 0), .lit (.int .i64 3)]] [], .agg [.lit (.int .i64 0), .lit (.int .i64 0)], .lit (.int .i64 1), .nil, .lit (.int .i64 4)], .agg [.slice [.agg [.lit (.int .i64 0), .lit (.int .i64 3)]] [], .agg [.lit (.int .i64 0), .lit (.int .i64 0)], .lit (.int .i64 1), .nil, .lit (.int .i64 4)], .agg [.slice [.agg [.lit (.int .i64 0), .lit (.int .i64 3)]] [], .agg [.lit (.int .i64 0), .lit (.int .i64 0)], .lit (.int .i64 1), .nil, .lit (.int .i64 3)], .agg [.slice [.agg [.lit (.int .i64 0), .lit (.int .i64 3)]] [], .agg [.lit (.int .i64 0), .lit (.int .i64 0)], .lit (.int .i64 0), .nil, .lit (.int .i64 2)], .agg [.slice [.agg [.lit (.int .i64 0), .lit (.int .i64 3)], .agg [.lit (.int .i64 6), .lit (.int .i64 0)], .agg [.lit (.int .i64 14), .lit (.int .i64 0)]] [], .agg [.lit (.int .i64 0), .lit (.int .i64 0)], .lit (.int .i64 0), .nil, .lit (.int .i64 1)], .agg [.slice [.agg [.lit (.int .i64 6), .lit (.int .i64 0)]] [], .agg [.lit (.int .i64 0), .lit (.int .i64 0)], .lit (.int .i64 0), .nil, .lit (.int .i64 1)], .agg [.slice [.agg [.lit (.int .i64 0), .lit (.int .i64 3)], .agg [.lit (.int .i64 6), .lit (.int .i64 0)]] [], .agg [.lit (.int .i64 0), .lit (.int .i64 0)], .lit (.int .i64 0), .nil, .lit (.int .i64 1)], .agg [.slice [.agg [.lit (.int .i64 0), .lit (.int .i64 3)]] [], .agg [.lit (.int .i64 0), .lit (.int .i64 0)], .lit (.int .i64 0), .nil, .lit (.int .i64 1)], .agg [.nil, .agg [.lit (.int .i64 0), .lit (.int .i64 0)], .lit (.int .i64 3), .nil, .lit (.int .i64 1)], .agg [.nil, .agg [.lit (.int .i64 0), .lit (.int .i64 0)], .lit (.int .i64 4), .slice [.lit (.string [116, 114, 117, 101]), .lit (.string [102, 97, 108, 115, 101])] [], .lit (.int .i64 1)], .agg [.nil, .agg [.lit (.int .i64 0), .lit (.int .i64 0)], .lit (.int .i64 1), .nil, .lit (.int .i64 1)], .agg [.nil, .agg [.lit (.int .i64 0), .lit (.int .i64 3)], .lit (.int .i64 1), .nil, .lit (.int .i64 3)], .agg [.slice [.agg [.lit (.int .i64 0), .lit (.int .i64 3)]] [], .agg [.lit (.int .i64 0), .lit (.int .i64 3)], .lit (.int .i64 1), .nil, .lit (.int .i64 4)], .agg [.nil, .agg [.lit (.int .i64 0), .lit (.int .i64 0)], .lit (.int .i64 1), .nil, .lit (.int .i64 4)], .agg [.nil, .agg [.lit (.int .i64 0), .lit (.int .i64 0)], .lit (.int .i64 4), .slice [.lit (.string [115, 101, 108, 102])] [], .lit (.int .i64 1)], .agg [.slice [.agg [.lit (.int .i64 0), .lit (.int .i64 3)], .agg [.lit (.int .i64 0), .lit (.int .i64 3)]] [], .agg [.lit (.int .i64 0), .lit (.int .i64 0)], .lit (.int .i64 4), .slice [.lit (.string [124]), .lit (.string [38]), .lit (.string [61, 61]), .lit (.string [60]), .lit (.string [43]), .lit (.string [45]), .lit (.string [42]), .lit (.string [47])] [], .lit (.int .i64 1)], .agg [.slice [.agg [.lit (.int .i64 0), .lit (.int .i64 3)]] [], .agg [.lit (.int .i64 0), .lit (.int .i64 0)], .lit (.int .i64 4), .slice [.lit (.string [45]), .lit (.string [33])] [], .lit (.int .i64 1)], .agg [.slice [.agg [.lit (.int .i64 0), .lit (.int .i64 3)]] [], .agg [.lit (.int .i64 0), .lit (.int .i64 0)], .lit (.int .i64 0), .nil, .lit (.int .i64 2)]]

/-- 'treemergelaw08.PrintLayout': WHATEVER THE INPUT: true; the input reads as it did. -/
def printLayoutSpec : ChangeSpec := { name := "printLayout", fn := fun _ => fun
  | [d] => { results := [.lit (.bool true)], args := [d] }
  | _ => none }
def printLayoutRow : OpenClaim := { program := "ytbdhekefhcjhaaadoor", sum := "886376fb0d80f3e5603d415eec8f52b71b275eba92cf6031a37adec8cb54fbdc", func := "treemerge/treemergelaw08.PrintLayout", spec := "printLayout", inPlace := ["internal/bytealg.IndexByteString", "internal/abi.NoEscape", "internal/bytealg.MakeNoZero"], unfollowed := true, recurses := true, named := ["treemerge/grammar.shapes"], loops := true, apart := false, laid := [("treemerge/grammar.shapes", laid_treemerge_grammar_shapes)] }
def PrintLayoutSaid : Prop := printLayoutRow.holds Tryd.pinned (OpenSpec.ofChange printLayoutSpec)

/-- ITS FALSE NEIGHBOUR: 'it returns false'. Refute it at one input. -/
def printLayoutWrong : ChangeSpec := { name := "printLayout", fn := fun _ => fun
  | [d] => { results := [.lit (.bool false)], args := [d] }
  | _ => none }
def PrintLayoutWrongFalsely : Prop := printLayoutRow.holds Tryd.pinned (OpenSpec.ofChange printLayoutWrong)

/-- 'treemergelaw08.PrintNumbers': WHATEVER THE INPUT: true; the input reads as it did. -/
def printNumbersSpec : ChangeSpec := { name := "printNumbers", fn := fun _ => fun
  | [d] => { results := [.lit (.bool true)], args := [d] }
  | _ => none }
def printNumbersRow : OpenClaim := { program := "ytbdhekefhcjhaaadoor", sum := "886376fb0d80f3e5603d415eec8f52b71b275eba92cf6031a37adec8cb54fbdc", func := "treemerge/treemergelaw08.PrintNumbers", spec := "printNumbers", inPlace := ["internal/bytealg.IndexByteString", "internal/abi.NoEscape", "internal/bytealg.MakeNoZero"], unfollowed := true, recurses := true, named := ["treemerge/grammar.shapes"], loops := true, apart := false, laid := [("treemerge/grammar.shapes", laid_treemerge_grammar_shapes)] }
def PrintNumbersSaid : Prop := printNumbersRow.holds Tryd.pinned (OpenSpec.ofChange printNumbersSpec)

/-- ITS FALSE NEIGHBOUR: 'it returns false'. Refute it at one input. -/
def printNumbersWrong : ChangeSpec := { name := "printNumbers", fn := fun _ => fun
  | [d] => { results := [.lit (.bool false)], args := [d] }
  | _ => none }
def PrintNumbersWrongFalsely : Prop := printNumbersRow.holds Tryd.pinned (OpenSpec.ofChange printNumbersWrong)

/- THE SECOND FORM. 'bulk': how many values and letters a reading holds, each counted each time it is reached (what is shared counts as often as it is met; a slice's spare places count too). A statement '..UptoSaid' is the law's where the arguments, and the package variables that the reading takes, are together of bulk at most 1048576: NARROWER than '..Said'. Prove '..Said' where nothing that the law and all that it calls make is longer than what came in: it says more and counts as full. Else prove '..UptoSaid'. A law counts once. -/
mutual
def uptoBulk {H : Type} : DataW H → Nat
  | .lit (.string bytes) => bytes.length + 1
  | .lit _ => 1
  | .nil => 1
  | .ptr d => uptoBulk d + 1
  | .slice elems spare => uptoBulkAll elems + uptoBulkAll spare + 1
  | .agg parts => uptoBulkAll parts + 1
  | .iface _ d => uptoBulk d + 1
  | .map entries => uptoBulkEntries entries + 1
  | .held _ => 1
def uptoBulkAll {H : Type} : List (DataW H) → Nat
  | [] => 0
  | d :: r => uptoBulk d + uptoBulkAll r
def uptoBulkEntries {H : Type} : List (Lit × DataW H) → Nat
  | [] => 0
  | x :: r => uptoBulkEntry x + uptoBulkEntries r
def uptoBulkEntry {H : Type} : Lit × DataW H → Nat
  | (.string bytes, d) => bytes.length + uptoBulk d + 1
  | (_, d) => uptoBulk d + 1
 end
def uptoSmall : (H : Type) → List (DataW H) → Bool := fun _ ds => decide (uptoBulkAll ds ≤ 1048576)
def OpenSpec.upto (s : _root_.Go.ChangeSpec) : _root_.Go.OpenSpec := { _root_.Go.OpenSpec.ofChange s with cond := some uptoSmall }

/-- 'treemergelaw08.PrintLayout', WHERE WHAT IT READS IS OF BULK AT MOST 1048576: true; the input reads as it did. -/
def printLayoutUptoRow : OpenClaim := { program := "ytbdhekefhcjhaaadoor", sum := "886376fb0d80f3e5603d415eec8f52b71b275eba92cf6031a37adec8cb54fbdc", func := "treemerge/treemergelaw08.PrintLayout", spec := "printLayout", inPlace := ["internal/bytealg.IndexByteString", "internal/abi.NoEscape", "internal/bytealg.MakeNoZero"], unfollowed := true, recurses := true, named := ["treemerge/grammar.shapes"], loops := true, apart := false, laid := [("treemerge/grammar.shapes", laid_treemerge_grammar_shapes)], narrowed := true }
def PrintLayoutUptoSaid : Prop := printLayoutUptoRow.holds Tryd.pinned (OpenSpec.upto printLayoutSpec)

/-- 'treemergelaw08.PrintNumbers', WHERE WHAT IT READS IS OF BULK AT MOST 1048576: true; the input reads as it did. -/
def printNumbersUptoRow : OpenClaim := { program := "ytbdhekefhcjhaaadoor", sum := "886376fb0d80f3e5603d415eec8f52b71b275eba92cf6031a37adec8cb54fbdc", func := "treemerge/treemergelaw08.PrintNumbers", spec := "printNumbers", inPlace := ["internal/bytealg.IndexByteString", "internal/abi.NoEscape", "internal/bytealg.MakeNoZero"], unfollowed := true, recurses := true, named := ["treemerge/grammar.shapes"], loops := true, apart := false, laid := [("treemerge/grammar.shapes", laid_treemerge_grammar_shapes)], narrowed := true }
def PrintNumbersUptoSaid : Prop := printNumbersUptoRow.holds Tryd.pinned (OpenSpec.upto printNumbersSpec)

end Rows
end Go.Proofs.YtbdhekefhcjhaaaDoor
