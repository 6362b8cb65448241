/-
  NARROWER THAN 'FOR EVERY INPUT', by the rows' own cells (each row's printed sentence says how): PrintWords: loops, laid · PrintTexts: loops, laid · PrintLays: loops, laid.
  DERIVED. THE GIVEN ROWS OF THIS SEAT. 3 by the template 'for every input the law returns true; each argument reads behind the call as it read before'; 0 by the template 'total and deterministic' (their statements: YtbdhekefhcjhaaaGreatDoorTotals.lean).
  GIVEN WITH THE SEED: the statements are not yours to turn. If you find one false, say at which input.
  Laid BY PROGRAM, IN A SANDBOX (cutbox-rows.mjs): the forced cells as the released guide's own fill.sh prints them over the translation ac4eb1da103341d5… (all of the seat's roots in one cut). By AI agents, Wed Nov 11 2026. No macro, syntax, notation, axiom, sorry.
-/
import Derived.Test.YtbdhekefhcjhaaaGreatDoorChecked
import GoSem.Claim
import GoSem.ClaimJoined
import GoSem.ClaimMapViews
import Derived.JoinedTies
import Derived.KernelRfl
namespace Go.Proofs.YtbdhekefhcjhaaaGreatDoor
/- THE CELL 'sum', in the pinned program and in every row, IS THE sha256 OF THE DUMP (.gsa) THAT YtbdhekefhcjhaaaGreatDoorProg.lean LOADS. Nothing in Lean hashes anything: it is a label: what it is worth is what the hold of that sum in a sandbox is worth. -/
noncomputable def Tryz.pinned : Pinned := { name := "ytbdhekefhcjhaaagreatdoor", sum := "ac4eb1da103341d5dbe7fb9c8bf46aaeca2909a3c64e7c0eacc4a1c0d5a90a58", checked := Tryz.checked }
namespace Rows
def none {H : Type} : Left H := { results := [], args := [] }

/- WHAT THE LISTED PACKAGE-LEVEL VARIABLES READ AS WHEN THE CALL BEGINS. Each datum BY PROGRAM (the guide's laid-datum.mjs) off the statement by which the dump's own 'gosem.cut.vars' lays the variable. In a bare row this is a premise. The card (YtbdhekefhcjhaaaGreatDoorCards.lean) ties it to the program's text. -/
def laid_treemerge_grammar_shapes {H : Type} : DataW H := .agg [.agg [.nil, .agg [.lit (.int .i64 0), .lit (.int .i64 0)], .lit (.int .i64 0), .nil, .lit (.int .i64 0)], .agg [.nil, .agg [.lit (.int .i64 0), .lit (.int .i64 1)], .lit (.int .i64 0), .nil, .lit (.int .i64 1)], .agg [.slice [.agg [.lit (.int .i64 3), .lit (.int .i64 0)], .agg [.lit (.int .i64 5), .lit (.int .i64 0)], .agg [.lit (.int .i64 6), .lit (.int .i64 0)]] [], .agg [.lit (.int .i64 0), .lit (.int .i64 0)], .lit (.int .i64 1), .nil, .lit (.int .i64 2)], .agg [.nil, .agg [.lit (.int .i64 4), .lit (.int .i64 0)], .lit (.int .i64 0), .nil, .lit (.int .i64 2)], .agg [.slice [.agg [.lit (.int .i64 5), .lit (.int .i64 0)]] [], .agg [.lit (.int .i64 0), .lit (.int .i64 0)], .lit (.int .i64 1), .nil, .lit (.int .i64 1)], .agg [.nil, .agg [.lit (.int .i64 0), .lit (.int .i64 0)], .lit (.int .i64 1), .nil, .lit (.int .i64 1)], .agg [.nil, .agg [.lit (.int .i64 0), .lit (.int .i64 2)], .lit (.int .i64 0), .nil, .lit (.int .i64 2)], .agg [.slice [.agg [.lit (.int .i64 8), .lit (.int .i64 0)]] [], .agg [.lit (.int .i64 2), .lit (.int .i64 0)], .lit (.int .i64 1), .nil, .lit (.int .i64 4)], .agg [.nil, .agg [.lit (.int .i64 0), .lit (.int .i64 0)], .lit (.int .i64 2), .nil, .lit (.int .i64 2)], .agg [.slice [.agg [.lit (.int .i64 0), .lit (.int .i64 3)]] [], .agg [.lit (.int .i64 0), .lit (.int .i64 0)], .lit (.int .i64 1), .nil, .lit (.int .i64 4)], .agg [.slice [.agg [.lit (.int .i64 0), .lit (.int .i64 3)]] [], .agg [.lit (.int .i64 0), .lit (.int .i64 0)], .lit (.int .i64 1), .nil, .lit (.int .i64 4)], .agg [.slice [.agg [.lit (.int .i64 0), .lit (.int .i64 3)]] [], .agg [.lit (.int .i64 0), .lit (.int .i64 0)], .lit (.int .i64 1), .nil, .lit (.int .i64 3)], .agg [.slice [.agg [.lit (.int .i64 0), .lit (.int .i64 3)]] [], .agg [.lit (.int .i64 0), .lit (.int .i64 0)], .lit (.int .i64 0), .nil, .lit (.int .i64 2)], .agg [.slice [.agg [.lit (.int .i64 0), .lit (.int .i64 3)], .agg [.lit (.int .i64 6), .lit (.int .i64 0)], .agg [.lit (.int .i64 14), .lit (.int .i64 0)]] [], .agg [.lit (.int .i64 0), .lit (.int .i64 0)], .lit (.int .i64 0), .nil, .lit (.int .i64 1)], .agg [.slice [.agg [.lit (.int .i64 6), .lit (.int .i64 0)]] [], .agg [.lit (.int .i64 0), .lit (.int .i64 0)], .lit (.int .i64 0), .nil, .lit (.int .i64 1)], .agg [.slice [.agg [.lit (.int .i64 0), .lit (.int .i64 3)], .agg [.lit (.int .i64 6), .lit (.int .i64 0)]] [], .agg [.lit (.int .i64 0), .lit (.int .i64 0)], .lit (.int .i64 0), .nil, .lit (.int .i64 1)], .agg [.slice [.agg [.lit (.int .i64 0), .lit (.int .i64 3)]] [], .agg [.lit (.int .i64 0), .lit (.int .i64 0)], .lit (.int .i64 0), .nil, .lit (.int .i64 1)], .agg [.nil, .agg [.lit (.int .i64 0), .lit (.int .i64 0)], .lit (.int .i64 3), .nil, .lit (.int .i64 1)], .agg [.nil, .agg [.lit (.int .i64 0), .lit (.int .i64 0)], .lit (.int .i64 4), .slice [.lit (.string [116, 114, 117, 101]), .lit (.string [102, 97, 108, 115, 101])] [], .lit (.int .i64 1)], .agg [.nil, .agg [.lit (.int .i64 0), .lit (.int .i64 0)], .lit (.int .i64 1), .nil, .lit (.int .i64 1)], .agg [.nil, .agg [.lit (.int .i64 0), .lit (.int .i64 3)], .lit (.int .i64 1), .nil, .lit (.int .i64 3)], .agg [.slice [.agg [.lit (.int .i64 0), .lit (.int .i64 3)]] [], .agg [.lit (.int .i64 0), .lit (.int .i64 3)], .lit (.int .i64 1), .nil, .lit (.int .i64 4)], .agg [.nil, .agg [.lit (.int .i64 0), .lit (.int .i64 0)], .lit (.int .i64 1), .nil, .lit (.int .i64 4)], .agg [.nil, .agg [.lit (.int .i64 0), .lit (.int .i64 0)], .lit (.int .i64 4), .slice [.lit (.string [115, 101, 108, 102])] [], .lit (.int .i64 1)], .agg [.slice [.agg [.lit (.int .i64 0), .lit (.int .i64 3)], .agg [.lit (.int .i64 0), .lit (.int .i64 3)]] [], .agg [.lit (.int .i64 0), .lit (.int .i64 0)], .lit (.int .i64 4), .slice [.lit (.string [124]), .lit (.string [38]), .lit (.string [61, 61]), .lit (.string [60]), .lit (.string [43]), .lit (.string [45]), .lit (.string [42]), .lit (.string [47])] [], .lit (.int .i64 1)], .agg [.slice [.agg [.lit (.int .i64 0), .lit (.int .i64 3)]] [], .agg [.lit (.int .i64 0), .lit (.int .i64 0)], .lit (.int .i64 4), .slice [.lit (.string [45]), .lit (.string [33])] [], .lit (.int .i64 1)], .agg [.slice [.agg [.lit (.int .i64 0), .lit (.int .i64 3)]] [], .agg [.lit (.int .i64 0), .lit (.int .i64 0)], .lit (.int .i64 0), .nil, .lit (.int .i64 2)]]

/-- 'treemergelaw08.PrintWords': WHATEVER THE INPUT: true; the input reads as it did. -/
def printWordsSpec : ChangeSpec := { name := "printWords", fn := fun _ => fun
  | [d] => { results := [.lit (.bool true)], args := [d] }
  | _ => none }
def printWordsRow : OpenClaim := { program := "ytbdhekefhcjhaaagreatdoor", sum := "ac4eb1da103341d5dbe7fb9c8bf46aaeca2909a3c64e7c0eacc4a1c0d5a90a58", func := "treemerge/treemergelaw08.PrintWords", spec := "printWords", inPlace := ["internal/bytealg.IndexByteString", "internal/abi.NoEscape", "internal/bytealg.MakeNoZero"], unfollowed := true, recurses := true, named := ["treemerge/grammar.shapes"], loops := true, apart := false, laid := [("treemerge/grammar.shapes", laid_treemerge_grammar_shapes)] }
def PrintWordsSaid : Prop := printWordsRow.holds Tryz.pinned (OpenSpec.ofChange printWordsSpec)

/-- ITS FALSE NEIGHBOUR: 'it returns false'. Refute it at one input. -/
def printWordsWrong : ChangeSpec := { name := "printWords", fn := fun _ => fun
  | [d] => { results := [.lit (.bool false)], args := [d] }
  | _ => none }
def PrintWordsWrongFalsely : Prop := printWordsRow.holds Tryz.pinned (OpenSpec.ofChange printWordsWrong)

/-- 'treemergelaw08.PrintTexts': WHATEVER THE INPUT: true; the input reads as it did. -/
def printTextsSpec : ChangeSpec := { name := "printTexts", fn := fun _ => fun
  | [d] => { results := [.lit (.bool true)], args := [d] }
  | _ => none }
def printTextsRow : OpenClaim := { program := "ytbdhekefhcjhaaagreatdoor", sum := "ac4eb1da103341d5dbe7fb9c8bf46aaeca2909a3c64e7c0eacc4a1c0d5a90a58", func := "treemerge/treemergelaw08.PrintTexts", spec := "printTexts", inPlace := ["internal/bytealg.IndexByteString", "internal/abi.NoEscape", "internal/bytealg.MakeNoZero"], unfollowed := true, recurses := true, named := ["treemerge/grammar.shapes"], loops := true, apart := false, laid := [("treemerge/grammar.shapes", laid_treemerge_grammar_shapes)] }
def PrintTextsSaid : Prop := printTextsRow.holds Tryz.pinned (OpenSpec.ofChange printTextsSpec)

/-- ITS FALSE NEIGHBOUR: 'it returns false'. Refute it at one input. -/
def printTextsWrong : ChangeSpec := { name := "printTexts", fn := fun _ => fun
  | [d] => { results := [.lit (.bool false)], args := [d] }
  | _ => none }
def PrintTextsWrongFalsely : Prop := printTextsRow.holds Tryz.pinned (OpenSpec.ofChange printTextsWrong)

/-- 'treemergelaw08.PrintLays': WHATEVER THE INPUT: true; the input reads as it did. -/
def printLaysSpec : ChangeSpec := { name := "printLays", fn := fun _ => fun
  | [d] => { results := [.lit (.bool true)], args := [d] }
  | _ => none }
def printLaysRow : OpenClaim := { program := "ytbdhekefhcjhaaagreatdoor", sum := "ac4eb1da103341d5dbe7fb9c8bf46aaeca2909a3c64e7c0eacc4a1c0d5a90a58", func := "treemerge/treemergelaw08.PrintLays", spec := "printLays", inPlace := ["internal/bytealg.IndexByteString", "internal/abi.NoEscape", "internal/bytealg.MakeNoZero"], unfollowed := true, recurses := true, named := ["treemerge/grammar.shapes"], loops := true, apart := false, laid := [("treemerge/grammar.shapes", laid_treemerge_grammar_shapes)] }
def PrintLaysSaid : Prop := printLaysRow.holds Tryz.pinned (OpenSpec.ofChange printLaysSpec)

/-- ITS FALSE NEIGHBOUR: 'it returns false'. Refute it at one input. -/
def printLaysWrong : ChangeSpec := { name := "printLays", fn := fun _ => fun
  | [d] => { results := [.lit (.bool false)], args := [d] }
  | _ => none }
def PrintLaysWrongFalsely : Prop := printLaysRow.holds Tryz.pinned (OpenSpec.ofChange printLaysWrong)

/- THE SECOND FORM. 'bulk': how many values and letters a reading holds, each counted each time it is reached (what is shared counts as often as it is met; a slice's spare places count too). A statement '..UptoSaid' is the law's where the arguments, and the package variables that the reading takes, are together of bulk at most 1048576: NARROWER than '..Said'. Prove '..Said' where nothing that the law and all that it calls make is longer than what came in: it says more and counts as full. Else prove '..UptoSaid'. A law counts once. -/
mutual
def uptoBulk {H : Type} : DataW H → Nat
  | .lit (.string bytes) => bytes.length + 1
  | .lit _ => 1
  | .nil => 1
  | .ptr d => uptoBulk d + 1
  | .slice elems spare => uptoBulkAll elems + uptoBulkAll spare + 1
  | .agg parts => uptoBulkAll parts + 1
  | .iface _ d => uptoBulk d + 1
  | .map entries => uptoBulkEntries entries + 1
  | .held _ => 1
def uptoBulkAll {H : Type} : List (DataW H) → Nat
  | [] => 0
  | d :: r => uptoBulk d + uptoBulkAll r
def uptoBulkEntries {H : Type} : List (Lit × DataW H) → Nat
  | [] => 0
  | x :: r => uptoBulkEntry x + uptoBulkEntries r
def uptoBulkEntry {H : Type} : Lit × DataW H → Nat
  | (.string bytes, d) => bytes.length + uptoBulk d + 1
  | (_, d) => uptoBulk d + 1
 end
def uptoSmall : (H : Type) → List (DataW H) → Bool := fun _ ds => decide (uptoBulkAll ds ≤ 1048576)
def OpenSpec.upto (s : _root_.Go.ChangeSpec) : _root_.Go.OpenSpec := { _root_.Go.OpenSpec.ofChange s with cond := some uptoSmall }

/-- 'treemergelaw08.PrintWords', WHERE WHAT IT READS IS OF BULK AT MOST 1048576: true; the input reads as it did. -/
def printWordsUptoRow : OpenClaim := { program := "ytbdhekefhcjhaaagreatdoor", sum := "ac4eb1da103341d5dbe7fb9c8bf46aaeca2909a3c64e7c0eacc4a1c0d5a90a58", func := "treemerge/treemergelaw08.PrintWords", spec := "printWords", inPlace := ["internal/bytealg.IndexByteString", "internal/abi.NoEscape", "internal/bytealg.MakeNoZero"], unfollowed := true, recurses := true, named := ["treemerge/grammar.shapes"], loops := true, apart := false, laid := [("treemerge/grammar.shapes", laid_treemerge_grammar_shapes)], narrowed := true }
def PrintWordsUptoSaid : Prop := printWordsUptoRow.holds Tryz.pinned (OpenSpec.upto printWordsSpec)

/-- 'treemergelaw08.PrintTexts', WHERE WHAT IT READS IS OF BULK AT MOST 1048576: true; the input reads as it did. -/
def printTextsUptoRow : OpenClaim := { program := "ytbdhekefhcjhaaagreatdoor", sum := "ac4eb1da103341d5dbe7fb9c8bf46aaeca2909a3c64e7c0eacc4a1c0d5a90a58", func := "treemerge/treemergelaw08.PrintTexts", spec := "printTexts", inPlace := ["internal/bytealg.IndexByteString", "internal/abi.NoEscape", "internal/bytealg.MakeNoZero"], unfollowed := true, recurses := true, named := ["treemerge/grammar.shapes"], loops := true, apart := false, laid := [("treemerge/grammar.shapes", laid_treemerge_grammar_shapes)], narrowed := true }
def PrintTextsUptoSaid : Prop := printTextsUptoRow.holds Tryz.pinned (OpenSpec.upto printTextsSpec)

/-- 'treemergelaw08.PrintLays', WHERE WHAT IT READS IS OF BULK AT MOST 1048576: true; the input reads as it did. -/
def printLaysUptoRow : OpenClaim := { program := "ytbdhekefhcjhaaagreatdoor", sum := "ac4eb1da103341d5dbe7fb9c8bf46aaeca2909a3c64e7c0eacc4a1c0d5a90a58", func := "treemerge/treemergelaw08.PrintLays", spec := "printLays", inPlace := ["internal/bytealg.IndexByteString", "internal/abi.NoEscape", "internal/bytealg.MakeNoZero"], unfollowed := true, recurses := true, named := ["treemerge/grammar.shapes"], loops := true, apart := false, laid := [("treemerge/grammar.shapes", laid_treemerge_grammar_shapes)], narrowed := true }
def PrintLaysUptoSaid : Prop := printLaysUptoRow.holds Tryz.pinned (OpenSpec.upto printLaysSpec)

end Rows
end Go.Proofs.YtbdhekefhcjhaaaGreatDoor
