/-
  NARROWER THAN 'FOR EVERY INPUT', by the rows' own cells (each row's printed sentence says how): ProjectChecks: laid · ProjectDecls: loops, laid · ProjectOrder: loops, laid · ProjectMakes: loops, laid · ProjectLoads: laid.
  DERIVED. THE GIVEN ROWS OF THIS SEAT. 5 by the template 'for every input the law returns true; each argument reads behind the call as it read before'; 0 by the template 'total and deterministic' (their statements: YtpnkemogepoioaaGreatDoorTotals.lean).
  GIVEN WITH THE SEED: the statements are not yours to turn. If you find one false, say at which input.
  Laid BY PROGRAM, IN A SANDBOX (cutbox-rows.mjs): the forced cells as the released guide's own fill.sh prints them over the translation f780914c0ad9be1d… (all of the seat's roots in one cut). By AI agents, Wed Nov 11 2026. No macro, syntax, notation, axiom, sorry.
-/
import Derived.Test.YtpnkemogepoioaaGreatDoorChecked
import GoSem.Claim
import GoSem.ClaimJoined
import GoSem.ClaimMapViews
import Derived.JoinedTies
import Derived.KernelRfl
namespace Go.Proofs.YtpnkemogepoioaaGreatDoor
/- THE CELL 'sum', in the pinned program and in every row, IS THE sha256 OF THE DUMP (.gsa) THAT YtpnkemogepoioaaGreatDoorProg.lean LOADS. Nothing in Lean hashes anything: it is a label: what it is worth is what the hold of that sum in a sandbox is worth. -/
noncomputable def Tryz.pinned : Pinned := { name := "ytpnkemogepoioaagreatdoor", sum := "f780914c0ad9be1dad60d7df0c83b3a6e74023190553d502d3cc764fcf69f8cf", checked := Tryz.checked }
namespace Rows
def none {H : Type} : Left H := { results := [], args := [] }

/- WHAT THE LISTED PACKAGE-LEVEL VARIABLES READ AS WHEN THE CALL BEGINS. Each datum BY PROGRAM (the guide's laid-datum.mjs) off the statement by which the dump's own 'gosem.cut.vars' lays the variable. In a bare row this is a premise. The card (YtpnkemogepoioaaGreatDoorCards.lean) ties it to the program's text. -/
def laid_math_bits_deBruijn32tab {H : Type} : DataW H := .agg [.lit (.int .u8 0), .lit (.int .u8 1), .lit (.int .u8 28), .lit (.int .u8 2), .lit (.int .u8 29), .lit (.int .u8 14), .lit (.int .u8 24), .lit (.int .u8 3), .lit (.int .u8 30), .lit (.int .u8 22), .lit (.int .u8 20), .lit (.int .u8 15), .lit (.int .u8 25), .lit (.int .u8 17), .lit (.int .u8 4), .lit (.int .u8 8), .lit (.int .u8 31), .lit (.int .u8 27), .lit (.int .u8 13), .lit (.int .u8 23), .lit (.int .u8 21), .lit (.int .u8 19), .lit (.int .u8 16), .lit (.int .u8 7), .lit (.int .u8 26), .lit (.int .u8 12), .lit (.int .u8 18), .lit (.int .u8 6), .lit (.int .u8 11), .lit (.int .u8 5), .lit (.int .u8 10), .lit (.int .u8 9)]
def laid_math_bits_deBruijn64tab {H : Type} : DataW H := .agg [.lit (.int .u8 0), .lit (.int .u8 1), .lit (.int .u8 56), .lit (.int .u8 2), .lit (.int .u8 57), .lit (.int .u8 49), .lit (.int .u8 28), .lit (.int .u8 3), .lit (.int .u8 61), .lit (.int .u8 58), .lit (.int .u8 42), .lit (.int .u8 50), .lit (.int .u8 38), .lit (.int .u8 29), .lit (.int .u8 17), .lit (.int .u8 4), .lit (.int .u8 62), .lit (.int .u8 47), .lit (.int .u8 59), .lit (.int .u8 36), .lit (.int .u8 45), .lit (.int .u8 43), .lit (.int .u8 51), .lit (.int .u8 22), .lit (.int .u8 53), .lit (.int .u8 39), .lit (.int .u8 33), .lit (.int .u8 30), .lit (.int .u8 24), .lit (.int .u8 18), .lit (.int .u8 12), .lit (.int .u8 5), .lit (.int .u8 63), .lit (.int .u8 55), .lit (.int .u8 48), .lit (.int .u8 27), .lit (.int .u8 60), .lit (.int .u8 41), .lit (.int .u8 37), .lit (.int .u8 16), .lit (.int .u8 46), .lit (.int .u8 35), .lit (.int .u8 44), .lit (.int .u8 21), .lit (.int .u8 52), .lit (.int .u8 32), .lit (.int .u8 23), .lit (.int .u8 11), .lit (.int .u8 54), .lit (.int .u8 26), .lit (.int .u8 40), .lit (.int .u8 15), .lit (.int .u8 34), .lit (.int .u8 20), .lit (.int .u8 31), .lit (.int .u8 10), .lit (.int .u8 25), .lit (.int .u8 14), .lit (.int .u8 19), .lit (.int .u8 9), .lit (.int .u8 13), .lit (.int .u8 8), .lit (.int .u8 7), .lit (.int .u8 6)]
def laid_internal_strconv_uint64pow10 {H : Type} : DataW H := .agg [.lit (.int .u64 1), .lit (.int .u64 10), .lit (.int .u64 100), .lit (.int .u64 1000), .lit (.int .u64 10000), .lit (.int .u64 100000), .lit (.int .u64 1000000), .lit (.int .u64 10000000), .lit (.int .u64 100000000), .lit (.int .u64 1000000000), .lit (.int .u64 10000000000), .lit (.int .u64 100000000000), .lit (.int .u64 1000000000000), .lit (.int .u64 10000000000000), .lit (.int .u64 100000000000000), .lit (.int .u64 1000000000000000), .lit (.int .u64 10000000000000000), .lit (.int .u64 100000000000000000), .lit (.int .u64 1000000000000000000), .lit (.int .u64 10000000000000000000)]
def laid_strconv_ErrRange {H : Type} : DataW H := .iface "*errors.errorString" (.ptr (.agg [.lit (.string [118, 97, 108, 117, 101, 32, 111, 117, 116, 32, 111, 102, 32, 114, 97, 110, 103, 101])]))
def laid_strconv_ErrSyntax {H : Type} : DataW H := .iface "*errors.errorString" (.ptr (.agg [.lit (.string [105, 110, 118, 97, 108, 105, 100, 32, 115, 121, 110, 116, 97, 120])]))
def laid_treemerge_grammar_shapes {H : Type} : DataW H := .agg [.agg [.nil, .agg [.lit (.int .i64 0), .lit (.int .i64 0)], .lit (.int .i64 0), .nil, .lit (.int .i64 0)], .agg [.nil, .agg [.lit (.int .i64 0), .lit (.int .i64 1)], .lit (.int .i64 0), .nil, .lit (.int .i64 1)], .agg [.slice [.agg [.lit (.int .i64 3), .lit (.int .i64 0)], .agg [.lit (.int .i64 5), .lit (.int .i64 0)], .agg [.lit (.int .i64 6), .lit (.int .i64 0)]] [], .agg [.lit (.int .i64 0), .lit (.int .i64 0)], .lit (.int .i64 1), .nil, .lit (.int .i64 2)], .agg [.nil, .agg [.lit (.int .i64 4), .lit (.int .i64 0)], .lit (.int .i64 0), .nil, .lit (.int .i64 2)], .agg [.slice [.agg [.lit (.int .i64 5), .lit (.int .i64 0)]] [], .agg [.lit (.int .i64 0), .lit (.int .i64 0)], .lit (.int .i64 1), .nil, .lit (.int .i64 1)], .agg [.nil, .agg [.lit (.int .i64 0), .lit (.int .i64 0)], .lit (.int .i64 1), .nil, .lit (.int .i64 1)], .agg [.nil, .agg [.lit (.int .i64 0), .lit (.int .i64 2)], .lit (.int .i64 0), .nil, .lit (.int .i64 2)], .agg [.slice [.agg [.lit (.int .i64 8), .lit (.int .i64 0)]] [], .agg [.lit (.int .i64 2), .lit (.int .i64 0)], .lit (.int .i64 1), .nil, .lit (.int .i64 4)], .agg [.nil, .agg [.lit (.int .i64 0), .lit (.int .i64 0)], .lit (.int .i64 2), .nil, .lit (.int .i64 2)], .agg [.slice [.agg [.lit (.int .i64 0), .lit (.int .i64 3)]] [], .agg [.lit (.int .i64 0), .lit (.int .i64 0)], .lit (.int .i64 1), .nil, .lit (.int .i64 4)], .agg [.slice [.agg [.lit (.int .i64 0), .lit (.int .i64 3)]] [], .agg [.lit (.int .i64 0), .lit (.int .i64 0)], .lit (.int .i64 1), .nil, .lit (.int .i64 4)], .agg [.slice [.agg [.lit (.int .i64 0), .lit (.int .i64 3)]] [], .agg [.lit (.int .i64 0), .lit (.int .i64 0)], .lit (.int .i64 1), .nil, .lit (.int .i64 3)], .agg [.slice [.agg [.lit (.int .i64 0), .lit (.int .i64 3)]] [], .agg [.lit (.int .i64 0), .lit (.int .i64 0)], .lit (.int .i64 0), .nil, .lit (.int .i64 2)], .agg [.slice [.agg [.lit (.int .i64 0), .lit (.int .i64 3)], .agg [.lit (.int .i64 6), .lit (.int .i64 0)], .agg [.lit (.int .i64 14), .lit (.int .i64 0)]] [], .agg [.lit (.int .i64 0), .lit (.int .i64 0)], .lit (.int .i64 0), .nil, .lit (.int .i64 1)], .agg [.slice [.agg [.lit (.int .i64 6), .lit (.int .i64 0)]] [], .agg [.lit (.int .i64 0), .lit (.int .i64 0)], .lit (.int .i64 0), .nil, .lit (.int .i64 1)], .agg [.slice [.agg [.lit (.int .i64 0), .lit (.int .i64 3)], .agg [.lit (.int .i64 6), .lit (.int .i64 0)]] [], .agg [.lit (.int .i64 0), .lit (.int .i64 0)], .lit (.int .i64 0), .nil, .lit (.int .i64 1)], .agg [.slice [.agg [.lit (.int .i64 0), .lit (.int .i64 3)]] [], .agg [.lit (.int .i64 0), .lit (.int .i64 0)], .lit (.int .i64 0), .nil, .lit (.int .i64 1)], .agg [.nil, .agg [.lit (.int .i64 0), .lit (.int .i64 0)], .lit (.int .i64 3), .nil, .lit (.int .i64 1)], .agg [.nil, .agg [.lit (.int .i64 0), .lit (.int .i64 0)], .lit (.int .i64 4), .slice [.lit (.string [116, 114, 117, 101]), .lit (.string [102, 97, 108, 115, 101])] [], .lit (.int .i64 1)], .agg [.nil, .agg [.lit (.int .i64 0), .lit (.int .i64 0)], .lit (.int .i64 1), .nil, .lit (.int .i64 1)], .agg [.nil, .agg [.lit (.int .i64 0), .lit (.int .i64 3)], .lit (.int .i64 1), .nil, .lit (.int .i64 3)], .agg [.slice [.agg [.lit (.int .i64 0), .lit (.int .i64 3)]] [], .agg [.lit (.int .i64 0), .lit (.int .i64 3)], .lit (.int .i64 1), .nil, .lit (.int .i64 4)], .agg [.nil, .agg [.lit (.int .i64 0), .lit (.int .i64 0)], .lit (.int .i64 1), .nil, .lit (.int .i64 4)], .agg [.nil, .agg [.lit (.int .i64 0), .lit (.int .i64 0)], .lit (.int .i64 4), .slice [.lit (.string [115, 101, 108, 102])] [], .lit (.int .i64 1)], .agg [.slice [.agg [.lit (.int .i64 0), .lit (.int .i64 3)], .agg [.lit (.int .i64 0), .lit (.int .i64 3)]] [], .agg [.lit (.int .i64 0), .lit (.int .i64 0)], .lit (.int .i64 4), .slice [.lit (.string [124]), .lit (.string [38]), .lit (.string [61, 61]), .lit (.string [60]), .lit (.string [43]), .lit (.string [45]), .lit (.string [42]), .lit (.string [47])] [], .lit (.int .i64 1)], .agg [.slice [.agg [.lit (.int .i64 0), .lit (.int .i64 3)]] [], .agg [.lit (.int .i64 0), .lit (.int .i64 0)], .lit (.int .i64 4), .slice [.lit (.string [45]), .lit (.string [33])] [], .lit (.int .i64 1)], .agg [.slice [.agg [.lit (.int .i64 0), .lit (.int .i64 3)]] [], .agg [.lit (.int .i64 0), .lit (.int .i64 0)], .lit (.int .i64 0), .nil, .lit (.int .i64 2)]]

/-- 'treemergelaw11.ProjectChecks': WHATEVER THE INPUT: true; the input reads as it did. -/
def projectChecksSpec : ChangeSpec := { name := "projectChecks", fn := fun _ => fun
  | [d] => { results := [.lit (.bool true)], args := [d] }
  | _ => none }
def projectChecksRow : OpenClaim := { program := "ytpnkemogepoioaagreatdoor", sum := "f780914c0ad9be1dad60d7df0c83b3a6e74023190553d502d3cc764fcf69f8cf", func := "treemerge/treemergelaw11.ProjectChecks", spec := "projectChecks", inPlace := ["internal/bytealg.IndexByteString"], unfollowed := true, recurses := true, named := ["strconv.ErrSyntax", "strconv.ErrRange", "internal/strconv.uint64pow10", "math/bits.deBruijn32tab", "math/bits.deBruijn64tab", "treemerge/grammar.shapes"], apart := false, laid := [("math/bits.deBruijn32tab", laid_math_bits_deBruijn32tab), ("math/bits.deBruijn64tab", laid_math_bits_deBruijn64tab), ("internal/strconv.uint64pow10", laid_internal_strconv_uint64pow10), ("strconv.ErrRange", laid_strconv_ErrRange), ("strconv.ErrSyntax", laid_strconv_ErrSyntax), ("treemerge/grammar.shapes", laid_treemerge_grammar_shapes)] }
def ProjectChecksSaid : Prop := projectChecksRow.holds Tryz.pinned (OpenSpec.ofChange projectChecksSpec)

/-- ITS FALSE NEIGHBOUR: 'it returns false'. Refute it at one input. -/
def projectChecksWrong : ChangeSpec := { name := "projectChecks", fn := fun _ => fun
  | [d] => { results := [.lit (.bool false)], args := [d] }
  | _ => none }
def ProjectChecksWrongFalsely : Prop := projectChecksRow.holds Tryz.pinned (OpenSpec.ofChange projectChecksWrong)

/-- 'treemergelaw11.ProjectDecls': WHATEVER THE INPUT: true; the input reads as it did. -/
def projectDeclsSpec : ChangeSpec := { name := "projectDecls", fn := fun _ => fun
  | [d1, d2] => { results := [.lit (.bool true)], args := [d1, d2] }
  | _ => none }
def projectDeclsRow : OpenClaim := { program := "ytpnkemogepoioaagreatdoor", sum := "f780914c0ad9be1dad60d7df0c83b3a6e74023190553d502d3cc764fcf69f8cf", func := "treemerge/treemergelaw11.ProjectDecls", spec := "projectDecls", inPlace := ["internal/bytealg.IndexByteString"], unfollowed := true, recurses := true, named := ["strconv.ErrSyntax", "strconv.ErrRange", "internal/strconv.uint64pow10", "math/bits.deBruijn32tab", "math/bits.deBruijn64tab", "treemerge/grammar.shapes"], loops := true, apart := false, laid := [("math/bits.deBruijn32tab", laid_math_bits_deBruijn32tab), ("math/bits.deBruijn64tab", laid_math_bits_deBruijn64tab), ("internal/strconv.uint64pow10", laid_internal_strconv_uint64pow10), ("strconv.ErrRange", laid_strconv_ErrRange), ("strconv.ErrSyntax", laid_strconv_ErrSyntax), ("treemerge/grammar.shapes", laid_treemerge_grammar_shapes)] }
def ProjectDeclsSaid : Prop := projectDeclsRow.holds Tryz.pinned (OpenSpec.ofChange projectDeclsSpec)

/-- ITS FALSE NEIGHBOUR: 'it returns false'. Refute it at one input. -/
def projectDeclsWrong : ChangeSpec := { name := "projectDecls", fn := fun _ => fun
  | [d1, d2] => { results := [.lit (.bool false)], args := [d1, d2] }
  | _ => none }
def ProjectDeclsWrongFalsely : Prop := projectDeclsRow.holds Tryz.pinned (OpenSpec.ofChange projectDeclsWrong)

/-- 'treemergelaw11.ProjectOrder': WHATEVER THE INPUT: true; the input reads as it did. -/
def projectOrderSpec : ChangeSpec := { name := "projectOrder", fn := fun _ => fun
  | [d] => { results := [.lit (.bool true)], args := [d] }
  | _ => none }
def projectOrderRow : OpenClaim := { program := "ytpnkemogepoioaagreatdoor", sum := "f780914c0ad9be1dad60d7df0c83b3a6e74023190553d502d3cc764fcf69f8cf", func := "treemerge/treemergelaw11.ProjectOrder", spec := "projectOrder", inPlace := ["internal/bytealg.IndexByteString"], unfollowed := true, recurses := true, named := ["strconv.ErrSyntax", "strconv.ErrRange", "internal/strconv.uint64pow10", "math/bits.deBruijn32tab", "math/bits.deBruijn64tab", "treemerge/grammar.shapes"], loops := true, apart := false, laid := [("math/bits.deBruijn32tab", laid_math_bits_deBruijn32tab), ("math/bits.deBruijn64tab", laid_math_bits_deBruijn64tab), ("internal/strconv.uint64pow10", laid_internal_strconv_uint64pow10), ("strconv.ErrRange", laid_strconv_ErrRange), ("strconv.ErrSyntax", laid_strconv_ErrSyntax), ("treemerge/grammar.shapes", laid_treemerge_grammar_shapes)] }
def ProjectOrderSaid : Prop := projectOrderRow.holds Tryz.pinned (OpenSpec.ofChange projectOrderSpec)

/-- ITS FALSE NEIGHBOUR: 'it returns false'. Refute it at one input. -/
def projectOrderWrong : ChangeSpec := { name := "projectOrder", fn := fun _ => fun
  | [d] => { results := [.lit (.bool false)], args := [d] }
  | _ => none }
def ProjectOrderWrongFalsely : Prop := projectOrderRow.holds Tryz.pinned (OpenSpec.ofChange projectOrderWrong)

/-- 'treemergelaw11.ProjectMakes': WHATEVER THE INPUT: true; the input reads as it did. -/
def projectMakesSpec : ChangeSpec := { name := "projectMakes", fn := fun _ => fun
  | [d1, d2, d3] => { results := [.lit (.bool true)], args := [d1, d2, d3] }
  | _ => none }
def projectMakesRow : OpenClaim := { program := "ytpnkemogepoioaagreatdoor", sum := "f780914c0ad9be1dad60d7df0c83b3a6e74023190553d502d3cc764fcf69f8cf", func := "treemerge/treemergelaw11.ProjectMakes", spec := "projectMakes", inPlace := ["internal/bytealg.IndexByteString", "internal/abi.NoEscape", "internal/bytealg.MakeNoZero"], unfollowed := true, recurses := true, named := ["strconv.ErrSyntax", "strconv.ErrRange", "internal/strconv.uint64pow10", "math/bits.deBruijn32tab", "math/bits.deBruijn64tab", "treemerge/grammar.shapes"], loops := true, apart := false, laid := [("math/bits.deBruijn32tab", laid_math_bits_deBruijn32tab), ("math/bits.deBruijn64tab", laid_math_bits_deBruijn64tab), ("internal/strconv.uint64pow10", laid_internal_strconv_uint64pow10), ("strconv.ErrRange", laid_strconv_ErrRange), ("strconv.ErrSyntax", laid_strconv_ErrSyntax), ("treemerge/grammar.shapes", laid_treemerge_grammar_shapes)] }
def ProjectMakesSaid : Prop := projectMakesRow.holds Tryz.pinned (OpenSpec.ofChange projectMakesSpec)

/-- ITS FALSE NEIGHBOUR: 'it returns false'. Refute it at one input. -/
def projectMakesWrong : ChangeSpec := { name := "projectMakes", fn := fun _ => fun
  | [d1, d2, d3] => { results := [.lit (.bool false)], args := [d1, d2, d3] }
  | _ => none }
def ProjectMakesWrongFalsely : Prop := projectMakesRow.holds Tryz.pinned (OpenSpec.ofChange projectMakesWrong)

/-- 'treemergelaw11.ProjectLoads': WHATEVER THE INPUT: true; the input reads as it did. -/
def projectLoadsSpec : ChangeSpec := { name := "projectLoads", fn := fun _ => fun
  | [d] => { results := [.lit (.bool true)], args := [d] }
  | _ => none }
def projectLoadsRow : OpenClaim := { program := "ytpnkemogepoioaagreatdoor", sum := "f780914c0ad9be1dad60d7df0c83b3a6e74023190553d502d3cc764fcf69f8cf", func := "treemerge/treemergelaw11.ProjectLoads", spec := "projectLoads", inPlace := ["internal/bytealg.IndexByteString", "internal/abi.NoEscape", "internal/bytealg.MakeNoZero"], unfollowed := true, recurses := true, named := ["strconv.ErrSyntax", "strconv.ErrRange", "internal/strconv.uint64pow10", "math/bits.deBruijn32tab", "math/bits.deBruijn64tab", "treemerge/grammar.shapes"], apart := false, laid := [("math/bits.deBruijn32tab", laid_math_bits_deBruijn32tab), ("math/bits.deBruijn64tab", laid_math_bits_deBruijn64tab), ("internal/strconv.uint64pow10", laid_internal_strconv_uint64pow10), ("strconv.ErrRange", laid_strconv_ErrRange), ("strconv.ErrSyntax", laid_strconv_ErrSyntax), ("treemerge/grammar.shapes", laid_treemerge_grammar_shapes)] }
def ProjectLoadsSaid : Prop := projectLoadsRow.holds Tryz.pinned (OpenSpec.ofChange projectLoadsSpec)

/-- ITS FALSE NEIGHBOUR: 'it returns false'. Refute it at one input. -/
def projectLoadsWrong : ChangeSpec := { name := "projectLoads", fn := fun _ => fun
  | [d] => { results := [.lit (.bool false)], args := [d] }
  | _ => none }
def ProjectLoadsWrongFalsely : Prop := projectLoadsRow.holds Tryz.pinned (OpenSpec.ofChange projectLoadsWrong)

/- THE SECOND FORM. 'bulk': how many values and letters a reading holds, each counted each time it is reached (what is shared counts as often as it is met; a slice's spare places count too). A statement '..UptoSaid' is the law's where the arguments, and the package variables that the reading takes, are together of bulk at most 1048576: NARROWER than '..Said'. Prove '..Said' where nothing that the law and all that it calls make is longer than what came in: it says more and counts as full. Else prove '..UptoSaid'. A law counts once. -/
mutual
def uptoBulk {H : Type} : DataW H → Nat
  | .lit (.string bytes) => bytes.length + 1
  | .lit _ => 1
  | .nil => 1
  | .ptr d => uptoBulk d + 1
  | .slice elems spare => uptoBulkAll elems + uptoBulkAll spare + 1
  | .agg parts => uptoBulkAll parts + 1
  | .iface _ d => uptoBulk d + 1
  | .map entries => uptoBulkEntries entries + 1
  | .held _ => 1
def uptoBulkAll {H : Type} : List (DataW H) → Nat
  | [] => 0
  | d :: r => uptoBulk d + uptoBulkAll r
def uptoBulkEntries {H : Type} : List (Lit × DataW H) → Nat
  | [] => 0
  | x :: r => uptoBulkEntry x + uptoBulkEntries r
def uptoBulkEntry {H : Type} : Lit × DataW H → Nat
  | (.string bytes, d) => bytes.length + uptoBulk d + 1
  | (_, d) => uptoBulk d + 1
 end
def uptoSmall : (H : Type) → List (DataW H) → Bool := fun _ ds => decide (uptoBulkAll ds ≤ 1048576)
def OpenSpec.upto (s : _root_.Go.ChangeSpec) : _root_.Go.OpenSpec := { _root_.Go.OpenSpec.ofChange s with cond := some uptoSmall }

/-- 'treemergelaw11.ProjectChecks', WHERE WHAT IT READS IS OF BULK AT MOST 1048576: true; the input reads as it did. -/
def projectChecksUptoRow : OpenClaim := { program := "ytpnkemogepoioaagreatdoor", sum := "f780914c0ad9be1dad60d7df0c83b3a6e74023190553d502d3cc764fcf69f8cf", func := "treemerge/treemergelaw11.ProjectChecks", spec := "projectChecks", inPlace := ["internal/bytealg.IndexByteString"], unfollowed := true, recurses := true, named := ["strconv.ErrSyntax", "strconv.ErrRange", "internal/strconv.uint64pow10", "math/bits.deBruijn32tab", "math/bits.deBruijn64tab", "treemerge/grammar.shapes"], apart := false, laid := [("math/bits.deBruijn32tab", laid_math_bits_deBruijn32tab), ("math/bits.deBruijn64tab", laid_math_bits_deBruijn64tab), ("internal/strconv.uint64pow10", laid_internal_strconv_uint64pow10), ("strconv.ErrRange", laid_strconv_ErrRange), ("strconv.ErrSyntax", laid_strconv_ErrSyntax), ("treemerge/grammar.shapes", laid_treemerge_grammar_shapes)], narrowed := true }
def ProjectChecksUptoSaid : Prop := projectChecksUptoRow.holds Tryz.pinned (OpenSpec.upto projectChecksSpec)

/-- 'treemergelaw11.ProjectDecls', WHERE WHAT IT READS IS OF BULK AT MOST 1048576: true; the input reads as it did. -/
def projectDeclsUptoRow : OpenClaim := { program := "ytpnkemogepoioaagreatdoor", sum := "f780914c0ad9be1dad60d7df0c83b3a6e74023190553d502d3cc764fcf69f8cf", func := "treemerge/treemergelaw11.ProjectDecls", spec := "projectDecls", inPlace := ["internal/bytealg.IndexByteString"], unfollowed := true, recurses := true, named := ["strconv.ErrSyntax", "strconv.ErrRange", "internal/strconv.uint64pow10", "math/bits.deBruijn32tab", "math/bits.deBruijn64tab", "treemerge/grammar.shapes"], loops := true, apart := false, laid := [("math/bits.deBruijn32tab", laid_math_bits_deBruijn32tab), ("math/bits.deBruijn64tab", laid_math_bits_deBruijn64tab), ("internal/strconv.uint64pow10", laid_internal_strconv_uint64pow10), ("strconv.ErrRange", laid_strconv_ErrRange), ("strconv.ErrSyntax", laid_strconv_ErrSyntax), ("treemerge/grammar.shapes", laid_treemerge_grammar_shapes)], narrowed := true }
def ProjectDeclsUptoSaid : Prop := projectDeclsUptoRow.holds Tryz.pinned (OpenSpec.upto projectDeclsSpec)

/-- 'treemergelaw11.ProjectOrder', WHERE WHAT IT READS IS OF BULK AT MOST 1048576: true; the input reads as it did. -/
def projectOrderUptoRow : OpenClaim := { program := "ytpnkemogepoioaagreatdoor", sum := "f780914c0ad9be1dad60d7df0c83b3a6e74023190553d502d3cc764fcf69f8cf", func := "treemerge/treemergelaw11.ProjectOrder", spec := "projectOrder", inPlace := ["internal/bytealg.IndexByteString"], unfollowed := true, recurses := true, named := ["strconv.ErrSyntax", "strconv.ErrRange", "internal/strconv.uint64pow10", "math/bits.deBruijn32tab", "math/bits.deBruijn64tab", "treemerge/grammar.shapes"], loops := true, apart := false, laid := [("math/bits.deBruijn32tab", laid_math_bits_deBruijn32tab), ("math/bits.deBruijn64tab", laid_math_bits_deBruijn64tab), ("internal/strconv.uint64pow10", laid_internal_strconv_uint64pow10), ("strconv.ErrRange", laid_strconv_ErrRange), ("strconv.ErrSyntax", laid_strconv_ErrSyntax), ("treemerge/grammar.shapes", laid_treemerge_grammar_shapes)], narrowed := true }
def ProjectOrderUptoSaid : Prop := projectOrderUptoRow.holds Tryz.pinned (OpenSpec.upto projectOrderSpec)

/-- 'treemergelaw11.ProjectMakes', WHERE WHAT IT READS IS OF BULK AT MOST 1048576: true; the input reads as it did. -/
def projectMakesUptoRow : OpenClaim := { program := "ytpnkemogepoioaagreatdoor", sum := "f780914c0ad9be1dad60d7df0c83b3a6e74023190553d502d3cc764fcf69f8cf", func := "treemerge/treemergelaw11.ProjectMakes", spec := "projectMakes", inPlace := ["internal/bytealg.IndexByteString", "internal/abi.NoEscape", "internal/bytealg.MakeNoZero"], unfollowed := true, recurses := true, named := ["strconv.ErrSyntax", "strconv.ErrRange", "internal/strconv.uint64pow10", "math/bits.deBruijn32tab", "math/bits.deBruijn64tab", "treemerge/grammar.shapes"], loops := true, apart := false, laid := [("math/bits.deBruijn32tab", laid_math_bits_deBruijn32tab), ("math/bits.deBruijn64tab", laid_math_bits_deBruijn64tab), ("internal/strconv.uint64pow10", laid_internal_strconv_uint64pow10), ("strconv.ErrRange", laid_strconv_ErrRange), ("strconv.ErrSyntax", laid_strconv_ErrSyntax), ("treemerge/grammar.shapes", laid_treemerge_grammar_shapes)], narrowed := true }
def ProjectMakesUptoSaid : Prop := projectMakesUptoRow.holds Tryz.pinned (OpenSpec.upto projectMakesSpec)

/-- 'treemergelaw11.ProjectLoads', WHERE WHAT IT READS IS OF BULK AT MOST 1048576: true; the input reads as it did. -/
def projectLoadsUptoRow : OpenClaim := { program := "ytpnkemogepoioaagreatdoor", sum := "f780914c0ad9be1dad60d7df0c83b3a6e74023190553d502d3cc764fcf69f8cf", func := "treemerge/treemergelaw11.ProjectLoads", spec := "projectLoads", inPlace := ["internal/bytealg.IndexByteString", "internal/abi.NoEscape", "internal/bytealg.MakeNoZero"], unfollowed := true, recurses := true, named := ["strconv.ErrSyntax", "strconv.ErrRange", "internal/strconv.uint64pow10", "math/bits.deBruijn32tab", "math/bits.deBruijn64tab", "treemerge/grammar.shapes"], apart := false, laid := [("math/bits.deBruijn32tab", laid_math_bits_deBruijn32tab), ("math/bits.deBruijn64tab", laid_math_bits_deBruijn64tab), ("internal/strconv.uint64pow10", laid_internal_strconv_uint64pow10), ("strconv.ErrRange", laid_strconv_ErrRange), ("strconv.ErrSyntax", laid_strconv_ErrSyntax), ("treemerge/grammar.shapes", laid_treemerge_grammar_shapes)], narrowed := true }
def ProjectLoadsUptoSaid : Prop := projectLoadsUptoRow.holds Tryz.pinned (OpenSpec.upto projectLoadsSpec)

end Rows
end Go.Proofs.YtpnkemogepoioaaGreatDoor
