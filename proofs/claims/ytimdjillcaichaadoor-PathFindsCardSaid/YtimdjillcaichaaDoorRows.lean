/-
  NARROWER THAN 'FOR EVERY INPUT', by the rows' own cells (each row's printed sentence says how): PathFinds: loops, laid · PathChanges: loops, laid · PathReplaces: loops, laid · PathIndexes: loops, laid · PathRemoves: loops, laid · PathBack: loops, laid · TokenReads: laid · TokenKinds: laid · TokenJoins: laid · TokenLossless: laid · TokenGaps: laid · TokenBlanks: laid · TokenPlaces: laid.
  DERIVED. THE GIVEN ROWS OF THIS SEAT. 13 by the template 'for every input the law returns true; each argument reads behind the call as it read before'; 0 by the template 'total and deterministic' (their statements: YtimdjillcaichaaDoorTotals.lean).
  GIVEN WITH THE SEED: the statements are not yours to turn. If you find one false, say at which input.
  Laid BY PROGRAM, IN A SANDBOX (cutbox-rows.mjs): the forced cells as the released guide's own fill.sh prints them over the translation e028506e0dd42d54… (all of the seat's roots in one cut). By AI agents, Wed Nov 11 2026. No macro, syntax, notation, axiom, sorry.
-/
import Derived.Test.YtimdjillcaichaaDoorChecked
import GoSem.Claim
import GoSem.ClaimJoined
import GoSem.ClaimMapViews
import Derived.JoinedTies
import Derived.KernelRfl
namespace Go.Proofs.YtimdjillcaichaaDoor
/- THE CELL 'sum', in the pinned program and in every row, IS THE sha256 OF THE DUMP (.gsa) THAT YtimdjillcaichaaDoorProg.lean LOADS. Nothing in Lean hashes anything: it is a label: what it is worth is what the hold of that sum in a sandbox is worth. -/
noncomputable def Tryd.pinned : Pinned := { name := "ytimdjillcaichaadoor", sum := "e028506e0dd42d549039950a5c465c5b47b70417335d9f80475ecdb1530d6f0a", checked := Tryd.checked }
namespace Rows
def none {H : Type} : Left H := { results := [], args := [] }

/- WHAT THE LISTED PACKAGE-LEVEL VARIABLES READ AS WHEN THE CALL BEGINS. Each datum BY PROGRAM (the guide's laid-datum.mjs) off the statement by which the dump's own 'gosem.cut.vars' lays the variable. In a bare row this is a premise. The card (YtimdjillcaichaaDoorCards.lean) ties it to the program's text. -/
def laid_treemerge_grammar_shapes {H : Type} : DataW H := .agg [.agg [.nil, .agg [.lit (.int .i64 0), .lit (.int .i64 0)], .lit (.int .i64 0), .nil, .lit (.int .i64 0)], .agg [.nil, .agg [.lit (.int .i64 0), .lit (.int .i64 1)], .lit (.int .i64 0), .nil, .lit (.int .i64 1)], .agg [.slice [.agg [.lit (.int .i64 3), .lit (.int .i64 0)], .agg [.lit (.int .i64 5), .lit (.int .i64 0)], .agg [.lit (.int .i64 6), .lit (.int .i64 0)]] [], .agg [.lit (.int .i64 0), .lit (.int .i64 0)], .lit (.int .i64 1), .nil, .lit (.int .i64 2)], .agg [.nil, .agg [.lit (.int .i64 4), .lit (.int .i64 0)], .lit (.int .i64 0), .nil, .lit (.int .i64 2)], .agg [.slice [.agg [.lit (.int .i64 5), .lit (.int .i64 0)]] [], .agg [.lit (.int .i64 0), .lit (.int .i64 0)], .lit (.int .i64 1), .nil, .lit (.int .i64 1)], .agg [.nil, .agg [.lit (.int .i64 0), .lit (.int .i64 0)], .lit (.int .i64 1), .nil, .lit (.int .i64 1)], .agg [.nil, .agg [.lit (.int .i64 0), .lit (.int .i64 2)], .lit (.int .i64 0), .nil, .lit (.int .i64 2)], .agg [.slice [.agg [.lit (.int .i64 8), .lit (.int .i64 0)]] [], .agg [.lit (.int .i64 2), .lit (.int .i64 0)], .lit (.int .i64 1), .nil, .lit (.int .i64 4)], .agg [.nil, .agg [.lit (.int .i64 0), .lit (.int .i64 0)], .lit (.int .i64 2), .nil, .lit (.int .i64 2)], .agg [.slice [.agg [.lit (.int .i64 0), .lit (.int .i64 3)]] [], .agg [.lit (.int .i64 0), .lit (.int .i64 0)], .lit (.int .i64 1), .nil, .lit (.int .i64 4)], .agg [.slice [.agg [.lit (.int .i64 0), .lit (.int .i64 3)]] [], .agg [.lit (.int .i64 0), .lit (.int .i64 0)], .lit (.int .i64 1), .nil, .lit (.int .i64 4)], .agg [.slice [.agg [.lit (.int .i64 0), .lit (.int .i64 3)]] [], .agg [.lit (.int .i64 0), .lit (.int .i64 0)], .lit (.int .i64 1), .nil, .lit (.int .i64 3)], .agg [.slice [.agg [.lit (.int .i64 0), .lit (.int .i64 3)]] [], .agg [.lit (.int .i64 0), .lit (.int .i64 0)], .lit (.int .i64 0), .nil, .lit (.int .i64 2)], .agg [.slice [.agg [.lit (.int .i64 0), .lit (.int .i64 3)], .agg [.lit (.int .i64 6), .lit (.int .i64 0)], .agg [.lit (.int .i64 14), .lit (.int .i64 0)]] [], .agg [.lit (.int .i64 0), .lit (.int .i64 0)], .lit (.int .i64 0), .nil, .lit (.int .i64 1)], .agg [.slice [.agg [.lit (.int .i64 6), .lit (.int .i64 0)]] [], .agg [.lit (.int .i64 0), .lit (.int .i64 0)], .lit (.int .i64 0), .nil, .lit (.int .i64 1)], .agg [.slice [.agg [.lit (.int .i64 0), .lit (.int .i64 3)], .agg [.lit (.int .i64 6), .lit (.int .i64 0)]] [], .agg [.lit (.int .i64 0), .lit (.int .i64 0)], .lit (.int .i64 0), .nil, .lit (.int .i64 1)], .agg [.slice [.agg [.lit (.int .i64 0), .lit (.int .i64 3)]] [], .agg [.lit (.int .i64 0), .lit (.int .i64 0)], .lit (.int .i64 0), .nil, .lit (.int .i64 1)], .agg [.nil, .agg [.lit (.int .i64 0), .lit (.int .i64 0)], .lit (.int .i64 3), .nil, .lit (.int .i64 1)], .agg [.nil, .agg [.lit (.int .i64 0), .lit (.int .i64 0)], .lit (.int .i64 4), .slice [.lit (.string [116, 114, 117, 101]), .lit (.string [102, 97, 108, 115, 101])] [], .lit (.int .i64 1)], .agg [.nil, .agg [.lit (.int .i64 0), .lit (.int .i64 0)], .lit (.int .i64 1), .nil, .lit (.int .i64 1)], .agg [.nil, .agg [.lit (.int .i64 0), .lit (.int .i64 3)], .lit (.int .i64 1), .nil, .lit (.int .i64 3)], .agg [.slice [.agg [.lit (.int .i64 0), .lit (.int .i64 3)]] [], .agg [.lit (.int .i64 0), .lit (.int .i64 3)], .lit (.int .i64 1), .nil, .lit (.int .i64 4)], .agg [.nil, .agg [.lit (.int .i64 0), .lit (.int .i64 0)], .lit (.int .i64 1), .nil, .lit (.int .i64 4)], .agg [.nil, .agg [.lit (.int .i64 0), .lit (.int .i64 0)], .lit (.int .i64 4), .slice [.lit (.string [115, 101, 108, 102])] [], .lit (.int .i64 1)], .agg [.slice [.agg [.lit (.int .i64 0), .lit (.int .i64 3)], .agg [.lit (.int .i64 0), .lit (.int .i64 3)]] [], .agg [.lit (.int .i64 0), .lit (.int .i64 0)], .lit (.int .i64 4), .slice [.lit (.string [124]), .lit (.string [38]), .lit (.string [61, 61]), .lit (.string [60]), .lit (.string [43]), .lit (.string [45]), .lit (.string [42]), .lit (.string [47])] [], .lit (.int .i64 1)], .agg [.slice [.agg [.lit (.int .i64 0), .lit (.int .i64 3)]] [], .agg [.lit (.int .i64 0), .lit (.int .i64 0)], .lit (.int .i64 4), .slice [.lit (.string [45]), .lit (.string [33])] [], .lit (.int .i64 1)], .agg [.slice [.agg [.lit (.int .i64 0), .lit (.int .i64 3)]] [], .agg [.lit (.int .i64 0), .lit (.int .i64 0)], .lit (.int .i64 0), .nil, .lit (.int .i64 2)]]
def laid_math_bits_deBruijn32tab {H : Type} : DataW H := .agg [.lit (.int .u8 0), .lit (.int .u8 1), .lit (.int .u8 28), .lit (.int .u8 2), .lit (.int .u8 29), .lit (.int .u8 14), .lit (.int .u8 24), .lit (.int .u8 3), .lit (.int .u8 30), .lit (.int .u8 22), .lit (.int .u8 20), .lit (.int .u8 15), .lit (.int .u8 25), .lit (.int .u8 17), .lit (.int .u8 4), .lit (.int .u8 8), .lit (.int .u8 31), .lit (.int .u8 27), .lit (.int .u8 13), .lit (.int .u8 23), .lit (.int .u8 21), .lit (.int .u8 19), .lit (.int .u8 16), .lit (.int .u8 7), .lit (.int .u8 26), .lit (.int .u8 12), .lit (.int .u8 18), .lit (.int .u8 6), .lit (.int .u8 11), .lit (.int .u8 5), .lit (.int .u8 10), .lit (.int .u8 9)]
def laid_math_bits_deBruijn64tab {H : Type} : DataW H := .agg [.lit (.int .u8 0), .lit (.int .u8 1), .lit (.int .u8 56), .lit (.int .u8 2), .lit (.int .u8 57), .lit (.int .u8 49), .lit (.int .u8 28), .lit (.int .u8 3), .lit (.int .u8 61), .lit (.int .u8 58), .lit (.int .u8 42), .lit (.int .u8 50), .lit (.int .u8 38), .lit (.int .u8 29), .lit (.int .u8 17), .lit (.int .u8 4), .lit (.int .u8 62), .lit (.int .u8 47), .lit (.int .u8 59), .lit (.int .u8 36), .lit (.int .u8 45), .lit (.int .u8 43), .lit (.int .u8 51), .lit (.int .u8 22), .lit (.int .u8 53), .lit (.int .u8 39), .lit (.int .u8 33), .lit (.int .u8 30), .lit (.int .u8 24), .lit (.int .u8 18), .lit (.int .u8 12), .lit (.int .u8 5), .lit (.int .u8 63), .lit (.int .u8 55), .lit (.int .u8 48), .lit (.int .u8 27), .lit (.int .u8 60), .lit (.int .u8 41), .lit (.int .u8 37), .lit (.int .u8 16), .lit (.int .u8 46), .lit (.int .u8 35), .lit (.int .u8 44), .lit (.int .u8 21), .lit (.int .u8 52), .lit (.int .u8 32), .lit (.int .u8 23), .lit (.int .u8 11), .lit (.int .u8 54), .lit (.int .u8 26), .lit (.int .u8 40), .lit (.int .u8 15), .lit (.int .u8 34), .lit (.int .u8 20), .lit (.int .u8 31), .lit (.int .u8 10), .lit (.int .u8 25), .lit (.int .u8 14), .lit (.int .u8 19), .lit (.int .u8 9), .lit (.int .u8 13), .lit (.int .u8 8), .lit (.int .u8 7), .lit (.int .u8 6)]
def laid_internal_strconv_uint64pow10 {H : Type} : DataW H := .agg [.lit (.int .u64 1), .lit (.int .u64 10), .lit (.int .u64 100), .lit (.int .u64 1000), .lit (.int .u64 10000), .lit (.int .u64 100000), .lit (.int .u64 1000000), .lit (.int .u64 10000000), .lit (.int .u64 100000000), .lit (.int .u64 1000000000), .lit (.int .u64 10000000000), .lit (.int .u64 100000000000), .lit (.int .u64 1000000000000), .lit (.int .u64 10000000000000), .lit (.int .u64 100000000000000), .lit (.int .u64 1000000000000000), .lit (.int .u64 10000000000000000), .lit (.int .u64 100000000000000000), .lit (.int .u64 1000000000000000000), .lit (.int .u64 10000000000000000000)]
def laid_strconv_ErrRange {H : Type} : DataW H := .iface "*errors.errorString" (.ptr (.agg [.lit (.string [118, 97, 108, 117, 101, 32, 111, 117, 116, 32, 111, 102, 32, 114, 97, 110, 103, 101])]))
def laid_strconv_ErrSyntax {H : Type} : DataW H := .iface "*errors.errorString" (.ptr (.agg [.lit (.string [105, 110, 118, 97, 108, 105, 100, 32, 115, 121, 110, 116, 97, 120])]))

/-- 'treemergelaw10.PathFinds': WHATEVER THE INPUT: true; the input reads as it did. -/
def pathFindsSpec : ChangeSpec := { name := "pathFinds", fn := fun _ => fun
  | [d1, d2, d3] => { results := [.lit (.bool true)], args := [d1, d2, d3] }
  | _ => none }
def pathFindsRow : OpenClaim := { program := "ytimdjillcaichaadoor", sum := "e028506e0dd42d549039950a5c465c5b47b70417335d9f80475ecdb1530d6f0a", func := "treemerge/treemergelaw10.PathFinds", spec := "pathFinds", inPlace := ["internal/bytealg.IndexByteString"], unfollowed := true, recurses := true, named := ["treemerge/grammar.shapes"], loops := true, apart := false, laid := [("treemerge/grammar.shapes", laid_treemerge_grammar_shapes)] }
def PathFindsSaid : Prop := pathFindsRow.holds Tryd.pinned (OpenSpec.ofChange pathFindsSpec)

/-- ITS FALSE NEIGHBOUR: 'it returns false'. Refute it at one input. -/
def pathFindsWrong : ChangeSpec := { name := "pathFinds", fn := fun _ => fun
  | [d1, d2, d3] => { results := [.lit (.bool false)], args := [d1, d2, d3] }
  | _ => none }
def PathFindsWrongFalsely : Prop := pathFindsRow.holds Tryd.pinned (OpenSpec.ofChange pathFindsWrong)

/-- 'treemergelaw10.PathChanges': WHATEVER THE INPUT: true; the input reads as it did. -/
def pathChangesSpec : ChangeSpec := { name := "pathChanges", fn := fun _ => fun
  | [d1, d2, d3] => { results := [.lit (.bool true)], args := [d1, d2, d3] }
  | _ => none }
def pathChangesRow : OpenClaim := { program := "ytimdjillcaichaadoor", sum := "e028506e0dd42d549039950a5c465c5b47b70417335d9f80475ecdb1530d6f0a", func := "treemerge/treemergelaw10.PathChanges", spec := "pathChanges", inPlace := ["internal/bytealg.IndexByteString"], unfollowed := true, recurses := true, named := ["treemerge/grammar.shapes"], loops := true, apart := false, laid := [("treemerge/grammar.shapes", laid_treemerge_grammar_shapes)] }
def PathChangesSaid : Prop := pathChangesRow.holds Tryd.pinned (OpenSpec.ofChange pathChangesSpec)

/-- ITS FALSE NEIGHBOUR: 'it returns false'. Refute it at one input. -/
def pathChangesWrong : ChangeSpec := { name := "pathChanges", fn := fun _ => fun
  | [d1, d2, d3] => { results := [.lit (.bool false)], args := [d1, d2, d3] }
  | _ => none }
def PathChangesWrongFalsely : Prop := pathChangesRow.holds Tryd.pinned (OpenSpec.ofChange pathChangesWrong)

/-- 'treemergelaw10.PathReplaces': WHATEVER THE INPUT: true; the input reads as it did. -/
def pathReplacesSpec : ChangeSpec := { name := "pathReplaces", fn := fun _ => fun
  | [d1, d2, d3, d4] => { results := [.lit (.bool true)], args := [d1, d2, d3, d4] }
  | _ => none }
def pathReplacesRow : OpenClaim := { program := "ytimdjillcaichaadoor", sum := "e028506e0dd42d549039950a5c465c5b47b70417335d9f80475ecdb1530d6f0a", func := "treemerge/treemergelaw10.PathReplaces", spec := "pathReplaces", inPlace := ["internal/bytealg.IndexByteString"], unfollowed := true, recurses := true, named := ["treemerge/grammar.shapes"], loops := true, apart := false, laid := [("treemerge/grammar.shapes", laid_treemerge_grammar_shapes)] }
def PathReplacesSaid : Prop := pathReplacesRow.holds Tryd.pinned (OpenSpec.ofChange pathReplacesSpec)

/-- ITS FALSE NEIGHBOUR: 'it returns false'. Refute it at one input. -/
def pathReplacesWrong : ChangeSpec := { name := "pathReplaces", fn := fun _ => fun
  | [d1, d2, d3, d4] => { results := [.lit (.bool false)], args := [d1, d2, d3, d4] }
  | _ => none }
def PathReplacesWrongFalsely : Prop := pathReplacesRow.holds Tryd.pinned (OpenSpec.ofChange pathReplacesWrong)

/-- 'treemergelaw10.PathIndexes': WHATEVER THE INPUT: true; the input reads as it did. -/
def pathIndexesSpec : ChangeSpec := { name := "pathIndexes", fn := fun _ => fun
  | [d1, d2] => { results := [.lit (.bool true)], args := [d1, d2] }
  | _ => none }
def pathIndexesRow : OpenClaim := { program := "ytimdjillcaichaadoor", sum := "e028506e0dd42d549039950a5c465c5b47b70417335d9f80475ecdb1530d6f0a", func := "treemerge/treemergelaw10.PathIndexes", spec := "pathIndexes", inPlace := ["internal/bytealg.IndexByteString"], unfollowed := true, recurses := true, named := ["treemerge/grammar.shapes"], loops := true, apart := false, laid := [("treemerge/grammar.shapes", laid_treemerge_grammar_shapes)] }
def PathIndexesSaid : Prop := pathIndexesRow.holds Tryd.pinned (OpenSpec.ofChange pathIndexesSpec)

/-- ITS FALSE NEIGHBOUR: 'it returns false'. Refute it at one input. -/
def pathIndexesWrong : ChangeSpec := { name := "pathIndexes", fn := fun _ => fun
  | [d1, d2] => { results := [.lit (.bool false)], args := [d1, d2] }
  | _ => none }
def PathIndexesWrongFalsely : Prop := pathIndexesRow.holds Tryd.pinned (OpenSpec.ofChange pathIndexesWrong)

/-- 'treemergelaw10.PathRemoves': WHATEVER THE INPUT: true; the input reads as it did. -/
def pathRemovesSpec : ChangeSpec := { name := "pathRemoves", fn := fun _ => fun
  | [d1, d2, d3] => { results := [.lit (.bool true)], args := [d1, d2, d3] }
  | _ => none }
def pathRemovesRow : OpenClaim := { program := "ytimdjillcaichaadoor", sum := "e028506e0dd42d549039950a5c465c5b47b70417335d9f80475ecdb1530d6f0a", func := "treemerge/treemergelaw10.PathRemoves", spec := "pathRemoves", inPlace := ["internal/bytealg.IndexByteString"], unfollowed := true, recurses := true, named := ["treemerge/grammar.shapes"], loops := true, apart := false, laid := [("treemerge/grammar.shapes", laid_treemerge_grammar_shapes)] }
def PathRemovesSaid : Prop := pathRemovesRow.holds Tryd.pinned (OpenSpec.ofChange pathRemovesSpec)

/-- ITS FALSE NEIGHBOUR: 'it returns false'. Refute it at one input. -/
def pathRemovesWrong : ChangeSpec := { name := "pathRemoves", fn := fun _ => fun
  | [d1, d2, d3] => { results := [.lit (.bool false)], args := [d1, d2, d3] }
  | _ => none }
def PathRemovesWrongFalsely : Prop := pathRemovesRow.holds Tryd.pinned (OpenSpec.ofChange pathRemovesWrong)

/-- 'treemergelaw10.PathBack': WHATEVER THE INPUT: true; the input reads as it did. -/
def pathBackSpec : ChangeSpec := { name := "pathBack", fn := fun _ => fun
  | [d1, d2, d3] => { results := [.lit (.bool true)], args := [d1, d2, d3] }
  | _ => none }
def pathBackRow : OpenClaim := { program := "ytimdjillcaichaadoor", sum := "e028506e0dd42d549039950a5c465c5b47b70417335d9f80475ecdb1530d6f0a", func := "treemerge/treemergelaw10.PathBack", spec := "pathBack", inPlace := ["internal/bytealg.IndexByteString"], unfollowed := true, recurses := true, named := ["treemerge/grammar.shapes"], loops := true, apart := false, laid := [("treemerge/grammar.shapes", laid_treemerge_grammar_shapes)] }
def PathBackSaid : Prop := pathBackRow.holds Tryd.pinned (OpenSpec.ofChange pathBackSpec)

/-- ITS FALSE NEIGHBOUR: 'it returns false'. Refute it at one input. -/
def pathBackWrong : ChangeSpec := { name := "pathBack", fn := fun _ => fun
  | [d1, d2, d3] => { results := [.lit (.bool false)], args := [d1, d2, d3] }
  | _ => none }
def PathBackWrongFalsely : Prop := pathBackRow.holds Tryd.pinned (OpenSpec.ofChange pathBackWrong)

/-- 'treemergelaw05.TokenReads': WHATEVER THE INPUT: true; the input reads as it did. -/
def tokenReadsSpec : ChangeSpec := { name := "tokenReads", fn := fun _ => fun
  | [d] => { results := [.lit (.bool true)], args := [d] }
  | _ => none }
def tokenReadsRow : OpenClaim := { program := "ytimdjillcaichaadoor", sum := "e028506e0dd42d549039950a5c465c5b47b70417335d9f80475ecdb1530d6f0a", func := "treemerge/treemergelaw05.TokenReads", spec := "tokenReads", inPlace := ["internal/bytealg.IndexByteString", "internal/abi.NoEscape"], unfollowed := true, recurses := true, named := ["strconv.ErrSyntax", "strconv.ErrRange", "internal/strconv.uint64pow10", "math/bits.deBruijn32tab", "math/bits.deBruijn64tab"], apart := false, laid := [("math/bits.deBruijn32tab", laid_math_bits_deBruijn32tab), ("math/bits.deBruijn64tab", laid_math_bits_deBruijn64tab), ("internal/strconv.uint64pow10", laid_internal_strconv_uint64pow10), ("strconv.ErrRange", laid_strconv_ErrRange), ("strconv.ErrSyntax", laid_strconv_ErrSyntax)] }
def TokenReadsSaid : Prop := tokenReadsRow.holds Tryd.pinned (OpenSpec.ofChange tokenReadsSpec)

/-- ITS FALSE NEIGHBOUR: 'it returns false'. Refute it at one input. -/
def tokenReadsWrong : ChangeSpec := { name := "tokenReads", fn := fun _ => fun
  | [d] => { results := [.lit (.bool false)], args := [d] }
  | _ => none }
def TokenReadsWrongFalsely : Prop := tokenReadsRow.holds Tryd.pinned (OpenSpec.ofChange tokenReadsWrong)

/-- 'treemergelaw05.TokenKinds': WHATEVER THE INPUT: true; the input reads as it did. -/
def tokenKindsSpec : ChangeSpec := { name := "tokenKinds", fn := fun _ => fun
  | [d1, d2] => { results := [.lit (.bool true)], args := [d1, d2] }
  | _ => none }
def tokenKindsRow : OpenClaim := { program := "ytimdjillcaichaadoor", sum := "e028506e0dd42d549039950a5c465c5b47b70417335d9f80475ecdb1530d6f0a", func := "treemerge/treemergelaw05.TokenKinds", spec := "tokenKinds", inPlace := ["internal/bytealg.IndexByteString", "internal/abi.NoEscape"], unfollowed := true, recurses := true, named := ["strconv.ErrSyntax", "strconv.ErrRange", "internal/strconv.uint64pow10", "math/bits.deBruijn32tab", "math/bits.deBruijn64tab"], apart := false, laid := [("math/bits.deBruijn32tab", laid_math_bits_deBruijn32tab), ("math/bits.deBruijn64tab", laid_math_bits_deBruijn64tab), ("internal/strconv.uint64pow10", laid_internal_strconv_uint64pow10), ("strconv.ErrRange", laid_strconv_ErrRange), ("strconv.ErrSyntax", laid_strconv_ErrSyntax)] }
def TokenKindsSaid : Prop := tokenKindsRow.holds Tryd.pinned (OpenSpec.ofChange tokenKindsSpec)

/-- ITS FALSE NEIGHBOUR: 'it returns false'. Refute it at one input. -/
def tokenKindsWrong : ChangeSpec := { name := "tokenKinds", fn := fun _ => fun
  | [d1, d2] => { results := [.lit (.bool false)], args := [d1, d2] }
  | _ => none }
def TokenKindsWrongFalsely : Prop := tokenKindsRow.holds Tryd.pinned (OpenSpec.ofChange tokenKindsWrong)

/-- 'treemergelaw05.TokenJoins': WHATEVER THE INPUT: true; the input reads as it did. -/
def tokenJoinsSpec : ChangeSpec := { name := "tokenJoins", fn := fun _ => fun
  | [d] => { results := [.lit (.bool true)], args := [d] }
  | _ => none }
def tokenJoinsRow : OpenClaim := { program := "ytimdjillcaichaadoor", sum := "e028506e0dd42d549039950a5c465c5b47b70417335d9f80475ecdb1530d6f0a", func := "treemerge/treemergelaw05.TokenJoins", spec := "tokenJoins", inPlace := ["internal/bytealg.IndexByteString", "internal/abi.NoEscape"], unfollowed := true, recurses := true, named := ["strconv.ErrSyntax", "strconv.ErrRange", "internal/strconv.uint64pow10", "math/bits.deBruijn32tab", "math/bits.deBruijn64tab"], apart := false, laid := [("math/bits.deBruijn32tab", laid_math_bits_deBruijn32tab), ("math/bits.deBruijn64tab", laid_math_bits_deBruijn64tab), ("internal/strconv.uint64pow10", laid_internal_strconv_uint64pow10), ("strconv.ErrRange", laid_strconv_ErrRange), ("strconv.ErrSyntax", laid_strconv_ErrSyntax)] }
def TokenJoinsSaid : Prop := tokenJoinsRow.holds Tryd.pinned (OpenSpec.ofChange tokenJoinsSpec)

/-- ITS FALSE NEIGHBOUR: 'it returns false'. Refute it at one input. -/
def tokenJoinsWrong : ChangeSpec := { name := "tokenJoins", fn := fun _ => fun
  | [d] => { results := [.lit (.bool false)], args := [d] }
  | _ => none }
def TokenJoinsWrongFalsely : Prop := tokenJoinsRow.holds Tryd.pinned (OpenSpec.ofChange tokenJoinsWrong)

/-- 'treemergelaw05.TokenLossless': WHATEVER THE INPUT: true; the input reads as it did. -/
def tokenLosslessSpec : ChangeSpec := { name := "tokenLossless", fn := fun _ => fun
  | [d] => { results := [.lit (.bool true)], args := [d] }
  | _ => none }
def tokenLosslessRow : OpenClaim := { program := "ytimdjillcaichaadoor", sum := "e028506e0dd42d549039950a5c465c5b47b70417335d9f80475ecdb1530d6f0a", func := "treemerge/treemergelaw05.TokenLossless", spec := "tokenLossless", inPlace := ["internal/bytealg.IndexByteString", "internal/abi.NoEscape"], unfollowed := true, recurses := true, named := ["strconv.ErrSyntax", "strconv.ErrRange", "internal/strconv.uint64pow10", "math/bits.deBruijn32tab", "math/bits.deBruijn64tab"], apart := false, laid := [("math/bits.deBruijn32tab", laid_math_bits_deBruijn32tab), ("math/bits.deBruijn64tab", laid_math_bits_deBruijn64tab), ("internal/strconv.uint64pow10", laid_internal_strconv_uint64pow10), ("strconv.ErrRange", laid_strconv_ErrRange), ("strconv.ErrSyntax", laid_strconv_ErrSyntax)] }
def TokenLosslessSaid : Prop := tokenLosslessRow.holds Tryd.pinned (OpenSpec.ofChange tokenLosslessSpec)

/-- ITS FALSE NEIGHBOUR: 'it returns false'. Refute it at one input. -/
def tokenLosslessWrong : ChangeSpec := { name := "tokenLossless", fn := fun _ => fun
  | [d] => { results := [.lit (.bool false)], args := [d] }
  | _ => none }
def TokenLosslessWrongFalsely : Prop := tokenLosslessRow.holds Tryd.pinned (OpenSpec.ofChange tokenLosslessWrong)

/-- 'treemergelaw05.TokenGaps': WHATEVER THE INPUT: true; the input reads as it did. -/
def tokenGapsSpec : ChangeSpec := { name := "tokenGaps", fn := fun _ => fun
  | [d1, d2] => { results := [.lit (.bool true)], args := [d1, d2] }
  | _ => none }
def tokenGapsRow : OpenClaim := { program := "ytimdjillcaichaadoor", sum := "e028506e0dd42d549039950a5c465c5b47b70417335d9f80475ecdb1530d6f0a", func := "treemerge/treemergelaw05.TokenGaps", spec := "tokenGaps", inPlace := ["internal/bytealg.IndexByteString", "internal/abi.NoEscape"], unfollowed := true, recurses := true, named := ["strconv.ErrSyntax", "strconv.ErrRange", "internal/strconv.uint64pow10", "math/bits.deBruijn32tab", "math/bits.deBruijn64tab"], apart := false, laid := [("math/bits.deBruijn32tab", laid_math_bits_deBruijn32tab), ("math/bits.deBruijn64tab", laid_math_bits_deBruijn64tab), ("internal/strconv.uint64pow10", laid_internal_strconv_uint64pow10), ("strconv.ErrRange", laid_strconv_ErrRange), ("strconv.ErrSyntax", laid_strconv_ErrSyntax)] }
def TokenGapsSaid : Prop := tokenGapsRow.holds Tryd.pinned (OpenSpec.ofChange tokenGapsSpec)

/-- ITS FALSE NEIGHBOUR: 'it returns false'. Refute it at one input. -/
def tokenGapsWrong : ChangeSpec := { name := "tokenGaps", fn := fun _ => fun
  | [d1, d2] => { results := [.lit (.bool false)], args := [d1, d2] }
  | _ => none }
def TokenGapsWrongFalsely : Prop := tokenGapsRow.holds Tryd.pinned (OpenSpec.ofChange tokenGapsWrong)

/-- 'treemergelaw05.TokenBlanks': WHATEVER THE INPUT: true; the input reads as it did. -/
def tokenBlanksSpec : ChangeSpec := { name := "tokenBlanks", fn := fun _ => fun
  | [d] => { results := [.lit (.bool true)], args := [d] }
  | _ => none }
def tokenBlanksRow : OpenClaim := { program := "ytimdjillcaichaadoor", sum := "e028506e0dd42d549039950a5c465c5b47b70417335d9f80475ecdb1530d6f0a", func := "treemerge/treemergelaw05.TokenBlanks", spec := "tokenBlanks", inPlace := ["internal/bytealg.IndexByteString", "internal/abi.NoEscape"], unfollowed := true, recurses := true, named := ["strconv.ErrSyntax", "strconv.ErrRange", "internal/strconv.uint64pow10", "math/bits.deBruijn32tab", "math/bits.deBruijn64tab"], apart := false, laid := [("math/bits.deBruijn32tab", laid_math_bits_deBruijn32tab), ("math/bits.deBruijn64tab", laid_math_bits_deBruijn64tab), ("internal/strconv.uint64pow10", laid_internal_strconv_uint64pow10), ("strconv.ErrRange", laid_strconv_ErrRange), ("strconv.ErrSyntax", laid_strconv_ErrSyntax)] }
def TokenBlanksSaid : Prop := tokenBlanksRow.holds Tryd.pinned (OpenSpec.ofChange tokenBlanksSpec)

/-- ITS FALSE NEIGHBOUR: 'it returns false'. Refute it at one input. -/
def tokenBlanksWrong : ChangeSpec := { name := "tokenBlanks", fn := fun _ => fun
  | [d] => { results := [.lit (.bool false)], args := [d] }
  | _ => none }
def TokenBlanksWrongFalsely : Prop := tokenBlanksRow.holds Tryd.pinned (OpenSpec.ofChange tokenBlanksWrong)

/-- 'treemergelaw05.TokenPlaces': WHATEVER THE INPUT: true; the input reads as it did. -/
def tokenPlacesSpec : ChangeSpec := { name := "tokenPlaces", fn := fun _ => fun
  | [d] => { results := [.lit (.bool true)], args := [d] }
  | _ => none }
def tokenPlacesRow : OpenClaim := { program := "ytimdjillcaichaadoor", sum := "e028506e0dd42d549039950a5c465c5b47b70417335d9f80475ecdb1530d6f0a", func := "treemerge/treemergelaw05.TokenPlaces", spec := "tokenPlaces", inPlace := ["internal/bytealg.IndexByteString", "internal/abi.NoEscape"], unfollowed := true, recurses := true, named := ["strconv.ErrSyntax", "strconv.ErrRange", "internal/strconv.uint64pow10", "math/bits.deBruijn32tab", "math/bits.deBruijn64tab"], apart := false, laid := [("math/bits.deBruijn32tab", laid_math_bits_deBruijn32tab), ("math/bits.deBruijn64tab", laid_math_bits_deBruijn64tab), ("internal/strconv.uint64pow10", laid_internal_strconv_uint64pow10), ("strconv.ErrRange", laid_strconv_ErrRange), ("strconv.ErrSyntax", laid_strconv_ErrSyntax)] }
def TokenPlacesSaid : Prop := tokenPlacesRow.holds Tryd.pinned (OpenSpec.ofChange tokenPlacesSpec)

/-- ITS FALSE NEIGHBOUR: 'it returns false'. Refute it at one input. -/
def tokenPlacesWrong : ChangeSpec := { name := "tokenPlaces", fn := fun _ => fun
  | [d] => { results := [.lit (.bool false)], args := [d] }
  | _ => none }
def TokenPlacesWrongFalsely : Prop := tokenPlacesRow.holds Tryd.pinned (OpenSpec.ofChange tokenPlacesWrong)

/- THE SECOND FORM. 'bulk': how many values and letters a reading holds, each counted each time it is reached (what is shared counts as often as it is met; a slice's spare places count too). A statement '..UptoSaid' is the law's where the arguments, and the package variables that the reading takes, are together of bulk at most 1048576: NARROWER than '..Said'. Prove '..Said' where nothing that the law and all that it calls make is longer than what came in: it says more and counts as full. Else prove '..UptoSaid'. A law counts once. -/
mutual
def uptoBulk {H : Type} : DataW H → Nat
  | .lit (.string bytes) => bytes.length + 1
  | .lit _ => 1
  | .nil => 1
  | .ptr d => uptoBulk d + 1
  | .slice elems spare => uptoBulkAll elems + uptoBulkAll spare + 1
  | .agg parts => uptoBulkAll parts + 1
  | .iface _ d => uptoBulk d + 1
  | .map entries => uptoBulkEntries entries + 1
  | .held _ => 1
def uptoBulkAll {H : Type} : List (DataW H) → Nat
  | [] => 0
  | d :: r => uptoBulk d + uptoBulkAll r
def uptoBulkEntries {H : Type} : List (Lit × DataW H) → Nat
  | [] => 0
  | x :: r => uptoBulkEntry x + uptoBulkEntries r
def uptoBulkEntry {H : Type} : Lit × DataW H → Nat
  | (.string bytes, d) => bytes.length + uptoBulk d + 1
  | (_, d) => uptoBulk d + 1
 end
def uptoSmall : (H : Type) → List (DataW H) → Bool := fun _ ds => decide (uptoBulkAll ds ≤ 1048576)
def OpenSpec.upto (s : _root_.Go.ChangeSpec) : _root_.Go.OpenSpec := { _root_.Go.OpenSpec.ofChange s with cond := some uptoSmall }

/-- 'treemergelaw10.PathFinds', WHERE WHAT IT READS IS OF BULK AT MOST 1048576: true; the input reads as it did. -/
def pathFindsUptoRow : OpenClaim := { program := "ytimdjillcaichaadoor", sum := "e028506e0dd42d549039950a5c465c5b47b70417335d9f80475ecdb1530d6f0a", func := "treemerge/treemergelaw10.PathFinds", spec := "pathFinds", inPlace := ["internal/bytealg.IndexByteString"], unfollowed := true, recurses := true, named := ["treemerge/grammar.shapes"], loops := true, apart := false, laid := [("treemerge/grammar.shapes", laid_treemerge_grammar_shapes)], narrowed := true }
def PathFindsUptoSaid : Prop := pathFindsUptoRow.holds Tryd.pinned (OpenSpec.upto pathFindsSpec)

/-- 'treemergelaw10.PathChanges', WHERE WHAT IT READS IS OF BULK AT MOST 1048576: true; the input reads as it did. -/
def pathChangesUptoRow : OpenClaim := { program := "ytimdjillcaichaadoor", sum := "e028506e0dd42d549039950a5c465c5b47b70417335d9f80475ecdb1530d6f0a", func := "treemerge/treemergelaw10.PathChanges", spec := "pathChanges", inPlace := ["internal/bytealg.IndexByteString"], unfollowed := true, recurses := true, named := ["treemerge/grammar.shapes"], loops := true, apart := false, laid := [("treemerge/grammar.shapes", laid_treemerge_grammar_shapes)], narrowed := true }
def PathChangesUptoSaid : Prop := pathChangesUptoRow.holds Tryd.pinned (OpenSpec.upto pathChangesSpec)

/-- 'treemergelaw10.PathReplaces', WHERE WHAT IT READS IS OF BULK AT MOST 1048576: true; the input reads as it did. -/
def pathReplacesUptoRow : OpenClaim := { program := "ytimdjillcaichaadoor", sum := "e028506e0dd42d549039950a5c465c5b47b70417335d9f80475ecdb1530d6f0a", func := "treemerge/treemergelaw10.PathReplaces", spec := "pathReplaces", inPlace := ["internal/bytealg.IndexByteString"], unfollowed := true, recurses := true, named := ["treemerge/grammar.shapes"], loops := true, apart := false, laid := [("treemerge/grammar.shapes", laid_treemerge_grammar_shapes)], narrowed := true }
def PathReplacesUptoSaid : Prop := pathReplacesUptoRow.holds Tryd.pinned (OpenSpec.upto pathReplacesSpec)

/-- 'treemergelaw10.PathIndexes', WHERE WHAT IT READS IS OF BULK AT MOST 1048576: true; the input reads as it did. -/
def pathIndexesUptoRow : OpenClaim := { program := "ytimdjillcaichaadoor", sum := "e028506e0dd42d549039950a5c465c5b47b70417335d9f80475ecdb1530d6f0a", func := "treemerge/treemergelaw10.PathIndexes", spec := "pathIndexes", inPlace := ["internal/bytealg.IndexByteString"], unfollowed := true, recurses := true, named := ["treemerge/grammar.shapes"], loops := true, apart := false, laid := [("treemerge/grammar.shapes", laid_treemerge_grammar_shapes)], narrowed := true }
def PathIndexesUptoSaid : Prop := pathIndexesUptoRow.holds Tryd.pinned (OpenSpec.upto pathIndexesSpec)

/-- 'treemergelaw10.PathRemoves', WHERE WHAT IT READS IS OF BULK AT MOST 1048576: true; the input reads as it did. -/
def pathRemovesUptoRow : OpenClaim := { program := "ytimdjillcaichaadoor", sum := "e028506e0dd42d549039950a5c465c5b47b70417335d9f80475ecdb1530d6f0a", func := "treemerge/treemergelaw10.PathRemoves", spec := "pathRemoves", inPlace := ["internal/bytealg.IndexByteString"], unfollowed := true, recurses := true, named := ["treemerge/grammar.shapes"], loops := true, apart := false, laid := [("treemerge/grammar.shapes", laid_treemerge_grammar_shapes)], narrowed := true }
def PathRemovesUptoSaid : Prop := pathRemovesUptoRow.holds Tryd.pinned (OpenSpec.upto pathRemovesSpec)

/-- 'treemergelaw10.PathBack', WHERE WHAT IT READS IS OF BULK AT MOST 1048576: true; the input reads as it did. -/
def pathBackUptoRow : OpenClaim := { program := "ytimdjillcaichaadoor", sum := "e028506e0dd42d549039950a5c465c5b47b70417335d9f80475ecdb1530d6f0a", func := "treemerge/treemergelaw10.PathBack", spec := "pathBack", inPlace := ["internal/bytealg.IndexByteString"], unfollowed := true, recurses := true, named := ["treemerge/grammar.shapes"], loops := true, apart := false, laid := [("treemerge/grammar.shapes", laid_treemerge_grammar_shapes)], narrowed := true }
def PathBackUptoSaid : Prop := pathBackUptoRow.holds Tryd.pinned (OpenSpec.upto pathBackSpec)

/-- 'treemergelaw05.TokenReads', WHERE WHAT IT READS IS OF BULK AT MOST 1048576: true; the input reads as it did. -/
def tokenReadsUptoRow : OpenClaim := { program := "ytimdjillcaichaadoor", sum := "e028506e0dd42d549039950a5c465c5b47b70417335d9f80475ecdb1530d6f0a", func := "treemerge/treemergelaw05.TokenReads", spec := "tokenReads", inPlace := ["internal/bytealg.IndexByteString", "internal/abi.NoEscape"], unfollowed := true, recurses := true, named := ["strconv.ErrSyntax", "strconv.ErrRange", "internal/strconv.uint64pow10", "math/bits.deBruijn32tab", "math/bits.deBruijn64tab"], apart := false, laid := [("math/bits.deBruijn32tab", laid_math_bits_deBruijn32tab), ("math/bits.deBruijn64tab", laid_math_bits_deBruijn64tab), ("internal/strconv.uint64pow10", laid_internal_strconv_uint64pow10), ("strconv.ErrRange", laid_strconv_ErrRange), ("strconv.ErrSyntax", laid_strconv_ErrSyntax)], narrowed := true }
def TokenReadsUptoSaid : Prop := tokenReadsUptoRow.holds Tryd.pinned (OpenSpec.upto tokenReadsSpec)

/-- 'treemergelaw05.TokenKinds', WHERE WHAT IT READS IS OF BULK AT MOST 1048576: true; the input reads as it did. -/
def tokenKindsUptoRow : OpenClaim := { program := "ytimdjillcaichaadoor", sum := "e028506e0dd42d549039950a5c465c5b47b70417335d9f80475ecdb1530d6f0a", func := "treemerge/treemergelaw05.TokenKinds", spec := "tokenKinds", inPlace := ["internal/bytealg.IndexByteString", "internal/abi.NoEscape"], unfollowed := true, recurses := true, named := ["strconv.ErrSyntax", "strconv.ErrRange", "internal/strconv.uint64pow10", "math/bits.deBruijn32tab", "math/bits.deBruijn64tab"], apart := false, laid := [("math/bits.deBruijn32tab", laid_math_bits_deBruijn32tab), ("math/bits.deBruijn64tab", laid_math_bits_deBruijn64tab), ("internal/strconv.uint64pow10", laid_internal_strconv_uint64pow10), ("strconv.ErrRange", laid_strconv_ErrRange), ("strconv.ErrSyntax", laid_strconv_ErrSyntax)], narrowed := true }
def TokenKindsUptoSaid : Prop := tokenKindsUptoRow.holds Tryd.pinned (OpenSpec.upto tokenKindsSpec)

/-- 'treemergelaw05.TokenJoins', WHERE WHAT IT READS IS OF BULK AT MOST 1048576: true; the input reads as it did. -/
def tokenJoinsUptoRow : OpenClaim := { program := "ytimdjillcaichaadoor", sum := "e028506e0dd42d549039950a5c465c5b47b70417335d9f80475ecdb1530d6f0a", func := "treemerge/treemergelaw05.TokenJoins", spec := "tokenJoins", inPlace := ["internal/bytealg.IndexByteString", "internal/abi.NoEscape"], unfollowed := true, recurses := true, named := ["strconv.ErrSyntax", "strconv.ErrRange", "internal/strconv.uint64pow10", "math/bits.deBruijn32tab", "math/bits.deBruijn64tab"], apart := false, laid := [("math/bits.deBruijn32tab", laid_math_bits_deBruijn32tab), ("math/bits.deBruijn64tab", laid_math_bits_deBruijn64tab), ("internal/strconv.uint64pow10", laid_internal_strconv_uint64pow10), ("strconv.ErrRange", laid_strconv_ErrRange), ("strconv.ErrSyntax", laid_strconv_ErrSyntax)], narrowed := true }
def TokenJoinsUptoSaid : Prop := tokenJoinsUptoRow.holds Tryd.pinned (OpenSpec.upto tokenJoinsSpec)

/-- 'treemergelaw05.TokenLossless', WHERE WHAT IT READS IS OF BULK AT MOST 1048576: true; the input reads as it did. -/
def tokenLosslessUptoRow : OpenClaim := { program := "ytimdjillcaichaadoor", sum := "e028506e0dd42d549039950a5c465c5b47b70417335d9f80475ecdb1530d6f0a", func := "treemerge/treemergelaw05.TokenLossless", spec := "tokenLossless", inPlace := ["internal/bytealg.IndexByteString", "internal/abi.NoEscape"], unfollowed := true, recurses := true, named := ["strconv.ErrSyntax", "strconv.ErrRange", "internal/strconv.uint64pow10", "math/bits.deBruijn32tab", "math/bits.deBruijn64tab"], apart := false, laid := [("math/bits.deBruijn32tab", laid_math_bits_deBruijn32tab), ("math/bits.deBruijn64tab", laid_math_bits_deBruijn64tab), ("internal/strconv.uint64pow10", laid_internal_strconv_uint64pow10), ("strconv.ErrRange", laid_strconv_ErrRange), ("strconv.ErrSyntax", laid_strconv_ErrSyntax)], narrowed := true }
def TokenLosslessUptoSaid : Prop := tokenLosslessUptoRow.holds Tryd.pinned (OpenSpec.upto tokenLosslessSpec)

/-- 'treemergelaw05.TokenGaps', WHERE WHAT IT READS IS OF BULK AT MOST 1048576: true; the input reads as it did. -/
def tokenGapsUptoRow : OpenClaim := { program := "ytimdjillcaichaadoor", sum := "e028506e0dd42d549039950a5c465c5b47b70417335d9f80475ecdb1530d6f0a", func := "treemerge/treemergelaw05.TokenGaps", spec := "tokenGaps", inPlace := ["internal/bytealg.IndexByteString", "internal/abi.NoEscape"], unfollowed := true, recurses := true, named := ["strconv.ErrSyntax", "strconv.ErrRange", "internal/strconv.uint64pow10", "math/bits.deBruijn32tab", "math/bits.deBruijn64tab"], apart := false, laid := [("math/bits.deBruijn32tab", laid_math_bits_deBruijn32tab), ("math/bits.deBruijn64tab", laid_math_bits_deBruijn64tab), ("internal/strconv.uint64pow10", laid_internal_strconv_uint64pow10), ("strconv.ErrRange", laid_strconv_ErrRange), ("strconv.ErrSyntax", laid_strconv_ErrSyntax)], narrowed := true }
def TokenGapsUptoSaid : Prop := tokenGapsUptoRow.holds Tryd.pinned (OpenSpec.upto tokenGapsSpec)

/-- 'treemergelaw05.TokenBlanks', WHERE WHAT IT READS IS OF BULK AT MOST 1048576: true; the input reads as it did. -/
def tokenBlanksUptoRow : OpenClaim := { program := "ytimdjillcaichaadoor", sum := "e028506e0dd42d549039950a5c465c5b47b70417335d9f80475ecdb1530d6f0a", func := "treemerge/treemergelaw05.TokenBlanks", spec := "tokenBlanks", inPlace := ["internal/bytealg.IndexByteString", "internal/abi.NoEscape"], unfollowed := true, recurses := true, named := ["strconv.ErrSyntax", "strconv.ErrRange", "internal/strconv.uint64pow10", "math/bits.deBruijn32tab", "math/bits.deBruijn64tab"], apart := false, laid := [("math/bits.deBruijn32tab", laid_math_bits_deBruijn32tab), ("math/bits.deBruijn64tab", laid_math_bits_deBruijn64tab), ("internal/strconv.uint64pow10", laid_internal_strconv_uint64pow10), ("strconv.ErrRange", laid_strconv_ErrRange), ("strconv.ErrSyntax", laid_strconv_ErrSyntax)], narrowed := true }
def TokenBlanksUptoSaid : Prop := tokenBlanksUptoRow.holds Tryd.pinned (OpenSpec.upto tokenBlanksSpec)

/-- 'treemergelaw05.TokenPlaces', WHERE WHAT IT READS IS OF BULK AT MOST 1048576: true; the input reads as it did. -/
def tokenPlacesUptoRow : OpenClaim := { program := "ytimdjillcaichaadoor", sum := "e028506e0dd42d549039950a5c465c5b47b70417335d9f80475ecdb1530d6f0a", func := "treemerge/treemergelaw05.TokenPlaces", spec := "tokenPlaces", inPlace := ["internal/bytealg.IndexByteString", "internal/abi.NoEscape"], unfollowed := true, recurses := true, named := ["strconv.ErrSyntax", "strconv.ErrRange", "internal/strconv.uint64pow10", "math/bits.deBruijn32tab", "math/bits.deBruijn64tab"], apart := false, laid := [("math/bits.deBruijn32tab", laid_math_bits_deBruijn32tab), ("math/bits.deBruijn64tab", laid_math_bits_deBruijn64tab), ("internal/strconv.uint64pow10", laid_internal_strconv_uint64pow10), ("strconv.ErrRange", laid_strconv_ErrRange), ("strconv.ErrSyntax", laid_strconv_ErrSyntax)], narrowed := true }
def TokenPlacesUptoSaid : Prop := tokenPlacesUptoRow.holds Tryd.pinned (OpenSpec.upto tokenPlacesSpec)

end Rows
end Go.Proofs.YtimdjillcaichaaDoor
