/- The program's functions, printed as functions on numbers, strings, lists and trees, with the proofs that they are what the code computes. Conditions: those in each theorem. -/
import Derived.Test.YtimdjillcaichaaDoorT0
import Derived.Test.YtimdjillcaichaaDoorT1
namespace Go.Proofs.YtimdjillcaichaaDoorW.Ex.Gr
open Go Go.Proofs.YtimdjillcaichaaDoorW.Ex
set_option linter.all false
set_option maxRecDepth 100000
def F_strings_IndexByte (s : ByteArray) (c : Int) : Option Int := some (Lib.indexByte s.data.toList c.toNat.toUInt8)
theorem H_F_strings_IndexByte (s : ByteArray) (c : Int) (r : Int) (h : F_strings_IndexByte s c = some r) : Fn Tryd.prog Gt 108 [.str s, .int .u8 c] (.int .i64 r) := by
  cases h; exact strings_IndexByte s c
def F_strings_HasPrefix (s p : ByteArray) : Option Bool := some (hasPrefix s p)
theorem H_F_strings_HasPrefix (s p : ByteArray) (r : Bool) (h : F_strings_HasPrefix s p = some r) : Fn Tryd.prog Gt 93 [.str s, .str p] (.bool r) := by
  cases h; exact strings_HasPrefix s p
def F_trivia_End (s : ByteArray) (a : Int) : Option Int := if s.size ≤ 9223372036854775807 then some (endAt s a) else none
theorem H_F_trivia_End (s : ByteArray) (a : Int) (r : Int) (h : F_trivia_End s a = some r) : Fn Tryd.prog Gt 70 [.str s, .int .i64 a] (.int .i64 r) := by
  unfold F_trivia_End at h
  split at h
  · rename_i hc; cases h; exact trivia_End s a hc
  · cases h
def F_R4_End (s : ByteArray) (a : Int) : Option Int := if s.size ≤ 9223372036854775807 then some (endAt s a) else none
theorem H_F_R4_End (s : ByteArray) (a : Int) (r : Int) (h : F_R4_End s a = some r) : Fn Tryd.prog Gt 72 [.str s, .int .i64 a] (.int .i64 r) := by
  unfold F_R4_End at h
  split at h
  · rename_i hc; cases h; exact R4_End s a hc
  · cases h
def F_trivia_Valid (s : ByteArray) : Option Bool := if s.size ≤ 9223372036854775807 then some (trivValid s) else none
theorem H_F_trivia_Valid (s : ByteArray) (r : Bool) (h : F_trivia_Valid s = some r) : Fn Tryd.prog Gt 48 [.str s] (.bool r) := by
  unfold F_trivia_Valid at h
  split at h
  · rename_i hc; cases h; exact trivia_Valid s hc
  · cases h
def F_token_integer (s : ByteArray) : Option Bool := if s.size ≤ 281474976710656 then some (tokInt s.data.toList) else none
theorem H_F_token_integer (s : ByteArray) (r : Bool) (h : F_token_integer s = some r) : Fn Tryd.prog Gt 92 [.str s] (.bool r) := by
  unfold F_token_integer at h
  split at h
  · rename_i hc; cases h; exact token_integer s hc
  · cases h
def F_token_Join (l : List Token) : Option ByteArray := if (joinL l).length ≤ 140737488355328 then some (⟨(joinL l).toArray⟩ : ByteArray) else none
theorem H_F_token_Join (l : List Token) (r : ByteArray) (h : F_token_Join l = some r) : Fn Tryd.prog Gt 45 [.sl 4 false (l.map Token.cells)] (.str r) := by
  unfold F_token_Join at h
  split at h
  · rename_i hc; cases h; exact token_Join l hc
  · cases h
end Go.Proofs.YtimdjillcaichaaDoorW.Ex.Gr
