/- Plain words on bytes: what the trivia at the begin of a text is, what a name is, what an integer of the language is. No program in sight; no conditions beside those in each theorem. -/
import Derived.Lib.Bytealg
namespace Go.Proofs.YtbdhekefhcjhaaaDoorW.Plain
set_option linter.all false
open Go
/-- The rest behind the next line feed. -/
def jh : List UInt8 → Option (List UInt8)
 | [] => none
 | c :: r => if c = 10 then some r else jh r
theorem skipLine_lt : ∀ (l r : List UInt8), jh l = some r → r.length < l.length
 | [], r, h => by simp [jh] at h
 | c :: l, r, h => by
   have e : jh (c :: l) = if c = 10 then some l else jh l := rfl
   rw [e] at h
   split at h
   ·simp only [Option.some.injEq] at h
    subst h
    simp
   ·have := skipLine_lt l r h
    simp only [List.length_cons]
    omega
/-- One piece of trivia: a vz, or a comment with its line feed. -/
def yj : List UInt8 → Option (List UInt8)
 | [] => none
 | c :: r => if c = 32 ∨ c = 9 ∨ c = 10 then some r else if c = 47 ∧ r.head? = some 47 then jh r else none
theorem Jb (l r : List UInt8) (h : yj l = some r) : r.length < l.length := by
 cases l with
 | nil => simp [yj] at h
 | cons c l =>
   have e : yj (c :: l) = if c = 32 ∨ c = 9 ∨ c = 10 then some l else if c = 47 ∧ l.head? = some 47 then jh l else none := rfl
   rw [e] at h
   split at h
   ·simp only [Option.some.injEq] at h
    subst h
    simp
   ·split at h
    ·have := skipLine_lt l r h
     simp only [List.length_cons]
     omega
    ·cases h
/-- The rest behind the trivia at the begin, with a number of pieces. -/
def wh : Nat → List UInt8 → List UInt8
 | 0, l => l
 | n + 1, l => match yj l with | some r => wh n r | none => l
def vm (l : List UInt8) : List UInt8 := wh l.length l
theorem Ke : ∀ (n m : Nat) (l : List UInt8), l.length ≤ n → l.length ≤ m → wh n l = wh m l
 | 0, 0, l, _, _ => rfl
 | 0, m + 1, l, h, _ => by
   obtain rfl : l = [] := List.length_eq_zero_iff.1 (by omega)
   rfl
 | n + 1, 0, l, _, h => by
   obtain rfl : l = [] := List.length_eq_zero_iff.1 (by omega)
   rfl
 | n + 1, m + 1, l, h1, h2 => by
   unfold wh
   cases hs : yj l with
   | none => rfl
   | some r =>
     have := Jb l r hs
     exact Ke n m r (by omega) (by omega)
theorem Qf (l r : List UInt8) (h : yj l = some r) : vm l = vm r := by
 have := Jb l r h
 unfold vm
 obtain ⟨n, hn⟩ : ∃ n, l.length = n + 1 := ⟨l.length - 1, by omega⟩
 rw [hn]
 show (match yj l with | some r => wh n r | none => l) = _
 rw [h]
 exact Ke _ _ _ (by omega) (Nat.le_refl _)
theorem trivRest_none (l : List UInt8) (h : yj l = none) : vm l = l := by
 unfold vm
 cases hn : l.length with
 | zero => rfl
 | succ n =>
   show (match yj l with | some r => wh n r | none => l) = _
   rw [h]
/-- The end of the trivia at an offset. -/
def z1 (s : ByteArray) (k : Nat) : Nat := s.size - (vm (s.data.toList.drop k)).length
theorem len_bytes (s : ByteArray) : s.data.toList.length = s.size := Array.length_toList
theorem wd : ∀ l : List UInt8, (Go.Lib.indexByte l 10 = -1 ∧ jh l = none) ∨ ∃ n : Nat, Go.Lib.indexByte l 10 = n ∧ n < l.length ∧ jh l = some (l.drop (n + 1))
 | [] => .inl ⟨rfl, rfl⟩
 | c :: l => by
   have e : jh (c :: l) = if c = 10 then some l else jh l := rfl
   have e2 : Go.Lib.indexByte (c :: l) 10 = if c == 10 then 0 else if Go.Lib.indexByte l 10 == -1 then -1 else Go.Lib.indexByte l 10 + 1 := rfl
   by_cases h : c = 10
   ·refine .inr ⟨0, ?_, by simp, ?_⟩
    ·rw [e2, if_pos (by simp [h])]; rfl
    ·rw [e, if_pos h]; rfl
   ·rw [e, e2, if_neg h, if_neg (by simpa using h)]
    rcases wd l with ⟨h1, h2⟩ | ⟨n, h1, h2, h3⟩
    ·exact .inl ⟨by rw [h1]; rfl, h2⟩
    ·refine .inr ⟨n + 1, ?_, by simp; omega, by rw [h3]; rfl⟩
     rw [h1, if_neg (by simp)]
     omega
/-- Does a text begin with two wu? -/
def wu : List UInt8 → Bool
 | c :: d :: _ => c == 47 && d == 47
 | _ => false
theorem ky (c : UInt8) (r : List UInt8) : yj (c :: r) = if c = 32 ∨ c = 9 ∨ c = 10 then some r else if c = 47 ∧ r.head? = some 47 then jh r else none := rfl
theorem yd (s : ByteArray) (k : Nat) (h : k < s.size) : s.data.toList.drop k = s[k] :: s.data.toList.drop (k + 1) := by
 rw [List.drop_eq_getElem_cons (by rw [len_bytes]; exact h)]
 rfl
theorem trivEnd_blank (s : ByteArray) (k : Nat) (h : k < s.size) (hb : s[k] = 32 ∨ s[k] = 9 ∨ s[k] = 10) : z1 s k = z1 s (k + 1) := by
 unfold z1
 rw [Qf _ (s.data.toList.drop (k + 1)) (by rw [yd s k h, ky, if_pos hb])]
theorem Za (s : ByteArray) (k : Nat) (h : k ≤ s.size) (hn : yj (s.data.toList.drop k) = none) : z1 s k = k := by
 unfold z1
 rw [trivRest_none _ hn, List.length_drop, len_bytes]
 omega
theorem Jf (c : UInt8) (r : List UInt8) : wu (c :: r) = true ↔ c = 47 ∧ r.head? = some 47 := by
 cases r with
 | nil => simp [wu]
 | cons d r => simp [wu]
theorem trivEnd_stop (s : ByteArray) (k : Nat) (h : k < s.size) (hb : ¬ (s[k] = 32 ∨ s[k] = 9 ∨ s[k] = 10)) (hs : wu (s.data.toList.drop k) = false) : z1 s k = k := by
 refine Za s k (by omega) ?_
 rw [yd s k h] at hs ⊢
 rw [ky, if_neg hb, if_neg]
 intro h2
 rw [(Jf _ _).2 h2] at hs
 cases hs
theorem trivEnd_open (s : ByteArray) (k : Nat) (h : k < s.size) (hs : wu (s.data.toList.drop k) = true) (hi : Go.Lib.indexByte (s.data.toList.drop k) 10 = -1) : z1 s k = k := by
 refine Za s k (by omega) ?_
 rw [yd s k h] at hs hi ⊢
 have h2 := (Jf _ _).1 hs
 rw [ky, if_neg (by rw [h2.1]; decide), if_pos h2]
 rcases wd (s[k] :: s.data.toList.drop (k + 1)) with ⟨_, h4⟩ | ⟨n, h3, _⟩
 ·have e : jh (s[k] :: s.data.toList.drop (k + 1)) = if s[k] = 10 then some (s.data.toList.drop (k + 1)) else jh (s.data.toList.drop (k + 1)) := rfl
  rw [e, if_neg (by rw [h2.1]; decide)] at h4
  exact h4
 ·rw [hi] at h3
  omega
theorem trivEnd_line (s : ByteArray) (k n : Nat) (h : k < s.size) (hs : wu (s.data.toList.drop k) = true) (hi : Go.Lib.indexByte (s.data.toList.drop k) 10 = n) : k + n + 1 ≤ s.size ∧ z1 s k = z1 s (k + n + 1) := by
 have hl := len_bytes s
 rw [yd s k h] at hs hi
 have h2 := (Jf _ _).1 hs
 rcases wd (s[k] :: s.data.toList.drop (k + 1)) with ⟨h3, _⟩ | ⟨m, h3, h4, h5⟩
 ·rw [hi] at h3
  omega
 ·have hm : m = n := by rw [hi] at h3; omega
  subst hm
  have h6 : k + m + 1 ≤ s.size := by
   simp only [List.length_cons, List.length_drop] at h4
   omega
  refine ⟨h6, ?_⟩
  unfold z1
  rw [Qf _ (s.data.toList.drop (k + m + 1))]
  rw [yd s k h, ky, if_neg (by rw [h2.1]; decide), if_pos h2]
  have e : jh (s[k] :: s.data.toList.drop (k + 1)) = if s[k] = 10 then some (s.data.toList.drop (k + 1)) else jh (s.data.toList.drop (k + 1)) := rfl
  rw [e, if_neg (by rw [h2.1]; decide)] at h5
  rw [h5]
  have e2 : (s[k] :: s.data.toList.drop (k + 1)) = s.data.toList.drop k := (yd s k h).symm
  rw [e2, List.drop_drop]
  congr 2
theorem trivEnd_fin (s : ByteArray) (k : Nat) (h : k = s.size) : z1 s k = k := by
 refine Za s k (by omega) ?_
 rw [List.drop_of_length_le (by rw [len_bytes]; omega)]
 rfl
theorem K2 (s : ByteArray) (k : Nat) : (s.extract k s.size).data.toList = s.data.toList.drop k := by
 rw [ByteArray.data_extract, Array.toList_extract, List.extract_eq_take_drop]
 rw [List.take_of_length_le (by rw [List.length_drop, len_bytes]; exact Nat.le_refl _)]
/-- Letters and digits, as numbers. -/
def jv (c : Int) : Bool := decide (97 ≤ c ∧ c ≤ 122 ∨ 65 ≤ c ∧ c ≤ 90 ∨ c = 95)
def jc (c : Int) : Bool := decide (48 ≤ c ∧ c ≤ 57)
def keywords : List (List UInt8) := [[102, 110], [99, 108, 97, 115, 115], [99, 111, 110, 115, 116], [108, 101, 116], [114, 101, 116, 117, 114, 110], [105, 102], [101, 108, 115, 101], [119, 104, 105, 108, 101], [110, 101, 119], [115, 101, 108, 102], [116, 114, 117, 101], [102, 97, 108, 115, 101]]
def kw (l : List UInt8) : Bool := keywords.contains l
/-- Bytes from place i on that may stand in a name. -/
def yc : Nat → List UInt8 → Bool
 | _, [] => true
 | i, c :: r => (jv c.toNat || (i != 0 && jc c.toNat)) && yc (i + 1) r
def kj (l : List UInt8) : Bool := !l.isEmpty && decide (l.length ≤ 32) && !kw l && yc 0 l
/-- The digits' value, read on from n. -/
def jl : Int → List UInt8 → Option Int
 | n, [] => some n
 | n, c :: r => if jc c.toNat then jl (n * 10 + ((c.toNat : Int) - 48)) r else none
def j5 (l : List UInt8) : Bool :=
 !l.isEmpty && decide (l.length ≤ 13) && !(decide (1 < l.length) && l.head? == some 48) && (match jl 0 l with | some n => decide (n ≤ 1000000000000) | none => false)
end Go.Proofs.YtbdhekefhcjhaaaDoorW.Plain
