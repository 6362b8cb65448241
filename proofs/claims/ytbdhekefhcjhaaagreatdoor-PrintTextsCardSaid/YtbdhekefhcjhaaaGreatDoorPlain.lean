/- Plain words on bytes: what the trivia at the begin of a text is, what a name is, what an integer of the language is. No program in sight; no conditions beside those in each theorem. -/
import Derived.Lib.Bytealg
namespace Go.Proofs.YtbdhekefhcjhaaaGreatDoorW.Plain
set_option linter.all false
open Go
/-- The rest behind the next line feed. -/
def jt : List UInt8 → Option (List UInt8)
 | [] => none
 | c :: r => if c = 10 then some r else jt r
theorem skipLine_lt : ∀ (l r : List UInt8), jt l = some r → r.length < l.length
 | [], r, h => by simp [jt] at h
 | c :: l, r, h => by
   have e : jt (c :: l) = if c = 10 then some l else jt l := rfl
   rw [e] at h
   split at h
   ·simp only [Option.some.injEq] at h
    subst h
    simp
   ·have := skipLine_lt l r h
    simp only [List.length_cons]
    omega
/-- One piece of trivia: a blank, or a comment with its line feed. -/
def y5 : List UInt8 → Option (List UInt8)
 | [] => none
 | c :: r => if c = 32 ∨ c = 9 ∨ c = 10 then some r else if c = 47 ∧ r.head? = some 47 then jt r else none
theorem Jv (l r : List UInt8) (h : y5 l = some r) : r.length < l.length := by
 cases l with
 | nil => simp [y5] at h
 | cons c l =>
   have e : y5 (c :: l) = if c = 32 ∨ c = 9 ∨ c = 10 then some l else if c = 47 ∧ l.head? = some 47 then jt l else none := rfl
   rw [e] at h
   split at h
   ·simp only [Option.some.injEq] at h
    subst h
    simp
   ·split at h
    ·have := skipLine_lt l r h
     simp only [List.length_cons]
     omega
    ·cases h
/-- The rest behind the trivia at the begin, with a number of pieces. -/
def u6 : Nat → List UInt8 → List UInt8
 | 0, l => l
 | n + 1, l => match y5 l with | some r => u6 n r | none => l
def Zd (l : List UInt8) : List UInt8 := u6 l.length l
theorem K3 : ∀ (n m : Nat) (l : List UInt8), l.length ≤ n → l.length ≤ m → u6 n l = u6 m l
 | 0, 0, l, _, _ => rfl
 | 0, m + 1, l, h, _ => by
   obtain rfl : l = [] := List.length_eq_zero_iff.1 (by omega)
   rfl
 | n + 1, 0, l, _, h => by
   obtain rfl : l = [] := List.length_eq_zero_iff.1 (by omega)
   rfl
 | n + 1, m + 1, l, h1, h2 => by
   unfold u6
   cases hs : y5 l with
   | none => rfl
   | some r =>
     have := Jv l r hs
     exact K3 n m r (by omega) (by omega)
theorem Qx (l r : List UInt8) (h : y5 l = some r) : Zd l = Zd r := by
 have := Jv l r h
 unfold Zd
 obtain ⟨n, hn⟩ : ∃ n, l.length = n + 1 := ⟨l.length - 1, by omega⟩
 rw [hn]
 show (match y5 l with | some r => u6 n r | none => l) = _
 rw [h]
 exact K3 _ _ _ (by omega) (Nat.le_refl _)
theorem trivRest_none (l : List UInt8) (h : y5 l = none) : Zd l = l := by
 unfold Zd
 cases hn : l.length with
 | zero => rfl
 | succ n =>
   show (match y5 l with | some r => u6 n r | none => l) = _
   rw [h]
/-- The end of the trivia at an offset. -/
def jm (s : ByteArray) (k : Nat) : Nat := s.size - (Zd (s.data.toList.drop k)).length
theorem len_bytes (s : ByteArray) : s.data.toList.length = s.size := Array.length_toList
theorem wt : ∀ l : List UInt8, (Go.Lib.indexByte l 10 = -1 ∧ jt l = none) ∨ ∃ n : Nat, Go.Lib.indexByte l 10 = n ∧ n < l.length ∧ jt l = some (l.drop (n + 1))
 | [] => .inl ⟨rfl, rfl⟩
 | c :: l => by
   have e : jt (c :: l) = if c = 10 then some l else jt l := rfl
   have e2 : Go.Lib.indexByte (c :: l) 10 = if c == 10 then 0 else if Go.Lib.indexByte l 10 == -1 then -1 else Go.Lib.indexByte l 10 + 1 := rfl
   by_cases h : c = 10
   ·refine .inr ⟨0, ?_, by simp, ?_⟩
    ·rw [e2, if_pos (by simp [h])]; rfl
    ·rw [e, if_pos h]; rfl
   ·rw [e, e2, if_neg h, if_neg (by simpa using h)]
    rcases wt l with ⟨h1, h2⟩ | ⟨n, h1, h2, h3⟩
    ·exact .inl ⟨by rw [h1]; rfl, h2⟩
    ·refine .inr ⟨n + 1, ?_, by simp; omega, by rw [h3]; rfl⟩
     rw [h1, if_neg (by simp)]
     omega
/-- Does a text begin with two ud? -/
def ud : List UInt8 → Bool
 | c :: d :: _ => c == 47 && d == 47
 | _ => false
theorem wj (c : UInt8) (r : List UInt8) : y5 (c :: r) = if c = 32 ∨ c = 9 ∨ c = 10 then some r else if c = 47 ∧ r.head? = some 47 then jt r else none := rfl
theorem yt (s : ByteArray) (k : Nat) (h : k < s.size) : s.data.toList.drop k = s[k] :: s.data.toList.drop (k + 1) := by
 rw [List.drop_eq_getElem_cons (by rw [len_bytes]; exact h)]
 rfl
theorem trivEnd_blank (s : ByteArray) (k : Nat) (h : k < s.size) (hb : s[k] = 32 ∨ s[k] = 9 ∨ s[k] = 10) : jm s k = jm s (k + 1) := by
 unfold jm
 rw [Qx _ (s.data.toList.drop (k + 1)) (by rw [yt s k h, wj, if_pos hb])]
theorem Zw (s : ByteArray) (k : Nat) (h : k ≤ s.size) (hn : y5 (s.data.toList.drop k) = none) : jm s k = k := by
 unfold jm
 rw [trivRest_none _ hn, List.length_drop, len_bytes]
 omega
theorem Jz (c : UInt8) (r : List UInt8) : ud (c :: r) = true ↔ c = 47 ∧ r.head? = some 47 := by
 cases r with
 | nil => simp [ud]
 | cons d r => simp [ud]
theorem trivEnd_stop (s : ByteArray) (k : Nat) (h : k < s.size) (hb : ¬ (s[k] = 32 ∨ s[k] = 9 ∨ s[k] = 10)) (hs : ud (s.data.toList.drop k) = false) : jm s k = k := by
 refine Zw s k (by omega) ?_
 rw [yt s k h] at hs ⊢
 rw [wj, if_neg hb, if_neg]
 intro h2
 rw [(Jz _ _).2 h2] at hs
 cases hs
theorem trivEnd_open (s : ByteArray) (k : Nat) (h : k < s.size) (hs : ud (s.data.toList.drop k) = true) (hi : Go.Lib.indexByte (s.data.toList.drop k) 10 = -1) : jm s k = k := by
 refine Zw s k (by omega) ?_
 rw [yt s k h] at hs hi ⊢
 have h2 := (Jz _ _).1 hs
 rw [wj, if_neg (by rw [h2.1]; decide), if_pos h2]
 rcases wt (s[k] :: s.data.toList.drop (k + 1)) with ⟨_, h4⟩ | ⟨n, h3, _⟩
 ·have e : jt (s[k] :: s.data.toList.drop (k + 1)) = if s[k] = 10 then some (s.data.toList.drop (k + 1)) else jt (s.data.toList.drop (k + 1)) := rfl
  rw [e, if_neg (by rw [h2.1]; decide)] at h4
  exact h4
 ·rw [hi] at h3
  omega
theorem trivEnd_line (s : ByteArray) (k n : Nat) (h : k < s.size) (hs : ud (s.data.toList.drop k) = true) (hi : Go.Lib.indexByte (s.data.toList.drop k) 10 = n) : k + n + 1 ≤ s.size ∧ jm s k = jm s (k + n + 1) := by
 have hl := len_bytes s
 rw [yt s k h] at hs hi
 have h2 := (Jz _ _).1 hs
 rcases wt (s[k] :: s.data.toList.drop (k + 1)) with ⟨h3, _⟩ | ⟨m, h3, h4, h5⟩
 ·rw [hi] at h3
  omega
 ·have hm : m = n := by rw [hi] at h3; omega
  subst hm
  have h6 : k + m + 1 ≤ s.size := by
   simp only [List.length_cons, List.length_drop] at h4
   omega
  refine ⟨h6, ?_⟩
  unfold jm
  rw [Qx _ (s.data.toList.drop (k + m + 1))]
  rw [yt s k h, wj, if_neg (by rw [h2.1]; decide), if_pos h2]
  have e : jt (s[k] :: s.data.toList.drop (k + 1)) = if s[k] = 10 then some (s.data.toList.drop (k + 1)) else jt (s.data.toList.drop (k + 1)) := rfl
  rw [e, if_neg (by rw [h2.1]; decide)] at h5
  rw [h5]
  have e2 : (s[k] :: s.data.toList.drop (k + 1)) = s.data.toList.drop k := (yt s k h).symm
  rw [e2, List.drop_drop]
  congr 2
theorem trivEnd_fin (s : ByteArray) (k : Nat) (h : k = s.size) : jm s k = k := by
 refine Zw s k (by omega) ?_
 rw [List.drop_of_length_le (by rw [len_bytes]; omega)]
 rfl
theorem extract_rest (s : ByteArray) (k : Nat) : (s.extract k s.size).data.toList = s.data.toList.drop k := by
 rw [ByteArray.data_extract, Array.toList_extract, List.extract_eq_take_drop]
 rw [List.take_of_length_le (by rw [List.length_drop, len_bytes]; exact Nat.le_refl _)]
/-- Letters and digits, as numbers. -/
def yc (c : Int) : Bool := decide (97 ≤ c ∧ c ≤ 122 ∨ 65 ≤ c ∧ c ≤ 90 ∨ c = 95)
def jo (c : Int) : Bool := decide (48 ≤ c ∧ c ≤ 57)
def keywords : List (List UInt8) := [[102, 110], [99, 108, 97, 115, 115], [99, 111, 110, 115, 116], [108, 101, 116], [114, 101, 116, 117, 114, 110], [105, 102], [101, 108, 115, 101], [119, 104, 105, 108, 101], [110, 101, 119], [115, 101, 108, 102], [116, 114, 117, 101], [102, 97, 108, 115, 101]]
def wh (l : List UInt8) : Bool := keywords.contains l
/-- Bytes from place i on that may stand in a name. -/
def yr : Nat → List UInt8 → Bool
 | _, [] => true
 | i, c :: r => (yc c.toNat || (i != 0 && jo c.toNat)) && yr (i + 1) r
def kx (l : List UInt8) : Bool := !l.isEmpty && decide (l.length ≤ 32) && !wh l && yr 0 l
/-- The digits' value, read on from n. -/
def jx : Int → List UInt8 → Option Int
 | n, [] => some n
 | n, c :: r => if jo c.toNat then jx (n * 10 + ((c.toNat : Int) - 48)) r else none
def ym (l : List UInt8) : Bool :=
 !l.isEmpty && decide (l.length ≤ 13) && !(decide (1 < l.length) && l.head? == some 48) && (match jx 0 l with | some n => decide (n ≤ 1000000000000) | none => false)
end Go.Proofs.YtbdhekefhcjhaaaGreatDoorW.Plain
