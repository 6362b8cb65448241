/- Plain words on bytes: what the trivia at the begin of a text is, what a name is, what an integer of the language is. No program in sight; no conditions beside those in each theorem. -/
import Derived.Lib.Bytealg
namespace Go.Proofs.YtigmilhpeodhbaaGreatDoorW.Plain
set_option linter.all false
open Go
/-- The rest behind the next line feed. -/
def ku : List UInt8 → Option (List UInt8)
 | [] => none
 | c :: r => if c = 10 then some r else ku r
theorem qbe : ∀ (l r : List UInt8), ku l = some r → r.length < l.length
 | [], r, h => by simp [ku] at h
 | c :: l, r, h => by
   have e : ku (c :: l) = if c = 10 then some l else ku l := rfl
   rw [e] at h
   split at h
   ·simp only [Option.some.injEq] at h
    subst h
    simp
   ·have := qbe l r h
    simp only [List.length_cons]
    omega
/-- One piece of trivia: a blank, or a comment with its line feed. -/
def u7 : List UInt8 → Option (List UInt8)
 | [] => none
 | c :: r => if c = 32 ∨ c = 9 ∨ c = 10 then some r else if c = 47 ∧ r.head? = some 47 then ku r else none
theorem Wh (l r : List UInt8) (h : u7 l = some r) : r.length < l.length := by
 cases l with
 | nil => simp [u7] at h
 | cons c l =>
   have e : u7 (c :: l) = if c = 32 ∨ c = 9 ∨ c = 10 then some l else if c = 47 ∧ l.head? = some 47 then ku l else none := rfl
   rw [e] at h
   split at h
   ·simp only [Option.some.injEq] at h
    subst h
    simp
   ·split at h
    ·have := qbe l r h
     simp only [List.length_cons]
     omega
    ·cases h
/-- The rest behind the trivia at the begin, with a number of pieces. -/
def Zg : Nat → List UInt8 → List UInt8
 | 0, l => l
 | n + 1, l => match u7 l with | some r => Zg n r | none => l
def zk (l : List UInt8) : List UInt8 := Zg l.length l
theorem qg6 : ∀ (n m : Nat) (l : List UInt8), l.length ≤ n → l.length ≤ m → Zg n l = Zg m l
 | 0, 0, l, _, _ => rfl
 | 0, m + 1, l, h, _ => by
   obtain rfl : l = [] := List.length_eq_zero_iff.1 (by omega)
   rfl
 | n + 1, 0, l, _, h => by
   obtain rfl : l = [] := List.length_eq_zero_iff.1 (by omega)
   rfl
 | n + 1, m + 1, l, h1, h2 => by
   unfold Zg
   cases hs : u7 l with
   | none => rfl
   | some r =>
     have := Wh l r hs
     exact qg6 n m r (by omega) (by omega)
theorem Wa (l r : List UInt8) (h : u7 l = some r) : zk l = zk r := by
 have := Wh l r h
 unfold zk
 obtain ⟨n, hn⟩ : ∃ n, l.length = n + 1 := ⟨l.length - 1, by omega⟩
 rw [hn]
 show (match u7 l with | some r => Zg n r | none => l) = _
 rw [h]
 exact qg6 _ _ _ (by omega) (Nat.le_refl _)
theorem qfu (l : List UInt8) (h : u7 l = none) : zk l = l := by
 unfold zk
 cases hn : l.length with
 | zero => rfl
 | succ n =>
   show (match u7 l with | some r => Zg n r | none => l) = _
   rw [h]
theorem qeh (l : List UInt8) : (zk l).length ≤ l.length := by
 have : ∀ n l, (Zg n l).length ≤ l.length := by
  intro n
  induction n with
  | zero => exact fun _ => Nat.le_refl _
  | succ n ih =>
    intro l
    unfold Zg
    cases hs : u7 l with
    | none => exact Nat.le_refl _
    | some r =>
      have := Wh l r hs
      exact Nat.le_trans (ih r) (by omega)
 exact this _ l
/-- The end of the trivia at an offset. -/
def ws (s : ByteArray) (k : Nat) : Nat := s.size - (zk (s.data.toList.drop k)).length
theorem len_bytes (s : ByteArray) : s.data.toList.length = s.size := Array.length_toList
theorem Y5 : ∀ l : List UInt8, (Go.Lib.indexByte l 10 = -1 ∧ ku l = none) ∨ ∃ n : Nat, Go.Lib.indexByte l 10 = n ∧ n < l.length ∧ ku l = some (l.drop (n + 1))
 | [] => .inl ⟨rfl, rfl⟩
 | c :: l => by
   have e : ku (c :: l) = if c = 10 then some l else ku l := rfl
   have e2 : Go.Lib.indexByte (c :: l) 10 = if c == 10 then 0 else if Go.Lib.indexByte l 10 == -1 then -1 else Go.Lib.indexByte l 10 + 1 := rfl
   by_cases h : c = 10
   ·refine .inr ⟨0, ?_, by simp, ?_⟩
    ·rw [e2, if_pos (by simp [h])]; rfl
    ·rw [e, if_pos h]; rfl
   ·rw [e, e2, if_neg h, if_neg (by simpa using h)]
    rcases Y5 l with ⟨h1, h2⟩ | ⟨n, h1, h2, h3⟩
    ·exact .inl ⟨by rw [h1]; rfl, h2⟩
    ·refine .inr ⟨n + 1, ?_, by simp; omega, by rw [h3]; rfl⟩
     rw [h1, if_neg (by simp)]
     omega
/-- Does a text begin with two Yj? -/
def Yj : List UInt8 → Bool
 | c :: d :: _ => c == 47 && d == 47
 | _ => false
theorem Q6 (c : UInt8) (r : List UInt8) : u7 (c :: r) = if c = 32 ∨ c = 9 ∨ c = 10 then some r else if c = 47 ∧ r.head? = some 47 then ku r else none := rfl
theorem qai (s : ByteArray) (k : Nat) (h : k < s.size) : s.data.toList.drop k = s[k] :: s.data.toList.drop (k + 1) := by
 rw [List.drop_eq_getElem_cons (by rw [len_bytes]; exact h)]
 rfl
theorem qoa (s : ByteArray) (k : Nat) (h : k < s.size) (hb : s[k] = 32 ∨ s[k] = 9 ∨ s[k] = 10) : ws s k = ws s (k + 1) := by
 unfold ws
 rw [Wa _ (s.data.toList.drop (k + 1)) (by rw [qai s k h, Q6, if_pos hb])]
theorem qf7 (s : ByteArray) (k : Nat) (h : k ≤ s.size) (hn : u7 (s.data.toList.drop k) = none) : ws s k = k := by
 unfold ws
 rw [qfu _ hn, List.length_drop, len_bytes]
 omega
theorem qek (c : UInt8) (r : List UInt8) : Yj (c :: r) = true ↔ c = 47 ∧ r.head? = some 47 := by
 cases r with
 | nil => simp [Yj]
 | cons d r => simp [Yj]
theorem qp9 (s : ByteArray) (k : Nat) (h : k < s.size) (hb : ¬ (s[k] = 32 ∨ s[k] = 9 ∨ s[k] = 10)) (hs : Yj (s.data.toList.drop k) = false) : ws s k = k := by
 refine qf7 s k (by omega) ?_
 rw [qai s k h] at hs ⊢
 rw [Q6, if_neg hb, if_neg]
 intro h2
 rw [(qek _ _).2 h2] at hs
 cases hs
theorem qqa (s : ByteArray) (k : Nat) (h : k < s.size) (hs : Yj (s.data.toList.drop k) = true) (hi : Go.Lib.indexByte (s.data.toList.drop k) 10 = -1) : ws s k = k := by
 refine qf7 s k (by omega) ?_
 rw [qai s k h] at hs hi ⊢
 have h2 := (qek _ _).1 hs
 rw [Q6, if_neg (by rw [h2.1]; decide), if_pos h2]
 rcases Y5 (s[k] :: s.data.toList.drop (k + 1)) with ⟨_, h4⟩ | ⟨n, h3, _⟩
 ·have e : ku (s[k] :: s.data.toList.drop (k + 1)) = if s[k] = 10 then some (s.data.toList.drop (k + 1)) else ku (s.data.toList.drop (k + 1)) := rfl
  rw [e, if_neg (by rw [h2.1]; decide)] at h4
  exact h4
 ·rw [hi] at h3
  omega
theorem qqb (s : ByteArray) (k n : Nat) (h : k < s.size) (hs : Yj (s.data.toList.drop k) = true) (hi : Go.Lib.indexByte (s.data.toList.drop k) 10 = n) : k + n + 1 ≤ s.size ∧ ws s k = ws s (k + n + 1) := by
 have hl := len_bytes s
 rw [qai s k h] at hs hi
 have h2 := (qek _ _).1 hs
 rcases Y5 (s[k] :: s.data.toList.drop (k + 1)) with ⟨h3, _⟩ | ⟨m, h3, h4, h5⟩
 ·rw [hi] at h3
  omega
 ·have hm : m = n := by rw [hi] at h3; omega
  subst hm
  have h6 : k + m + 1 ≤ s.size := by
   simp only [List.length_cons, List.length_drop] at h4
   omega
  refine ⟨h6, ?_⟩
  unfold ws
  rw [Wa _ (s.data.toList.drop (k + m + 1))]
  rw [qai s k h, Q6, if_neg (by rw [h2.1]; decide), if_pos h2]
  have e : ku (s[k] :: s.data.toList.drop (k + 1)) = if s[k] = 10 then some (s.data.toList.drop (k + 1)) else ku (s.data.toList.drop (k + 1)) := rfl
  rw [e, if_neg (by rw [h2.1]; decide)] at h5
  rw [h5]
  have e2 : (s[k] :: s.data.toList.drop (k + 1)) = s.data.toList.drop k := (qai s k h).symm
  rw [e2, List.drop_drop]
  congr 2
theorem qr9 (s : ByteArray) (k : Nat) (h : k = s.size) : ws s k = k := by
 refine qf7 s k (by omega) ?_
 rw [List.drop_of_length_le (by rw [len_bytes]; omega)]
 rfl
theorem qhu (s : ByteArray) (k : Nat) : (s.extract k s.size).data.toList = s.data.toList.drop k := by
 rw [ByteArray.data_extract, Array.toList_extract, List.extract_eq_take_drop]
 rw [List.take_of_length_le (by rw [List.length_drop, len_bytes]; exact Nat.le_refl _)]
/-- Letters and digits, as numbers. -/
def Yl (c : Int) : Bool := decide (97 ≤ c ∧ c ≤ 122 ∨ 65 ≤ c ∧ c ≤ 90 ∨ c = 95)
def vj (c : Int) : Bool := decide (48 ≤ c ∧ c ≤ 57)
def qs2 : List (List UInt8) := [[102, 110], [99, 108, 97, 115, 115], [99, 111, 110, 115, 116], [108, 101, 116], [114, 101, 116, 117, 114, 110], [105, 102], [101, 108, 115, 101], [119, 104, 105, 108, 101], [110, 101, 119], [115, 101, 108, 102], [116, 114, 117, 101], [102, 97, 108, 115, 101]]
def qca (l : List UInt8) : Bool := qs2.contains l
/-- Bytes from place i on that may stand in a name. -/
def Jt : Nat → List UInt8 → Bool
 | _, [] => true
 | i, c :: r => (Yl c.toNat || (i != 0 && vj c.toNat)) && Jt (i + 1) r
def Y7 (l : List UInt8) : Bool := !l.isEmpty && decide (l.length ≤ 32) && !qca l && Jt 0 l
/-- The digits' value, read on from n. -/
def ye : Int → List UInt8 → Option Int
 | n, [] => some n
 | n, c :: r => if vj c.toNat then ye (n * 10 + ((c.toNat : Int) - 48)) r else none
def u9 (l : List UInt8) : Bool :=
 !l.isEmpty && decide (l.length ≤ 13) && !(decide (1 < l.length) && l.head? == some 48) && (match ye 0 l with | some n => decide (n ≤ 1000000000000) | none => false)
end Go.Proofs.YtigmilhpeodhbaaGreatDoorW.Plain
