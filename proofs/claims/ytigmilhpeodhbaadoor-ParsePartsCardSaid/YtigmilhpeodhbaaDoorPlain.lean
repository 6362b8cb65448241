/- Plain words on bytes: what the trivia at the begin of a text is, what a name is, what an integer of the language is. No program in sight; no conditions beside those in each theorem. -/
import Derived.Lib.Bytealg
namespace Go.Proofs.YtigmilhpeodhbaaDoorW.Plain
set_option linter.all false
open Go
def ye : List UInt8 → Option (List UInt8)
 | [] => none
 | c :: r => if c = 10 then some r else ye r
theorem Wn : ∀ (l r : List UInt8), ye l = some r → r.length < l.length
 | [], r, h => by simp [ye] at h
 | c :: l, r, h => by
   have e : ye (c :: l) = if c = 10 then some l else ye l := rfl
   rw [e] at h
   split at h
   ·simp only [Option.some.injEq] at h
    subst h
    simp
   have := Wn l r h
   simp only [List.length_cons]
   omega
def kg : List UInt8 → Option (List UInt8)
 | [] => none
 | c :: r => if c = 32 ∨ c = 9 ∨ c = 10 then some r else if c = 47 ∧ r.head? = some 47 then ye r else none
theorem Jt (l r : List UInt8) (h : kg l = some r) : r.length < l.length := by
 cases l with
 | nil => simp [kg] at h
 | cons c l =>
   have e : kg (c :: l) = if c = 32 ∨ c = 9 ∨ c = 10 then some l else if c = 47 ∧ l.head? = some 47 then ye l else none := rfl
   rw [e] at h
   split at h
   ·simp only [Option.some.injEq] at h
    subst h
    simp
   split at h
   ·have := Wn l r h
    simp only [List.length_cons]
    omega
   cases h
def Qx : Nat → List UInt8 → List UInt8
 | 0, l => l
 | n + 1, l => match kg l with | some r => Qx n r | none => l
def qt (l : List UInt8) : List UInt8 := Qx l.length l
theorem qet : ∀ (n m : Nat) (l : List UInt8), l.length ≤ n → l.length ≤ m → Qx n l = Qx m l
 | 0, 0, l, _, _ => rfl
 | 0, m + 1, l, h, _ => by
   obtain rfl : l = [] := List.length_eq_zero_iff.1 (by omega)
   rfl
 | n + 1, 0, l, _, h => by
   obtain rfl : l = [] := List.length_eq_zero_iff.1 (by omega)
   rfl
 | n + 1, m + 1, l, h1, h2 => by
   unfold Qx
   cases hs : kg l with
   | none => rfl
   | some r =>
     have := Jt l r hs
     exact qet n m r (by omega) (by omega)
theorem Zh (l r : List UInt8) (h : kg l = some r) : qt l = qt r := by
 have := Jt l r h
 unfold qt
 obtain ⟨n, hn⟩ : ∃ n, l.length = n + 1 := ⟨l.length - 1, by omega⟩
 rw [hn]
 show (match kg l with | some r => Qx n r | none => l) = _
 rw [h]
 exact qet _ _ _ (by omega) (Nat.le_refl _)
theorem Jb (l : List UInt8) (h : kg l = none) : qt l = l := by
 unfold qt
 cases hn : l.length with
 | zero => rfl
 | succ n =>
   show (match kg l with | some r => Qx n r | none => l) = _
   rw [h]
theorem Wk (l : List UInt8) : (qt l).length ≤ l.length := by
 have : ∀ n l, (Qx n l).length ≤ l.length := by
  intro n
  induction n with
  | zero => exact fun _ => Nat.le_refl _
  | succ n ih =>
    intro l
    unfold Qx
    cases hs : kg l with
    | none => exact Nat.le_refl _
    | some r =>
      have := Jt l r hs
      exact Nat.le_trans (ih r) (by omega)
 exact this _ l
def ku (s : ByteArray) (k : Nat) : Nat := s.size - (qt (s.data.toList.drop k)).length
theorem len_bytes (s : ByteArray) : s.data.toList.length = s.size := Array.length_toList
theorem J8 : ∀ l : List UInt8, (Go.Lib.indexByte l 10 = -1 ∧ ye l = none) ∨ ∃ n : Nat, Go.Lib.indexByte l 10 = n ∧ n < l.length ∧ ye l = some (l.drop (n + 1))
 | [] => .inl ⟨rfl, rfl⟩
 | c :: l => by
   have e : ye (c :: l) = if c = 10 then some l else ye l := rfl
   have e2 : Go.Lib.indexByte (c :: l) 10 = if c == 10 then 0 else if Go.Lib.indexByte l 10 == -1 then -1 else Go.Lib.indexByte l 10 + 1 := rfl
   by_cases h : c = 10
   ·refine .inr ⟨0, ?_, by simp, ?_⟩
    ·rw [e2, if_pos (by simp [h])]; rfl
    rw [e, if_pos h]; rfl
   rw [e, e2, if_neg h, if_neg (by simpa using h)]
   rcases J8 l with ⟨h1, h2⟩ | ⟨n, h1, h2, h3⟩
   ·exact .inl ⟨by rw [h1]; rfl, h2⟩
   refine .inr ⟨n + 1, ?_, by simp; omega, by rw [h3]; rfl⟩
   rw [h1, if_neg (by simp)]
   omega
def J7 : List UInt8 → Bool
 | c :: d :: _ => c == 47 && d == 47
 | _ => false
theorem wa (c : UInt8) (r : List UInt8) : kg (c :: r) = if c = 32 ∨ c = 9 ∨ c = 10 then some r else if c = 47 ∧ r.head? = some 47 then ye r else none := rfl
theorem Kw (s : ByteArray) (k : Nat) (h : k < s.size) : s.data.toList.drop k = s[k] :: s.data.toList.drop (k + 1) := by
 rw [List.drop_eq_getElem_cons (by rw [len_bytes]; exact h)]
 rfl
theorem qkv (s : ByteArray) (k : Nat) (h : k < s.size) (hb : s[k] = 32 ∨ s[k] = 9 ∨ s[k] = 10) : ku s k = ku s (k + 1) := by
 unfold ku
 rw [Zh _ (s.data.toList.drop (k + 1)) (by rw [Kw s k h, wa, if_pos hb])]
theorem qdw (s : ByteArray) (k : Nat) (h : k ≤ s.size) (hn : kg (s.data.toList.drop k) = none) : ku s k = k := by
 unfold ku
 rw [Jb _ hn, List.length_drop, len_bytes]
 omega
theorem qcb (c : UInt8) (r : List UInt8) : J7 (c :: r) = true ↔ c = 47 ∧ r.head? = some 47 := by
 cases r with
 | nil => simp [J7]
 | cons d r => simp [J7]
theorem qmj (s : ByteArray) (k : Nat) (h : k < s.size) (hb : ¬ (s[k] = 32 ∨ s[k] = 9 ∨ s[k] = 10)) (hs : J7 (s.data.toList.drop k) = false) : ku s k = k := by
 refine qdw s k (by omega) ?_
 rw [Kw s k h] at hs ⊢
 rw [wa, if_neg hb, if_neg]
 intro h2
 rw [(qcb _ _).2 h2] at hs
 cases hs
theorem qmk (s : ByteArray) (k : Nat) (h : k < s.size) (hs : J7 (s.data.toList.drop k) = true) (hi : Go.Lib.indexByte (s.data.toList.drop k) 10 = -1) : ku s k = k := by
 refine qdw s k (by omega) ?_
 rw [Kw s k h] at hs hi ⊢
 have h2 := (qcb _ _).1 hs
 rw [wa, if_neg (by rw [h2.1]; decide), if_pos h2]
 rcases J8 (s[k] :: s.data.toList.drop (k + 1)) with ⟨_, h4⟩ | ⟨n, h3, _⟩
 ·have e : ye (s[k] :: s.data.toList.drop (k + 1)) = if s[k] = 10 then some (s.data.toList.drop (k + 1)) else ye (s.data.toList.drop (k + 1)) := rfl
  rw [e, if_neg (by rw [h2.1]; decide)] at h4
  exact h4
 rw [hi] at h3
 omega
theorem qml (s : ByteArray) (k n : Nat) (h : k < s.size) (hs : J7 (s.data.toList.drop k) = true) (hi : Go.Lib.indexByte (s.data.toList.drop k) 10 = n) : k + n + 1 ≤ s.size ∧ ku s k = ku s (k + n + 1) := by
 have hl := len_bytes s
 rw [Kw s k h] at hs hi
 have h2 := (qcb _ _).1 hs
 rcases J8 (s[k] :: s.data.toList.drop (k + 1)) with ⟨h3, _⟩ | ⟨m, h3, h4, h5⟩
 ·rw [hi] at h3
  omega
 have hm : m = n := by rw [hi] at h3; omega
 subst hm
 have h6 : k + m + 1 ≤ s.size := by
  simp only [List.length_cons, List.length_drop] at h4
  omega
 refine ⟨h6, ?_⟩
 unfold ku
 rw [Zh _ (s.data.toList.drop (k + m + 1))]
 rw [Kw s k h, wa, if_neg (by rw [h2.1]; decide), if_pos h2]
 have e : ye (s[k] :: s.data.toList.drop (k + 1)) = if s[k] = 10 then some (s.data.toList.drop (k + 1)) else ye (s.data.toList.drop (k + 1)) := rfl
 rw [e, if_neg (by rw [h2.1]; decide)] at h5
 rw [h5]
 have e2 : (s[k] :: s.data.toList.drop (k + 1)) = s.data.toList.drop k := (Kw s k h).symm
 rw [e2, List.drop_drop]
 congr 2
theorem qoc (s : ByteArray) (k : Nat) (h : k = s.size) : ku s k = k := by
 refine qdw s k (by omega) ?_
 rw [List.drop_of_length_le (by rw [len_bytes]; omega)]
 rfl
theorem qfk (s : ByteArray) (k : Nat) : (s.extract k s.size).data.toList = s.data.toList.drop k := by
 rw [ByteArray.data_extract, Array.toList_extract, List.extract_eq_take_drop]
 rw [List.take_of_length_le (by rw [List.length_drop, len_bytes]; exact Nat.le_refl _)]
def Zp (c : Int) : Bool := decide (97 ≤ c ∧ c ≤ 122 ∨ 65 ≤ c ∧ c ≤ 90 ∨ c = 95)
def ug (c : Int) : Bool := decide (48 ≤ c ∧ c ≤ 57)
def qpa : List (List UInt8) := [[102, 110], [99, 108, 97, 115, 115], [99, 111, 110, 115, 116], [108, 101, 116], [114, 101, 116, 117, 114, 110], [105, 102], [101, 108, 115, 101], [119, 104, 105, 108, 101], [110, 101, 119], [115, 101, 108, 102], [116, 114, 117, 101], [102, 97, 108, 115, 101]]
def qaf (l : List UInt8) : Bool := qpa.contains l
def Qg : Nat → List UInt8 → Bool
 | _, [] => true
 | i, c :: r => (Zp c.toNat || (i != 0 && ug c.toNat)) && Qg (i + 1) r
def u1 (l : List UInt8) : Bool := !l.isEmpty && decide (l.length ≤ 32) && !qaf l && Qg 0 l
def jg : Int → List UInt8 → Option Int
 | n, [] => some n
 | n, c :: r => if ug c.toNat then jg (n * 10 + ((c.toNat : Int) - 48)) r else none
def y7 (l : List UInt8) : Bool :=
 !l.isEmpty && decide (l.length ≤ 13) && !(decide (1 < l.length) && l.head? == some 48) && (match jg 0 l with | some n => decide (n ≤ 1000000000000) | none => false)
end Go.Proofs.YtigmilhpeodhbaaDoorW.Plain
