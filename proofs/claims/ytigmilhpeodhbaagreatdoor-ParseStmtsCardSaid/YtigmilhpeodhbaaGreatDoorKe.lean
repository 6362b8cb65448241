/- Glue, the same in the program and in the reference; what is written behind a source. Conditions: those in each theorem. -/
import Derived.Test.YtigmilhpeodhbaaGreatDoorK0
import Derived.Test.YtigmilhpeodhbaaGreatDoorPlain
namespace Go.Proofs.YtigmilhpeodhbaaGreatDoorW.Ex.Gr
open Go Go.Proofs.YtigmilhpeodhbaaGreatDoorW.Ex Go.Proofs.YtigmilhpeodhbaaGreatDoorW.Plain
set_option linter.all false
set_option maxRecDepth 100000
namespace Tk
theorem tt {α : Type} {A B : α} : (if (true = true) then A else B) = A := rfl
theorem ff {α : Type} {A B : α} : (if (false = true) then A else B) = B := rfl
theorem nff {α : Type} {A B : α} : (if ((!true) = true) then A else B) = B := rfl
theorem ntt {α : Type} {A B : α} : (if ((!false) = true) then A else B) = A := rfl
@[reducible] def L (s : ByteArray) : List UInt8 := s.data.toList
def ofB (l : List UInt8) : ByteArray := ⟨l.toArray⟩
theorem q36 (s : ByteArray) : ofB (L s) = s := by rcases s with ⟨⟨l⟩⟩; rfl
theorem qu1 (l : List UInt8) : L (ofB l) = l := rfl
theorem qdy (l : List UInt8) : (ofB l).size = l.length := rfl
theorem qgf (s : ByteArray) : (L s).length = s.size := Array.length_toList
theorem q2m {a b : ByteArray} (h : L a = L b) : a = b := by rw [← q36 a, ← q36 b, h]
theorem q5c {s : ByteArray} {k : Nat} {c : UInt8} (h : (L s)[k]? = some c) : sx s (k : Int) = some (c.toNat : Int) := by
 unfold sx
 rw [if_pos (Int.natCast_nonneg k), Int.toNat_natCast]
 obtain ⟨hk, rfl⟩ := List.getElem?_eq_some_iff.1 h
 have hk' : k < s.size := by rw [← qgf]; exact hk
 rw [getElem?_pos s k hk', Option.map_some]; rfl
theorem qc3 {s : ByteArray} {k : Nat} {c : UInt8} {r : List UInt8} (h : (L s).drop k = c :: r) : sx s (k : Int) = some (c.toNat : Int) := by
 refine q5c ?_
 have := congrArg List.head? h
 rwa [List.head?_drop] at this
theorem qju {s : ByteArray} {k : Nat} {c : UInt8} {r : List UInt8} (h : (L s).drop k = c :: r) : k < s.size ∧ (L s).drop (k + 1) = r := by
 have hl := congrArg List.length h
 rw [List.length_drop, qgf, List.length_cons] at hl
 refine ⟨by omega, ?_⟩
 rw [← List.drop_drop, h]; rfl
theorem drop_nil {s : ByteArray} {k : Nat} (h : (L s).drop k = []) : s.size ≤ k := by
 have hl := congrArg List.length h
 rw [List.length_drop, qgf, List.length_nil] at hl
 omega
theorem qbx {s : ByteArray} {a b : Nat} (h : a ≤ b) (hb : b ≤ s.size) : ssub s (a : Int) (b : Int) = some (ofB (((L s).drop a).take (b - a))) := by
 unfold ssub
 rw [if_pos ⟨by omega, by omega, by omega⟩, Int.toNat_natCast, Int.toNat_natCast]
 congr 1
 apply q2m
 rw [qu1]
 show (s.extract a b).data.toList = _
 rw [ByteArray.data_extract, Array.toList_extract, List.extract_eq_take_drop]
def q03 : List UInt8 := [40, 41, 123, 125, 44, 59, 58, 46, 61, 60, 43, 45, 42, 47, 33, 38, 124]
def digC (c : UInt8) : Bool := yn c.toNat
def letC (c : UInt8) : Bool := yn c.toNat || uc c.toNat
def qcd (c : UInt8) : Bool := q03.any (fun d => decide (d = c))
def cls (c : UInt8) : Int := if digC c = true then 1 else if letC c = true then 2 else if qcd c = true then 3 else 0
theorem qqi : ∀ (l : List UInt8) (c : UInt8), decide (0 ≤ Lib.indexByte l c) = l.any (fun d => decide (d = c))
 | [], c => rfl
 | d :: l, c => by
   have ih := qqi l c
   rw [Lib.indexByte, List.any_cons]
   by_cases h : d = c
   ·simp [h]
   ·have hb : (d == c) = false := by simpa using h
    rw [decide_eq_false h, Bool.false_or, ← ih, hb]
    have := Lib.indexByte_ge l c
    by_cases h2 : Lib.indexByte l c = -1
    ·rw [h2]; rfl
    ·have hb2 : (Lib.indexByte l c == -1) = false := by simpa using h2
     rw [hb2]
     rw [decide_eq_decide]
     simp only [Bool.false_eq_true, if_false]; omega
theorem qyb (c : UInt8) : Jb (c.toNat : Int) = some (cls c) := by
 rw [Jb.eq_def]
 unfold ka
 have hm : decide (0 ≤ Lib.indexByte (L (⟨#[40, 41, 123, 125, 44, 59, 58, 46, 61, 60, 43, 45, 42, 47, 33, 38, 124]⟩ : ByteArray)) ((c.toNat : Int).toNat.toUInt8)) = qcd c := by
  rw [Int.toNat_natCast, qqi]
  have : c.toNat.toUInt8 = c := UInt8.toNat_inj.1 (by simp)
  rw [this]; rfl
 simp only [bs, hm, kl.eq_def]
 unfold cls letC digC yn uc
 generalize qcd c = m
 have hn := c.toNat_lt
 generalize c.toNat = n at hn
 clear hm hn
 simp only [Bool.or_eq_true, decide_eq_true_eq]
 cases m <;> simp only [Bool.false_eq_true, if_false, if_true] <;> (repeat' split) <;> first | rfl | omega | (exact kl.eq_def) | (trace_state; omega)
theorem q3v (c : UInt8) : Yj (c.toNat : Int) = some (letC c) := by
 rw [Yj.eq_def, qyb, bs]
 unfold cls letC digC
 cases yn c.toNat <;> cases uc c.toNat <;> cases qcd c <;> simp [bs]
end Tk
end Go.Proofs.YtigmilhpeodhbaaGreatDoorW.Ex.Gr
