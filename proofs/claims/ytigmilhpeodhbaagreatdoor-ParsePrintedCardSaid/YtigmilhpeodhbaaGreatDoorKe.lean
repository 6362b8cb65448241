/- Lines and groups of kinds, as print uses them. Conditions: those in each theorem. Glue, the same in the program and in the reference; what is written behind a source. Conditions: those in each theorem. -/
import Derived.Test.YtigmilhpeodhbaaGreatDoorXRc
import Derived.Test.YtigmilhpeodhbaaGreatDoorYa
import Derived.Test.YtigmilhpeodhbaaGreatDoorPlain
namespace Go.Proofs.YtigmilhpeodhbaaGreatDoorW.Ex.Gr
open Go Go.Proofs.YtigmilhpeodhbaaGreatDoorW.Ex
set_option linter.all false
set_option maxRecDepth 100000
theorem qlh (c : UInt8) : ∀ n : Nat, Lib.repeatL [c] n = List.replicate n c
 | 0 => rfl
 | n + 1 => by rw [Lib.repeatL, qlh c n]; rfl
theorem q70 {a b : BA} (h : a.size + b.size ≤ 1000000000000) : cat a b = some (a ++ b) := by unfold cat; rw [if_pos (by omega)]
theorem qu0 (a b : List UInt8) : ((⟨a.toArray⟩ : BA) ++ (⟨b.toArray⟩ : BA)) = ⟨(a ++ b).toArray⟩ := by
 apply ByteArray.ext
 rw [ByteArray.data_append, List.append_toArray]
theorem qy0 (v : Int) (h0 : 0 ≤ v) (h1 : v ≤ 1000000) : Yr v = some (qi0 v) := by
 have e : Ji (⟨#[9]⟩ : BA) v = some (⟨(List.replicate v.toNat 9).toArray⟩ : BA) := by
  unfold Ji
  rw [if_pos ⟨h0, by omega, by show (1 : Nat) * v.toNat ≤ _; omega⟩]
  rw [show (⟨#[9]⟩ : BA).data.toList = [9] from rfl, qlh]
 rw [Yr.eq_def, e, bs, q70, bs]
 ·exact congrArg some (qu0 [10] (List.replicate v.toNat 9))
 show (1 : Nat) + (List.replicate v.toNat 9).toArray.size ≤ _
 rw [List.size_toArray, List.length_replicate]; omega
theorem qvd {k : Int} (h : known k = true) : Zp k = some (zv k) := by
 unfold known at h
 simp only [Bool.and_eq_true, decide_eq_true_eq] at h
 have : k = 1 ∨ k = 2 ∨ k = 3 ∨ k = 4 ∨ k = 5 ∨ k = 6 ∨ k = 7 ∨ k = 8 ∨ k = 9 ∨ k = 10 ∨ k = 11 ∨ k = 12 ∨ k = 13 ∨ k = 14 ∨ k = 15 ∨ k = 16 ∨ k = 17 ∨ k = 18 ∨ k = 19 ∨ k = 20 ∨ k = 21 ∨ k = 22 ∨ k = 23 ∨ k = 24 ∨ k = 25 ∨ k = 26 := by omega
 rcases this with rfl | rfl | rfl | rfl | rfl | rfl | rfl | rfl | rfl | rfl | rfl | rfl | rfl | rfl | rfl | rfl | rfl | rfl | rfl | rfl | rfl | rfl | rfl | rfl | rfl | rfl <;> rfl
end Go.Proofs.YtigmilhpeodhbaaGreatDoorW.Ex.Gr

namespace Go.Proofs.YtigmilhpeodhbaaGreatDoorW.Ex.Gr
open Go Go.Proofs.YtigmilhpeodhbaaGreatDoorW.Ex Go.Proofs.YtigmilhpeodhbaaGreatDoorW.Plain
set_option linter.all false
set_option maxRecDepth 100000
namespace Tk
theorem tt {α : Type} {A B : α} : (if (true = true) then A else B) = A := rfl
theorem ff {α : Type} {A B : α} : (if (false = true) then A else B) = B := rfl
theorem nff {α : Type} {A B : α} : (if ((!true) = true) then A else B) = B := rfl
@[reducible] def L (s : ByteArray) : List UInt8 := s.data.toList
def ofB (l : List UInt8) : ByteArray := ⟨l.toArray⟩
theorem qys (s : ByteArray) : ofB (L s) = s := by rcases s with ⟨⟨l⟩⟩; rfl
theorem qly (l : List UInt8) : L (ofB l) = l := rfl
theorem qc2 (l : List UInt8) : (ofB l).size = l.length := rfl
theorem Yh (s : ByteArray) : (L s).length = s.size := Array.length_toList
theorem qzy {a b : ByteArray} (h : L a = L b) : a = b := by rw [← qys a, ← qys b, h]
theorem q6u {s : ByteArray} {k : Nat} {c : UInt8} (h : (L s)[k]? = some c) : sx s (k : Int) = some (c.toNat : Int) := by
 unfold sx
 rw [if_pos (Int.natCast_nonneg k), Int.toNat_natCast]
 obtain ⟨hk, rfl⟩ := List.getElem?_eq_some_iff.1 h
 have hk' : k < s.size := by rw [← Yh]; exact hk
 rw [getElem?_pos s k hk', Option.map_some]; rfl
theorem qrv {s : ByteArray} {k : Nat} {c : UInt8} {r : List UInt8} (h : (L s).drop k = c :: r) : sx s (k : Int) = some (c.toNat : Int) := by
 refine q6u ?_
 have := congrArg List.head? h
 rwa [List.head?_drop] at this
theorem q51 {s : ByteArray} {k : Nat} {c : UInt8} {r : List UInt8} (h : (L s).drop k = c :: r) : k < s.size ∧ (L s).drop (k + 1) = r := by
 have hl := congrArg List.length h
 rw [List.length_drop, Yh, List.length_cons] at hl
 refine ⟨by omega, ?_⟩
 rw [← List.drop_drop, h]; rfl
theorem drop_nil {s : ByteArray} {k : Nat} (h : (L s).drop k = []) : s.size ≤ k := by
 have hl := congrArg List.length h
 rw [List.length_drop, Yh, List.length_nil] at hl
 omega
theorem qgq {s : ByteArray} {a b : Nat} (h : a ≤ b) (hb : b ≤ s.size) : ssub s (a : Int) (b : Int) = some (ofB (((L s).drop a).take (b - a))) := by
 unfold ssub
 rw [if_pos ⟨by omega, by omega, by omega⟩, Int.toNat_natCast, Int.toNat_natCast]
 congr 1
 apply qzy
 rw [qly]
 show (s.extract a b).data.toList = _
 rw [ByteArray.data_extract, Array.toList_extract, List.extract_eq_take_drop]
def q7l : List UInt8 := [40, 41, 123, 125, 44, 59, 58, 46, 61, 60, 43, 45, 42, 47, 33, 38, 124]
def digC (c : UInt8) : Bool := u6 c.toNat
def letC (c : UInt8) : Bool := u6 c.toNat || Z7 c.toNat
def Ww (c : UInt8) : Bool := q7l.any (fun d => decide (d = c))
def cls (c : UInt8) : Int := if digC c = true then 1 else if letC c = true then 2 else if Ww c = true then 3 else 0
theorem qq1 : ∀ (l : List UInt8) (c : UInt8), decide (0 ≤ Lib.indexByte l c) = l.any (fun d => decide (d = c))
 | [], c => rfl
 | d :: l, c => by
   have ih := qq1 l c
   rw [Lib.indexByte, List.any_cons]
   by_cases h : d = c
   ·simp [h]
   have hb : (d == c) = false := by simpa using h
   rw [decide_eq_false h, Bool.false_or, ← ih, hb]
   have := Lib.indexByte_ge l c
   by_cases h2 : Lib.indexByte l c = -1
   ·rw [h2]; rfl
   have hb2 : (Lib.indexByte l c == -1) = false := by simpa using h2
   rw [hb2]
   rw [decide_eq_decide]
   simp only [Bool.false_eq_true, if_false]; omega
theorem qzv (c : UInt8) : Z3 (c.toNat : Int) = some (cls c) := by
 rw [Z3.eq_def]
 unfold yz
 have hm : decide (0 ≤ Lib.indexByte (L (⟨#[40, 41, 123, 125, 44, 59, 58, 46, 61, 60, 43, 45, 42, 47, 33, 38, 124]⟩ : ByteArray)) ((c.toNat : Int).toNat.toUInt8)) = Ww c := by
  rw [Int.toNat_natCast, qq1]
  have : c.toNat.toUInt8 = c := UInt8.toNat_inj.1 (by simp)
  rw [this]; rfl
 simp only [bs, hm, y8.eq_def]
 unfold cls letC digC u6 Z7
 generalize Ww c = m
 have hn := c.toNat_lt
 generalize c.toNat = n at hn
 clear hm hn
 simp only [Bool.or_eq_true, decide_eq_true_eq]
 cases m <;> simp only [Bool.false_eq_true, if_false, if_true] <;> (repeat' split) <;> first | rfl | omega | (exact y8.eq_def) | (trace_state; omega)
theorem qzu (c : UInt8) : Q0 (c.toNat : Int) = some (letC c) := by
 rw [Q0.eq_def, qzv, bs]
 unfold cls letC digC
 cases u6 c.toNat <;> cases Z7 c.toNat <;> cases Ww c <;> simp [bs]
def qq3 (a b : List UInt8) : Bool :=
 if a = [] ∨ b = [] then false
 else if letC (a.getLastD 0) = true ∧ letC (b.headD 0) = true then true
 else (decide (a = [61]) && (decide (b = [61]) || decide (b = [61, 61]))) || (decide (a = [47]) && decide (b = [47]))
theorem qel (s : ByteArray) (l : List UInt8) : decide (s = ⟨l.toArray⟩) = decide (L s = l) := by
 rw [decide_eq_decide]
 constructor
 ·rintro rfl; rfl
 intro h; exact qzy h
theorem q47 {s : ByteArray} (h : L s ≠ []) (hs : s.size ≤ 9223372036854775807) : sx s (IntKind.i64.wrap ((s.size : Int) - 1)) = some (((L s).getLastD 0).toNat : Int) := by
 have hl := Yh s
 have h0 : 0 < s.size := by rw [← hl]; exact List.length_pos_iff.2 h
 rw [wh (by omega) (by omega), show (s.size : Int) - 1 = ((s.size - 1 : Nat) : Int) by omega]
 refine q6u ?_
 rw [← hl, List.getLastD_eq_getLast?, ← List.getLast?_eq_getElem?]
 cases e : (L s).getLast? with
 | none => exact absurd (List.getLast?_eq_none_iff.1 e) h
 | some c => rfl
theorem q8l (a b : ByteArray) (ha : a.size ≤ 281474976710656) : Wl a b = some (qq3 (L a) (L b)) := by
 rw [Wl.eq_def]
 simp only [Jh.eq_def]
 have q0 := qel a []; have q1 := qel b []; have q2 := qel a [61]; have q3 := qel b [61]; have q4 := qel b [61, 61]; have q5 := qel a [47]; have q6 := qel b [47]
 simp only [q0, q1, q2, q3, q4, q5, q6]
 unfold qq3
 cases hA : L a with
 | nil => simp
 | cons c l =>
   cases hB : L b with
   | nil => simp
   | cons d r =>
     have hx := qrv (k := 0) (show (L b).drop 0 = d :: r from hB)
     rw [show ((0 : Nat) : Int) = 0 from rfl] at hx
     have hy := q47 (s := a) (by rw [hA]; simp) (by omega)
     rw [hA] at hy
     rw [hx, hy]
     simp only [bs, qzu, List.headD_cons, reduceCtorEq, false_or, if_false, decide_false, Bool.false_eq_true, or_self]
     obtain ⟨x, w1⟩ : ∃ x, letC ((c :: l).getLastD 0) = x := ⟨_, rfl⟩
     obtain ⟨y, w2⟩ : ∃ y, letC d = y := ⟨_, rfl⟩
     simp only [w1, w2]
     clear w1 w2 hy hx hA hB
     obtain ⟨A, hA⟩ : ∃ A, c :: l = A := ⟨_, rfl⟩
     obtain ⟨B, hB⟩ : ∃ B, d :: r = B := ⟨_, rfl⟩
     simp only [hA, hB]
     clear hA hB
     have n1 : ¬ ([61] : List UInt8) = [47] := by decide
     have n2 : ¬ ([61] : List UInt8) = [61, 61] := by decide
     have n3 : ¬ ([47] : List UInt8) = [61, 61] := by decide
     have n4 : ¬ ([47] : List UInt8) = [61] := by decide
     cases x <;> cases y <;> by_cases h1 : A = [61] <;> by_cases h4 : A = [47] <;> by_cases h2 : B = [61] <;> by_cases h3 : B = [61, 61] <;> by_cases h5 : B = [47] <;> simp_all
def qm8 (last g w : List UInt8) : Bool := if g = [] then qq3 last w else decide (last = [47]) && decide (g.head? = some 47)
def outL (s last g w : List UInt8) : List UInt8 := s ++ ((if qm8 last g w = true then [32] else []) ++ (g ++ w))
theorem q01 (g : BA) : y0 g (⟨#[47]⟩ : BA) = some (decide ((L g).head? = some 47)) := by
 rw [y0.eq_def, kj.eq_def, show ((⟨#[47]⟩ : BA).size : Int) = 1 from rfl]
 have hl := Yh g
 cases h : L g with
 | nil =>
   rw [h] at hl
   rw [if_neg (by rw [decide_eq_true_eq]; simp only [List.length_nil] at hl; omega)]; rfl
 | cons c r =>
   rw [h, List.length_cons] at hl
   rw [if_pos (decide_eq_true (by omega)), show (0 : Int) = ((0 : Nat) : Int) from rfl, show (1 : Int) = ((1 : Nat) : Int) from rfl, qgq (by omega) (by omega), bs, bs, h]
   rw [show List.take (1 - 0) (List.drop 0 (c :: r)) = [c] from rfl, List.head?_cons]
   congr 1
   rw [show (⟨#[47]⟩ : BA) = ofB [47] from rfl, decide_eq_decide]
   constructor
   ·intro e
    have := congrArg L e
    rw [qly, qly] at this
    simp only [List.cons.injEq, and_true] at this
    rw [this]
   intro e
   rw [Option.some.inj e]
theorem q8x {l : List UInt8} (h : l.length ≤ 1000000000000) : yi l 32 = some (l ++ [32]) := by
 unfold yi
 rw [if_pos ⟨by omega, by omega, by omega⟩]; rfl
theorem q6r {l : List UInt8} {s : BA} (h : l.length + s.size ≤ 1000000000000) : yp l s = some (l ++ L s) := by
 unfold yp
 rw [if_pos (by omega)]
theorem q7z (g w last : BA) (s : List UInt8) (hl : last.size ≤ 1000000000) (h : s.length + g.size + w.size ≤ 1000000000) : qg2 g w last s = some (w, outL s (L last) (L g) (L w)) := by
 have hg := Yh g
 have hw := Yh w
 have t20 : ∀ s' : List UInt8, s'.length ≤ s.length + 1 → Qi g w last s' = some (w, s' ++ (L g ++ L w)) := by
  intro s' hs'
  rw [Qi.eq_def, q6r (by omega), bs, q6r (by rw [List.length_append]; omega), bs, List.append_assoc]
 rw [qg2.eq_def, q8l last w (by omega)]
 simp only [q01, bs]
 have q0 := qel g []; have q5 := qel last [47]
 simp only [q0, q5]
 rw [q8x (by omega)]
 simp only [bs]
 rw [t20 s (by omega), t20 (s ++ [32]) (by simp)]
 unfold outL qm8
 clear q0 q5 t20 hg hw hl h
 generalize qq3 (L last) (L w) = x
 cases hG : L g with
 | nil => by_cases h2 : L last = [47] <;> cases x <;> simp [h2]
 | cons c r => by_cases h2 : L last = [47] <;> by_cases h3 : c = 47 <;> cases x <;> simp [h2, h3]
end Tk
end Go.Proofs.YtigmilhpeodhbaaGreatDoorW.Ex.Gr
