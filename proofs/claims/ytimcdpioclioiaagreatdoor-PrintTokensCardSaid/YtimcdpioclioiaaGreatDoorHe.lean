/- Glue, the same in the program and in the reference; what is written behind a source. Conditions: those in each theorem. -/
import Derived.Test.YtimcdpioclioiaaGreatDoorHW
import Derived.Test.YtimcdpioclioiaaGreatDoorPlain
namespace Go.Proofs.YtimcdpioclioiaaGreatDoorW.Ex.Gr
open Go Go.Proofs.YtimcdpioclioiaaGreatDoorW.Ex Go.Proofs.YtimcdpioclioiaaGreatDoorW.Plain
set_option linter.all false
set_option maxRecDepth 100000
namespace Tk
theorem tt {α : Type} {A B : α} : (if (true = true) then A else B) = A := rfl
theorem ff {α : Type} {A B : α} : (if (false = true) then A else B) = B := rfl
theorem nff {α : Type} {A B : α} : (if ((!true) = true) then A else B) = B := rfl
theorem ntt {α : Type} {A B : α} : (if ((!false) = true) then A else B) = A := rfl
@[reducible] def L (s : ByteArray) : List UInt8 := s.data.toList
def ofB (l : List UInt8) : ByteArray := ⟨l.toArray⟩
theorem ofB_L (s : ByteArray) : ofB (L s) = s := by rcases s with ⟨⟨l⟩⟩; rfl
theorem L_ofB (l : List UInt8) : L (ofB l) = l := rfl
theorem K6 (l : List UInt8) : (ofB l).size = l.length := rfl
theorem vj (s : ByteArray) : (L s).length = s.size := Array.length_toList
theorem L_inj {a b : ByteArray} (h : L a = L b) : a = b := by rw [← ofB_L a, ← ofB_L b, h]
theorem sx_at {s : ByteArray} {k : Nat} {c : UInt8} (h : (L s)[k]? = some c) : sx s (k : Int) = some (c.toNat : Int) := by
 unfold sx
 rw [if_pos (Int.natCast_nonneg k), Int.toNat_natCast]
 obtain ⟨hk, rfl⟩ := List.getElem?_eq_some_iff.1 h
 have hk' : k < s.size := by rw [← vj]; exact hk
 rw [getElem?_pos s k hk', Option.map_some]; rfl
theorem sx_cons {s : ByteArray} {k : Nat} {c : UInt8} {r : List UInt8} (h : (L s).drop k = c :: r) : sx s (k : Int) = some (c.toNat : Int) := by
 refine sx_at ?_
 have := congrArg List.head? h
 rwa [List.head?_drop] at this
theorem drop_lt {s : ByteArray} {k : Nat} {c : UInt8} {r : List UInt8} (h : (L s).drop k = c :: r) : k < s.size ∧ (L s).drop (k + 1) = r := by
 have hl := congrArg List.length h
 rw [List.length_drop, vj, List.length_cons] at hl
 refine ⟨by omega, ?_⟩
 rw [← List.drop_drop, h]; rfl
theorem drop_nil {s : ByteArray} {k : Nat} (h : (L s).drop k = []) : s.size ≤ k := by
 have hl := congrArg List.length h
 rw [List.length_drop, vj, List.length_nil] at hl
 omega
theorem Ym {s : ByteArray} {a b : Nat} (h : a ≤ b) (hb : b ≤ s.size) : ssub s (a : Int) (b : Int) = some (ofB (((L s).drop a).take (b - a))) := by
 unfold ssub
 rw [if_pos ⟨by omega, by omega, by omega⟩, Int.toNat_natCast, Int.toNat_natCast]
 congr 1
 apply L_inj
 rw [L_ofB]
 show (s.extract a b).data.toList = _
 rw [ByteArray.data_extract, Array.toList_extract, List.extract_eq_take_drop]
def marksB : List UInt8 := [40, 41, 123, 125, 44, 59, 58, 46, 61, 60, 43, 45, 42, 47, 33, 38, 124]
def digC (c : UInt8) : Bool := z6 c.toNat
def letC (c : UInt8) : Bool := z6 c.toNat || jt c.toNat
def vi (c : UInt8) : Bool := marksB.any (fun d => decide (d = c))
def cls (c : UInt8) : Int := if digC c = true then 1 else if letC c = true then 2 else if vi c = true then 3 else 0
theorem index_any : ∀ (l : List UInt8) (c : UInt8), decide (0 ≤ Lib.indexByte l c) = l.any (fun d => decide (d = c))
 | [], c => rfl
 | d :: l, c => by
   have ih := index_any l c
   rw [Lib.indexByte, List.any_cons]
   by_cases h : d = c
   ·simp [h]
   ·have hb : (d == c) = false := by simpa using h
    rw [decide_eq_false h, Bool.false_or, ← ih, hb]
    have := Lib.indexByte_ge l c
    by_cases h2 : Lib.indexByte l c = -1
    ·rw [h2]; rfl
    ·have hb2 : (Lib.indexByte l c == -1) = false := by simpa using h2
     rw [hb2]
     rw [decide_eq_decide]
     simp only [Bool.false_eq_true, if_false]; omega
theorem P_class (c : UInt8) : F_token_class (c.toNat : Int) = some (cls c) := by
 rw [F_token_class.eq_def]
 unfold F_strings_IndexByte
 have hm : decide (0 ≤ Lib.indexByte (L (⟨#[40, 41, 123, 125, 44, 59, 58, 46, 61, 60, 43, 45, 42, 47, 33, 38, 124]⟩ : ByteArray)) ((c.toNat : Int).toNat.toUInt8)) = vi c := by
  rw [Int.toNat_natCast, index_any]
  have : c.toNat.toUInt8 = c := UInt8.toNat_inj.1 (by simp)
  rw [this]; rfl
 simp only [bs, hm, F_token_class_t3.eq_def]
 unfold cls letC digC z6 jt
 generalize vi c = m
 have hn := c.toNat_lt
 generalize c.toNat = n at hn
 clear hm hn
 simp only [Bool.or_eq_true, decide_eq_true_eq]
 cases m <;> simp only [Bool.false_eq_true, if_false, if_true] <;> (repeat' split) <;> first | rfl | omega | (exact F_token_class_t3.eq_def) | (trace_state; omega)
theorem P_wordy (c : UInt8) : F_token_wordy (c.toNat : Int) = some (letC c) := by
 rw [F_token_wordy.eq_def, P_class, bs]
 unfold cls letC digC
 cases z6 c.toNat <;> cases jt c.toNat <;> cases vi c <;> simp [bs]
/-- Would two tokens without a gap be read differently? -/
def glueL (a b : List UInt8) : Bool :=
 if a = [] ∨ b = [] then false
 else if letC (a.getLastD 0) = true ∧ letC (b.headD 0) = true then true
 else (decide (a = [61]) && (decide (b = [61]) || decide (b = [61, 61]))) || (decide (a = [47]) && decide (b = [47]))
theorem Zo (s : ByteArray) (l : List UInt8) : decide (s = ⟨l.toArray⟩) = decide (L s = l) := by
 rw [decide_eq_decide]
 constructor
 ·rintro rfl; rfl
 ·intro h; exact L_inj h
theorem sx_last {s : ByteArray} (h : L s ≠ []) (hs : s.size ≤ 9223372036854775807) : sx s (IntKind.i64.wrap ((s.size : Int) - 1)) = some (((L s).getLastD 0).toNat : Int) := by
 have hl := vj s
 have h0 : 0 < s.size := by rw [← hl]; exact List.length_pos_iff.2 h
 rw [zr (by omega) (by omega), show (s.size : Int) - 1 = ((s.size - 1 : Nat) : Int) by omega]
 refine sx_at ?_
 rw [← hl, List.getLastD_eq_getLast?, ← List.getLast?_eq_getElem?]
 cases e : (L s).getLast? with
 | none => exact absurd (List.getLast?_eq_none_iff.1 e) h
 | some c => rfl
theorem P_Glue (a b : ByteArray) (ha : a.size ≤ 281474976710656) : F_token_Glue a b = some (glueL (L a) (L b)) := by
 rw [F_token_Glue.eq_def]
 simp only [F_token_Glue_t11.eq_def]
 have q0 := Zo a []; have q1 := Zo b []; have q2 := Zo a [61]; have q3 := Zo b [61]; have q4 := Zo b [61, 61]; have q5 := Zo a [47]; have q6 := Zo b [47]
 simp only [q0, q1, q2, q3, q4, q5, q6]
 unfold glueL
 cases hA : L a with
 | nil => simp
 | cons c l =>
   cases hB : L b with
   | nil => simp
   | cons d r =>
     have hx := sx_cons (k := 0) (show (L b).drop 0 = d :: r from hB)
     rw [show ((0 : Nat) : Int) = 0 from rfl] at hx
     have hy := sx_last (s := a) (by rw [hA]; simp) (by omega)
     rw [hA] at hy
     rw [hx, hy]
     simp only [bs, P_wordy, List.headD_cons, reduceCtorEq, false_or, if_false, decide_false, Bool.false_eq_true, or_self]
     obtain ⟨x, w1⟩ : ∃ x, letC ((c :: l).getLastD 0) = x := ⟨_, rfl⟩
     obtain ⟨y, w2⟩ : ∃ y, letC d = y := ⟨_, rfl⟩
     simp only [w1, w2]
     clear w1 w2 hy hx hA hB
     obtain ⟨A, hA⟩ : ∃ A, c :: l = A := ⟨_, rfl⟩
     obtain ⟨B, hB⟩ : ∃ B, d :: r = B := ⟨_, rfl⟩
     simp only [hA, hB]
     clear hA hB
     have n1 : ¬ ([61] : List UInt8) = [47] := by decide
     have n2 : ¬ ([61] : List UInt8) = [61, 61] := by decide
     have n3 : ¬ ([47] : List UInt8) = [61, 61] := by decide
     have n4 : ¬ ([47] : List UInt8) = [61] := by decide
     cases x <;> cases y <;> by_cases h1 : A = [61] <;> by_cases h4 : A = [47] <;> by_cases h2 : B = [61] <;> by_cases h3 : B = [61, 61] <;> by_cases h5 : B = [47] <;> simp_all
/-- Must there be a space between a word and the next one with its gap? -/
def spaceL (last g w : List UInt8) : Bool := if g = [] then glueL last w else decide (last = [47]) && decide (g.head? = some 47)
def outL (s last g w : List UInt8) : List UInt8 := s ++ ((if spaceL last g w = true then [32] else []) ++ (g ++ w))
theorem has_slash (g : BA) : F_strings_HasPrefix g (⟨#[47]⟩ : BA) = some (decide ((L g).head? = some 47)) := by
 rw [F_strings_HasPrefix.eq_def, F_internal_stringslite_HasPrefix.eq_def, show ((⟨#[47]⟩ : BA).size : Int) = 1 from rfl]
 have hl := vj g
 cases h : L g with
 | nil =>
   rw [h] at hl
   rw [if_neg (by rw [decide_eq_true_eq]; simp only [List.length_nil] at hl; omega)]; rfl
 | cons c r =>
   rw [h, List.length_cons] at hl
   rw [if_pos (decide_eq_true (by omega)), show (0 : Int) = ((0 : Nat) : Int) from rfl, show (1 : Int) = ((1 : Nat) : Int) from rfl, Ym (by omega) (by omega), bs, bs, h]
   rw [show List.take (1 - 0) (List.drop 0 (c :: r)) = [c] from rfl, List.head?_cons]
   congr 1
   rw [show (⟨#[47]⟩ : BA) = ofB [47] from rfl, decide_eq_decide]
   constructor
   ·intro e
    have := congrArg L e
    rw [L_ofB, L_ofB] at this
    simp only [List.cons.injEq, and_true] at this
    rw [this]
   ·intro e
    rw [Option.some.inj e]
theorem wb_ok {l : List UInt8} (h : l.length ≤ 1000000000000) : F_strings_Builder_WriteBytes2 l 32 = some (l ++ [32]) := by
 unfold F_strings_Builder_WriteBytes2
 rw [if_pos ⟨by omega, by omega, by omega⟩]; rfl
theorem ws_ok {l : List UInt8} {s : BA} (h : l.length + s.size ≤ 1000000000000) : F_strings_Builder_WriteStrings2 l s = some (l ++ L s) := by
 unfold F_strings_Builder_WriteStrings2
 rw [if_pos (by omega)]
/-- What the program writes. -/
theorem emit_T (g w last : BA) (s : List UInt8) (hl : last.size ≤ 1000000000) (h : s.length + g.size + w.size ≤ 1000000000) : F_emitT g w last s = some (w, outL s (L last) (L g) (L w)) := by
 have hg := vj g
 have hw := vj w
 have t20 : ∀ s' : List UInt8, s'.length ≤ s.length + 1 → F_emitT_t20 g w last s' = some (w, s' ++ (L g ++ L w)) := by
  intro s' hs'
  rw [F_emitT_t20.eq_def, ws_ok (by omega), bs, ws_ok (by rw [List.length_append]; omega), bs, List.append_assoc]
 rw [F_emitT.eq_def, P_Glue last w (by omega)]
 simp only [has_slash, bs]
 have q0 := Zo g []; have q5 := Zo last [47]
 simp only [q0, q5]
 rw [wb_ok (by omega)]
 simp only [bs]
 rw [t20 s (by omega), t20 (s ++ [32]) (by simp)]
 unfold outL spaceL
 clear q0 q5 t20 hg hw hl h
 generalize glueL (L last) (L w) = x
 cases hG : L g with
 | nil => by_cases h2 : L last = [47] <;> cases x <;> simp [h2]
 | cons c r => by_cases h2 : L last = [47] <;> by_cases h3 : c = 47 <;> cases x <;> simp [h2, h3]
end Tk
end Go.Proofs.YtimcdpioclioiaaGreatDoorW.Ex.Gr
