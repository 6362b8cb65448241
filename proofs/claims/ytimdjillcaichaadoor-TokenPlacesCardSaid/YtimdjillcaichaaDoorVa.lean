/- Bytes and tokens in plain words, and what the printed functions of the token layer return of bytes. Conditions: those in each theorem. -/
import Derived.Test.YtimdjillcaichaaDoorUc
namespace Go.Proofs.YtimdjillcaichaaDoorW.Ex.Gr
open Go Go.Proofs.YtimdjillcaichaaDoorW.Ex Go.Proofs.YtimdjillcaichaaDoorW.Plain
set_option linter.all false
set_option maxRecDepth 100000
namespace Tk
theorem bs {α β : Type} (a : α) (f : α → Option β) : (some a >>= f) = f a := rfl
theorem tt {α : Type} {A B : α} : (if (true = true) then A else B) = A := rfl
theorem ff {α : Type} {A B : α} : (if (false = true) then A else B) = B := rfl
theorem nff {α : Type} {A B : α} : (if ((!true) = true) then A else B) = B := rfl
theorem ntt {α : Type} {A B : α} : (if ((!false) = true) then A else B) = A := rfl
/-! ### Strings and lists of bytes -/
@[reducible] def L (s : ByteArray) : List UInt8 := s.data.toList
def ofB (l : List UInt8) : ByteArray := ⟨l.toArray⟩
theorem ofB_L (s : ByteArray) : ofB (L s) = s := by rcases s with ⟨⟨l⟩⟩; rfl
theorem L_ofB (l : List UInt8) : L (ofB l) = l := rfl
theorem size_ofB (l : List UInt8) : (ofB l).size = l.length := rfl
theorem len_L (s : ByteArray) : (L s).length = s.size := Array.length_toList
theorem L_inj {a b : ByteArray} (h : L a = L b) : a = b := by rw [← ofB_L a, ← ofB_L b, h]
theorem sx_at {s : ByteArray} {k : Nat} {c : UInt8} (h : (L s)[k]? = some c) : sx s (k : Int) = some (c.toNat : Int) := by
  unfold sx
  rw [if_pos (Int.natCast_nonneg k), Int.toNat_natCast]
  obtain ⟨hk, rfl⟩ := List.getElem?_eq_some_iff.1 h
  have hk' : k < s.size := by rw [← len_L]; exact hk
  rw [getElem?_pos s k hk', Option.map_some]; rfl
theorem sx_cons {s : ByteArray} {k : Nat} {c : UInt8} {r : List UInt8} (h : (L s).drop k = c :: r) : sx s (k : Int) = some (c.toNat : Int) := by
  refine sx_at ?_
  have := congrArg List.head? h
  rwa [List.head?_drop] at this
theorem drop_lt {s : ByteArray} {k : Nat} {c : UInt8} {r : List UInt8} (h : (L s).drop k = c :: r) : k < s.size ∧ (L s).drop (k + 1) = r := by
  have hl := congrArg List.length h
  rw [List.length_drop, len_L, List.length_cons] at hl
  refine ⟨by omega, ?_⟩
  rw [← List.drop_drop, h]; rfl
theorem drop_nil {s : ByteArray} {k : Nat} (h : (L s).drop k = []) : s.size ≤ k := by
  have hl := congrArg List.length h
  rw [List.length_drop, len_L, List.length_nil] at hl
  omega
theorem ssub_at {s : ByteArray} {a b : Nat} (h : a ≤ b) (hb : b ≤ s.size) : ssub s (a : Int) (b : Int) = some (ofB (((L s).drop a).take (b - a))) := by
  unfold ssub
  rw [if_pos ⟨by omega, by omega, by omega⟩, Int.toNat_natCast, Int.toNat_natCast]
  congr 1
  apply L_inj
  rw [L_ofB]
  show (s.extract a b).data.toList = _
  rw [ByteArray.data_extract, Array.toList_extract, List.extract_eq_take_drop]
/-! ### Classes of bytes -/
def marksB : List UInt8 := [40, 41, 123, 125, 44, 59, 58, 46, 61, 60, 43, 45, 42, 47, 33, 38, 124]
def digC (c : UInt8) : Bool := digitB c.toNat
def letC (c : UInt8) : Bool := digitB c.toNat || letterB c.toNat
def markC (c : UInt8) : Bool := marksB.any (fun d => decide (d = c))
def cls (c : UInt8) : Int := if digC c = true then 1 else if letC c = true then 2 else if markC c = true then 3 else 0
theorem index_any : ∀ (l : List UInt8) (c : UInt8), decide (0 ≤ Lib.indexByte l c) = l.any (fun d => decide (d = c))
  | [], c => rfl
  | d :: l, c => by
    have ih := index_any l c
    rw [Lib.indexByte, List.any_cons]
    by_cases h : d = c
    · simp [h]
    · have hb : (d == c) = false := by simpa using h
      rw [decide_eq_false h, Bool.false_or, ← ih, hb]
      have := Lib.indexByte_ge l c
      by_cases h2 : Lib.indexByte l c = -1
      · rw [h2]; rfl
      · have hb2 : (Lib.indexByte l c == -1) = false := by simpa using h2
        rw [hb2]
        rw [decide_eq_decide]
        simp only [Bool.false_eq_true, if_false]; omega
theorem P_class (c : UInt8) : F_token_class (c.toNat : Int) = some (cls c) := by
  rw [E_F_token_class]
  unfold F_strings_IndexByte
  have hm : decide (0 ≤ Lib.indexByte (L (⟨#[40, 41, 123, 125, 44, 59, 58, 46, 61, 60, 43, 45, 42, 47, 33, 38, 124]⟩ : ByteArray)) ((c.toNat : Int).toNat.toUInt8)) = markC c := by
    rw [Int.toNat_natCast, index_any]
    have : c.toNat.toUInt8 = c := UInt8.toNat_inj.1 (by simp)
    rw [this]; rfl
  simp only [bs, hm, E_F_token_class_t3]
  unfold cls letC digC digitB letterB
  generalize markC c = m
  have hn := c.toNat_lt
  generalize c.toNat = n at hn
  clear hm hn
  simp only [Bool.or_eq_true, decide_eq_true_eq]
  cases m <;> simp only [Bool.false_eq_true, if_false, if_true] <;> (repeat' split) <;> first | rfl | omega | (exact E_F_token_class_t3) | (trace_state; omega)
theorem P_wordy (c : UInt8) : F_token_wordy (c.toNat : Int) = some (letC c) := by
  rw [E_F_token_wordy, P_class, bs]
  unfold cls letC digC
  cases digitB c.toNat <;> cases letterB c.toNat <;> cases markC c <;> simp [bs]
theorem P_Digit (c : UInt8) : F_R5_Digit (c.toNat : Int) = some (digC c) := by
  rw [E_F_R5_Digit]
  unfold digC digitB
  by_cases h : (48 : Int) ≤ c.toNat
  · rw [decide_eq_true h, tt]; congr 1; rw [decide_eq_decide]; omega
  · rw [decide_eq_false h, ff]; congr 1; exact (decide_eq_false (by omega)).symm
theorem P_Letter (c : UInt8) : F_R5_Letter (c.toNat : Int) = some (letC c) := by
  rw [E_F_R5_Letter]
  simp only [P_Digit, bs]
  unfold letC digC digitB letterB
  generalize c.toNat = n
  simp only [decide_eq_true_eq]
  (repeat' split) <;> congr 1 <;> apply Bool.eq_iff_iff.2 <;> simp only [Bool.or_eq_true, decide_eq_true_eq, true_iff] <;> omega
/-! ### Runs -/
def runL : List UInt8 → Nat
  | [] => 0
  | c :: l => if letC c = true then runL l + 1 else 0
theorem runL_le : ∀ l, runL l ≤ l.length
  | [] => Nat.le_refl _
  | c :: l => by
    rw [runL, List.length_cons]
    have := runL_le l
    split <;> omega
theorem P_run_l0 : ∀ (l : List UInt8) (s : ByteArray) (k : Nat), (L s).drop k = l → s.size ≤ 9223372036854775806 → k ≤ s.size → F_token_run_l0 s (k : Int) = some ((k + runL l : Nat) : Int)
  | [], s, k, h, hs, hk => by
    have := drop_nil h
    rw [E_F_token_run_l0, decide_eq_false (by omega), ff, E_F_token_run_b0]; rfl
  | c :: l, s, k, h, hs, hk => by
    obtain ⟨h1, h2⟩ := drop_lt h
    rw [E_F_token_run_l0, decide_eq_true (by omega), tt, sx_cons h, bs, P_wordy, bs, runL]
    cases letC c with
    | false => rw [ff, E_F_token_run_b0, if_neg (by decide)]; rfl
    | true =>
      rw [tt, if_pos rfl, wrap_id (by omega) (by omega)]
      have := P_run_l0 l s (k + 1) h2 hs (by omega)
      rw [show ((k + 1 : Nat) : Int) = (k : Int) + 1 from rfl] at this
      rw [this]
      congr 2; omega
theorem P_run (s : ByteArray) (hs : s.size ≤ 9223372036854775806) : F_token_run s = some (runL (L s) : Int) := by
  rw [E_F_token_run]
  have := P_run_l0 (L s) s 0 rfl hs (by omega)
  rw [Nat.zero_add] at this
  exact this
theorem P_R5_run_l0 : ∀ (l : List UInt8) (s : ByteArray) (k : Nat), (L s).drop k = l → s.size ≤ 9223372036854775806 → k ≤ s.size → F_R5_run_l0 s (k : Int) = some ((k + runL l : Nat) : Int)
  | [], s, k, h, hs, hk => by
    have := drop_nil h
    rw [E_F_R5_run_l0, decide_eq_false (by omega), ff, E_F_R5_run_b0]; rfl
  | c :: l, s, k, h, hs, hk => by
    obtain ⟨h1, h2⟩ := drop_lt h
    rw [E_F_R5_run_l0, decide_eq_true (by omega), tt, sx_cons h, bs, P_Letter, bs, runL]
    cases letC c with
    | false => rw [ff, E_F_R5_run_b0, if_neg (by decide)]; rfl
    | true =>
      rw [tt, if_pos rfl, wrap_id (by omega) (by omega)]
      have := P_R5_run_l0 l s (k + 1) h2 hs (by omega)
      rw [show ((k + 1 : Nat) : Int) = (k : Int) + 1 from rfl] at this
      rw [this]
      congr 2; omega
theorem P_R5_mark_l0 (c : UInt8) : ∀ (l : List UInt8) (s : ByteArray) (k : Nat), (L s).drop k = l → s.size ≤ 9223372036854775806 → k ≤ s.size → F_R5_mark_l0 (c.toNat : Int) s (k : Int) = some (l.any (fun d => decide (d = c)))
  | [], s, k, h, hs, hk => by
    have := drop_nil h
    rw [E_F_R5_mark_l0, decide_eq_false (by omega), ff]; rfl
  | d :: l, s, k, h, hs, hk => by
    obtain ⟨h1, h2⟩ := drop_lt h
    rw [E_F_R5_mark_l0, decide_eq_true (by omega), tt, sx_cons h, bs, utest, List.any_cons]
    cases decide (d = c) with
    | true => rw [tt]; rfl
    | false =>
      rw [ff, wrap_id (by omega) (by omega), Bool.false_or]
      exact P_R5_mark_l0 c l s (k + 1) h2 hs (by omega)
theorem P_R5_mark (c : UInt8) : F_R5_mark (c.toNat : Int) = some (markC c) := by
  rw [E_F_R5_mark]
  exact P_R5_mark_l0 c marksB _ 0 rfl (by decide) (by decide)
end Tk
end Go.Proofs.YtimdjillcaichaaDoorW.Ex.Gr
