/- The tokens of a source, and their join: the program's and the reference's. Conditions: those in each theorem. -/
import Derived.Test.YtimdjillcaichaaDoorVc
namespace Go.Proofs.YtimdjillcaichaaDoorW.Ex.Gr
open Go Go.Proofs.YtimdjillcaichaaDoorW.Ex Go.Proofs.YtimdjillcaichaaDoorW.Plain
set_option linter.all false
set_option maxRecDepth 100000
namespace Tk
theorem skip_suf : ∀ (l r : List UInt8), skipLine l = some r → ∃ p, l = p ++ r
  | [], r, h => by simp [skipLine] at h
  | c :: l, r, h => by
    have e : skipLine (c :: l) = if c = 10 then some l else skipLine l := rfl
    rw [e] at h
    split at h
    · cases h; exact ⟨[c], rfl⟩
    · obtain ⟨p, hp⟩ := skip_suf l r h
      exact ⟨c :: p, by rw [hp]; rfl⟩
theorem step_suf (l r : List UInt8) (h : trivStep l = some r) : ∃ p, l = p ++ r := by
  cases l with
  | nil => simp [trivStep] at h
  | cons c l =>
    rw [trivStep_cons] at h
    split at h
    · cases h; exact ⟨[c], rfl⟩
    · split at h
      · obtain ⟨p, hp⟩ := skip_suf l r h
        exact ⟨c :: p, by rw [hp]; rfl⟩
      · cases h
theorem rest_suf (l : List UInt8) : ∃ p, l = p ++ trivRest l := by
  have : ∀ n l, ∃ p, l = p ++ trivRestN n l := by
    intro n
    induction n with
    | zero => exact fun l => ⟨[], rfl⟩
    | succ n ih =>
      intro l
      unfold trivRestN
      cases hs : trivStep l with
      | none => exact ⟨[], rfl⟩
      | some r =>
        obtain ⟨p, hp⟩ := step_suf l r hs
        obtain ⟨q, hq⟩ := ih r
        exact ⟨p ++ q, by simp only; rw [List.append_assoc, ← hq, ← hp]⟩
  exact this _ l
theorem rest_drop (l : List UInt8) : trivRest l = l.drop (l.length - (trivRest l).length) := by
  obtain ⟨p, hp⟩ := rest_suf l
  have hl : l.length - (trivRest l).length = p.length := by
    have := congrArg List.length hp
    rw [List.length_append] at this; omega
  rw [hl]
  conv => rhs; rw [hp]
  rw [List.drop_left']; rfl
theorem next_le (l : List UInt8) : (nextL l).1 ≤ l.length := by
  cases l with
  | nil => exact Nat.le_refl _
  | cons c l =>
    have := runL_le (c :: l)
    rw [nextL]
    split
    · split
      · split
        · exact this
        · exact Nat.zero_le _
      · split
        · exact this
        · exact Nat.zero_le _
    · split
      · exact Nat.zero_le _
      · split
        · exact Nat.zero_le _
        · split
          · rename_i h
            cases l with
            | nil => simp at h
            | cons d l => simp
          · simp
theorem next_pos (l : List UInt8) (h : (nextL l).2 ≠ 0) : 0 < (nextL l).1 := by
  cases l with
  | nil => exact absurd rfl h
  | cons c l =>
    rw [nextL] at h ⊢
    by_cases hw : letC c = true
    · have := run_pos l hw
      rw [if_pos hw] at h ⊢
      split
      · rename_i hd
        rw [if_pos hd] at h
        split
        · exact this
        · rename_i hi; rw [if_neg hi] at h; exact absurd rfl h
      · rename_i hd
        rw [if_neg hd] at h
        split
        · exact this
        · rename_i hi; rw [if_neg hi] at h; exact absurd rfl h
    · rw [if_neg hw] at h ⊢
      split
      · rename_i hm; rw [if_pos hm] at h; exact absurd rfl h
      · rename_i hm
        rw [if_neg hm] at h
        split
        · rename_i h7; rw [if_pos h7] at h; exact absurd rfl h
        · split <;> decide
/-- The tokens of the rest l of a source of S bytes (f: more than the bytes that are left), or the offset at which there is none. -/
def toksF (S : Nat) : Nat → List UInt8 → Except Nat (List Token)
  | 0, _ => .ok []
  | f + 1, l =>
    if trivRest l = [] then .ok [⟨4, ofB l, ⟨#[]⟩, (S : Int)⟩]
    else if (nextL (trivRest l)).2 = 0 then .error (S - (trivRest l).length)
    else match toksF S f ((trivRest l).drop (nextL (trivRest l)).1) with
      | .ok m => .ok (⟨(nextL (trivRest l)).2, ofB (l.take (l.length - (trivRest l).length)), ofB ((trivRest l).take (nextL (trivRest l)).1), ((S - (trivRest l).length : Nat) : Int)⟩ :: m)
      | .error e => .error e
def endT (acc : List Token) : Except Nat (List Token) → List Token × Int × Int
  | .ok m => (acc ++ m, 0, 0)
  | .error e => ([], 1, (e : Int))
theorem end_cons (acc : List Token) (t : Token) (x : Except Nat (List Token)) : endT (acc ++ [t]) x = endT acc (match x with | .ok m => .ok (t :: m) | .error e => .error e) := by
  cases x with
  | ok m => simp [endT]
  | error e => rfl
theorem P_End (s : ByteArray) (k : Nat) (hs : s.size ≤ 9223372036854775807) (hk : k ≤ s.size) : F_trivia_End s (k : Int) = some ((s.size - (trivRest ((L s).drop k)).length : Nat) : Int) ∧ F_R4_End s (k : Int) = some ((s.size - (trivRest ((L s).drop k)).length : Nat) : Int) := by
  unfold F_trivia_End F_R4_End
  rw [if_pos hs, endAt_in hk]
  exact ⟨rfl, rfl⟩
theorem app_ok' {α : Type} {by_ : Nat} {l m : List α} (h : (l.length + m.length) * by_ ≤ 140737488355328) (h2 : l.length + m.length ≤ 9223372036854775807) : app by_ l m = some (l ++ m) := by
  unfold app; rw [if_pos ⟨h, h2⟩]
/-- What is left behind trivia, and where. -/
theorem rest_at (s : ByteArray) (k : Nat) (hk : k ≤ s.size) : (L s).drop (s.size - (trivRest ((L s).drop k)).length) = trivRest ((L s).drop k) ∧ k ≤ s.size - (trivRest ((L s).drop k)).length ∧ (trivRest ((L s).drop k)).length ≤ s.size := by
  have h1 := rest_drop ((L s).drop k)
  have h2 := trivRest_le ((L s).drop k)
  have h3 : ((L s).drop k).length = s.size - k := by rw [List.length_drop, len_L]
  rw [List.drop_drop, h3] at h1
  refine ⟨?_, by omega, by omega⟩
  rw [show k + (s.size - k - (trivRest ((L s).drop k)).length) = s.size - (trivRest ((L s).drop k)).length by omega] at h1
  exact h1.symm
theorem P_Tokens_l0 (s : ByteArray) (hs : s.size ≤ 65536) : ∀ (f : Nat) (acc : List Token) (k : Nat), k ≤ s.size → s.size - k < f → acc.length + (s.size - k) ≤ 65536 →
    F_token_Tokens_l0 s acc (k : Int) = some (endT acc (toksF s.size f ((L s).drop k)))
  | 0, acc, k, _, h, _ => absurd h (by omega)
  | f + 1, acc, k, hk, hf, ha => by
    obtain ⟨r1, r2, r3⟩ := rest_at s k hk
    have hlen : ((L s).drop k).length = s.size - k := by rw [List.length_drop, len_L]
    rw [E_F_token_Tokens_l0, (P_End s k (by omega) hk).1, bs, toksF]
    generalize hr : trivRest ((L s).drop k) = r at r1 r2 r3
    by_cases h0 : r = []
    · subst h0
      rw [List.length_nil, decide_eq_true (show ((s.size - 0 : Nat) : Int) = (s.size : Int) by omega), tt, if_pos rfl, ssub_at hk (Nat.le_refl _), bs, app_ok' (by rw [List.length_singleton]; omega) (by rw [List.length_singleton]; omega), bs,
        List.take_of_length_le (by omega)]
      rfl
    · have hp : 0 < r.length := List.length_pos_iff.2 h0
      have hn := next_le r
      rw [decide_eq_false (show ¬ ((s.size - r.length : Nat) : Int) = (s.size : Int) by omega), ff, if_neg h0, ssub_at (by omega) (Nat.le_refl _), bs, r1, List.take_of_length_le (by omega), P_first _ (by rw [size_ofB]; omega), bs, L_ofB]
      simp only
      by_cases h2 : (nextL r).2 = 0
      · rw [decide_eq_true h2, tt, if_pos h2]; rfl
      · have hpos := next_pos r h2
        rw [decide_eq_false h2, ff, if_neg h2, ssub_at r2 (by omega), bs, wrap_id (by omega) (by omega), show ((s.size - r.length : Nat) : Int) + ((nextL r).1 : Int) = ((s.size - r.length + (nextL r).1 : Nat) : Int) by omega,
          ssub_at (by omega) (by omega), bs, app_ok' (by rw [List.length_singleton]; omega) (by rw [List.length_singleton]; omega), bs, r1,
          P_Tokens_l0 s hs f _ (s.size - r.length + (nextL r).1) (by omega) (by omega) (by rw [List.length_append, List.length_singleton]; omega), end_cons]
        rw [hlen, ← List.drop_drop, r1, show s.size - r.length + (nextL r).1 - (s.size - r.length) = (nextL r).1 by omega, show s.size - k - r.length = s.size - r.length - k by omega]
def resT (s : ByteArray) : List Token × Int × Int := if 65536 < s.size then ([], 3, 0) else endT [] (toksF s.size (s.size + 1) (L s))
theorem P_Tokens (s : ByteArray) : F_token_Tokens s = some (resT s) := by
  rw [E_F_token_Tokens]
  unfold resT
  by_cases h : 65536 < s.size
  · rw [decide_eq_true (by omega), tt, if_pos h]
  · rw [decide_eq_false (by omega), ff, if_neg h]
    have := P_Tokens_l0 s (by omega) (s.size + 1) [] 0 (by omega) (by omega) (by simp; omega)
    rw [List.drop_zero] at this
    exact this
theorem P_R5_Tokens_l0 (s : ByteArray) (hs : s.size ≤ 65536) : ∀ (f : Nat) (acc : List Token) (k : Nat), k ≤ s.size → s.size - k < f → acc.length + (s.size - k) ≤ 65536 →
    F_R5_Tokens_l0 s acc (k : Int) = some (endT acc (toksF s.size f ((L s).drop k)))
  | 0, acc, k, _, h, _ => absurd h (by omega)
  | f + 1, acc, k, hk, hf, ha => by
    obtain ⟨r1, r2, r3⟩ := rest_at s k hk
    have hlen : ((L s).drop k).length = s.size - k := by rw [List.length_drop, len_L]
    rw [E_F_R5_Tokens_l0, decide_eq_true (by omega), tt, (P_End s k (by omega) hk).2, bs, toksF]
    generalize hr : trivRest ((L s).drop k) = r at r1 r2 r3
    by_cases h0 : r = []
    · subst h0
      rw [List.length_nil, decide_eq_true (show (s.size : Int) ≤ ((s.size - 0 : Nat) : Int) by omega), tt, if_pos rfl, ssub_at hk (Nat.le_refl _), bs, app_ok' (by rw [List.length_singleton]; omega) (by rw [List.length_singleton]; omega), bs,
        List.take_of_length_le (by omega)]
      rfl
    · have hp : 0 < r.length := List.length_pos_iff.2 h0
      have hn := next_le r
      rw [decide_eq_false (show ¬ (s.size : Int) ≤ ((s.size - r.length : Nat) : Int) by omega), ff, if_neg h0, P_R5_next s _ (by omega) (by omega), bs, r1]
      simp only
      by_cases h2 : (nextL r).2 = 0
      · rw [decide_eq_true h2, tt, if_pos h2]; rfl
      · have hpos := next_pos r h2
        rw [decide_eq_false h2, ff, if_neg h2, ssub_at r2 (by omega), bs,
          ssub_at (by omega) (by omega), bs, app_ok' (by rw [List.length_singleton]; omega) (by rw [List.length_singleton]; omega), bs, r1,
          P_R5_Tokens_l0 s hs f _ (s.size - r.length + (nextL r).1) (by omega) (by omega) (by rw [List.length_append, List.length_singleton]; omega), end_cons]
        rw [hlen, ← List.drop_drop, r1, show s.size - r.length + (nextL r).1 - (s.size - r.length) = (nextL r).1 by omega, show s.size - k - r.length = s.size - r.length - k by omega]
theorem P_R5_Tokens (s : ByteArray) : F_R5_Tokens s = some (resT s) := by
  rw [E_F_R5_Tokens]
  unfold resT
  by_cases h : 65536 < s.size
  · rw [decide_eq_true (by omega), tt, if_pos h]
  · rw [decide_eq_false (by omega), ff, if_neg h]
    have := P_R5_Tokens_l0 s (by omega) (s.size + 1) [] 0 (by omega) (by omega) (by simp; omega)
    rw [List.drop_zero] at this
    exact this
/-! ### Join -/
theorem P_Join (l : List Token) (h : (joinL l).length ≤ 140737488355328) : F_token_Join l = some (ofB (joinL l)) := by
  unfold F_token_Join; rw [if_pos h]; rfl
theorem L_append (a b : ByteArray) : L (a ++ b) = L a ++ L b := by
  unfold L; rw [ByteArray.data_append, Array.toList_append]
theorem ix_pre' {α : Type} (pre : List α) (m : α) (l : List α) : ix (pre ++ m :: l) (pre.length : Int) = some m := by
  rw [ix_nat, List.getElem?_append_right (Nat.le_refl _), Nat.sub_self]; rfl
theorem P_R5_Join_l0 : ∀ (l pre T : List Token) (acc : ByteArray), T = pre ++ l → T.length ≤ 9223372036854775806 → acc.size + (joinL l).length ≤ 9223372036854775807 → F_R5_Join_l0 T acc (pre.length : Int) = some (ofB (L acc ++ joinL l))
  | [], pre, T, acc, h, hT, hs => by
    rw [E_F_R5_Join_l0, decide_eq_false (by rw [List.length_map, h, List.append_nil]; omega), ff, joinL, List.append_nil, ofB_L]
  | t :: l, pre, T, acc, h, hT, hs => by
    have hl : T.length = pre.length + (l.length + 1) := by rw [h, List.length_append, List.length_cons]
    have e1 : t.Lead.data.toList.length = t.Lead.size := Array.length_toList
    have e2 : t.Text.data.toList.length = t.Text.size := Array.length_toList
    rw [joinL, List.length_append, List.length_append, e1, e2] at hs
    have hx : ix T (pre.length : Int) = some t := by rw [h, ix_pre']
    rw [E_F_R5_Join_l0, decide_eq_true (by rw [List.length_map]; omega), tt, hx, bs]
    have c1 : cat acc t.Lead = some (acc ++ t.Lead) := by unfold cat; rw [if_pos (by omega)]
    have s1 : (acc ++ t.Lead).size = acc.size + t.Lead.size := ByteArray.size_append
    have c2 : cat (acc ++ t.Lead) t.Text = some (acc ++ t.Lead ++ t.Text) := by unfold cat; rw [if_pos (by omega)]
    have s2 : (acc ++ t.Lead ++ t.Text).size = acc.size + t.Lead.size + t.Text.size := by rw [ByteArray.size_append, s1]
    have := P_R5_Join_l0 l (pre ++ [t]) T (acc ++ t.Lead ++ t.Text) (by rw [h, List.append_assoc]; rfl) hT (by omega)
    rw [List.length_append, List.length_singleton] at this
    rw [c1, bs, bs, c2, bs, wrap_id (by omega) (by omega), show (pre.length : Int) + 1 = ((pre.length + 1 : Nat) : Int) from rfl, this, joinL, L_append, L_append]
    simp [L, List.append_assoc]
theorem P_R5_Join (l : List Token) (hT : l.length ≤ 9223372036854775806) (h : (joinL l).length ≤ 9223372036854775807) : F_R5_Join l = some (ofB (joinL l)) := by
  rw [E_F_R5_Join]
  have := P_R5_Join_l0 l [] l ⟨#[]⟩ rfl hT (by show 0 + _ ≤ _; omega)
  exact this
theorem P_Same_l0 : ∀ (l pre T : List Token), T = pre ++ l → T.length ≤ 9223372036854775806 → F_R5_Same_l0 T T (pre.length : Int) = some true
  | [], pre, T, h, hT => by
    rw [E_F_R5_Same_l0, decide_eq_false (by rw [List.length_map, h, List.append_nil]; omega), ff]
  | t :: l, pre, T, h, hT => by
    have hl : T.length = pre.length + (l.length + 1) := by rw [h, List.length_append, List.length_cons]
    have hx : ix T (pre.length : Int) = some t := by rw [h, ix_pre']
    have := P_Same_l0 l (pre ++ [t]) T (by rw [h, List.append_assoc]; rfl) hT
    rw [List.length_append, List.length_singleton] at this
    rw [E_F_R5_Same_l0, decide_eq_true (by rw [List.length_map]; omega), tt, hx, bs, bs, wrap_id (by omega) (by omega), show (pre.length : Int) + 1 = ((pre.length + 1 : Nat) : Int) from rfl, this]
    simp
theorem P_Same (l : List Token) (hT : l.length ≤ 9223372036854775806) : F_R5_Same l l = some true := by
  rw [E_F_R5_Same, decide_eq_true rfl, nff]
  exact P_Same_l0 l [] l rfl hT
end Tk
end Go.Proofs.YtimdjillcaichaaDoorW.Ex.Gr
