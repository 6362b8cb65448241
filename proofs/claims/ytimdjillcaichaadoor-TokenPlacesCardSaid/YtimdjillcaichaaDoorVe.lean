/- Tokens side by side: plain facts. Conditions: those in each theorem. -/
import Derived.Test.YtimdjillcaichaaDoorVd
namespace Go.Proofs.YtimdjillcaichaaDoorW.Ex.Gr
open Go Go.Proofs.YtimdjillcaichaaDoorW.Ex Go.Proofs.YtimdjillcaichaaDoorW.Plain
set_option linter.all false
set_option maxRecDepth 100000
namespace Tk
/-! ### What a token reads alone -/
theorem run_all : ∀ (l r : List UInt8), runL l = l.length → (∀ c, r.head? = some c → letC c = false) → runL (l ++ r) = l.length
  | [], r, _, h => by
    cases r with
    | nil => rfl
    | cons c r => rw [List.nil_append, runL, h c rfl]; rfl
  | c :: l, r, h, h2 => by
    rw [runL] at h
    split at h
    · rename_i hc
      rw [List.length_cons] at h
      rw [List.cons_append, runL, if_pos hc, run_all l r (by omega) h2, List.length_cons]
    · rw [List.length_cons] at h; omega
theorem run_take : ∀ (l : List UInt8), runL (l.take (runL l)) = runL l
  | [] => rfl
  | c :: l => by
    by_cases hc : letC c = true
    · have e : runL (c :: l) = runL l + 1 := by rw [runL, if_pos hc]
      rw [e, List.take_succ_cons, runL, if_pos hc, run_take l]
    · have e : runL (c :: l) = 0 := by rw [runL, if_neg hc]
      rw [e]; rfl
theorem run_last : ∀ (l : List UInt8), l ≠ [] → runL l = l.length → letC (l.getLastD 0) = true
  | [], h, _ => absurd rfl h
  | [c], _, h => by
    rw [runL] at h
    split at h
    · rename_i hc; exact hc
    · simp at h
  | c :: d :: l, _, h => by
    rw [runL] at h
    split at h
    · rw [List.length_cons] at h
      have := run_last (d :: l) (by simp) (by omega)
      simpa using this
    · rw [List.length_cons] at h; omega
theorem mark47 : letC 47 = false ∧ markC 47 = true ∧ letC 61 = false ∧ markC 61 = true ∧ letC 32 = false ∧ markC 32 = false := by decide
/-- A token is what its own text reads. -/
theorem next_take (r : List UInt8) (h : (nextL r).2 ≠ 0) : nextL (r.take (nextL r).1) = nextL r := by
  cases r with
  | nil => rfl
  | cons c l =>
    by_cases hw : letC c = true
    · have hpos := run_pos l hw
      obtain ⟨n, hn⟩ : ∃ n, runL (c :: l) = n + 1 := ⟨runL (c :: l) - 1, by omega⟩
      have ht : (c :: l).take (runL (c :: l)) = c :: l.take n := by rw [hn, List.take_succ_cons]
      have hrt : runL (c :: l.take n) = runL (c :: l) := by rw [← ht, run_take]
      have htt : (c :: l.take n).take (runL (c :: l)) = c :: l.take n := by rw [← ht]; exact List.take_of_length_le (by rw [List.length_take]; omega)
      cases hd : digC c with
      | true =>
        rw [nx_dig l hd] at h ⊢
        by_cases hi : integerB ((c :: l).take (runL (c :: l))) = true
        · rw [if_pos hi]
          show nextL ((c :: l).take (runL (c :: l))) = _
          rw [ht] at hi ⊢
          rw [nx_dig _ hd, hrt, htt, if_pos hi]
        · rw [if_neg hi] at h; exact absurd rfl h
      | false =>
        rw [nx_let l hw hd] at h ⊢
        by_cases hi : runL (c :: l) ≤ 32
        · rw [if_pos hi]
          show nextL ((c :: l).take (runL (c :: l))) = _
          rw [ht, nx_let _ hw hd, hrt, if_pos hi]
        · rw [if_neg hi] at h; exact absurd rfl h
    · have hw : letC c = false := by simpa using hw
      cases hm : markC c with
      | false => rw [nx_none l hw hm] at h; exact absurd rfl h
      | true =>
        rw [nx_mark l hw hm] at h ⊢
        by_cases h7 : c = 47 ∧ l.head? = some 47
        · rw [if_pos h7] at h; exact absurd rfl h
        · rw [if_neg h7]
          by_cases h6 : c = 61 ∧ l.head? = some 61
          · rw [if_pos h6]
            obtain ⟨rfl, hl⟩ := h6
            cases l with
            | nil => cases hl
            | cons d r => cases hl; show nextL [61, 61] = (2, 3); decide
          · rw [if_neg h6]
            show nextL [c] = (1, 3)
            rw [nx_mark [] hw hm, if_neg (by simp), if_neg (by simp)]
theorem kind_take (r : List UInt8) (h : (nextL r).2 ≠ 0) : kindL (r.take (nextL r).1) = (nextL r).2 := by
  unfold kindL
  rw [next_take r h, if_pos (by rw [List.length_take]; have := next_le r; omega)]
/-- What may follow a token without being read with it. -/
def Apart (t r : List UInt8) : Prop := ∀ c, r.head? = some c → ¬ (letC (t.getLastD 0) = true ∧ letC c = true) ∧ ¬ (t = [61] ∧ c = 61) ∧ ¬ (t = [47] ∧ c = 47)
theorem apart_nil (t : List UInt8) : Apart t [] := fun c h => by cases h
theorem apart_space (t r : List UInt8) : Apart t (32 :: r) := fun c h => by
  cases h
  refine ⟨fun h => ?_, fun h => ?_, fun h => ?_⟩
  · rw [mark47.2.2.2.2.1] at h; exact absurd h.2 (by decide)
  · exact absurd h.2 (by decide)
  · exact absurd h.2 (by decide)
/-- The shapes of a token's text. -/
theorem kind_cases {t : List UInt8} (h : kindL t ≠ 0) : t ≠ [] ∧ nextL t = (t.length, kindL t) ∧
    ((letC (t.headD 0) = true ∧ runL t = t.length) ∨ (∃ c, t = [c] ∧ letC c = false ∧ markC c = true ∧ kindL t = 3) ∨ (t = [61, 61] ∧ kindL t = 3)) := by
  have hn : (nextL t).1 = t.length ∧ kindL t = (nextL t).2 := by
    unfold kindL at h ⊢
    split at h
    · rename_i e; rw [if_pos e]; exact ⟨e, rfl⟩
    · exact absurd rfl h
  have h2 : (nextL t).2 ≠ 0 := by rw [← hn.2]; exact h
  cases t with
  | nil => exact absurd rfl h2
  | cons c l =>
    refine ⟨by simp, by rw [← hn.1, hn.2], ?_⟩
    by_cases hw : letC c = true
    · refine .inl ⟨hw, ?_⟩
      cases hd : digC c with
      | true =>
        rw [nx_dig l hd] at h2 hn
        split at h2
        · rename_i hi; rw [if_pos hi] at hn; exact hn.1
        · exact absurd rfl h2
      | false =>
        rw [nx_let l hw hd] at h2 hn
        split at h2
        · rename_i hi; rw [if_pos hi] at hn; exact hn.1
        · exact absurd rfl h2
    · have hw : letC c = false := by simpa using hw
      cases hm : markC c with
      | false => rw [nx_none l hw hm] at h2; exact absurd rfl h2
      | true =>
        rw [nx_mark l hw hm] at h2 hn
        by_cases h7 : c = 47 ∧ l.head? = some 47
        · rw [if_pos h7] at h2; exact absurd rfl h2
        · rw [if_neg h7] at hn
          by_cases h6 : c = 61 ∧ l.head? = some 61
          · rw [if_pos h6] at hn
            obtain ⟨rfl, hl⟩ := h6
            cases l with
            | nil => cases hl
            | cons d r =>
              cases hl
              have := hn.1
              simp only [List.length_cons] at this
              obtain rfl : r = [] := List.length_eq_zero_iff.1 (by omega)
              exact .inr (.inr ⟨rfl, hn.2⟩)
          · rw [if_neg h6] at hn
            have := hn.1
            simp only [List.length_cons] at this
            obtain rfl : l = [] := List.length_eq_zero_iff.1 (by omega)
            exact .inr (.inl ⟨c, rfl, hw, hm, hn.2⟩)
theorem next_app {t r : List UInt8} (h : kindL t ≠ 0) (ha : Apart t r) : nextL (t ++ r) = (t.length, kindL t) := by
  obtain ⟨h0, h1, h2⟩ := kind_cases h
  rcases h2 with ⟨hw, hr⟩ | ⟨c, rfl, hw, hm, hk⟩ | ⟨rfl, hk⟩
  · have hlast := run_last t h0 hr
    have hra := run_all t r hr (fun c hc => by
      have := (ha c hc).1
      cases e : letC c with
      | false => rfl
      | true => exact absurd ⟨hlast, e⟩ this)
    cases t with
    | nil => exact absurd rfl h0
    | cons c l =>
      have hw : letC c = true := hw
      rw [← h1, List.cons_append]
      rw [List.cons_append] at hra
      cases hd : digC c with
      | true =>
        rw [nx_dig _ hd, nx_dig _ hd, hra, hr, List.take_of_length_le (Nat.le_refl _), ← List.cons_append, List.take_left']
        rfl
      | false => rw [nx_let _ hw hd, nx_let _ hw hd, hra, hr]
  · rw [List.singleton_append, nx_mark r hw hm, hk]
    have h7 : ¬ (c = 47 ∧ r.head? = some 47) := by rintro ⟨rfl, e⟩; exact (ha 47 e).2.2 ⟨rfl, rfl⟩
    have h6 : ¬ (c = 61 ∧ r.head? = some 61) := by rintro ⟨rfl, e⟩; exact (ha 61 e).2.1 ⟨rfl, rfl⟩
    rw [if_neg h7, if_neg h6]; rfl
  · rw [hk]
    show nextL (61 :: 61 :: r) = (2, 3)
    rw [nx_mark _ mark47.2.2.1 mark47.2.2.2.1, if_neg (by simp), if_pos ⟨rfl, rfl⟩]
theorem step_app {t r : List UInt8} (h : kindL t ≠ 0) (ha : Apart t r) : trivStep (t ++ r) = none := by
  obtain ⟨h0, h1, h2⟩ := kind_cases h
  have cl : ∀ (c : UInt8) (l : List UInt8), (letC c = true ∨ markC c = true) → ¬ (c = 47 ∧ l.head? = some 47) → trivStep (c :: l) = none := by
    intro c l hc h7
    rw [trivStep_cons, if_neg, if_neg h7]
    rintro (rfl | rfl | rfl) <;> revert hc <;> decide
  rcases h2 with ⟨hw, hr⟩ | ⟨c, rfl, hw, hm, hk⟩ | ⟨rfl, hk⟩
  · cases t with
    | nil => exact absurd rfl h0
    | cons c l =>
      have hw : letC c = true := hw
      refine cl c _ (.inl hw) ?_
      rintro ⟨rfl, _⟩
      rw [mark47.1] at hw; cases hw
  · exact cl c r (.inr hm) (by rintro ⟨rfl, e⟩; exact (ha 47 e).2.2 ⟨rfl, rfl⟩)
  · exact cl 61 _ (.inr mark47.2.2.2.1) (by rintro ⟨e, _⟩; exact absurd e (by decide))
theorem rest_app {t r : List UInt8} (h : kindL t ≠ 0) (ha : Apart t r) : trivRest (t ++ r) = t ++ r := trivRest_none _ (step_app h ha)
theorem rest_space (l : List UInt8) : trivRest (32 :: l) = trivRest l := trivRest_some _ _ (by rw [trivStep_cons, if_pos (.inl rfl)])
/-! ### Trivia alone -/
theorem skip_pre : ∀ (p r q : List UInt8), skipLine (p ++ r) = some (q ++ r) → q.length < p.length → skipLine p = some q
  | [], r, q, h, hl => absurd hl (by simp)
  | c :: p, r, q, h, hl => by
    have e : skipLine (c :: (p ++ r)) = if c = 10 then some (p ++ r) else skipLine (p ++ r) := rfl
    have e2 : skipLine (c :: p) = if c = 10 then some p else skipLine p := rfl
    rw [List.cons_append, e] at h
    rw [e2]
    split at h
    · rename_i hc
      rw [if_pos hc]
      have := List.append_cancel_right (Option.some.inj h)
      rw [this]
    · rename_i hc
      rw [if_neg hc]
      have hlt := skipLine_lt _ _ h
      rw [List.length_append, List.length_append] at hlt
      exact skip_pre p r q h (by omega)
theorem step_pre (p r q : List UInt8) (h : trivStep (p ++ r) = some (q ++ r)) : trivStep p = some q := by
  have hlt := trivStep_lt _ _ h
  rw [List.length_append, List.length_append] at hlt
  cases p with
  | nil => simp at hlt; omega
  | cons c p =>
    rw [List.cons_append, trivStep_cons] at h
    rw [trivStep_cons]
    split at h
    · rename_i hc
      rw [if_pos hc, List.append_cancel_right (Option.some.inj h)]
    · rename_i hc
      rw [if_neg hc]
      split at h
      · rename_i h7
        have hlt := skipLine_lt _ _ h
        rw [List.length_append, List.length_append] at hlt
        cases p with
        | nil => simp at hlt; omega
        | cons d p =>
          rw [if_pos ⟨h7.1, by have := h7.2; rw [List.cons_append, List.head?_cons] at this; exact this⟩]
          exact skip_pre _ r q h (by omega)
      · cases h
/-- The trivia at the begin of a text are trivia. -/
theorem rest_pre (p r : List UInt8) (h : trivRest (p ++ r) = r) : trivRest p = [] := by
  have : ∀ n (p r : List UInt8), p.length ≤ n → trivRest (p ++ r) = r → trivRest p = [] := by
    intro n
    induction n with
    | zero =>
      intro p r hl _
      obtain rfl : p = [] := List.length_eq_zero_iff.1 (by omega)
      rfl
    | succ n ih =>
      intro p r hl h
      cases hs : trivStep (p ++ r) with
      | none =>
        rw [trivRest_none _ hs] at h
        have := congrArg List.length h
        rw [List.length_append] at this
        obtain rfl : p = [] := List.length_eq_zero_iff.1 (by omega)
        rfl
      | some x =>
        rw [trivRest_some _ _ hs] at h
        obtain ⟨q, hq⟩ := rest_suf x
        rw [h] at hq
        subst hq
        have h2 := step_pre p r q hs
        have hlt := trivStep_lt _ _ h2
        rw [trivRest_some _ _ h2]
        exact ih q r (by omega) h
  exact this p.length p r (Nat.le_refl _) h
/-! ### The tokens of a source, one by one -/
inductive TL (s : ByteArray) : Nat → List Token → Prop
  | fin {k : Nat} (hk : k ≤ s.size) (hv : trivRest ((L s).drop k) = []) : TL s k [⟨4, ofB ((L s).drop k), ⟨#[]⟩, (s.size : Int)⟩]
  | cons {k a n : Nat} {kd : Int} {m : List Token} (h : k ≤ a) (ha : a + n ≤ s.size) (hn : 0 < n) (hkd : kd ≠ 0) (hlead : trivRest (((L s).drop k).take (a - k)) = []) (hnext : nextL ((L s).drop a) = (n, kd)) (t : TL s (a + n) m) :
      TL s k (⟨kd, ofB (((L s).drop k).take (a - k)), ofB (((L s).drop a).take n), (a : Int)⟩ :: m)
theorem toks_TL (s : ByteArray) : ∀ (f k : Nat) (m : List Token), k ≤ s.size → s.size - k < f → toksF s.size f ((L s).drop k) = .ok m → TL s k m
  | 0, k, m, _, h, _ => absurd h (by omega)
  | f + 1, k, m, hk, hf, h => by
    obtain ⟨r1, r2, r3⟩ := rest_at s k hk
    have hlen : ((L s).drop k).length = s.size - k := by rw [List.length_drop, len_L]
    have hsuf := rest_drop ((L s).drop k)
    have hpre := rest_suf ((L s).drop k)
    rw [toksF] at h
    by_cases h0 : trivRest ((L s).drop k) = []
    · rw [if_pos h0] at h
      cases h
      exact .fin hk h0
    · rw [if_neg h0] at h
      by_cases h2 : (nextL (trivRest ((L s).drop k))).2 = 0
      · rw [if_pos h2] at h; cases h
      · rw [if_neg h2] at h
        have hn := next_le (trivRest ((L s).drop k))
        have hp := next_pos _ h2
        have hlead : trivRest (((L s).drop k).take (s.size - (trivRest ((L s).drop k)).length - k)) = [] := by
          refine rest_pre _ (trivRest ((L s).drop k)) ?_
          have e : ((L s).drop k).take (s.size - (trivRest ((L s).drop k)).length - k) ++ trivRest ((L s).drop k) = (L s).drop k := by
            conv => lhs; rhs; rw [hsuf]
            rw [hlen, show s.size - (trivRest ((L s).drop k)).length - k = s.size - k - (trivRest ((L s).drop k)).length by omega, List.take_append_drop]
          rw [e]
        cases hx : toksF s.size f ((trivRest ((L s).drop k)).drop (nextL (trivRest ((L s).drop k))).1) with
        | error e => rw [hx] at h; cases h
        | ok m' =>
          rw [hx] at h
          cases h
          have ht := toks_TL s f (s.size - (trivRest ((L s).drop k)).length + (nextL (trivRest ((L s).drop k))).1) m' (by omega) (by omega) (by rw [← List.drop_drop, r1]; exact hx)
          have hc := TL.cons (s := s) (k := k) (kd := (nextL (trivRest ((L s).drop k))).2) r2 (by omega) hp h2 hlead (by rw [r1]) ht
          rw [r1] at hc
          rw [hlen, show s.size - k - (trivRest ((L s).drop k)).length = s.size - (trivRest ((L s).drop k)).length - k by omega]
          exact hc
theorem TL.join {s : ByteArray} {k : Nat} {m : List Token} (h : TL s k m) : joinL m = (L s).drop k := by
  induction h with
  | fin hk hv => rw [joinL, joinL]; show L (ofB _) ++ L (ofB []) ++ [] = _; rw [L_ofB, L_ofB]; simp
  | @cons k a n kd m h ha hn hkd hlead hnext t ih =>
    rw [joinL, ih]
    show L (ofB _) ++ L (ofB _) ++ _ = _
    rw [L_ofB, L_ofB, List.append_assoc, ← List.drop_drop, List.take_append_drop]
    have : (L s).drop a = ((L s).drop k).drop (a - k) := by rw [List.drop_drop]; congr 1; omega
    rw [this, List.take_append_drop]
theorem TL.count {s : ByteArray} {k : Nat} {m : List Token} (h : TL s k m) : m.length + k ≤ s.size + 1 := by
  induction h with
  | fin hk hv => rw [List.length_singleton]; omega
  | cons h ha hn _ _ _ t ih => rw [List.length_cons]; omega
end Tk
end Go.Proofs.YtimdjillcaichaaDoorW.Ex.Gr
