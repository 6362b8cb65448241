/- The statements about tokens return true. Conditions: those in each theorem. -/
import Derived.Test.YtimdjillcaichaaDoorVe
namespace Go.Proofs.YtimdjillcaichaaDoorW.Ex.Gr
open Go Go.Proofs.YtimdjillcaichaaDoorW.Ex Go.Proofs.YtimdjillcaichaaDoorW.Plain
set_option linter.all false
set_option maxRecDepth 100000
namespace Tk
theorem P_awake : F_L5_awake = some true := by
  rw [E_F_L5_awake, P_Tokens, P_Tokens, P_Tokens, P_Tokens, bs, bs, bs, bs]
  have e1 : resT (⟨#[97, 61, 49, 59]⟩ : ByteArray) = ([⟨1, ⟨#[]⟩, ⟨#[97]⟩, 0⟩, ⟨3, ⟨#[]⟩, ⟨#[61]⟩, 1⟩, ⟨2, ⟨#[]⟩, ⟨#[49]⟩, 2⟩, ⟨3, ⟨#[]⟩, ⟨#[59]⟩, 3⟩, ⟨4, ⟨#[]⟩, ⟨#[]⟩, 4⟩], 0, 0) := by kernel_rfl
  have e2 : resT (⟨#[97, 32, 48, 49]⟩ : ByteArray) = ([], 1, 2) := by kernel_rfl
  have e3 : resT (⟨#[97, 32, 47, 47, 32, 120]⟩ : ByteArray) = ([], 1, 2) := by kernel_rfl
  have e4 : resT (⟨#[32]⟩ : ByteArray) = ([⟨4, ⟨#[32]⟩, ⟨#[]⟩, 1⟩], 0, 0) := by kernel_rfl
  rw [e1, e2, e3, e4]
  have j : F_token_Join [⟨1, ⟨#[]⟩, ⟨#[97]⟩, 0⟩, ⟨3, ⟨#[]⟩, ⟨#[61]⟩, 1⟩, ⟨2, ⟨#[]⟩, ⟨#[49]⟩, 2⟩, ⟨3, ⟨#[]⟩, ⟨#[59]⟩, 3⟩, ⟨4, ⟨#[]⟩, ⟨#[]⟩, 4⟩] = some ⟨#[97, 61, 49, 59]⟩ := by
    rw [P_Join _ (by decide)]; kernel_rfl
  have g1 : F_token_Glue ⟨#[97]⟩ ⟨#[49]⟩ = some true := by rw [(P_Glue _ _ (by decide)).1]; kernel_rfl
  have g2 : F_token_Glue ⟨#[61, 61]⟩ ⟨#[61]⟩ = some false := by rw [(P_Glue _ _ (by decide)).1]; kernel_rfl
  have k1 : F_token_Kind ⟨#[102, 110]⟩ = some 1 := by rw [P_Kind _ (by decide)]; kernel_rfl
  have k2 : F_token_Kind ⟨#[49, 48, 48, 48, 48, 48, 48, 48, 48, 48, 48, 48, 49]⟩ = some 0 := by rw [P_Kind _ (by decide)]; kernel_rfl
  simp only [j, g1, g2, k1, k2]
  show _ = some true
  kernel_rfl
theorem awk : (F_L5_awake >>= fun x => some x) = some true := by rw [P_awake]; rfl
/-- What Tokens returns: tokens, or an error. -/
theorem res_cases (s : ByteArray) (hs : s.size ≤ 65536) : (∃ m, resT s = (m, 0, 0) ∧ TL s 0 m) ∨ (∃ e, resT s = ([], 1, e)) := by
  unfold resT
  rw [if_neg (by omega)]
  cases h : toksF s.size (s.size + 1) (L s) with
  | ok m => exact .inl ⟨m, rfl, toks_TL s (s.size + 1) 0 m (by omega) (by omega) h⟩
  | error e => exact .inr ⟨e, rfl⟩
theorem P_TokenReads (s : ByteArray) : F_L5_TokenReads s = some true := by
  rw [E_F_L5_TokenReads]
  by_cases h : 1000 < s.size
  · rw [decide_eq_true (by omega), tt]; exact awk
  · rw [decide_eq_false (by omega), ff, P_Tokens, bs, P_R5_Tokens, bs]
    have hl : (resT s).1.length ≤ 9223372036854775806 := by
      rcases res_cases s (by omega) with ⟨m, e, ht⟩ | ⟨e, he⟩
      · rw [e]; have := ht.count; show m.length ≤ _; omega
      · rw [he]; show ([] : List Token).length ≤ _; decide
    rw [P_Same _ hl, bs, tt, decide_eq_true rfl, tt, decide_eq_true rfl, tt]
    exact awk
theorem P_TokenKinds (a b : ByteArray) : F_L5_TokenKinds a b = some true := by
  rw [E_F_L5_TokenKinds]
  by_cases h : 100 < a.size
  · rw [decide_eq_true (by omega), tt]; exact awk
  · rw [decide_eq_false (by omega), ff]
    by_cases h2 : 100 < b.size
    · rw [decide_eq_true (by omega), tt]; exact awk
    · rw [decide_eq_false (by omega), ff, (P_Glue a b (by omega)).1, bs, (P_Glue a b (by omega)).2, bs, show (glueL (L a) (L b) == glueL (L a) (L b)) = true from beq_self_eq_true _, tt, P_Kind a (by omega), bs, P_R5_Kind a (by omega), bs, decide_eq_true rfl, tt]
      exact awk
theorem P_TokenJoins_l0 : ∀ (l pre T : List Token), T = pre ++ l → T.length ≤ 50 → (joinL pre).length ≤ 400 * pre.length → F_L5_TokenJoins_l0 T (pre.length : Int) = some true
  | [], pre, T, h, hT, hs => by
    rw [List.append_nil] at h
    subst h
    rw [E_F_L5_TokenJoins_l0, decide_eq_false (by rw [List.length_map]; omega), ff, P_Join T (by omega), bs, P_R5_Join T (by omega) (by omega), bs, decide_eq_true rfl, tt]
    exact awk
  | t :: l, pre, T, h, hT, hs => by
    have hl : T.length = pre.length + (l.length + 1) := by rw [h, List.length_append, List.length_cons]
    have hx : ix T (pre.length : Int) = some t := by rw [h, ix_pre']
    rw [E_F_L5_TokenJoins_l0, decide_eq_true (by rw [List.length_map]; omega), tt, hx, bs]
    by_cases h1 : 200 < t.Lead.size
    · rw [decide_eq_true (by omega), tt]; exact awk
    · rw [decide_eq_false (by omega), ff, bs]
      by_cases h2 : 200 < t.Text.size
      · rw [decide_eq_true (by omega), tt]; exact awk
      · rw [decide_eq_false (by omega), ff]
        have e1 : t.Lead.data.toList.length = t.Lead.size := Array.length_toList
        have e2 : t.Text.data.toList.length = t.Text.size := Array.length_toList
        have := P_TokenJoins_l0 l (pre ++ [t]) T (by rw [h, List.append_assoc]; rfl) hT (by rw [joinL_snoc, List.length_append, List.length_append, List.length_append, List.length_singleton, e1, e2]; omega)
        rw [List.length_append, List.length_singleton] at this
        rw [wrap_id (by omega) (by omega), show (pre.length : Int) + 1 = ((pre.length + 1 : Nat) : Int) from rfl]
        exact this
theorem P_TokenJoins (l : List Token) : F_L5_TokenJoins l = some true := by
  rw [E_F_L5_TokenJoins, List.length_map]
  by_cases h : 50 < l.length
  · rw [decide_eq_true (by omega), tt]; exact awk
  · rw [decide_eq_false (by omega), ff]
    exact P_TokenJoins_l0 l [] l rfl (by omega) (by simp [joinL])
theorem P_TokenLossless (s : ByteArray) : F_L5_TokenLossless s = some true := by
  rw [E_F_L5_TokenLossless]
  by_cases h : 1000 < s.size
  · rw [decide_eq_true (by omega), tt]; exact awk
  · rw [decide_eq_false (by omega), ff, P_Tokens, bs]
    have hl := len_L s
    rcases res_cases s (by omega) with ⟨m, e, ht⟩ | ⟨e, he⟩
    · rw [e]
      have hj := ht.join
      rw [List.drop_zero] at hj
      simp only [decide_true, Bool.not_true, Bool.false_eq_true, if_false]
      rw [P_Join m (by rw [hj]; omega), bs, hj, ofB_L, decide_eq_true rfl, tt]
      exact awk
    · rw [he]; exact awk
theorem P_Valid (p : List UInt8) (hs : p.length ≤ 9223372036854775807) (h : trivRest p = []) : F_trivia_Valid (ofB p) = some true := by
  unfold F_trivia_Valid
  rw [if_pos (by rw [size_ofB]; exact hs)]
  congr 1
  unfold trivValid
  refine decide_eq_true ?_
  have := endAt_in (s := ofB p) (k := 0) (Nat.zero_le _)
  rw [show ((0 : Nat) : Int) = 0 from rfl] at this
  rw [this]
  unfold trivEnd
  rw [List.drop_zero, show (ofB p).data.toList = p from rfl, h]; rfl
theorem P_TokenPlaces_l0 (s : ByteArray) (hs : s.size ≤ 1000) {k : Nat} {m : List Token} (h : TL s k m) : ∀ (pre T : List Token), T = pre ++ m → T.length ≤ 10000 → F_L5_TokenPlaces_l0 s T (k : Int) (pre.length : Int) = some true := by
  induction h with
  | @fin k hk hv =>
    intro pre T hT hl
    have hx : ix T (pre.length : Int) = some ⟨4, ofB ((L s).drop k), ⟨#[]⟩, (s.size : Int)⟩ := by rw [hT, ix_pre']
    have hlen : T.length = pre.length + 1 := by rw [hT, List.length_append, List.length_singleton]
    have hd : ((L s).drop k).length = s.size - k := by rw [List.length_drop, len_L]
    rw [E_F_L5_TokenPlaces_l0, decide_eq_true (by rw [List.length_map]; omega), tt, hx, bs]
    simp only
    rw [P_Valid _ (by omega) hv, bs, nff, size_ofB, hd, wrap_id (x := (k : Int) + ((s.size - k : Nat) : Int)) (by omega) (by omega), decide_eq_true (show (s.size : Int) = (k : Int) + ((s.size - k : Nat) : Int) by omega), nff,
      wrap_id (x := (s.size : Int) - (s.size : Int)) (by omega) (by omega), show ((⟨#[]⟩ : ByteArray).size : Int) = 0 from rfl, decide_eq_false (show ¬ (s.size : Int) - (s.size : Int) < 0 by omega), ff,
      wrap_id (x := (s.size : Int) + 0) (by omega) (by omega), show (s.size : Int) + 0 = (s.size : Int) by omega, ssub_at (Nat.le_refl _) (Nat.le_refl _), bs, Nat.sub_self, List.take_zero,
      decide_eq_true (show ofB [] = (⟨#[]⟩ : ByteArray) from rfl), nff, List.length_map, wrap_id (by omega) (by omega), decide_eq_true (show (pre.length : Int) = (T.length : Int) - 1 by omega), tt]
    simp only [decide_true, if_true]
    exact awk
  | @cons k a n kd m h ha hn hkd hlead hnext t ih =>
    intro pre T hT hl
    have hx : ix T (pre.length : Int) = some ⟨kd, ofB (((L s).drop k).take (a - k)), ofB (((L s).drop a).take n), (a : Int)⟩ := by rw [hT, ix_pre']
    have hlen : T.length = pre.length + (m.length + 1) := by rw [hT, List.length_append, List.length_cons]
    have hm : 0 < m.length := by cases t <;> simp
    have hd : (((L s).drop k).take (a - k)).length = a - k := by rw [List.length_take, List.length_drop, len_L]; omega
    have ht : (((L s).drop a).take n).length = n := by rw [List.length_take, List.length_drop, len_L]; omega
    have hkk : kindL (((L s).drop a).take n) = kd := by
      have := kind_take ((L s).drop a) (by rw [hnext]; exact hkd)
      rw [hnext] at this
      exact this
    have := ih (pre ++ [⟨kd, ofB (((L s).drop k).take (a - k)), ofB (((L s).drop a).take n), (a : Int)⟩]) T (by rw [hT, List.append_assoc]; rfl) hl
    rw [List.length_append, List.length_singleton] at this
    rw [E_F_L5_TokenPlaces_l0, decide_eq_true (by rw [List.length_map]; omega), tt, hx, bs]
    simp only
    rw [P_Valid _ (by omega) hlead, bs, nff, size_ofB, size_ofB, hd, ht, wrap_id (x := (k : Int) + ((a - k : Nat) : Int)) (by omega) (by omega), decide_eq_true (show (a : Int) = (k : Int) + ((a - k : Nat) : Int) by omega), nff,
      wrap_id (x := (s.size : Int) - (a : Int)) (by omega) (by omega), decide_eq_false (show ¬ (s.size : Int) - (a : Int) < (n : Int) by omega), ff,
      wrap_id (x := (a : Int) + (n : Int)) (by omega) (by omega), show (a : Int) + (n : Int) = ((a + n : Nat) : Int) from rfl, ssub_at (by omega) ha, bs, show a + n - a = n by omega,
      decide_eq_true rfl, nff, List.length_map, wrap_id (x := (T.length : Int) - 1) (by omega) (by omega), decide_eq_false (show ¬ (pre.length : Int) = (T.length : Int) - 1 by omega), ff, decide_eq_false hkd, ff,
      P_Kind _ (by rw [size_ofB, ht]; omega), bs, L_ofB, hkk, decide_eq_true rfl, nff, wrap_id (x := (pre.length : Int) + 1) (by omega) (by omega), show (pre.length : Int) + 1 = ((pre.length + 1 : Nat) : Int) from rfl]
    exact this
theorem P_TokenPlaces (s : ByteArray) : F_L5_TokenPlaces s = some true := by
  rw [E_F_L5_TokenPlaces]
  by_cases h : 1000 < s.size
  · rw [decide_eq_true (by omega), tt]; exact awk
  · rw [decide_eq_false (by omega), ff, P_Tokens, bs]
    rcases res_cases s (by omega) with ⟨m, e, ht⟩ | ⟨e, he⟩
    · rw [e]
      have := ht.count
      simp only [decide_true, Bool.not_true, Bool.false_eq_true, if_false]
      exact P_TokenPlaces_l0 s (by omega) ht [] m rfl (by omega)
    · rw [he]; exact awk
/-! ### Two tokens -/
theorem two_toks (S : Nat) (a b g : List UInt8) (ha : kindL a ≠ 0) (hb : kindL b ≠ 0) (hg : Apart a (g ++ b)) (hgr : trivRest (g ++ b) = b) (f : Nat) : ∃ t1 t2 t3, toksF S (f + 3) (a ++ (g ++ b)) = .ok [t1, t2, t3] ∧ t1.Text = ofB a ∧ t2.Text = ofB b := by
  obtain ⟨a0, a1, _⟩ := kind_cases ha
  obtain ⟨b0, b1, _⟩ := kind_cases hb
  have r1 : trivRest (a ++ (g ++ b)) = a ++ (g ++ b) := rest_app ha hg
  have n1 : nextL (a ++ (g ++ b)) = (a.length, kindL a) := next_app ha hg
  have n0 : a ++ (g ++ b) ≠ [] := fun e => a0 (List.append_eq_nil_iff.1 e).1
  have e3 : toksF S (f + 1) [] = .ok [⟨4, ofB [], ⟨#[]⟩, (S : Int)⟩] := rfl
  have bb : b.drop b.length = [] := List.drop_of_length_le (Nat.le_refl _)
  have e2 : toksF S (f + 2) (g ++ b) = .ok [⟨kindL b, ofB ((g ++ b).take ((g ++ b).length - b.length)), ofB b, ((S - b.length : Nat) : Int)⟩, ⟨4, ofB [], ⟨#[]⟩, (S : Int)⟩] := by
    rw [show f + 2 = (f + 1) + 1 from rfl, toksF, hgr, if_neg b0, b1, if_neg hb, bb, e3, List.take_of_length_le (Nat.le_refl _)]
  refine ⟨⟨kindL a, ofB ((a ++ (g ++ b)).take ((a ++ (g ++ b)).length - (a ++ (g ++ b)).length)), ofB a, ((S - (a ++ (g ++ b)).length : Nat) : Int)⟩, ⟨kindL b, ofB ((g ++ b).take ((g ++ b).length - b.length)), ofB b, ((S - b.length : Nat) : Int)⟩, ⟨4, ofB [], ⟨#[]⟩, (S : Int)⟩, ?_, rfl, rfl⟩
  rw [show f + 3 = (f + 2) + 1 from rfl, toksF, r1, if_neg n0, n1]
  simp only
  rw [if_neg ha, List.drop_left' rfl, e2, List.take_left' rfl]
theorem P_two (s : ByteArray) (a b g : List UInt8) (hs : L s = a ++ (g ++ b)) (hl : s.size ≤ 1000) (ha : kindL a ≠ 0) (hb : kindL b ≠ 0) (hg : Apart a (g ++ b)) (hgr : trivRest (g ++ b) = b) : F_L5_two s (ofB a) (ofB b) = some true := by
  obtain ⟨a0, a1, _⟩ := kind_cases ha
  obtain ⟨b0, b1, _⟩ := kind_cases hb
  have hla := List.length_pos_iff.2 a0
  have hlb := List.length_pos_iff.2 b0
  have hsz := len_L s
  rw [hs, List.length_append, List.length_append] at hsz
  obtain ⟨f, hf⟩ : ∃ f, s.size + 1 = f + 3 := ⟨s.size - 2, by omega⟩
  obtain ⟨t1, t2, t3, e, h1, h2⟩ := two_toks s.size a b g ha hb hg hgr f
  have hr : resT s = ([t1, t2, t3], 0, 0) := by
    unfold resT
    rw [if_neg (by omega), hs, hf, e]; rfl
  rw [E_F_L5_two, P_Tokens, bs, hr]
  show (if decide (t1.Text = ofB a) = true then some (decide (t2.Text = ofB b)) else some false) = some true
  rw [h1, h2, decide_eq_true rfl, tt, decide_eq_true rfl]
theorem apart_of {a b : List UInt8} (ha : kindL a ≠ 0) (hb : kindL b ≠ 0) (h : glueL a b = false) : Apart a b := by
  obtain ⟨a0, a1, _⟩ := kind_cases ha
  obtain ⟨b0, b1, b2⟩ := kind_cases hb
  unfold glueL at h
  rw [if_neg (by simp [a0, b0])] at h
  intro c hc
  cases b with
  | nil => exact absurd rfl b0
  | cons d r =>
    cases hc
    split at h
    · cases h
    · rename_i hw
      refine ⟨hw, ?_, ?_⟩
      · rintro ⟨rfl, rfl⟩
        rcases b2 with ⟨hw, _⟩ | ⟨c, e, _⟩ | ⟨e, _⟩
        · have : letC 61 = true := hw
          rw [mark47.2.2.1] at this; cases this
        · cases e; simp at h
        · cases e; simp at h
      · rintro ⟨rfl, rfl⟩
        rcases b2 with ⟨hw, _⟩ | ⟨c, e, _⟩ | ⟨e, _⟩
        · have : letC 47 = true := hw
          rw [mark47.1] at this; cases this
        · cases e; simp at h
        · cases e
theorem P_TokenGaps (a b : ByteArray) : F_L5_TokenGaps a b = some true := by
  rw [E_F_L5_TokenGaps]
  by_cases h : 100 < a.size
  · rw [decide_eq_true (by omega), tt]; exact awk
  · rw [decide_eq_false (by omega), ff]
    by_cases h2 : 100 < b.size
    · rw [decide_eq_true (by omega), tt]; exact awk
    · rw [decide_eq_false (by omega), ff, P_Kind a (by omega), bs]
      by_cases ha : kindL (L a) = 0
      · rw [decide_eq_true ha, tt]; exact awk
      · rw [decide_eq_false ha, ff, P_Kind b (by omega), bs]
        by_cases hb : kindL (L b) = 0
        · rw [decide_eq_true hb, tt]; exact awk
        · have z : (⟨#[32]⟩ : ByteArray).size = 1 := rfl
          have s1 : (a ++ (⟨#[32]⟩ : ByteArray)).size = a.size + 1 := by rw [ByteArray.size_append, z]
          have c1 : cat a (⟨#[32]⟩ : ByteArray) = some (a ++ ⟨#[32]⟩) := by unfold cat; rw [if_pos (by omega)]
          have c2 : cat (a ++ (⟨#[32]⟩ : ByteArray)) b = some (a ++ ⟨#[32]⟩ ++ b) := by unfold cat; rw [if_pos (by omega)]
          have s2 : (a ++ (⟨#[32]⟩ : ByteArray) ++ b).size = a.size + 1 + b.size := by rw [ByteArray.size_append, s1]
          have c3 : cat a b = some (a ++ b) := by unfold cat; rw [if_pos (by omega)]
          have s3 : (a ++ b).size = a.size + b.size := by rw [ByteArray.size_append]
          have hb0 : trivRest (L b) = L b := by have := rest_app hb (apart_nil _); rwa [List.append_nil] at this
          have t1 := P_two (a ++ ⟨#[32]⟩ ++ b) (L a) (L b) [32] (by rw [L_append, L_append, List.append_assoc]) (by omega) ha hb (apart_space _ _) (by rw [List.singleton_append, rest_space, hb0])
          rw [ofB_L, ofB_L] at t1
          rw [decide_eq_false hb, ff, c1, bs, c2, bs, t1, bs, tt, (P_Glue a b (by omega)).1, bs]
          cases hg : glueL (L a) (L b) with
          | true => rw [tt]; exact awk
          | false =>
            have t2 := P_two (a ++ b) (L a) (L b) [] (by rw [L_append]; rfl) (by omega) ha hb (apart_of ha hb hg) hb0
            rw [ofB_L, ofB_L] at t2
            rw [ff, c3, bs, t2, bs, tt]; exact awk
/-! ### Single spaces -/
/-- The texts, each with a space behind it. -/
def blankL : List Token → List UInt8
  | [] => []
  | t :: l => L t.Text ++ 32 :: blankL l
inductive TB : List Token → Prop
  | fin {t : Token} (h : t.Text = ⟨#[]⟩) (hk : t.Kind = 4) : TB [t]
  | cons {t : Token} {m : List Token} (h : kindL (L t.Text) = t.Kind) (hk : t.Kind ≠ 0) (tl : TB m) : TB (t :: m)
theorem TL.tb {s : ByteArray} {k : Nat} {m : List Token} (h : TL s k m) : TB m ∧ (blankL m).length + k ≤ s.size + m.length := by
  induction h with
  | fin hk hv =>
    refine ⟨.fin rfl rfl, ?_⟩
    show ([] ++ [32] : List UInt8).length + _ ≤ _
    simp only [List.nil_append, List.length_singleton]; omega
  | @cons k a n kd m h ha hn hkd hlead hnext t ih =>
    have hkk : kindL (((L s).drop a).take n) = kd := by
      have := kind_take ((L s).drop a) (by rw [hnext]; exact hkd)
      rw [hnext] at this
      exact this
    refine ⟨.cons hkk hkd ih.1, ?_⟩
    have ht : (((L s).drop a).take n).length = n := by rw [List.length_take, List.length_drop, len_L]; omega
    show ((((L s).drop a).take n) ++ 32 :: blankL m).length + _ ≤ _
    rw [List.length_append, List.length_cons, ht, List.length_cons]
    have := ih.2
    omega
/-- Same texts, same kinds. -/
def sameTK : List Token → List Token → Prop
  | [], [] => True
  | a :: l, b :: m => a.Text = b.Text ∧ a.Kind = b.Kind ∧ sameTK l m
  | _, _ => False
theorem blank_toks (S : Nat) {m : List Token} (h : TB m) : ∀ (f : Nat) (l : List UInt8), trivRest l = trivRest (blankL m) → l.length < f → (blankL m).length ≤ l.length → ∃ m', toksF S f l = .ok m' ∧ sameTK m' m := by
  induction h with
  | @fin t h hk =>
    intro f l hl hf _
    obtain ⟨f, rfl⟩ : ∃ g, f = g + 1 := ⟨f - 1, by omega⟩
    have e : trivRest (blankL [t]) = [] := by
      show trivRest (L t.Text ++ [32]) = []
      rw [h]; rfl
    rw [toksF, hl, e, if_pos rfl]
    exact ⟨_, rfl, h.symm, hk.symm, trivial⟩
  | @cons t m h hk tl ih =>
    intro f l hl hf hle
    obtain ⟨f, rfl⟩ : ∃ g, f = g + 1 := ⟨f - 1, by omega⟩
    have hk' : kindL (L t.Text) ≠ 0 := by rw [h]; exact hk
    have ha := apart_space (L t.Text) (blankL m)
    have e : trivRest (blankL (t :: m)) = L t.Text ++ 32 :: blankL m := rest_app hk' ha
    obtain ⟨t0, _, _⟩ := kind_cases hk'
    have n0 : L t.Text ++ 32 :: blankL m ≠ [] := fun e => t0 (List.append_eq_nil_iff.1 e).1
    have hlen : (blankL (t :: m)).length = (L t.Text).length + ((blankL m).length + 1) := by
      show (L t.Text ++ 32 :: blankL m).length = _
      rw [List.length_append, List.length_cons]
    have hp := List.length_pos_iff.2 t0
    have hrl := trivRest_le l
    rw [hl, e, List.length_append, List.length_cons] at hrl
    obtain ⟨m', em, sm⟩ := ih f (32 :: blankL m) (rest_space _) (by rw [List.length_cons]; omega) (by rw [List.length_cons]; omega)
    rw [toksF, hl, e, if_neg n0, next_app hk' ha]
    simp only
    rw [if_neg hk', List.drop_left' rfl, em, List.take_left' rfl]
    exact ⟨_, rfl, by show ofB (L t.Text) = t.Text; rw [ofB_L], h, sm⟩
theorem same_len : ∀ (a b : List Token), sameTK a b → a.length = b.length
  | [], [], _ => rfl
  | a :: l, b :: m, h => by rw [List.length_cons, List.length_cons, same_len l m h.2.2]
  | [], _ :: _, h => h.elim
  | _ :: _, [], h => h.elim
theorem P_TokenBlanks_l1 : ∀ (l l' pre pre' T T' : List Token), T = pre ++ l → T' = pre' ++ l' → pre.length = pre'.length → sameTK l' l → T.length ≤ 100000 → F_L5_TokenBlanks_l1 T T' (pre.length : Int) = some true
  | [], [], pre, pre', T, T', h, h', hp, hs, hl => by
    rw [E_F_L5_TokenBlanks_l1, decide_eq_false (by rw [List.length_map, h, List.append_nil]; omega), ff]; exact awk
  | [], _ :: _, _, _, _, _, _, _, _, hs, _ => hs.elim
  | _ :: _, [], _, _, _, _, _, _, _, hs, _ => hs.elim
  | t :: l, t' :: l', pre, pre', T, T', h, h', hp, hs, hl => by
    have hlen : T.length = pre.length + (l.length + 1) := by rw [h, List.length_append, List.length_cons]
    have hx : ix T (pre.length : Int) = some t := by rw [h, ix_pre']
    have hx' : ix T' (pre.length : Int) = some t' := by rw [h', hp, ix_pre']
    have := P_TokenBlanks_l1 l l' (pre ++ [t]) (pre' ++ [t']) T T' (by rw [h, List.append_assoc]; rfl) (by rw [h', List.append_assoc]; rfl) (by simp [hp]) hs.2.2 hl
    rw [List.length_append, List.length_singleton] at this
    rw [E_F_L5_TokenBlanks_l1, decide_eq_true (by rw [List.length_map]; omega), tt, hx', bs, hx, bs, decide_eq_true hs.1, nff, bs, bs, decide_eq_true hs.2.1, nff, wrap_id (by omega) (by omega), show (pre.length : Int) + 1 = ((pre.length + 1 : Nat) : Int) from rfl]
    exact this
theorem P_TokenBlanks_l0 (T : List Token) (hT : TB T) (hl : (blankL T).length ≤ 60000) (hn : T.length ≤ 60000) : ∀ (l pre : List Token) (acc : ByteArray), T = pre ++ l → L acc ++ blankL l = blankL T → F_L5_TokenBlanks_l0 T acc (pre.length : Int) = some true
  | [], pre, acc, h, ha => by
    rw [blankL, List.append_nil] at ha
    have hsz := len_L acc
    rw [ha] at hsz
    obtain ⟨m', em, sm⟩ := blank_toks acc.size hT (acc.size + 1) (blankL T) rfl (by omega) (Nat.le_refl _)
    have hr : resT acc = (m', 0, 0) := by
      unfold resT
      rw [if_neg (by omega), ha, em]; rfl
    rw [E_F_L5_TokenBlanks_l0, decide_eq_false (by rw [List.length_map, h, List.append_nil]; omega), ff, P_Tokens, bs, hr]
    rw [show decide (((m', (0 : Int), (0 : Int)) : List Token × Int × Int).2.1 = 0) = true from rfl, nff, List.length_map, List.length_map]
    show (if (!decide ((m'.length : Int) = (T.length : Int))) = true then some false else F_L5_TokenBlanks_l1 T m' 0) = some true
    rw [decide_eq_true (show (m'.length : Int) = (T.length : Int) by rw [same_len m' T sm]), nff]
    exact P_TokenBlanks_l1 T m' [] [] T m' rfl rfl rfl sm (by omega)
  | t :: l, pre, acc, h, ha => by
    have hlen : T.length = pre.length + (l.length + 1) := by rw [h, List.length_append, List.length_cons]
    have hx : ix T (pre.length : Int) = some t := by rw [h, ix_pre']
    have hall := congrArg List.length ha
    rw [blankL, List.length_append, List.length_append, List.length_cons, len_L, len_L] at hall
    have z : (⟨#[32]⟩ : ByteArray).size = 1 := rfl
    have s1 : (acc ++ t.Text).size = acc.size + t.Text.size := ByteArray.size_append
    have c1 : cat acc t.Text = some (acc ++ t.Text) := by unfold cat; rw [if_pos (by omega)]
    have c2 : cat (acc ++ t.Text) (⟨#[32]⟩ : ByteArray) = some (acc ++ t.Text ++ ⟨#[32]⟩) := by unfold cat; rw [if_pos (by omega)]
    have := P_TokenBlanks_l0 T hT hl hn l (pre ++ [t]) (acc ++ t.Text ++ ⟨#[32]⟩) (by rw [h, List.append_assoc]; rfl) (by
      rw [← ha, L_append, L_append, blankL, List.append_assoc, List.append_assoc]; rfl)
    rw [List.length_append, List.length_singleton] at this
    rw [E_F_L5_TokenBlanks_l0, decide_eq_true (by rw [List.length_map]; omega), tt, hx, bs, c1, bs, c2, bs, wrap_id (by omega) (by omega), show (pre.length : Int) + 1 = ((pre.length + 1 : Nat) : Int) from rfl]
    exact this
theorem P_TokenBlanks (s : ByteArray) : F_L5_TokenBlanks s = some true := by
  rw [E_F_L5_TokenBlanks]
  by_cases h : 1000 < s.size
  · rw [decide_eq_true (by omega), tt]; exact awk
  · rw [decide_eq_false (by omega), ff, P_Tokens, bs]
    rcases res_cases s (by omega) with ⟨m, e, ht⟩ | ⟨e, he⟩
    · rw [e]
      have hc := ht.count
      have hb := ht.tb
      simp only [decide_true, Bool.not_true, Bool.false_eq_true, if_false]
      exact P_TokenBlanks_l0 m hb.1 (by omega) (by omega) m [] ⟨#[]⟩ rfl rfl
    · rw [he]; exact awk
end Tk
end Go.Proofs.YtimdjillcaichaaDoorW.Ex.Gr
