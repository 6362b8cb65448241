/- The reference's equality of trees. Conditions: those of the trees that come in (Wf). -/
import Derived.Test.YtimdjillcaichaaDoorPe
namespace Go.Proofs.YtimdjillcaichaaDoorW.Ex.Gr
open Go Go.Proofs.YtimdjillcaichaaDoorW.Ex
set_option linter.all false
set_option maxRecDepth 100000
mutual
def eqN : Node → Node → Bool
  | .mk k t g l, .mk k' t' g' l' => decide (k = k') && (decide (t = t') && (decide (g = g') && eqNL l l'))
def eqNL : List Node → List Node → Bool
  | [], [] => true
  | a :: l, b :: l' => eqN a b && eqNL l l'
  | [], _ :: _ => false
  | _ :: _, [] => false
end
theorem eqN_eq (n m : Node) : eqN n m = (decide (n.kind = m.kind) && (decide (n.text = m.text) && (decide (n.gaps = m.gaps) && eqNL n.kids m.kids))) := by
  cases n; cases m; rw [eqN]; rfl
theorem eqNL_len : ∀ (l l' : List Node), eqNL l l' = true → l.length = l'.length
  | [], [], _ => rfl
  | a :: l, b :: l', h => by
    simp only [eqNL, Bool.and_eq_true] at h
    rw [List.length_cons, List.length_cons, eqNL_len l l' h.2]
  | [], _ :: _, h => by cases h
  | _ :: _, [], h => by cases h
mutual
theorem eqN_refl : ∀ n : Node, eqN n n = true
  | .mk k t g l => by simp [eqN, eqNL_refl l]
theorem eqNL_refl : ∀ l : List Node, eqNL l l = true
  | [] => rfl
  | n :: l => by rw [eqNL, eqN_refl n, eqNL_refl l]; rfl
end
theorem equal_turn (l l' : List Node) (i : Nat) (hl : l.length ≤ 9223372036854775807) (hab : l.length = l'.length) (hJ : i ≤ l.length ∧ eqNL l l' = eqNL (l.drop i) (l'.drop i)) :
    (∃ x y, l[i]? = some x ∧ l'[i]? = some y ∧ x ∈ l ∧ i < l.length ∧ decide ((i : Int) < ((l.map Node.cells).length : Int)) = true ∧ IntKind.i64.wrap ((i : Int) + 1) = ((i + 1 : Nat) : Int) ∧
      ((eqN x y = true ∧ eqNL l l' = eqNL (l.drop (i + 1)) (l'.drop (i + 1))) ∨ (eqN x y = false ∧ eqNL l l' = false))) ∨
    (decide ((i : Int) < ((l.map Node.cells).length : Int)) = false ∧ eqNL l l' = true) := by
  obtain ⟨h1, h2⟩ := hJ
  rcases Nat.lt_or_ge i l.length with h | h
  · have hb : i < l'.length := by omega
    refine .inl ⟨l[i], l'[i], List.getElem?_eq_getElem h, List.getElem?_eq_getElem hb, List.getElem_mem h, h, by simpa using h, wrap_id (by omega) (by omega), ?_⟩
    rw [List.drop_eq_getElem_cons h, List.drop_eq_getElem_cons hb, eqNL] at h2
    cases e : eqN l[i] l'[i] with
    | true => exact .inl ⟨rfl, by rw [h2, e, Bool.true_and]⟩
    | false => exact .inr ⟨rfl, by rw [h2, e, Bool.false_and]⟩
  · refine .inr ⟨by simpa using h, ?_⟩
    rw [h2, List.drop_of_length_le h, List.drop_of_length_le (by omega)]
    rfl
set_option maxHeartbeats 4000000 in
/-- R6.Equal -/
theorem R6_Equal : ∀ n : Node, Wf n → ∀ m : Node, Fn Tryd.prog G 25 [.agg (cellsN n), .agg (cellsN m)] (.bool (eqN n m)) := by
  intro n hwf
  induction hwf with | mk n hk hg ht hs _ ih => ?_
  intro m
  rw [eqN_eq]
  cases k0 : decide (n.kind = m.kind)
  case false =>
    refine Fn_run (T := tt) (N := 54) (rs := [.tmp 4]) (fun vs w => by simp) Tryd.func25 rfl rfl rfl rfl (by kernel_rfl) (all_pure rfl) (closed2_pure _ rfl) ?_
    repeat' first
      | refine Ok_run env rfl ?_
      | (refine Ok_guard_t1 ?_ ?_; (· simp only [k0, Bool.not_true, Bool.not_false]))
      | (refine Ok_guard_t0 ?_ ?_; (· simp only [k0, Bool.not_true, Bool.not_false]))
      | (refine Ok_guard_f0 ?_ ?_; (· simp only [k0, Bool.not_true, Bool.not_false]))
      | (refine Ok_guard_f1 ?_ ?_; (· simp only [k0, Bool.not_true, Bool.not_false]))
      | (refine Ok_cond_t ?_ ?_; (· simp only [k0, Bool.not_true, Bool.not_false]))
      | (refine Ok_cond_f ?_ ?_; (· simp only [k0, Bool.not_true, Bool.not_false]))
      | refine Ok_call (R3_Strings n.gaps m.gaps hg) ?_
      | refine Ok_guard_t (fun h => ?_) (fun h => ?_)
      | refine Ok_guard_f (fun h => ?_) (fun h => ?_)
      | refine Ok_cond (fun h => ?_) (fun h => ?_)
      | refine Ok_fin env rfl rfl (told_eq ?_)
      | refine Ok_fin_n env rfl (told_eq ?_)
    all_goals rfl
  cases t0 : decide (n.text = m.text)
  case false =>
    refine Fn_run (T := tt) (N := 54) (rs := [.tmp 4]) (fun vs w => by simp) Tryd.func25 rfl rfl rfl rfl (by kernel_rfl) (all_pure rfl) (closed2_pure _ rfl) ?_
    repeat' first
      | refine Ok_run env rfl ?_
      | (refine Ok_guard_t1 ?_ ?_; (· simp only [k0, Bool.not_true, Bool.not_false]))
      | (refine Ok_guard_t0 ?_ ?_; (· simp only [k0, Bool.not_true, Bool.not_false]))
      | (refine Ok_guard_f0 ?_ ?_; (· simp only [k0, Bool.not_true, Bool.not_false]))
      | (refine Ok_guard_f1 ?_ ?_; (· simp only [k0, Bool.not_true, Bool.not_false]))
      | (refine Ok_cond_t ?_ ?_; (· simp only [k0, Bool.not_true, Bool.not_false]))
      | (refine Ok_cond_f ?_ ?_; (· simp only [k0, Bool.not_true, Bool.not_false]))
      | (refine Ok_guard_t1 ?_ ?_; (· simp only [t0, Bool.not_true, Bool.not_false]))
      | (refine Ok_guard_t0 ?_ ?_; (· simp only [t0, Bool.not_true, Bool.not_false]))
      | (refine Ok_guard_f0 ?_ ?_; (· simp only [t0, Bool.not_true, Bool.not_false]))
      | (refine Ok_guard_f1 ?_ ?_; (· simp only [t0, Bool.not_true, Bool.not_false]))
      | (refine Ok_cond_t ?_ ?_; (· simp only [t0, Bool.not_true, Bool.not_false]))
      | (refine Ok_cond_f ?_ ?_; (· simp only [t0, Bool.not_true, Bool.not_false]))
      | refine Ok_call (R3_Strings n.gaps m.gaps hg) ?_
      | refine Ok_guard_t (fun h => ?_) (fun h => ?_)
      | refine Ok_guard_f (fun h => ?_) (fun h => ?_)
      | refine Ok_cond (fun h => ?_) (fun h => ?_)
      | refine Ok_fin env rfl rfl (told_eq ?_)
      | refine Ok_fin_n env rfl (told_eq ?_)
    all_goals rfl
  cases g0 : decide (n.gaps = m.gaps)
  case false =>
    refine Fn_run (T := tt) (N := 54) (rs := [.tmp 4]) (fun vs w => by simp) Tryd.func25 rfl rfl rfl rfl (by kernel_rfl) (all_pure rfl) (closed2_pure _ rfl) ?_
    repeat' first
      | refine Ok_run env rfl ?_
      | (refine Ok_guard_t1 ?_ ?_; (· simp only [k0, Bool.not_true, Bool.not_false]))
      | (refine Ok_guard_t0 ?_ ?_; (· simp only [k0, Bool.not_true, Bool.not_false]))
      | (refine Ok_guard_f0 ?_ ?_; (· simp only [k0, Bool.not_true, Bool.not_false]))
      | (refine Ok_guard_f1 ?_ ?_; (· simp only [k0, Bool.not_true, Bool.not_false]))
      | (refine Ok_cond_t ?_ ?_; (· simp only [k0, Bool.not_true, Bool.not_false]))
      | (refine Ok_cond_f ?_ ?_; (· simp only [k0, Bool.not_true, Bool.not_false]))
      | (refine Ok_guard_t1 ?_ ?_; (· simp only [t0, Bool.not_true, Bool.not_false]))
      | (refine Ok_guard_t0 ?_ ?_; (· simp only [t0, Bool.not_true, Bool.not_false]))
      | (refine Ok_guard_f0 ?_ ?_; (· simp only [t0, Bool.not_true, Bool.not_false]))
      | (refine Ok_guard_f1 ?_ ?_; (· simp only [t0, Bool.not_true, Bool.not_false]))
      | (refine Ok_cond_t ?_ ?_; (· simp only [t0, Bool.not_true, Bool.not_false]))
      | (refine Ok_cond_f ?_ ?_; (· simp only [t0, Bool.not_true, Bool.not_false]))
      | (refine Ok_guard_t1 ?_ ?_; (· simp only [g0, Bool.not_true, Bool.not_false]))
      | (refine Ok_guard_t0 ?_ ?_; (· simp only [g0, Bool.not_true, Bool.not_false]))
      | (refine Ok_guard_f0 ?_ ?_; (· simp only [g0, Bool.not_true, Bool.not_false]))
      | (refine Ok_guard_f1 ?_ ?_; (· simp only [g0, Bool.not_true, Bool.not_false]))
      | (refine Ok_cond_t ?_ ?_; (· simp only [g0, Bool.not_true, Bool.not_false]))
      | (refine Ok_cond_f ?_ ?_; (· simp only [g0, Bool.not_true, Bool.not_false]))
      | refine Ok_call (R3_Strings n.gaps m.gaps hg) ?_
      | refine Ok_guard_t (fun h => ?_) (fun h => ?_)
      | refine Ok_guard_f (fun h => ?_) (fun h => ?_)
      | refine Ok_cond (fun h => ?_) (fun h => ?_)
      | refine Ok_fin env rfl rfl (told_eq ?_)
      | refine Ok_fin_n env rfl (told_eq ?_)
    all_goals rfl
  by_cases hl : n.kids.length = m.kids.length
  case neg =>
    have l0 : decide (((n.kids.map Node.cells).length : Int) = ((m.kids.map Node.cells).length : Int)) = false := by simp; omega
    have he : eqNL n.kids m.kids = false := by
      cases h : eqNL n.kids m.kids with
      | false => rfl
      | true => exact absurd (eqNL_len _ _ h) hl
    rw [he]
    refine Fn_run (T := tt) (N := 54) (rs := [.tmp 4]) (fun vs w => by simp) Tryd.func25 rfl rfl rfl rfl (by kernel_rfl) (all_pure rfl) (closed2_pure _ rfl) ?_
    repeat' first
      | refine Ok_run env rfl ?_
      | (refine Ok_guard_t1 ?_ ?_; (· simp only [k0, Bool.not_true, Bool.not_false]))
      | (refine Ok_guard_t0 ?_ ?_; (· simp only [k0, Bool.not_true, Bool.not_false]))
      | (refine Ok_guard_f0 ?_ ?_; (· simp only [k0, Bool.not_true, Bool.not_false]))
      | (refine Ok_guard_f1 ?_ ?_; (· simp only [k0, Bool.not_true, Bool.not_false]))
      | (refine Ok_cond_t ?_ ?_; (· simp only [k0, Bool.not_true, Bool.not_false]))
      | (refine Ok_cond_f ?_ ?_; (· simp only [k0, Bool.not_true, Bool.not_false]))
      | (refine Ok_guard_t1 ?_ ?_; (· simp only [t0, Bool.not_true, Bool.not_false]))
      | (refine Ok_guard_t0 ?_ ?_; (· simp only [t0, Bool.not_true, Bool.not_false]))
      | (refine Ok_guard_f0 ?_ ?_; (· simp only [t0, Bool.not_true, Bool.not_false]))
      | (refine Ok_guard_f1 ?_ ?_; (· simp only [t0, Bool.not_true, Bool.not_false]))
      | (refine Ok_cond_t ?_ ?_; (· simp only [t0, Bool.not_true, Bool.not_false]))
      | (refine Ok_cond_f ?_ ?_; (· simp only [t0, Bool.not_true, Bool.not_false]))
      | (refine Ok_guard_t1 ?_ ?_; (· simp only [g0, Bool.not_true, Bool.not_false]))
      | (refine Ok_guard_t0 ?_ ?_; (· simp only [g0, Bool.not_true, Bool.not_false]))
      | (refine Ok_guard_f0 ?_ ?_; (· simp only [g0, Bool.not_true, Bool.not_false]))
      | (refine Ok_guard_f1 ?_ ?_; (· simp only [g0, Bool.not_true, Bool.not_false]))
      | (refine Ok_cond_t ?_ ?_; (· simp only [g0, Bool.not_true, Bool.not_false]))
      | (refine Ok_cond_f ?_ ?_; (· simp only [g0, Bool.not_true, Bool.not_false]))
      | (refine Ok_guard_t1 ?_ ?_; (· simp only [l0, Bool.not_true, Bool.not_false]))
      | (refine Ok_guard_t0 ?_ ?_; (· simp only [l0, Bool.not_true, Bool.not_false]))
      | (refine Ok_guard_f0 ?_ ?_; (· simp only [l0, Bool.not_true, Bool.not_false]))
      | (refine Ok_guard_f1 ?_ ?_; (· simp only [l0, Bool.not_true, Bool.not_false]))
      | (refine Ok_cond_t ?_ ?_; (· simp only [l0, Bool.not_true, Bool.not_false]))
      | (refine Ok_cond_f ?_ ?_; (· simp only [l0, Bool.not_true, Bool.not_false]))
      | refine Ok_call (R3_Strings n.gaps m.gaps hg) ?_
      | refine Ok_guard_t (fun h => ?_) (fun h => ?_)
      | refine Ok_guard_f (fun h => ?_) (fun h => ?_)
      | refine Ok_cond (fun h => ?_) (fun h => ?_)
      | refine Ok_fin env rfl rfl (told_eq ?_)
      | refine Ok_fin_n env rfl (told_eq ?_)
    all_goals rfl
  have l0 : decide (((n.kids.map Node.cells).length : Int) = ((m.kids.map Node.cells).length : Int)) = true := by simp; omega
  refine Fn_run (T := tt) (N := 54) (rs := [.tmp 4]) (fun vs w => by simp) Tryd.func25 rfl rfl rfl rfl (by kernel_rfl) (all_pure rfl) (closed2_pure _ rfl) ?_
  repeat' first
    | refine Ok_run env rfl ?_
    | (refine Ok_loop (α := Nat) (fun i => i ≤ n.kids.length ∧ eqNL n.kids m.kids = eqNL (n.kids.drop i) (m.kids.drop i)) (fun i => n.kids.length - i) (fun i => [(5, .int .i64 i)]) (fun _ => []) (0) (fun _ => rfl) (fun _ => rfl) (⟨Nat.zero_le _, rfl⟩) ?_ ?_ (fun i hJ => ?_); (· simp [leFT, leV, leOs, leO, leC, rho, AV.ren, AV.ren1, AV.un, AV.un1, AV.closed]); (· simp [leFT, leV, leOs, leO, leC, rho, AV.ren, AV.ren1, AV.un, AV.un1, AV.closed]); rcases equal_turn n.kids m.kids i hk hl hJ with ⟨x, y, hx, hy, hmem, hlt, hb, hw, (⟨g, he⟩ | ⟨g, he⟩)⟩ | ⟨hb, he⟩)
    | refine Ok_lret rfl ?_
    | refine Ok_lexit rfl rfl ?_
    | refine Ok_ix env rfl rfl rfl rfl rfl (kid_at hx) ?_
    | refine Ok_ix env rfl rfl rfl rfl rfl (kid_at hy) ?_
    | (refine Ok_back (i + 1) ?_ ?_ ?_ ?_; (· exact ⟨by omega, he⟩); (· omega); (· (simp only [hw]; simp [leFT, leV, leOs, leO, leC, rho, AV.ren, AV.ren1, AV.un, AV.un1, AV.closed])); (· simp [leFT, leV, leOs, leO, leC, rho, AV.ren, AV.ren1, AV.un, AV.un1, AV.closed]))
    | (refine Ok_guard_t1 ?_ ?_; (· simp only [k0, Bool.not_true, Bool.not_false]))
    | (refine Ok_guard_t0 ?_ ?_; (· simp only [k0, Bool.not_true, Bool.not_false]))
    | (refine Ok_guard_f0 ?_ ?_; (· simp only [k0, Bool.not_true, Bool.not_false]))
    | (refine Ok_guard_f1 ?_ ?_; (· simp only [k0, Bool.not_true, Bool.not_false]))
    | (refine Ok_cond_t ?_ ?_; (· simp only [k0, Bool.not_true, Bool.not_false]))
    | (refine Ok_cond_f ?_ ?_; (· simp only [k0, Bool.not_true, Bool.not_false]))
    | (refine Ok_guard_t1 ?_ ?_; (· simp only [t0, Bool.not_true, Bool.not_false]))
    | (refine Ok_guard_t0 ?_ ?_; (· simp only [t0, Bool.not_true, Bool.not_false]))
    | (refine Ok_guard_f0 ?_ ?_; (· simp only [t0, Bool.not_true, Bool.not_false]))
    | (refine Ok_guard_f1 ?_ ?_; (· simp only [t0, Bool.not_true, Bool.not_false]))
    | (refine Ok_cond_t ?_ ?_; (· simp only [t0, Bool.not_true, Bool.not_false]))
    | (refine Ok_cond_f ?_ ?_; (· simp only [t0, Bool.not_true, Bool.not_false]))
    | (refine Ok_guard_t1 ?_ ?_; (· simp only [g0, Bool.not_true, Bool.not_false]))
    | (refine Ok_guard_t0 ?_ ?_; (· simp only [g0, Bool.not_true, Bool.not_false]))
    | (refine Ok_guard_f0 ?_ ?_; (· simp only [g0, Bool.not_true, Bool.not_false]))
    | (refine Ok_guard_f1 ?_ ?_; (· simp only [g0, Bool.not_true, Bool.not_false]))
    | (refine Ok_cond_t ?_ ?_; (· simp only [g0, Bool.not_true, Bool.not_false]))
    | (refine Ok_cond_f ?_ ?_; (· simp only [g0, Bool.not_true, Bool.not_false]))
    | (refine Ok_guard_t1 ?_ ?_; (· simp only [l0, Bool.not_true, Bool.not_false]))
    | (refine Ok_guard_t0 ?_ ?_; (· simp only [l0, Bool.not_true, Bool.not_false]))
    | (refine Ok_guard_f0 ?_ ?_; (· simp only [l0, Bool.not_true, Bool.not_false]))
    | (refine Ok_guard_f1 ?_ ?_; (· simp only [l0, Bool.not_true, Bool.not_false]))
    | (refine Ok_cond_t ?_ ?_; (· simp only [l0, Bool.not_true, Bool.not_false]))
    | (refine Ok_cond_f ?_ ?_; (· simp only [l0, Bool.not_true, Bool.not_false]))
    | (refine Ok_guard_t1 ?_ ?_; (· simp only [hb, Bool.not_true, Bool.not_false]))
    | (refine Ok_guard_t0 ?_ ?_; (· simp only [hb, Bool.not_true, Bool.not_false]))
    | (refine Ok_guard_f0 ?_ ?_; (· simp only [hb, Bool.not_true, Bool.not_false]))
    | (refine Ok_guard_f1 ?_ ?_; (· simp only [hb, Bool.not_true, Bool.not_false]))
    | (refine Ok_cond_t ?_ ?_; (· simp only [hb, Bool.not_true, Bool.not_false]))
    | (refine Ok_cond_f ?_ ?_; (· simp only [hb, Bool.not_true, Bool.not_false]))
    | (refine Ok_guard_t1 ?_ ?_; (· simp only [g, Bool.not_true, Bool.not_false]))
    | (refine Ok_guard_t0 ?_ ?_; (· simp only [g, Bool.not_true, Bool.not_false]))
    | (refine Ok_guard_f0 ?_ ?_; (· simp only [g, Bool.not_true, Bool.not_false]))
    | (refine Ok_guard_f1 ?_ ?_; (· simp only [g, Bool.not_true, Bool.not_false]))
    | (refine Ok_cond_t ?_ ?_; (· simp only [g, Bool.not_true, Bool.not_false]))
    | (refine Ok_cond_f ?_ ?_; (· simp only [g, Bool.not_true, Bool.not_false]))
    | refine Ok_call (R3_Strings n.gaps m.gaps hg) ?_
    | refine Ok_call (ih x hmem y) ?_
    | refine Ok_guard_t (fun h => ?_) (fun h => ?_)
    | refine Ok_guard_f (fun h => ?_) (fun h => ?_)
    | refine Ok_cond (fun h => ?_) (fun h => ?_)
    | refine Ok_fin env rfl rfl (told_eq ?_)
    | refine Ok_fin_n env rfl (told_eq ?_)
  all_goals (rw [he]; rfl)
end Go.Proofs.YtimdjillcaichaaDoorW.Ex.Gr
