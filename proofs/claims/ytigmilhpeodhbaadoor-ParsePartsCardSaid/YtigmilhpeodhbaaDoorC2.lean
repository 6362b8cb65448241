/- Well-formed nodes of each kind, their words, and what their words are as tokens. Conditions: those in each theorem. An expression's words are read as the same expression. Conditions: those in each theorem. -/
import Derived.Test.YtigmilhpeodhbaaDoorC0
import Derived.Test.YtigmilhpeodhbaaDoorKu
namespace Go.Proofs.YtigmilhpeodhbaaDoorW.Ex.Gr
open Go Go.Proofs.YtigmilhpeodhbaaDoorW.Ex Go.Proofs.YtigmilhpeodhbaaDoorW.Plain
set_option linter.all false
set_option maxRecDepth 100000
namespace Ps
open Tk
structure IN (n : Node) : Prop where
 kn : known n.kind = true
 nk : nkOk n.kind n.kids.length
 ks : ∀ m ∈ n.kids, firstErr m = 0
 ft : ∀ (i : Nat) (m : Node), n.kids[i]? = some m → fits n.kind i m.kind = true
 sp : spelledOk n = true
 lv : levelsOk n = true
 ca : calledOk n = true
theorem inn {n : Node} (h : firstErr n = 0) : IN n := by
 obtain ⟨h1, h2⟩ := qju h
 obtain ⟨a1, a2, a3, a4, a5, a6⟩ := qmz h1
 refine ⟨a1, qz6 a1 a2, h2, fun i m hm => ?_, a3, a4, a5⟩
 unfold Qz at a2
 by_cases h14 : n.kind = 14 ∧ n.kids.length = 0
 ·rw [List.length_eq_zero_iff.1 h14.2] at hm; cases i <;> cases hm
 rw [if_neg h14] at a2
 split at a2
 ·cases a2
 have := qnp (fun (i : Nat) (m : Node) => fits n.kind i m.kind) n.kids 0 a2 i m hm
 rw [Nat.zero_add] at this
 exact this
theorem Q9 {p k : Int} {i : Nat} {q : Int × Int} (h : fits p i k = true) (hq : Qy p (i : Int) = q) : if q.2 = 0 then q.1 = k else q.2 = zy k := by
 unfold fits at h
 rw [hq] at h
 simp only [Bool.and_eq_true] at h
 have h := h.2
 split at h
 ·rename_i e; rw [if_pos e]; exact of_decide_eq_true h
 rename_i e; rw [if_neg e]; exact of_decide_eq_true h
section
variable {t : BA} {g : List BA} {ks : List Node}
theorem qcl {k : Int} (h : firstErr (.mk k t g ks) = 0) (hf : (zq k).first = []) {q : Int × Int} (hr : (zq k).rest = q) : ∀ m ∈ ks, firstErr m = 0 ∧ (if q.2 = 0 then q.1 = m.kind else q.2 = zy m.kind) := fun m hm => by
 have w := inn h
 obtain ⟨i, hi⟩ := List.getElem?_of_mem hm
 refine ⟨w.ks m hm, Q9 (w.ft i m hi) ?_⟩
 unfold Qy
 show (if (i : Int) < (zq k).first.length then _ else (zq k).rest) = q
 rw [hf, if_neg (by simp), hr]
theorem qs5 {k : Int} (h : firstErr (.mk k t g ks) = 0) (hn : nkOk k ks.length = (ks.length = 1)) {q : Int × Int} (hq : Qy k 0 = q) : ∃ a, ks = [a] ∧ firstErr a = 0 ∧ (if q.2 = 0 then q.1 = a.kind else q.2 = zy a.kind) := by
 have w := inn h
 have hl : ks.length = 1 := hn ▸ w.nk
 obtain ⟨a, rfl⟩ := List.length_eq_one_iff.1 hl
 exact ⟨a, rfl, w.ks a (List.mem_cons_self ..), Q9 (w.ft 0 a rfl) hq⟩
theorem Wy {k : Int} (h : firstErr (.mk k t g ks) = 0) (hn : nkOk k ks.length = (ks.length = 0)) : ks = [] := by
 have w := inn h
 have hl : ks.length = 0 := hn ▸ w.nk
 exact List.length_eq_zero_iff.1 hl
theorem two {α : Type} {l : List α} (h : l.length = 2) : ∃ a b, l = [a, b] := by
 match l, h with
 | [a, b], _ => exact ⟨a, b, rfl⟩
theorem qz2 {α : Type} {l : List α} (h : l.length = 3) : ∃ a b c, l = [a, b, c] := by
 match l, h with
 | [a, b, c], _ => exact ⟨a, b, c, rfl⟩
theorem q1z {t : BA} (h : memB t [⟨#[124]⟩, ⟨#[38]⟩, ⟨#[61, 61]⟩, ⟨#[60]⟩, ⟨#[43]⟩, ⟨#[45]⟩, ⟨#[42]⟩, ⟨#[47]⟩] = true) : 1 ≤ jh t ∧ jh t ≤ 5 ∧ t ≠ ⟨#[46]⟩ ∧ t ≠ ⟨#[40]⟩ ∧ t ≠ e0 := by
 have hm := qe3 h
 simp only [List.mem_cons, List.not_mem_nil, or_false] at hm
 rcases hm with rfl | rfl | rfl | rfl | rfl | rfl | rfl | rfl <;> decide
theorem i24 (h : firstErr (.mk 24 t g ks) = 0) : ∃ a b, ks = [a, b] ∧ firstErr a = 0 ∧ firstErr b = 0 ∧ zy a.kind = 3 ∧ zy b.kind = 3 ∧ (1 ≤ jh t ∧ jh t ≤ 5 ∧ t ≠ ⟨#[46]⟩ ∧ t ≠ ⟨#[40]⟩ ∧ t ≠ e0) ∧ jh t ≤ level a ∧ (jh t = 3 → 3 < level a) ∧ jh t + 1 ≤ level b := by
 have w := inn h
 obtain ⟨a, b, rfl⟩ := two (show ks.length = 2 from w.nk)
 have hl : (!(decide (level a < jh t) || (decide (level a = jh t) && decide (jh t = 3))) && decide (jh t < level b)) = true := w.lv
 simp only [Bool.and_eq_true, Bool.not_eq_true', Bool.or_eq_false_iff, decide_eq_false_iff_not, decide_eq_true_eq, Bool.and_eq_false_iff] at hl
 exact ⟨a, b, rfl, w.ks a (List.mem_cons_self ..), w.ks b (List.mem_cons_of_mem _ (List.mem_cons_self ..)), (Q9 (q := (0, 3)) (w.ft 0 a rfl) rfl).symm, (Q9 (q := (0, 3)) (w.ft 1 b rfl) rfl).symm, q1z w.sp, by omega, fun e => by omega, by omega⟩
theorem i25 (h : firstErr (.mk 25 t g ks) = 0) : ∃ a, ks = [a] ∧ firstErr a = 0 ∧ zy a.kind = 3 ∧ (t = ⟨#[45]⟩ ∨ t = ⟨#[33]⟩) ∧ 6 ≤ level a := by
 have w := inn h
 obtain ⟨a, rfl, h1, h2⟩ := qs5 h rfl (q := (0, 3)) rfl
 have hm := qe3 (l := [⟨#[45]⟩, ⟨#[33]⟩]) (v := t) w.sp
 simp only [List.mem_cons, List.not_mem_nil, or_false] at hm
 exact ⟨a, rfl, h1, h2.symm, hm, of_decide_eq_true w.lv⟩
theorem i21 (h : firstErr (.mk 21 t g ks) = 0) : ∃ a l, ks = a :: l ∧ firstErr a = 0 ∧ zy a.kind = 3 ∧ level a = 7 ∧ (∀ m ∈ l, firstErr m = 0 ∧ zy m.kind = 3) ∧ u1 t.data.toList = true := by
 have w := inn h
 cases ks with
 | nil => exact absurd (show 1 ≤ 0 from w.nk) (by decide)
 | cons a l =>
   refine ⟨a, l, rfl, w.ks a (List.mem_cons_self ..), (Q9 (q := (0, 3)) (w.ft 0 a rfl) rfl).symm, of_decide_eq_true w.lv, fun m hm => ?_, w.ca⟩
   obtain ⟨i, hi⟩ := List.getElem?_of_mem hm
   refine ⟨w.ks m (List.mem_cons_of_mem _ hm), (Q9 (q := (0, 3)) (w.ft (i + 1) m hi) ?_).symm⟩
   show (if ((i + 1 : Nat) : Int) < 1 then _ else _) = _
   rw [if_neg (by omega)]; rfl
theorem i20 (h : firstErr (.mk 20 t g ks) = 0) : (∀ m ∈ ks, firstErr m = 0 ∧ zy m.kind = 3) ∧ u1 t.data.toList = true :=
 ⟨fun m hm => ⟨(qcl h rfl (q := (0, 3)) rfl m hm).1, (qcl h rfl (q := (0, 3)) rfl m hm).2.symm⟩, (inn h).ca⟩
theorem i26 (h : firstErr (.mk 26 t g ks) = 0) : ∃ a, ks = [a] ∧ firstErr a = 0 ∧ zy a.kind = 3 ∧ t = e0 := by
 obtain ⟨a, e, h1, h2⟩ := qs5 h rfl (q := (0, 3)) rfl
 exact ⟨a, e, h1, h2.symm, of_decide_eq_true (inn h).sp⟩
theorem i18 (h : firstErr (.mk 18 t g ks) = 0) : ks = [] ∧ (t = ⟨#[116, 114, 117, 101]⟩ ∨ t = ⟨#[102, 97, 108, 115, 101]⟩) := by
 have hm := qe3 (l := [⟨#[116, 114, 117, 101]⟩, ⟨#[102, 97, 108, 115, 101]⟩]) (v := t) (inn h).sp
 simp only [List.mem_cons, List.not_mem_nil, or_false] at hm
 exact ⟨Wy h rfl, hm⟩
theorem i23 (h : firstErr (.mk 23 t g ks) = 0) : ks = [] ∧ t = ⟨#[115, 101, 108, 102]⟩ := by
 have hm := qe3 (l := [⟨#[115, 101, 108, 102]⟩]) (v := t) (inn h).sp
 simp only [List.mem_cons, List.not_mem_nil, or_false] at hm
 exact ⟨Wy h rfl, hm⟩
end
def wdR : Bool → List Node → List BA
 | _, [] => [⟨#[41]⟩]
 | true, m :: l => wdN m ++ wdR false l
 | false, m :: l => ⟨#[44]⟩ :: (wdN m ++ wdR false l)
theorem qeq (v : Int) : ∀ (l : List Node) (b : Bool), wdS (vn v b l.length) (wdL l) = wdR b l
 | [], true => rfl
 | [], false => rfl
 | m :: l, true => by rw [List.length_cons, vn, wdL, wdS, qeq v l false, wdR]
 | m :: l, false => by rw [List.length_cons, vn, wdL, wdS, wdS, qeq v l false, wdR]
def wdA : List Node → List BA
 | [] => []
 | m :: l => wdN m ++ wdA l
theorem qvm (x : BA) (v : Int) (R : List Step) : ∀ (l : List Node), wdS (allS x v l.length ++ R) (wdL l) = wdA l ++ wdS R []
 | [] => rfl
 | m :: l => by rw [List.length_cons, allS, wdL, List.cons_append, wdS, qvm x v R l, wdA, List.append_assoc]
theorem qr2 (v : Int) (R : List Step) : ∀ (l : List Node) (x : BA), wdS (qah v x l.length ++ R) (wdL l) = wdA l ++ wdS R []
 | [], x => rfl
 | m :: l, x => by rw [List.length_cons, qah, wdL, List.cons_append, wdS, qr2 v R l, wdA, List.append_assoc]
theorem quu {l : List UInt8} (h : u1 l = true) : Qs l = 1 := by
 unfold u1 at h
 simp only [Bool.and_eq_true, decide_eq_true_eq] at h
 obtain ⟨⟨⟨h0, h1⟩, _⟩, h3⟩ := h
 have hr := qlq l 0 h3
 cases l with
 | nil => cases h0
 | cons c l =>
   unfold Qg at h3
   simp only [Bool.and_eq_true, Bool.or_eq_true, bne_self_eq_false, Bool.false_and, Bool.false_eq_true, or_false] at h3
   have hl : Zp c.toNat = true := h3.1
   have hd : digC c = false := by
    unfold digC ug
    unfold Zp at hl
    have := of_decide_eq_true hl
    exact decide_eq_false (by omega)
   have hw : letC c = true := by unfold letC; rw [hl]; simp
   have hn := qbd l hw hd
   rw [hr, if_pos h1] at hn
   unfold Qs
   rw [hn, if_pos rfl]
theorem qw6 {l : List UInt8} (h : y7 l = true) : Qs l = 2 := by
 have h' := h
 unfold y7 at h
 simp only [Bool.and_eq_true, decide_eq_true_eq] at h
 obtain ⟨⟨⟨h0, h1⟩, _⟩, h3⟩ := h
 cases hv : jg 0 l with
 | none => rw [hv] at h3; cases h3
 | some v =>
   have hr := qla l 0 v hv
   cases l with
   | nil => cases h0
   | cons c l =>
     unfold jg at hv
     have hd : digC c = true := by
      unfold digC
      cases hq : ug c.toNat with
      | true => rfl
      | false => rw [hq] at hv; cases hv
     have hn := qbe l hd
     rw [hr, List.take_of_length_le (Nat.le_refl _), if_pos h'] at hn
     unfold Qs
     rw [hn, if_pos rfl]
def Ty (T : List Token) : Prop := ∀ x ∈ T, x.Kind = Qs (L x.Text)
theorem Ty.app {a b : List Token} (h : Ty (a ++ b)) : Ty a ∧ Ty b := ⟨fun x hx => h x (List.mem_append_left _ hx), fun x hx => h x (List.mem_append_right _ hx)⟩
theorem Ty.tail {x : Token} {b : List Token} (h : Ty (x :: b)) : Ty b := fun y hy => h y (List.mem_cons_of_mem _ hy)
theorem Ty.head {x : Token} {b : List Token} (h : Ty (x :: b)) : x.Kind = Qs (L x.Text) := h x (List.mem_cons_self ..)
theorem Ty.name {x : Token} {b : List Token} (h : Ty (x :: b)) (hn : u1 x.Text.data.toList = true) : x.Kind = 1 ∧ Nm x := ⟨h.head.trans (quu hn), hn⟩
theorem jx {T : List Token} {w : BA} {l : List BA} (h : T.map (·.Text) = w :: l) : ∃ x T', T = x :: T' ∧ x.Text = w ∧ T'.map (·.Text) = l := by
 cases T with
 | nil => cases h
 | cons x T => rw [List.map_cons] at h; exact ⟨x, T, rfl, (List.cons.inj h).1, (List.cons.inj h).2⟩
theorem J3 {T : List Token} {a b : List BA} (h : T.map (·.Text) = a ++ b) : ∃ A B, T = A ++ B ∧ A.map (·.Text) = a ∧ B.map (·.Text) = b := List.map_eq_append_iff.1 h
theorem Jp {T : List Token} (h : T.map (·.Text) = []) : T = [] := List.map_eq_nil_iff.1 h
theorem qch {w : BA} (h : u1 w.data.toList = true) : okE w := by
 have ne : ∀ l : Array UInt8, u1 l.toList = false → w ≠ ⟨l⟩ := fun l hl e => by rw [e] at h; exact absurd (h.symm.trans hl) (by decide)
 exact ⟨ne _ (by decide), ne _ (by decide), ne _ (by decide), ne _ (by decide), ne _ (by decide), ne _ (by decide), ne _ (by decide)⟩
theorem qyx {w : BA} (h : y7 w.data.toList = true) : okE w := by
 have ne : ∀ l : Array UInt8, y7 l.toList = false → w ≠ ⟨l⟩ := fun l hl e => by rw [e] at h; exact absurd (h.symm.trans hl) (by decide)
 exact ⟨ne _ (by decide), ne _ (by decide), ne _ (by decide), ne _ (by decide), ne _ (by decide), ne _ (by decide), ne _ (by decide)⟩
theorem q0n {t : BA} (h : 1 ≤ jh t) : okE t := by
 have ne : ∀ l : Array UInt8, jh ⟨l⟩ = 0 → t ≠ ⟨l⟩ := fun l hl e => by rw [e, hl] at h; exact absurd h (by decide)
 exact ⟨ne _ (by decide), ne _ (by decide), ne _ (by decide), ne _ (by decide), ne _ (by decide), ne _ (by decide), ne _ (by decide)⟩
theorem qh6 : ∀ (l : List Node) (b : Bool), (∀ m ∈ l, ∀ w ∈ wdN m, okE w) → ∀ w ∈ wdR b l, okE w
 | [], true, h, w, hw => by rw [wdR, List.mem_singleton] at hw; rw [hw]; unfold okE; decide
 | [], false, h, w, hw => by rw [wdR, List.mem_singleton] at hw; rw [hw]; unfold okE; decide
 | m :: l, true, h, w, hw => by
   rw [wdR] at hw
   rcases List.mem_append.1 hw with hw | hw
   ·exact h m (List.mem_cons_self ..) w hw
   exact qh6 l false (fun m hm => h m (List.mem_cons_of_mem _ hm)) w hw
 | m :: l, false, h, w, hw => by
   rw [wdR] at hw
   rcases List.mem_cons.1 hw with e | hw
   ·rw [e]; unfold okE; decide
   rcases List.mem_append.1 hw with hw | hw
   ·exact h m (List.mem_cons_self ..) w hw
   exact qh6 l false (fun m hm => h m (List.mem_cons_of_mem _ hm)) w hw
theorem qjj {k : Int} (h : zy k = 3) : k = 17 ∨ k = 18 ∨ k = 19 ∨ k = 20 ∨ k = 21 ∨ k = 22 ∨ k = 23 ∨ k = 24 ∨ k = 25 ∨ k = 26 := by
 have hk := kinds (Q0 h)
 rcases hk with rfl | rfl | rfl | rfl | rfl | rfl | rfl | rfl | rfl | rfl | rfl | rfl | rfl | rfl | rfl | rfl | rfl | rfl | rfl | rfl | rfl | rfl | rfl | rfl | rfl | rfl <;> first | (exact absurd h (by decide)) | simp
section
variable {t : BA} {g : List BA} {a b : Node} {l : List Node}
theorem qb8 (k : Int) (h : k = 17 ∨ k = 18 ∨ k = 19 ∨ k = 23 ∨ k = 5) : wdN (.mk k t g []) = [t] := by rcases h with rfl | rfl | rfl | rfl | rfl <;> (rw [wdN]; rfl)
theorem w22 : wdN (.mk 22 t g []) = [⟨#[110, 101, 119]⟩, t, ⟨#[40]⟩, ⟨#[41]⟩] := by rw [wdN]; rfl
theorem w24 : wdN (.mk 24 t g [a, b]) = wdN a ++ t :: wdN b := by rw [wdN]; show wdN a ++ t :: (wdN b ++ []) = _; rw [List.append_nil]
theorem w25 : wdN (.mk 25 t g [a]) = t :: wdN a := by rw [wdN]; show t :: (wdN a ++ []) = _; rw [List.append_nil]
theorem w26 : wdN (.mk 26 t g [a]) = ⟨#[40]⟩ :: (wdN a ++ [⟨#[41]⟩]) := by rw [wdN]; rfl
theorem w20 : wdN (.mk 20 t g l) = t :: ⟨#[40]⟩ :: wdR true l := by rw [wdN]; show t :: _ :: wdS (vn 0 true l.length) (wdL l) = _; rw [qeq]
theorem w21 : wdN (.mk 21 t g (a :: l)) = wdN a ++ ⟨#[46]⟩ :: t :: ⟨#[40]⟩ :: wdR true l := by rw [wdN]; show wdN a ++ (_ :: t :: _ :: wdS (vn 0 true (l.length + 1 - 1)) (wdL l)) = _; rw [Nat.add_sub_cancel, qeq]
end
theorem qf0 : ∀ (j : Nat) (n : Node), Zv n ≤ j → firstErr n = 0 → zy n.kind = 3 → (∀ w ∈ wdN n, okE w) ∧ ∃ w l, wdN n = w :: l ∧ w ≠ ⟨#[41]⟩
 | 0, n, h, _, _ => by have := W9 n; omega
 | j + 1, n, h, hf, hg => by
   have hs := qaa n
   have ih : ∀ m ∈ n.kids, firstErr m = 0 → zy m.kind = 3 → (∀ w ∈ wdN m, okE w) ∧ ∃ w l, wdN m = w :: l ∧ w ≠ ⟨#[41]⟩ := fun m hm => qf0 j m (by have := qcd hm; omega)
   obtain ⟨k, t, g, ks⟩ := n
   have nm : ∀ {w : BA}, u1 w.data.toList = true → w ≠ ⟨#[41]⟩ := fun h e => by rw [e] at h; exact absurd h (by decide)
   have one : ∀ {w : BA}, okE w → w ≠ ⟨#[41]⟩ → (∀ v ∈ [w], okE v) ∧ ∃ v l, [w] = v :: l ∧ v ≠ ⟨#[41]⟩ := fun h h2 => ⟨fun v hv => by rw [List.mem_singleton.1 hv]; exact h, _, _, rfl, h2⟩
   rcases qjj hg with hk | hk | hk | hk | hk | hk | hk | hk | hk | hk <;> (have hk : k = _ := hk; subst hk)
   ·rw [Wy hf rfl, qb8 17 (by simp)]
    have : y7 t.data.toList = true := (inn hf).ca
    exact one (qyx this) (fun e => by rw [e] at this; exact absurd this (by decide))
   ·obtain ⟨e, h2⟩ := i18 hf
    rw [e, qb8 18 (by simp)]
    rcases h2 with h2 | h2 <;> (rw [h2]; exact one (by unfold okE; decide) (by decide))
   ·rw [Wy hf rfl, qb8 19 (by simp)]
    exact one (qch (inn hf).ca) (nm (inn hf).ca)
   ·obtain ⟨h1, h2⟩ := i20 hf
    rw [w20]
    refine ⟨fun w hw => ?_, _, _, rfl, nm h2⟩
    rcases List.mem_cons.1 hw with e | hw
    ·rw [e]; exact qch h2
    rcases List.mem_cons.1 hw with e | hw
    ·rw [e]; unfold okE; decide
    exact qh6 ks true (fun m hm => (ih m hm (h1 m hm).1 (h1 m hm).2).1) w hw
   ·obtain ⟨a, l, rfl, ha, ga, _, h1, h2⟩ := i21 hf
    obtain ⟨q1, w, l', q2, q3⟩ := ih a (List.mem_cons_self ..) ha ga
    rw [w21]
    refine ⟨fun w hw => ?_, w, _, by rw [q2]; rfl, q3⟩
    rcases List.mem_append.1 hw with hw | hw
    ·exact q1 w hw
    rcases List.mem_cons.1 hw with e | hw
    ·rw [e]; unfold okE; decide
    rcases List.mem_cons.1 hw with e | hw
    ·rw [e]; exact qch h2
    rcases List.mem_cons.1 hw with e | hw
    ·rw [e]; unfold okE; decide
    exact qh6 l true (fun m hm => (ih m (List.mem_cons_of_mem _ hm) (h1 m hm).1 (h1 m hm).2).1) w hw
   ·rw [Wy hf rfl, w22]
    refine ⟨fun w hw => ?_, _, _, rfl, by decide⟩
    simp only [List.mem_cons, List.not_mem_nil, or_false] at hw
    rcases hw with e | e | e | e
    ·rw [e]; unfold okE; decide
    ·rw [e]; exact qch (inn hf).ca
    ·rw [e]; unfold okE; decide
    rw [e]; unfold okE; decide
   ·obtain ⟨e, h2⟩ := i23 hf
    rw [e, qb8 23 (by simp), h2]
    exact one (by unfold okE; decide) (by decide)
   ·obtain ⟨a, b, rfl, ha, hb, ga, gb, ho, _⟩ := i24 hf
    obtain ⟨q1, w, l', q2, q3⟩ := ih a (List.mem_cons_self ..) ha ga
    obtain ⟨p1, _⟩ := ih b (List.mem_cons_of_mem _ (List.mem_cons_self ..)) hb gb
    rw [w24]
    refine ⟨fun w hw => ?_, w, _, by rw [q2]; rfl, q3⟩
    rcases List.mem_append.1 hw with hw | hw
    ·exact q1 w hw
    rcases List.mem_cons.1 hw with e | hw
    ·rw [e]; exact q0n ho.1
    exact p1 w hw
   ·obtain ⟨a, rfl, ha, ga, ht, _⟩ := i25 hf
    obtain ⟨q1, _⟩ := ih a (List.mem_cons_self ..) ha ga
    rw [w25]
    refine ⟨fun w hw => ?_, _, _, rfl, by rcases ht with e | e <;> (rw [e]; decide)⟩
    rcases List.mem_cons.1 hw with e | hw
    ·rw [e]; rcases ht with e | e <;> (rw [e]; unfold okE; decide)
    exact q1 w hw
   obtain ⟨a, rfl, ha, ga, ht⟩ := i26 hf
   obtain ⟨q1, _⟩ := ih a (List.mem_cons_self ..) ha ga
   rw [w26]
   refine ⟨fun w hw => ?_, _, _, rfl, by decide⟩
   rcases List.mem_cons.1 hw with e | hw
   ·rw [e]; unfold okE; decide
   rcases List.mem_append.1 hw with hw | hw
   ·exact q1 w hw
   rw [List.mem_singleton.1 hw]; unfold okE; decide
end Ps
end Go.Proofs.YtigmilhpeodhbaaDoorW.Ex.Gr

namespace Go.Proofs.YtigmilhpeodhbaaDoorW.Ex.Gr
open Go Go.Proofs.YtigmilhpeodhbaaDoorW.Ex Go.Proofs.YtigmilhpeodhbaaDoorW.Plain
set_option linter.all false
set_option maxRecDepth 100000
namespace Ps
open Tk
def stop (v : Int) (r : List Token) : Prop := ∃ x q, r = x :: q ∧ jh x.Text < v ∧ x.Text ≠ ⟨#[46]⟩ ∧ x.Text ≠ ⟨#[40]⟩
theorem stop.up {v w : Int} {r : List Token} (h : stop v r) (hv : v ≤ w) : stop w r := by
 obtain ⟨x, q, h1, h2, h3⟩ := h
 exact ⟨x, q, h1, by omega, h3⟩
def np (r : List Token) : Prop := ∃ x q, r = x :: q ∧ x.Text ≠ ⟨#[40]⟩
structure CE (n : Node) (T : List Token) (n' : Node) : Prop where
 same : sameN n' n
 bin : ∀ (v : Int) r, 1 ≤ v → v ≤ 6 → v ≤ level n → stop v r → Ck (.bin v) (T ++ r) n' r
 binL : ∀ (v : Int) r, 1 ≤ v → v ≤ 5 → v ≤ level n → ¬ (v = 3 ∧ level n = 3) → stop (v + 1) r → ∀ N R, Ck (.binL v n') r N R → Ck (.bin v) (T ++ r) N R
 un : ∀ r, level n = 7 → np r → ∀ N R, Ck (.unL n') r N R → Ck .un (T ++ r) N R
 un6 : ∀ r, 6 ≤ level n → stop 6 r → Ck .un (T ++ r) n' r
theorem qwq {T r : List Token} (h : T ≠ []) : r.length < (T ++ r).length := by
 rw [List.length_append]
 have := List.length_pos_iff.2 h
 omega
theorem qcj {T r : List Token} : r.length ≤ (T ++ r).length := by rw [List.length_append]; omega
theorem qxr {n n' : Node} {T : List Token} (hT : T ≠ []) (M : Int) (hM : M = if level n ≤ 5 then level n else 6) (hA : ∀ r, stop M r → Ck (.bin M) (T ++ r) n' r) (hD : level n ≤ 5 → level n ≠ 3 → ∀ r, stop (level n + 1) r → ∀ N R, Ck (.binL (level n) n') r N R → Ck (.bin (level n)) (T ++ r) N R) :
 (∀ (v : Int) r, 1 ≤ v → v ≤ 6 → v ≤ level n → stop v r → Ck (.bin v) (T ++ r) n' r) ∧ (∀ (v : Int) r, 1 ≤ v → v ≤ 5 → v ≤ level n → ¬ (v = 3 ∧ level n = 3) → stop (v + 1) r → ∀ N R, Ck (.binL v n') r N R → Ck (.bin v) (T ++ r) N R) := by
 have hM6 : M ≤ 6 ∧ M ≤ level n ∧ (level n ≤ 5 → M = level n) ∧ (6 ≤ level n → M = 6) := by
  rw [hM]; split <;> omega
 have A : ∀ (k : Nat) (v : Int) r, v + k = M → 1 ≤ v → stop v r → Ck (.bin v) (T ++ r) n' r := by
  intro k
  induction k with
  | zero => intro v r h h1 hs; have : v = M := by omega
            rw [this] at hs ⊢; exact hA r hs
  | succ k ih =>
    intro v r h h1 hs
    have h2 := ih (v + 1) r (by omega) (by omega) (hs.up (by omega))
    obtain ⟨x, q, rfl, h3, h4, h5⟩ := hs
    exact q0c h1 (by omega) h2 (qwq hT) (qyc (by omega))
 have A' : ∀ (v : Int) r, 1 ≤ v → v ≤ 6 → v ≤ level n → stop v r → Ck (.bin v) (T ++ r) n' r := fun v r h1 h6 hl hs => A (M - v).toNat v r (by omega) h1 hs
 refine ⟨A', fun v r h1 h5 hl h3 hs N R hk => ?_⟩
 by_cases e : v = level n
 ·rw [e] at hs hk ⊢
  exact hD (by omega) (fun q => h3 ⟨by omega, q⟩) r hs N R hk
 exact q0c h1 h5 (A' (v + 1) r (by omega) (by omega) (by omega) hs) (qwq hT) hk
theorem qtv {n n' : Node} {T : List Token} (hT : T ≠ []) (hl : level n = 7) (hs : sameN n' n) (hu : ∀ r, np r → ∀ N R, Ck (.unL n') r N R → Ck .un (T ++ r) N R) : CE n T n' := by
 have h6 : ∀ r, stop 6 r → Ck .un (T ++ r) n' r := fun r h => by
  obtain ⟨x, q, rfl, _, h2, h3⟩ := h
  exact hu _ ⟨x, q, rfl, h3⟩ _ _ (qya h2)
 obtain ⟨c1, c2⟩ := qxr (n := n) (n' := n') hT 6 (by rw [hl, if_neg (by decide)]) (fun r h => qye rfl (h6 r h)) (fun h => absurd h (by omega))
 exact ⟨hs, c1, c2, fun r _ h => hu r h, fun r _ h => h6 r h⟩
theorem qbr {n n' : Node} {x : Token} {T : List Token} (hl : level n = 7) (hs : sameN n' n) (h1 : x.Text ≠ ⟨#[45]⟩) (h2 : x.Text ≠ ⟨#[33]⟩) (hp : ∀ r, np r → Ck .prim ((x :: T) ++ r) n' r) : CE n (x :: T) n' :=
 qtv (by simp) hl hs fun r h N R hk => qyb h1 h2 (hp r h) qcj hk
theorem CE.ne {n n' : Node} {T : List Token} (hw : ∃ w l, wdN n = w :: l ∧ w ≠ ⟨#[41]⟩) (h : T.map (·.Text) = wdN n) : T ≠ [] := by
 rintro rfl
 obtain ⟨w, l, e, _⟩ := hw
 rw [e] at h; cases h
theorem qfe {n : Node} (hf : firstErr n = 0) (hg : zy n.kind = 3) : 1 ≤ level n := by
 obtain ⟨k, t, g, ks⟩ := n
 rcases qjj hg with hk | hk | hk | hk | hk | hk | hk | hk | hk | hk <;> (have hk : k = _ := hk; subst hk)
 case' inr.inr.inr.inr.inr.inr.inr.inl =>
  obtain ⟨_, _, _, _, _, _, _, ho, _⟩ := i24 hf
  exact ho.1
 all_goals first | (show (1 : Int) ≤ 7; decide) | (show (1 : Int) ≤ 6; decide)
theorem qlh {ks : List Node} {T r : List Token} (h : T.map (·.Text) = wdR false ks) : stop 1 (T ++ r) := by
 cases ks with
 | nil =>
   obtain ⟨x, T', rfl, hx, _⟩ := jx (show T.map (·.Text) = ⟨#[41]⟩ :: [] from h)
   exact ⟨x, _, rfl, by rw [hx]; decide, by rw [hx]; decide, by rw [hx]; decide⟩
 | cons m l =>
   rw [wdR] at h
   obtain ⟨x, T', rfl, hx, _⟩ := jx h
   exact ⟨x, _, rfl, by rw [hx]; decide, by rw [hx]; decide, by rw [hx]; decide⟩
theorem qnx : ∀ (ks : List Node) (b : Bool) (T : List Token), (∀ m ∈ ks, firstErr m = 0 ∧ zy m.kind = 3) → (∀ m ∈ ks, ∀ U, U.map (·.Text) = wdN m → Ty U → ∃ m', CE m U m') → T.map (·.Text) = wdR b ks → Ty T →
 ∃ g' ks', Qk ks' ks ∧ ∀ (k : Int) (a : BA) (g : List BA) (ls : List Node) (r : List Token), Ck (.argL b k a g ls) (T ++ r) (.mk k a (g ++ g') (ls ++ ks')) r
 | [], b, T, _, _, h, ty => by
   have h : T.map (·.Text) = [⟨#[41]⟩] := by rw [h]; cases b <;> rfl
   obtain ⟨x, T', rfl, hx, hT⟩ := jx h
   rw [Jp hT]
   exact ⟨[x.Lead], [], kw, fun k a g ls r => by rw [List.append_nil]; exact qyg hx⟩
 | m :: ks, true, T, h1, ih, h, ty => by
   rw [wdR] at h
   obtain ⟨U, T', rfl, hU, hT⟩ := J3 h
   have hm := h1 m (List.mem_cons_self ..)
   obtain ⟨m', c⟩ := ih m (List.mem_cons_self ..) U hU ty.app.1
   obtain ⟨g', ks', hs, hk⟩ := qnx ks false T' (fun m hm => h1 m (List.mem_cons_of_mem _ hm)) (fun m hm => ih m (List.mem_cons_of_mem _ hm)) hT ty.app.2
   obtain ⟨_, w, l, e, hw⟩ := qf0 (Zv m) m (Nat.le_refl _) hm.1 hm.2
   refine ⟨g', m' :: ks', ym c.same hs, fun k a g ls r => ?_⟩
   rw [e] at hU
   obtain ⟨x, U', rfl, hx, _⟩ := jx hU
   have lev : 1 ≤ level m := qfe hm.1 hm.2
   have st : stop 1 (T' ++ r) := qlh hT
   have hb := c.bin 1 (T' ++ r) (by decide) (by decide) lev st
   have hk' := hk k a g (ls ++ [m']) r
   rw [List.append_assoc] at hk'
   rw [List.append_assoc]
   exact qrw (by rw [hx]; exact hw) hb qcj hk'
 | m :: ks, false, T, h1, ih, h, ty => by
   rw [wdR] at h
   obtain ⟨y, T1, rfl, hy, h⟩ := jx h
   obtain ⟨U, T', rfl, hU, hT⟩ := J3 h
   have hm := h1 m (List.mem_cons_self ..)
   obtain ⟨m', c⟩ := ih m (List.mem_cons_self ..) U hU ty.tail.app.1
   obtain ⟨g', ks', hs, hk⟩ := qnx ks false T' (fun m hm => h1 m (List.mem_cons_of_mem _ hm)) (fun m hm => ih m (List.mem_cons_of_mem _ hm)) hT ty.tail.app.2
   refine ⟨y.Lead :: g', m' :: ks', ym c.same hs, fun k a g ls r => ?_⟩
   have lev : 1 ≤ level m := qfe hm.1 hm.2
   have st : stop 1 (T' ++ r) := qlh hT
   have hb := c.bin 1 (T' ++ r) (by decide) (by decide) lev st
   have hk' := hk k a (g ++ [y.Lead]) (ls ++ [m']) r
   rw [List.append_assoc, List.append_assoc] at hk'
   rw [List.cons_append, List.append_assoc]
   exact qva hy hb qcj hk'
theorem qrv : ∀ (j : Nat) (n : Node), Zv n ≤ j → firstErr n = 0 → zy n.kind = 3 → ∀ T, T.map (·.Text) = wdN n → Ty T → ∃ n', CE n T n'
 | 0, n, h, _, _, _, _, _ => by have := W9 n; omega
 | j + 1, n, h, hf, hg, T, hT, ty => by
   have hs := qaa n
   have ih : ∀ m ∈ n.kids, firstErr m = 0 → zy m.kind = 3 → ∀ T, T.map (·.Text) = wdN m → Ty T → ∃ m', CE m T m' := fun m hm => qrv j m (by have := qcd hm; omega)
   have hne := CE.ne (n' := n) (qf0 (Zv n) n (Nat.le_refl _) hf hg).2 hT
   obtain ⟨k, t, g, ks⟩ := n
   rcases qjj hg with hk | hk | hk | hk | hk | hk | hk | hk | hk | hk <;> (have hk : k = _ := hk; subst hk)
   ·-- an integer
    have e := Wy hf rfl
    subst e
    rw [qb8 17 (by simp)] at hT
    obtain ⟨x, T', rfl, hx, hT⟩ := jx hT
    rw [Jp hT]
    have hi : y7 x.Text.data.toList = true := by rw [hx]; exact (inn hf).ca
    have k2 : x.Kind = 2 := ty.head.trans (qw6 hi)
    have ne : ∀ l : Array UInt8, y7 l.toList = false → x.Text ≠ ⟨l⟩ := fun l hl e => by rw [e] at hi; exact absurd (hi.symm.trans hl) (by decide)
    exact ⟨.mk 17 x.Text [x.Lead] [], qbr rfl (u0 rfl hx kw) (ne _ (by decide)) (ne _ (by decide)) fun r _ => q2t k2⟩
   ·-- true, false
    obtain ⟨e, ht⟩ := i18 hf
    subst e
    rw [qb8 18 (by simp)] at hT
    obtain ⟨x, T', rfl, hx, hT⟩ := jx hT
    rw [Jp hT]
    have k2 : x.Kind ≠ 2 := by rw [ty.head, hx]; rcases ht with e | e <;> (rw [e]; decide)
    exact ⟨.mk 18 x.Text [x.Lead] [], qbr rfl (u0 rfl hx kw) (by rw [hx]; rcases ht with e | e <;> (rw [e]; decide)) (by rw [hx]; rcases ht with e | e <;> (rw [e]; decide)) fun r _ => qx9 18 k2 (by rw [hx]; rcases ht with e | e <;> simp [e])⟩
   ·-- a name
    have e := Wy hf rfl
    subst e
    rw [qb8 19 (by simp)] at hT
    obtain ⟨x, T', rfl, hx, hT⟩ := jx hT
    rw [Jp hT]
    have hi : u1 x.Text.data.toList = true := by rw [hx]; exact (inn hf).ca
    obtain ⟨k1, n1⟩ := ty.name hi
    refine ⟨.mk 19 x.Text [x.Lead] [], qbr rfl (u0 rfl hx kw) (qad n1 _ (by decide)) (qad n1 _ (by decide)) fun r hr => ?_⟩
    obtain ⟨y, q, rfl, hy⟩ := hr
    exact q1r k1 n1 hy
   ·-- a call
    obtain ⟨hks, hn⟩ := i20 hf
    rw [w20] at hT
    obtain ⟨x, T', rfl, hx, hT⟩ := jx hT
    obtain ⟨y, T', rfl, hy, hT⟩ := jx hT
    obtain ⟨k1, n1⟩ := ty.name (by rw [hx]; exact hn)
    obtain ⟨g', ks', hsame, hk⟩ := qnx ks true T' hks (fun m hm U hU tU => ih m hm (hks m hm).1 (hks m hm).2 U hU tU) hT ty.tail.tail
    refine ⟨.mk 20 x.Text ([x.Lead] ++ [y.Lead] ++ g') ([] ++ ks'), qbr rfl (u0 rfl hx hsame) (qad n1 _ (by decide)) (qad n1 _ (by decide)) fun r _ => ?_⟩
    exact q1s k1 n1 hy (qyf hy (hk 20 x.Text ([x.Lead] ++ [y.Lead]) [] r))
   ·-- a call of a method
    obtain ⟨a, l, rfl, ha, ga, la, hks, hn⟩ := i21 hf
    rw [w21] at hT
    obtain ⟨U, T', rfl, hU, hT⟩ := J3 hT
    obtain ⟨x, T', rfl, hx, hT⟩ := jx hT
    obtain ⟨y, T', rfl, hy, hT⟩ := jx hT
    obtain ⟨z, T', rfl, hz, hT⟩ := jx hT
    have ty' := ty.app.2
    obtain ⟨k1, n1⟩ := ty'.tail.name (by rw [hy]; exact hn)
    obtain ⟨a', ca⟩ := ih a (List.mem_cons_self ..) ha ga U hU ty.app.1
    obtain ⟨g', ks', hsame, hk⟩ := qnx l true T' hks (fun m hm U hU tU => ih m (List.mem_cons_of_mem _ hm) (hks m hm).1 (hks m hm).2 U hU tU) hT ty'.tail.tail.tail
    refine ⟨.mk 21 y.Text ([x.Lead, y.Lead] ++ [z.Lead] ++ g') ([a'] ++ ks'), qtv hne rfl (u0 rfl hy (ym ca.same hsame)) fun r hr N R hk' => ?_⟩
    rw [List.append_assoc]
    refine ca.un _ la ⟨x, _, rfl, by rw [hx]; decide⟩ N R ?_
    refine q1q hx k1 n1 (qyf hz (hk 21 y.Text ([x.Lead, y.Lead] ++ [z.Lead]) [a'] r)) ?_ hk'
    show r.length ≤ (z :: (T' ++ r)).length
    rw [List.length_cons, List.length_append]; omega
   ·-- new
    have e := Wy hf rfl
    subst e
    rw [w22] at hT
    obtain ⟨x, T', rfl, hx, hT⟩ := jx hT
    obtain ⟨y, T', rfl, hy, hT⟩ := jx hT
    obtain ⟨z, T', rfl, hz, hT⟩ := jx hT
    obtain ⟨u, T', rfl, hu, hT⟩ := jx hT
    rw [Jp hT]
    obtain ⟨k1, n1⟩ := ty.tail.name (by rw [hy]; exact (inn hf).ca)
    have k2 : x.Kind ≠ 2 := by rw [ty.head, hx]; decide
    exact ⟨.mk 22 y.Text [x.Lead, y.Lead, z.Lead, u.Lead] [], qbr rfl (u0 rfl hy kw) (by rw [hx]; decide) (by rw [hx]; decide) fun r _ => q2r k2 hx k1 n1 hz hu⟩
   ·-- self
    obtain ⟨e, ht⟩ := i23 hf
    subst e
    rw [qb8 23 (by simp)] at hT
    obtain ⟨x, T', rfl, hx, hT⟩ := jx hT
    rw [Jp hT]
    have k2 : x.Kind ≠ 2 := by rw [ty.head, hx, ht]; decide
    exact ⟨.mk 23 x.Text [x.Lead] [], qbr rfl (u0 rfl hx kw) (by rw [hx, ht]; decide) (by rw [hx, ht]; decide) fun r _ => qx9 23 k2 (by rw [hx, ht]; simp)⟩
   ·-- two operands
    obtain ⟨a, b, rfl, ha, hb, ga, gb, ho, la, l3, lb⟩ := i24 hf
    rw [w24] at hT
    obtain ⟨U, T', rfl, hU, hT⟩ := J3 hT
    obtain ⟨x, W, rfl, hx, hW⟩ := jx hT
    obtain ⟨a', ca⟩ := ih a (List.mem_cons_self ..) ha ga U hU ty.app.1
    obtain ⟨b', cb⟩ := ih b (List.mem_cons_of_mem _ (List.mem_cons_self ..)) hb gb W hW ty.app.2.tail
    have hlev : level (.mk 24 t g [a, b]) = jh t := rfl
    have hxo : jh x.Text = jh t := by rw [hx]
    have st1 : ∀ r, stop (jh t + 1) (x :: (W ++ r)) := fun r => ⟨x, _, rfl, by omega, by rw [hx]; exact ho.2.2.1, by rw [hx]; exact ho.2.2.2.1⟩
    have hsame : sameN (.mk 24 x.Text [x.Lead] [a', b']) (.mk 24 t g [a, b]) := u0 rfl hx (ym ca.same (ym cb.same kw))
    have hD : jh t ≠ 3 → ∀ r, stop (jh t + 1) r → ∀ N R, Ck (.binL (jh t) (.mk 24 x.Text [x.Lead] [a', b'])) r N R → Ck (.bin (jh t)) ((U ++ x :: W) ++ r) N R := fun h3 r hr N R hk => by
     rw [List.append_assoc]
     refine ca.binL (jh t) _ ho.1 ho.2.1 la (fun e => h3 e.1) (st1 r) N R ?_
     exact C_go ho.1 ho.2.1 hxo h3 (cb.bin (jh t + 1) r (by omega) (by omega) lb hr) qcj hk
    have hA : ∀ r, stop (jh t) r → Ck (.bin (jh t)) ((U ++ x :: W) ++ r) (.mk 24 x.Text [x.Lead] [a', b']) r := fun r hr => by
     by_cases h3 : jh t = 3
     ·rw [List.append_assoc, h3]
      refine ca.binL 3 _ (by decide) (by decide) (by omega) (fun e => by have := l3 h3; omega) (by have := st1 r; rw [h3] at this; exact this) _ _ ?_
      exact q2w (by rw [hxo, h3]) (cb.bin 4 r (by decide) (by decide) (by omega) (hr.up (by omega)))
     obtain ⟨y, q, rfl, q1, q2, q3⟩ := hr
     exact hD h3 _ ⟨y, q, rfl, by omega, q2, q3⟩ _ _ (qyc (by omega))
    obtain ⟨c1, c2⟩ := qxr (n := .mk 24 t g [a, b]) hne (jh t) (by rw [hlev, if_pos ho.2.1]) hA (fun _ h3 => hD h3)
    exact ⟨_, hsame, c1, c2, fun r e => by rw [hlev] at e; omega, fun r e => by rw [hlev] at e; omega⟩
   ·-- an operator ahead
    obtain ⟨a, rfl, ha, ga, ht, la⟩ := i25 hf
    rw [w25] at hT
    obtain ⟨x, W, rfl, hx, hW⟩ := jx hT
    obtain ⟨a', ca⟩ := ih a (List.mem_cons_self ..) ha ga W hW ty.tail
    have hu : ∀ r, stop 6 r → Ck .un ((x :: W) ++ r) (.mk 25 x.Text [x.Lead] [a']) r := fun r hr => q1p (by rw [hx]; exact ht) (ca.un6 r la hr)
    have hlev : level (.mk 25 t g [a]) = 6 := rfl
    obtain ⟨c1, c2⟩ := qxr (n := .mk 25 t g [a]) hne 6 (by rw [hlev, if_neg (by decide)]) (fun r h => qye rfl (hu r h)) (fun h => absurd h (by rw [hlev]; decide))
    exact ⟨_, u0 rfl hx (ym ca.same kw), c1, c2, fun r e => by rw [hlev] at e; exact absurd e (by decide), fun r _ h => hu r h⟩
   -- parentheses
   obtain ⟨a, rfl, ha, ga, ht⟩ := i26 hf
   rw [w26] at hT
   obtain ⟨x, T', rfl, hx, hT⟩ := jx hT
   obtain ⟨U, T', rfl, hU, hT⟩ := J3 hT
   obtain ⟨y, T', rfl, hy, hT⟩ := jx hT
   rw [Jp hT] at ty ⊢
   obtain ⟨a', ca⟩ := ih a (List.mem_cons_self ..) ha ga U hU ty.tail.app.1
   have k2 : x.Kind ≠ 2 := by rw [ty.head, hx]; decide
   refine ⟨.mk 26 ⟨#[]⟩ [x.Lead, y.Lead] [a'], qbr rfl (u0 rfl ht.symm (ym ca.same kw)) (by rw [hx]; decide) (by rw [hx]; decide) fun r _ => ?_⟩
   rw [List.cons_append, List.append_assoc]
   exact q2q k2 hx (ca.bin 1 _ (by decide) (by decide) (qfe ha ga) ⟨y, r, rfl, by rw [hy]; decide, by rw [hy]; decide, by rw [hy]; decide⟩) hy
end Ps
end Go.Proofs.YtigmilhpeodhbaaDoorW.Ex.Gr
