/- The reference's reader returns what is read in plain words. Conditions: those in each theorem. -/
import Derived.Test.YtigmilhpeodhbaaGreatDoorA1
namespace Go.Proofs.YtigmilhpeodhbaaGreatDoorW.Ex.Gr
open Go Go.Proofs.YtigmilhpeodhbaaGreatDoorW.Ex Go.Proofs.YtigmilhpeodhbaaGreatDoorW.Plain
set_option linter.all false
set_option maxRecDepth 100000
namespace Ps
open Tk
def idx (tk t : List Token) : Int := ((tk.length - t.length : Nat) : Int)
@[reducible] def cw {α β : Type} (tk : List Token) (d : β) (f : α → β) : Rs α → β × Int × Bool
  | .error u => (d, idx tk u, false)
  | .ok y => (f y.1, idx tk y.2, true)
@[reducible] def zN : Node := Node.mk 0 (⟨#[]⟩) ([] : LB) ([] : LN)
abbrev cr (tk : List Token) : Rs Node → Node × Int × Bool := cw tk zN fun n => n
abbrev cg (tk : List Token) : Rs LB → LB × Int × Bool := cw tk ([] : LB) fun n => n
theorem bF {α β γ δ : Type} {tk t : List Token} {d : γ} {f : α → γ} {d' : δ} {g : β → δ} {y : Rs α} {z : α → List Token → Rs β} {P : α → List Token → Prop} {x : Option (γ × Int × Bool)} {k : γ × Int × Bool → Option (δ × Int × Bool)}
 (h : x = some (cw tk d f y)) (hQ : Q t P y) (hk : ∀ n r, r <:+ t → Good r → P n r → k (f n, idx tk r, true) = some (cw tk d' g (z n r))) :
 (x >>= fun v => if (!v.2.2) = true then some (d', v.2.1, false) else k v) = some (cw tk d' g (bR y z)) := by
 subst h
 cases y with
 | error u => rfl
 | ok y => exact hk y.1 y.2 hQ.1 hQ.2.1 hQ.2.2
theorem b3 {α β γ : Type} (a : Option (α × β × γ)) : (a >>= fun x => some (x.1, x.2.1, x.2.2)) = a := by cases a <;> rfl
section
variable {tk : List Token}
theorem i_ix {x : Token} {r : List Token} (h : (x :: r) <:+ tk) : ix tk (idx tk (x :: r)) = some x := qrv h
theorem ud {x : Token} {r : List Token} (h : (x :: r) <:+ tk) (hn : tk.length ≤ 70000) : IntKind.i64.wrap (idx tk (x :: r) + (1 : Int)) = idx tk r := congrArg Reader.at_ (qjb h hn)
theorem R_is {t : List Token} (h : t <:+ tk) (hg : Good t) (w : BA) : yc tk (idx tk t) w = some (isT w t) := by
 cases t with
 | nil => exact hg.elim
 | cons x r => unfold yc; rw [i_ix h, bs]; rfl
theorem qoq {t : List Token} (h : t <:+ tk) (hg : Good t) : Ke tk (idx tk t) = some (nmT t) := by
 cases t with
 | nil => exact hg.elim
 | cons x r =>
   unfold Ke
   rw [qxi, i_ix h, bs]
   by_cases hx : x.Kind = 1
   ·rw [if_pos (decide_eq_true hx), bs, decide_eq_true hx]
    unfold qiw
    rw [bs, Bool.true_and]
   ·rw [if_neg (by rw [decide_eq_true_eq]; exact hx), decide_eq_false hx, Bool.false_and]
theorem Qp {w : BA} {x : Token} {r : List Token} (h : isT w (x :: r) = true) : tkT w (x :: r) = .ok (x.Lead, r) := by
 simp only [tkT]
 rw [if_pos (show decide (x.Text = w) = true from h)]
theorem K3 {w : BA} {x : Token} {r : List Token} (h : isT w (x :: r) = false) : tkT w (x :: r) = .error (x :: r) := by
 simp only [tkT]
 rw [if_neg (by rw [show decide (x.Text = w) = false from h]; decide)]
theorem qf9 {x : Token} {r : List Token} (h : nmT (x :: r) = true) : tkN (x :: r) = .ok ((x.Text, x.Lead), r) := by
 simp only [tkN]
 exact if_pos h
theorem qf8 {x : Token} {r : List Token} (h : nmT (x :: r) = false) : tkN (x :: r) = .error (x :: r) := by
 simp only [tkN]
 rw [if_neg (by rw [show (decide (x.Kind = 1) && Qj x.Text.data.toList) = false from h]; decide)]
theorem qe8 {x : Token} {r : List Token} (h : nmT (x :: r) = true) (hg : Good (x :: r)) : Good r := by
 unfold nmT at h
 rw [Bool.and_eq_true] at h
 exact qe7 hg (by rw [of_decide_eq_true h.1]; decide)
theorem Ql {w : BA} {x : Token} {r : List Token} (h : isT w (x :: r) = true) (hg : Good (x :: r)) (hw : w ≠ ⟨#[]⟩) : Good r := Y5 hg (by rw [of_decide_eq_true h]; exact hw)
/-- Words and names, one behind the other. -/
def Wk : List BA → LB → List Token → Rs LB
 | [], acc, t => .ok (acc, t)
 | w :: ws, acc, t => if decide (w = ⟨#[]⟩) = true then bR (tkN t) fun a t => Wk ws (acc ++ [a.2]) t else bR (tkT w t) fun g t => Wk ws (acc ++ [g]) t
theorem qiq (hn : tk.length ≤ 70000) (want : LB) : ∀ (l pre : List BA) (acc : LB) (t : List Token), want = pre ++ l → want.length ≤ 100 → acc.length + l.length ≤ 100 → t <:+ tk → Good t → wm tk (idx tk t) want acc (pre.length : Int) = some (cg tk (Wk l acc t))
 | [], pre, acc, t, hw, hl, ha, h, hg => by
   rw [wm]
   rw [if_neg (by rw [List.length_map, hw, List.append_nil, decide_eq_true_eq]; omega)]
   rfl
 | w :: ws, pre, acc, t, hw, hl, ha, h, hg => by
   have hlen : pre.length < want.length := by rw [hw, List.length_append, List.length_cons]; omega
   have hix : ix want (pre.length : Int) = some w := by rw [hw, qv5, List.getElem?_append_right (Nat.le_refl _), Nat.sub_self]; rfl
   rw [wm]
   simp only [nx]
   rw [if_pos (by rw [List.length_map, decide_eq_true_eq]; omega), hix, bs, bs, bs, qoq h hg, bs]
   have next : IntKind.i64.wrap ((pre.length : Int) + 1) = ((pre ++ [w]).length : Int) := by rw [j6 (by omega) (by omega), List.length_append, List.length_singleton]; omega
   rw [List.length_cons] at ha
   cases t with
   | nil => exact hg.elim
   | cons x r =>
     have sr : r <:+ x :: r := List.suffix_cons x r
     by_cases hw0 : w = ⟨#[]⟩
     ·rw [show Wk (w :: ws) acc (x :: r) = bR (tkN (x :: r)) fun a t => Wk ws (acc ++ [a.2]) t from if_pos (decide_eq_true hw0), if_pos (decide_eq_true hw0)]
      cases hm : nmT (x :: r) with
      | false =>
        rw [qf8 hm]; rfl
      | true =>
        rw [qf9 hm, if_neg (by decide), decide_eq_true hw0, if_neg (by decide), i_ix h, bs, y9 (by rw [List.length_singleton]; omega) (by decide), bs, ud h hn, next]
        exact qiq hn want ws (pre ++ [w]) (acc ++ [x.Lead]) r (by rw [hw, List.append_assoc]; rfl) hl (by rw [List.length_append, List.length_singleton]; omega) (sr.trans h) (qe8 hm hg)
     ·rw [show Wk (w :: ws) acc (x :: r) = bR (tkT w (x :: r)) fun g t => Wk ws (acc ++ [g]) t from if_neg (by rw [decide_eq_true_eq]; exact hw0), if_neg (by rw [decide_eq_true_eq]; exact hw0), decide_eq_false hw0, if_pos (by decide), R_is h hg w, bs]
      cases hm : isT w (x :: r) with
      | false =>
        rw [K3 hm]; rfl
      | true =>
        rw [Qp hm, if_neg (by decide), i_ix h, bs, y9 (by rw [List.length_singleton]; omega) (by decide), bs, ud h hn, next]
        exact qiq hn want ws (pre ++ [w]) (acc ++ [x.Lead]) r (by rw [hw, List.append_assoc]; rfl) hl (by rw [List.length_append, List.length_singleton]; omega) (sr.trans h) (Ql hm hg hw0)
theorem qmo (hn : tk.length ≤ 70000) (want : LB) {t : List Token} (hl : want.length ≤ 100) (h : t <:+ tk) (hg : Good t) : ut tk (idx tk t) want = some (cg tk (Wk want [] t)) := by
 unfold ut
 exact qiq hn want want [] [] t rfl hl (by simp; omega) h hg
theorem qx5 (hn : tk.length ≤ 70000) {t : List Token} (h : t <:+ tk) (hg : Good t) : K9 tk (idx tk t) = some (cw tk zN (fun a => Node.mk 5 a.1 [a.2] []) (tkN t)) := by
 cases t with
 | nil => exact hg.elim
 | cons x r =>
   unfold K9
   rw [qoq h hg, bs]
   cases hm : nmT (x :: r) with
   | false => rw [qf8 hm]; rfl
   | true => rw [qf9 hm, if_neg (by decide), i_ix h, bs, bs, ud h hn]
theorem q3m (w : BA) : qcz w = some (Js w) := by
 unfold qcz Js
 simp only [decide_eq_true_eq]
 repeat' split
 all_goals first | rfl | simp_all
/-- The token so many places ahead of r. -/
theorem qrw {r : List Token} {d : Int} (k : Nat) {y : Token} {q : List Token} (h : (y :: q) <:+ tk) (hr : r <:+ q) (hk : q.length + 1 = r.length + k) (hn : tk.length ≤ 70000) (hd : d = (k : Int)) : ix tk (IntKind.i64.wrap (idx tk r - d)) = some y := by
 subst hd
 have h1 := wu h
 rw [List.length_cons] at h1
 have h2 := wu hr
 unfold idx
 rw [j6 (by omega) (by omega), show ((tk.length - r.length : Nat) : Int) - (k : Int) = ((tk.length - (y :: q).length : Nat) : Int) by rw [List.length_cons]; omega]
 exact qrv h
variable {B C : List Token → Rs Node}
def qir (tk t : List Token) (F : Int → Option (Node × Int × Bool)) (B : List Token → Rs Node) : Prop := ∀ t', t' <:+ t → Good t' → F (idx tk t') = some (cr tk (B t'))
/-- A binding's words. -/
theorem q4d {w : BA} (hw : w ≠ ⟨#[]⟩) (t : List Token) : Wk [w, ⟨#[]⟩, ⟨#[61]⟩] [] t = bR (tkT w t) fun g1 t => bR (tkN t) fun a t => bR (tkT ⟨#[61]⟩ t) fun g3 t => .ok ([g1, a.2, g3], t) := by
 simp only [Wk]
 rw [if_neg (by rw [decide_eq_true_eq]; exact hw)]
 rfl
theorem qhg (hn : tk.length ≤ 70000) (k : Int) (x : BA) {g : LB} (ks : LN) {t : List Token} (h : t <:+ tk) (hg : Good t) (hB : Rd B) (hF : qir tk t (fun i => j5 tk i 1) B) (hl1 : g.length ≤ 100) (hl2 : ks.length ≤ 100) :
 Yl tk (idx tk t) k x g ks = some (cr tk (bR (B t) fun n t => bR (tkT ⟨#[59]⟩ t) fun g4 t => .ok (.mk k x (g ++ [g4]) (ks ++ [n]), t))) ∧ Ko tk (idx tk t) k x g ks = some (cr tk (bR (B t) fun n t => bR (tkT ⟨#[59]⟩ t) fun g4 t => .ok (.mk k x (g ++ [g4]) (ks ++ [n]), t))) := by
 have hl := wu h
 have step : ∀ n r, r <:+ t → Good r → (yc tk (idx tk r) ⟨#[59]⟩ >>= fun x2 => if (!x2) = true then some (zN, idx tk r, false) else app 72 ks [n] >>= fun x3 => ix tk (idx tk r) >>= fun x4 => app 16 g [x4.Lead] >>= fun x5 => some (Node.mk k x x5 x3, IntKind.i64.wrap (idx tk r + 1), true)) = some (cr tk (bR (tkT ⟨#[59]⟩ r) fun g4 t => .ok (.mk k x (g ++ [g4]) (ks ++ [n]), t))) := fun n r s o => by
  rw [R_is (s.trans h) o, bs]
  cases r with
  | nil => exact o.elim
  | cons y q =>
    cases hm : isT ⟨#[59]⟩ (y :: q) with
    | false => rw [K3 hm]; rfl
    | true => rw [Qp hm, if_neg (by decide), y9 (by rw [List.length_singleton]; omega) (by decide), bs, i_ix (s.trans h), bs, y9 (by rw [List.length_singleton]; omega) (by decide), bs, ud (s.trans h) hn]; rfl
 constructor
 ·unfold Yl
  exact bF (hF t (List.suffix_refl _) hg) (hB t hg (by omega)) fun n r s o _ => step n r s o
 ·unfold Ko
  exact bF (hF t (List.suffix_refl _) hg) (hB t hg (by omega)) fun n r s o _ => step n r s o
theorem qx7 (hn : tk.length ≤ 70000) (k : Int) {w : BA} (hw : w ≠ ⟨#[]⟩) {t : List Token} (h : t <:+ tk) (hg : Good t) (hB : Rd B) (hF : qir tk t (fun i => j5 tk i 1) B) : Q8 tk (idx tk t) k [w, ⟨#[]⟩, ⟨#[61]⟩] = some (cr tk (qcb B k w t)) := by
 unfold Q8
 rw [qmo hn _ (by simp) h hg, q4d hw]
 unfold qcb
 cases t with
 | nil => exact hg.elim
 | cons x1 r1 =>
 cases m1 : isT w (x1 :: r1) with
 | false => rw [K3 m1]; rfl
 | true =>
 rw [Qp m1]
 have o1 := Ql m1 hg hw
 have s1 : r1 <:+ x1 :: r1 := List.suffix_cons _ _
 cases r1 with
 | nil => exact o1.elim
 | cons x2 r2 =>
 simp only [bR_o]
 cases m2 : nmT (x2 :: r2) with
 | false => rw [qf8 m2]; rfl
 | true =>
 rw [qf9 m2]
 have o2 := qe8 m2 o1
 have s2 : r2 <:+ x2 :: r2 := List.suffix_cons _ _
 cases r2 with
 | nil => exact o2.elim
 | cons x3 r3 =>
 simp only [bR_o]
 cases m3 : isT ⟨#[61]⟩ (x3 :: r3) with
 | false => rw [K3 m3]; rfl
 | true =>
 rw [Qp m3]
 have o3 := Ql m3 o2 (by decide)
 have s3 : r3 <:+ x3 :: r3 := List.suffix_cons _ _
 have z3 := (s3.trans s2).trans s1
 simp only [bR_o]
 show (ix tk (IntKind.i64.wrap (idx tk r3 - (2 : Int))) >>= _) = _
 rw [qrw (d := 2) 2 (s1.trans h) s3 (by rw [List.length_cons]) hn rfl, bs, b3]
 exact (qhg hn k x2.Text ([] : LN) (z3.trans h) o3 hB (fun t' s o => hF t' (s.trans z3) o) (by simp) (by simp)).1
theorem q5j (hn : tk.length ≤ 70000) {t : List Token} (h : t <:+ tk) (hg : Good t) (hB : Rd B) (hF : qir tk t (fun i => j5 tk i 1) B) : Q8 tk (idx tk t) 11 [⟨#[]⟩, ⟨#[61]⟩] = some (cr tk (setP B t)) := by
 unfold Q8
 rw [qmo hn _ (by simp) h hg, show Wk [⟨#[]⟩, ⟨#[61]⟩] [] t = bR (tkN t) fun a t => bR (tkT ⟨#[61]⟩ t) fun g3 t => .ok ([a.2, g3], t) from rfl]
 unfold setP
 cases t with
 | nil => exact hg.elim
 | cons x2 r2 =>
 cases m2 : nmT (x2 :: r2) with
 | false => rw [qf8 m2]; rfl
 | true =>
 rw [qf9 m2]
 have o2 := qe8 m2 hg
 have s2 : r2 <:+ x2 :: r2 := List.suffix_cons _ _
 cases r2 with
 | nil => exact o2.elim
 | cons x3 r3 =>
 simp only [bR_o]
 cases m3 : isT ⟨#[61]⟩ (x3 :: r3) with
 | false => rw [K3 m3]; rfl
 | true =>
 rw [Qp m3]
 have o3 := Ql m3 o2 (by decide)
 have s3 : r3 <:+ x3 :: r3 := List.suffix_cons _ _
 have z3 := s3.trans s2
 simp only [bR_o]
 show (ix tk (IntKind.i64.wrap (idx tk r3 - (2 : Int))) >>= _) = _
 rw [qrw (d := 2) 2 h s3 (by rw [List.length_cons]) hn rfl, bs, b3]
 exact (qhg hn 11 x2.Text ([] : LN) (z3.trans h) o3 hB (fun t' s o => hF t' (s.trans z3) o) (by simp) (by simp)).1
theorem q19 (hn : tk.length ≤ 70000) (k : Int) {t : List Token} (h : t <:+ tk) (hg : Good t) (g : BA) (hB : Rd B) (hC : Rd C) (hF : qir tk t (fun i => j5 tk i 1) B) (hK : qir tk t (v7 tk) C) :
 Zb tk (idx tk t) k ⟨#[]⟩ [g] [] = some (cr tk (bR (B t) fun n t => bR (C t) fun c t => .ok (.mk k ⟨#[]⟩ [g] [n, c], t))) := by
 have hl := wu h
 rw [Zb]
 simp only [nx]
 refine bF (hF t (List.suffix_refl _) hg) (hB t hg (by omega)) fun n r s o p => ?_
 refine bF (hK r s o) (hC r o (by omega)) fun c r2 s2 o2 p2 => ?_
 rw [y9 (by simp) (by decide), bs, y9 (by simp) (by decide), bs]
 rfl
theorem q4y {t : List Token} (h : t <:+ tk) (hn : tk.length ≤ 70000) (hg : Good t) (hB : Rd B) (hC : Rd C) (hF : qir tk t (fun i => j5 tk i 1) B) (hK : qir tk t (v7 tk) C) : w5 tk (idx tk t) = some (cr tk (qm7 B C t)) := by
 have hl := wu h
 rw [w5]
 simp only [nx]
 unfold qm7
 rw [R_is h hg, bs]
 by_cases c1 : isT ⟨#[108, 101, 116]⟩ t = true
 ·rw [if_pos c1, if_pos c1, b3]
  exact qx7 hn 10 (by decide) h hg hB hF
 rw [if_neg c1, if_neg c1, R_is h hg, bs]
 cases t with
 | nil => exact hg.elim
 | cons x r =>
 have sr : r <:+ x :: r := List.suffix_cons x r
 rw [List.length_cons] at hl
 by_cases c2 : isT ⟨#[114, 101, 116, 117, 114, 110]⟩ (x :: r) = true
 ·have o := Ql c2 hg (by decide)
  rw [if_pos c2, if_pos c2, i_ix h, bs, ud h hn, b3]
  unfold retP
  rw [Qp c2]
  exact (qhg hn 12 ⟨#[]⟩ [] (sr.trans h) o hB (fun t' s o => hF t' (s.trans sr) o) (by simp) (by simp)).2
 rw [if_neg c2, if_neg c2, R_is h hg, bs]
 by_cases c3 : isT ⟨#[105, 102]⟩ (x :: r) = true
 ·have o := Ql c3 hg (by decide)
  rw [if_pos c3, if_pos c3, b3, qbb]
  simp only [nx]
  rw [i_ix h, bs, ud h hn, q19 hn 13 (sr.trans h) o x.Lead hB hC (fun t' s o => hF t' (s.trans sr) o) (fun t' s o => hK t' (s.trans sr) o)]
  unfold ifP
  rw [Qp c3, bR_o]
  have q := hB r o (by omega)
  cases e1 : B r with
  | error u => rfl
  | ok y =>
    rw [e1] at q
    obtain ⟨s1, o1, p1⟩ := q
    have q2 := hC y.2 o1 (by omega)
    rw [bR_k, bR_k]
    cases e2 : C y.2 with
    | error u => rfl
    | ok w =>
      rw [e2] at q2
      obtain ⟨s2, o2, p2⟩ := q2
      have z2 := (s2.trans s1).trans sr
      have zh := z2.trans h
      rw [bR_k, bR_k]
      show (yc tk (idx tk w.2) ⟨#[101, 108, 115, 101]⟩ >>= _) = some (cr tk (bR (qqq C w.2) _))
      rw [R_is zh o2, bs]
      unfold qqq
      obtain ⟨w1, w2⟩ := w
      simp only at o2 z2 zh s2 p2 ⊢
      by_cases c4 : isT ⟨#[101, 108, 115, 101]⟩ w2 = true
      ·rw [if_pos c4, if_pos c4]
       cases w2 with
       | nil => exact o2.elim
       | cons y5 r5 =>
         have o5 := Ql c4 o2 (by decide)
         have z5 := (List.suffix_cons y5 r5).trans z2
         rw [i_ix zh, bs, y9 (by simp) (by decide), bs, ud zh hn, Qp c4, bR_o, hK r5 z5 o5]
         cases C r5 with
         | error u => rfl
         | ok w =>
           rw [bs]
           show (if (!true) = true then _ else app 72 [] [w.1] >>= _) = _
           rw [if_neg (by decide), y9 (by simp) (by decide), bs]
           unfold Z0
           show (app 72 [y.1, w1] _ >>= _) = _
           rw [y9 (by simp) (by decide), bs]
           rfl
      ·rw [if_neg c4, if_neg c4]
       unfold Z0
       show (app 72 [y.1, w1] _ >>= _) = _
       rw [y9 (by simp) (by decide), bs]
       rfl
 rw [if_neg c3, if_neg c3, R_is h hg, bs]
 by_cases c5 : isT ⟨#[119, 104, 105, 108, 101]⟩ (x :: r) = true
 ·have o := Ql c5 hg (by decide)
  rw [if_pos c5, if_pos c5, i_ix h, bs, ud h hn, q19 hn 15 (sr.trans h) o x.Lead hB hC (fun t' s o => hF t' (s.trans sr) o) (fun t' s o => hK t' (s.trans sr) o)]
  unfold qm0
  rw [Qp c5, bR_o]
  cases B r with
  | error u => rfl
  | ok y =>
    rw [bR_k]
    cases C y.2 with
    | error u => rfl
    | ok w => rfl
 rw [if_neg c5, if_neg c5, qoq h hg, bs]
 have hdo : v6 tk (idx tk (x :: r)) = some (cr tk (doP B (x :: r))) := by
  unfold v6
  rw [b3]
  exact (qhg hn 16 ⟨#[]⟩ [] h hg hB hF (by simp) (by simp)).1
 cases hm : nmT (x :: r) with
 | false =>
   rw [if_neg (by decide), Bool.false_and, if_neg (by decide), hdo]
 | true =>
   have o := qe8 hm hg
   rw [if_pos rfl, ud h hn, R_is (sr.trans h) o, bs, Bool.true_and]
   show _ = some (cr tk (if isT ⟨#[61]⟩ r = true then setP B (x :: r) else doP B (x :: r)))
   by_cases c6 : isT ⟨#[61]⟩ r = true
   ·rw [if_pos c6, if_pos c6, b3]
    exact q5j hn h hg hB hF
   ·rw [if_neg c6, if_neg c6, hdo]
theorem q4e (w : BA) (hw : w ≠ ⟨#[]⟩) (t : List Token) : Wk [w, ⟨#[]⟩] [] t = bR (tkT w t) fun g1 t => bR (tkN t) fun a t => .ok ([g1, a.2], t) := by
 simp only [Wk]
 rw [if_neg (by rw [decide_eq_true_eq]; exact hw)]
 rfl
/-- Two words, the second a name, and what follows. -/
theorem qx6 (hn : tk.length ≤ 70000) {w : BA} (hw : w ≠ ⟨#[]⟩) {t : List Token} (h : t <:+ tk) (hg : Good t) {δ : Type} {d : δ} {β : Type} {gc : β → δ} (K : LB × Int × Bool → Token → Option (δ × Int × Bool)) (z : BA → BA × BA → List Token → Rs β)
 (hK : ∀ g a r, r <:+ t → Good r → r.length + 2 = t.length → Z8 g → Z8 a.1 → Z8 a.2 → ∀ y : Token, y.Text = a.1 → K ([g, a.2], idx tk r, true) y = some (cw tk d gc (z g a r))) :
 (ut tk (idx tk t) [w, ⟨#[]⟩] >>= fun v => if (!v.2.2) = true then some (d, v.2.1, false) else ix tk (IntKind.i64.wrap (v.2.1 - (1 : Int))) >>= fun y => K v y) = some (cw tk d gc (bR (tkT w t) fun g1 t => bR (tkN t) fun a t => z g1 a t)) := by
 rw [qmo hn _ (by simp) h hg, q4e w hw]
 cases t with
 | nil => exact hg.elim
 | cons x1 r1 =>
 cases m1 : isT w (x1 :: r1) with
 | false => rw [K3 m1]; rfl
 | true =>
 rw [Qp m1]
 have o1 := Ql m1 hg hw
 have s1 : r1 <:+ x1 :: r1 := List.suffix_cons _ _
 cases r1 with
 | nil => exact o1.elim
 | cons x2 r2 =>
 simp only [bR_o]
 cases m2 : nmT (x2 :: r2) with
 | false => rw [qf8 m2]; rfl
 | true =>
 rw [qf9 m2]
 have o2 := qe8 m2 o1
 have s2 : r2 <:+ x2 :: r2 := List.suffix_cons _ _
 simp only [bR_o]
 show (ix tk (IntKind.i64.wrap (idx tk r2 - (1 : Int))) >>= _) = _
 rw [qrw (d := 1) 1 (s1.trans h) (List.suffix_refl r2) rfl hn rfl, bs]
 exact hK x1.Lead (x2.Text, x2.Lead) r2 (s2.trans s1) o2 rfl hg.1.1 o1.1.2.1 o1.1.1 x2 rfl
/-- What is claimed of each function of the reference. -/
def RP (tk : List Token) (f : Nat) : Cat → List Token → Prop
 | .bin v, t => j5 tk (idx tk t) v = some (cr tk (S f (.bin v) t))
 | .binL v m, t => vh tk v (idx tk t) m = some (cr tk (S f (.binL v m) t))
 | .un, t => Jc tk (idx tk t) = some (cr tk (S f .un t))
 | .unL m, t => wg tk (idx tk t) true m = some (cr tk (S f (.unL m) t))
 | .prim, t => Ya tk (idx tk t) = some (cr tk (S f .prim t))
 | .args k x g ks, t => v8 tk (idx tk t) k x g ks = some (cr tk (S f (.args k x g ks) t)) ∧ ug tk (idx tk t) k x g ks = some (cr tk (S f (.args k x g ks) t))
 | .argL b k x g ks, t => wr tk (idx tk t) b k x g ks = some (cr tk (S f (.argL b k x g ks) t)) ∧ wq tk (idx tk t) b k x g ks = some (cr tk (S f (.argL b k x g ks) t))
 | .stmt, t => w5 tk (idx tk t) = some (cr tk (S f .stmt t))
 | .blk, t => v7 tk (idx tk t) = some (cr tk (S f .blk t))
 | .blkL g ks, t => Qe tk (idx tk t) 6 ⟨#[]⟩ g ks = some (cr tk (S f (.blkL g ks) t))
 | .parL g ks, t => vg tk (idx tk t) 3 ⟨#[]⟩ g ks = some (cr tk (S f (.parL g ks) t))
 | .func, t => Jd tk (idx tk t) = some (cr tk (S f .func t))
 | .clsL x g ks, t => Zc tk (idx tk t) 7 x g ks = some (cr tk (S f (.clsL x g ks) t))
 | .cls, t => qaz tk (idx tk t) = some (cr tk (S f .cls t))
 | .file ks, t => True
theorem qqz (hn : tk.length ≤ 70000) : ∀ (f : Nat) (c : Cat) (t : List Token), mu c t.length ≤ f → t <:+ tk → Good t → pre c t.length → RP tk f c t
 | 0, c, t, hm, _, hg, _ => by
   have := qe5 hg
   cases c <;> (unfold mu at hm; simp only at hm; omega)
 | f + 1, c, t, hm, h, hg, hp => by
   have ih := qqz hn f
   have hl := wu h
   have hpos := qe5 hg
   have hB : ∀ v : Int, 1 ≤ v → v ≤ 6 → Rd (S f (.bin v)) := fun v h1 h6 t hg hl => S_ok f (.bin v) t hg ⟨hl, h1, h6⟩
   have hB1 := hB 1 (by decide) (by decide)
   have hU : Rd (S f .un) := fun t hg hl => S_ok f .un t hg hl
   have hC : Rd (S f .blk) := fun t hg hl => S_ok f .blk t hg hl
   have hT : Rd (S f .stmt) := fun t hg hl => S_ok f .stmt t hg hl
   have hF : Rd (S f .func) := fun t hg hl => S_ok f .func t hg hl
   have eB : ∀ (v : Int) (t' : List Token), 1 ≤ v → v ≤ 6 → 20 * t'.length + (10 - v).toNat ≤ f → t' <:+ t → Good t' → j5 tk (idx tk t') v = some (cr tk (S f (.bin v) t')) := fun v t' h1 h6 hm' hs hg' => ih (.bin v) t' hm' (hs.trans h) hg' ⟨by have := wu hs; omega, h1, h6⟩
   cases c with
   | bin v =>
     obtain ⟨hl', h1, h6⟩ := hp
     unfold mu at hm; simp only at hm
     show j5 tk (idx tk t) v = _
     rw [j5]
     simp only [nx]
     simp only [S]
     by_cases h5 : 5 < v
     ·rw [if_pos (decide_eq_true h5), if_pos (decide_eq_true h5), b3]
      exact ih .un t (by unfold mu; simp only; omega) h hg hl'
     ·rw [if_neg (by rw [decide_eq_true_eq]; exact h5), if_neg (by rw [decide_eq_true_eq]; exact h5), j6 (by omega) (by omega)]
      refine bF (eB (v + 1) t (by omega) (by omega) (by omega) (List.suffix_refl _) hg) (hB (v + 1) (by omega) (by omega) t hg hl') fun n r s o p => ?_
      exact ih (.binL v n) r (by unfold mu; simp only; omega) (s.trans h) o ⟨by omega, h1, by omega, p.1⟩
   | binL v m =>
     obtain ⟨hl', h1, h5, hm'⟩ := hp
     unfold mu at hm; simp only at hm
     show vh tk v (idx tk t) m = _
     rw [vh]
     simp only [nx]
     cases t with
     | nil => exact hg.elim
     | cons x r =>
       rw [i_ix h, bs, q3m, bs]
       simp only [S, binP]
       by_cases hx : Js x.Text = v
       ·have hr : Good r := Y5 hg (by
         rintro h0
         rw [h0] at hx
         rw [show Js ⟨#[]⟩ = 0 from by decide] at hx
         omega)
        rw [List.length_cons] at hl' hm hl
        have sr : r <:+ x :: r := List.suffix_cons x r
        rw [if_pos (decide_eq_true hx), if_pos (decide_eq_true hx), bs, bs, ud h hn, j6 (by omega) (by omega)]
        refine bF (eB (v + 1) r (by omega) (by omega) (by omega) sr hr) (hB (v + 1) (by omega) (by omega) r hr (by omega)) fun n q s o p => ?_
        rw [y9 (by simp) (by decide), bs, y9 (by simp) (by decide), bs]
        have hw : wfB (.mk 24 x.Text [x.Lead] [m, n]) = true := Qa 24 (by simp) (by simp) hg.1.2.1 (jd hg.1.1 ym) (wo hm' (wo p.1 y4))
        by_cases h3 : v = 3
        ·rw [if_pos (decide_eq_true h3), if_pos (decide_eq_true h3)]
         unfold Jo
         rfl
        ·rw [if_neg (by rw [decide_eq_true_eq]; exact h3), if_neg (by rw [decide_eq_true_eq]; exact h3)]
         exact ih (.binL v (.mk 24 x.Text [x.Lead] [m, n])) q (by unfold mu; simp only; omega) ((s.trans sr).trans h) o ⟨by omega, h1, h5, hw⟩
       ·rw [if_neg (by rw [decide_eq_true_eq]; exact hx), if_neg (by rw [decide_eq_true_eq]; exact hx)]
        unfold Jo
        rfl
   | un =>
     have hl' : t.length ≤ 70000 := hp
     unfold mu at hm; simp only at hm
     show Jc tk (idx tk t) = _
     rw [Jc]
     simp only [nx]
     cases t with
     | nil => exact hg.elim
     | cons x r =>
       have sr : r <:+ x :: r := List.suffix_cons x r
       simp only [S, unP]
       rw [List.length_cons] at hl' hm hl
       rw [R_is h hg, bs]
       by_cases c1 : isT ⟨#[45]⟩ (x :: r) = true
       ·have hr : Good r := Ql c1 hg (by decide)
        rw [if_pos c1, if_pos c1, ud h hn]
        refine bF (ih .un r (by unfold mu; simp only; omega) (sr.trans h) hr (by show r.length ≤ 70000; omega)) (hU r hr (by omega)) fun n q s o p => ?_
        rw [i_ix h, bs, bs, y9 (by simp) (by decide), bs]
        rfl
       rw [if_neg c1, if_neg c1, R_is h hg, bs]
       by_cases c2 : isT ⟨#[33]⟩ (x :: r) = true
       ·have hr : Good r := Ql c2 hg (by decide)
        rw [if_pos c2, if_pos c2, ud h hn]
        refine bF (ih .un r (by unfold mu; simp only; omega) (sr.trans h) hr (by show r.length ≤ 70000; omega)) (hU r hr (by omega)) fun n q s o p => ?_
        rw [i_ix h, bs, bs, y9 (by simp) (by decide), bs]
        rfl
       rw [if_neg c2, if_neg c2]
       have hl2 : (x :: r).length ≤ 70000 := by rw [List.length_cons]; omega
       have q := S_ok f .prim (x :: r) hg hl2
       have e1 := ih .prim (x :: r) (by unfold mu; simp only [List.length_cons]; omega) h hg hl2
       unfold RP at e1
       rw [e1]
       cases e : S f .prim (x :: r) with
       | error u =>
         show wg tk (idx tk u) false zN = _
         rw [wg]
         rfl
       | ok y =>
         rw [e] at q
         obtain ⟨s, o, p⟩ := q
         have p2 := p.2
         unfold wt at p2; simp only [List.length_cons] at p2
         exact ih (.unL y.1) y.2 (by unfold mu; simp only; omega) (s.trans h) o ⟨by omega, p.1⟩
   | unL m =>
     obtain ⟨hl', hm'⟩ := hp
     unfold mu at hm; simp only at hm
     show wg tk (idx tk t) true m = _
     rw [wg]
     simp only [nx]
     simp only [S, if_true]
     rw [R_is h hg, bs]
     by_cases c1 : isT ⟨#[46]⟩ t = true
     ·rw [if_pos c1, if_pos c1]
      simp only [qw5]
      refine qx6 hn (by decide) h hg (gc := fun n => n) (d := zN) (fun v y => app 72 ([] : LN) ([m]) >>= fun x40 => ug tk v.2.1 21 y.Text v.1 x40 >>= fun x41 => wg tk x41.2.1 x41.2.2 x41.1) _ ?_
      intro g a r s o hlen hg1 ha1 ha2 y hy
      rw [y9 (by simp) (by decide), bs, hy]
      have hpr : pre (.args 21 a.1 [g, a.2] [m]) r.length := ⟨by omega, ha1, by simp only [List.length_cons, List.length_nil]; omega, by simp only [List.length_cons, List.length_nil]; omega, jd hg1 (jd ha2 ym), wo hm' y4⟩
      have q := S_ok f (.args 21 a.1 [g, a.2] [m]) r o hpr
      have e1 := (ih (.args 21 a.1 [g, a.2] [m]) r (by unfold mu; simp only; omega) (s.trans h) o hpr).2
      show (ug tk (idx tk r) 21 a.1 [g, a.2] ([] ++ [m]) >>= _) = _
      rw [List.nil_append, e1]
      cases e : S f (.args 21 a.1 [g, a.2] [m]) r with
      | error u =>
        show wg tk (idx tk u) false zN = _
        rw [wg]
        rfl
      | ok w =>
        rw [e] at q
        obtain ⟨s2, o2, p⟩ := q
        have p2 := p.2
        unfold wt at p2; simp only at p2
        exact ih (.unL w.1) w.2 (by unfold mu; simp only; omega) ((s2.trans s).trans h) o2 ⟨by omega, p.1⟩
     ·rw [if_neg c1, if_neg c1]
      rfl
   | prim =>
     have hl' : t.length ≤ 70000 := hp
     unfold mu at hm; simp only at hm
     show Ya tk (idx tk t) = _
     rw [Ya]
     simp only [nx]
     cases t with
     | nil => exact hg.elim
     | cons x r =>
       have sr : r <:+ x :: r := List.suffix_cons x r
       simp only [S, qth]
       rw [List.length_cons] at hl' hm hl
       have hl2 : (x :: r).length ≤ 70000 := by rw [List.length_cons]; omega
       rw [i_ix h, bs]
       have isx : ∀ w : BA, isT w (x :: r) = decide (x.Text = w) := fun _ => rfl
       by_cases c0 : x.Kind = 2
       ·rw [if_pos (decide_eq_true c0), if_pos (decide_eq_true c0), ud h hn]
       have c0' : ¬ decide (x.Kind = 2) = true := by rw [decide_eq_true_eq]; exact c0
       rw [if_neg c0', if_neg c0']
       by_cases c1 : isT ⟨#[116, 114, 117, 101]⟩ (x :: r) = true
       ·rw [if_pos (show decide (x.Text = _) = true from c1), if_pos c1, ud h hn]
       rw [if_neg (show ¬ decide (x.Text = _) = true from c1), if_neg c1]
       by_cases c2 : isT ⟨#[102, 97, 108, 115, 101]⟩ (x :: r) = true
       ·rw [if_pos (show decide (x.Text = _) = true from c2), if_pos c2, ud h hn]
       rw [if_neg (show ¬ decide (x.Text = _) = true from c2), if_neg c2]
       by_cases c3 : isT ⟨#[115, 101, 108, 102]⟩ (x :: r) = true
       ·rw [if_pos (show decide (x.Text = _) = true from c3), if_pos c3, ud h hn]
       rw [if_neg (show ¬ decide (x.Text = _) = true from c3), if_neg c3]
       by_cases c4 : isT ⟨#[110, 101, 119]⟩ (x :: r) = true
       ·rw [if_pos (show decide (x.Text = _) = true from c4), if_pos c4, qmo hn _ (by simp) h hg]
        unfold newP
        rw [show Wk [⟨#[110, 101, 119]⟩, ⟨#[]⟩, ⟨#[40]⟩, ⟨#[41]⟩] [] (x :: r) = bR (tkT ⟨#[110, 101, 119]⟩ (x :: r)) fun g1 t => bR (tkN t) fun a t => bR (tkT ⟨#[40]⟩ t) fun g3 t => bR (tkT ⟨#[41]⟩ t) fun g4 t => .ok ([g1, a.2, g3, g4], t) from rfl]
        rw [Qp c4, bR_o, bR_o]
        have o1 := Ql c4 hg (by decide)
        cases r with
        | nil => exact o1.elim
        | cons x2 r2 =>
        have s2 : r2 <:+ x2 :: r2 := List.suffix_cons _ _
        cases m2 : nmT (x2 :: r2) with
        | false => rw [qf8 m2]; rfl
        | true =>
        rw [qf9 m2]
        simp only [bR_o]
        cases tkT ⟨#[40]⟩ r2 with
        | error u => rfl
        | ok y =>
          rw [bR_k, bR_k]
          cases tkT ⟨#[41]⟩ y.2 with
          | error u => rfl
          | ok w =>
            show (ix tk (IntKind.i64.wrap (idx tk (x :: x2 :: r2) + 1)) >>= _) = _
            rw [ud h hn, i_ix (sr.trans h), bs]
            rfl
       rw [if_neg (show ¬ decide (x.Text = _) = true from c4), if_neg c4]
       by_cases c5 : isT ⟨#[40]⟩ (x :: r) = true
       ·rw [if_pos (show decide (x.Text = _) = true from c5), if_pos c5, ud h hn]
        unfold parP
        rw [Qp c5, bR_o]
        have o1 := Ql c5 hg (by decide)
        refine bF (eB 1 r (by decide) (by decide) (by omega) sr o1) (hB1 r o1 (by omega)) fun n r4 s4 o4 h4 => ?_
        have zh := (s4.trans sr).trans h
        show (yc tk (idx tk r4) ⟨#[41]⟩ >>= _) = _
        rw [R_is zh o4, bs]
        cases r4 with
        | nil => exact o4.elim
        | cons y q =>
          cases m6 : isT ⟨#[41]⟩ (y :: q) with
          | false => rw [K3 m6]; rfl
          | true =>
            rw [Qp m6, if_neg (by decide), i_ix zh, bs, y9 (by simp) (by decide), bs, ud zh hn]
            rfl
       rw [if_neg (show ¬ decide (x.Text = _) = true from c5), if_neg c5, qoq h hg, bs]
       unfold quc
       cases m6 : nmT (x :: r) with
       | false => rw [qf8 m6]; rfl
       | true =>
         have o1 := qe8 m6 hg
         rw [qf9 m6, if_neg (by decide), ud h hn, R_is (sr.trans h) o1, bs]
         simp only [bR_o]
         by_cases c6 : isT ⟨#[40]⟩ r = true
         ·rw [if_pos c6, if_pos c6, b3]
          exact (ih (.args 20 x.Text [x.Lead] []) r (by unfold mu; simp only; omega) (sr.trans h) o1 ⟨by omega, hg.1.2.1, by simp only [List.length_cons, List.length_nil]; omega, by simp only [List.length_nil]; omega, jd hg.1.1 ym, y4⟩).1
         ·rw [if_neg c6, if_neg c6]
   | args k x g ks =>
     obtain ⟨hl', hx, hr⟩ := hp
     unfold mu at hm; simp only at hm
     have hr1 := hr.1
     have hr2 := hr.2.1
     cases t with
     | nil => exact hg.elim
     | cons y q =>
       have sr : q <:+ y :: q := List.suffix_cons y q
       rw [List.length_cons] at hl' hm hl hr1 hr2
       unfold RP; simp only [S]
       cases m1 : isT ⟨#[40]⟩ (y :: q) with
       | false =>
         rw [K3 m1]
         refine ⟨?_, ?_⟩
         ·rw [v8]
          simp only [nx]
          rw [R_is h hg, bs, m1]
          rfl
         ·rw [ug]
          simp only [nx]
          rw [R_is h hg, bs, m1]
          rfl
       | true =>
         have o1 := Ql m1 hg (by decide)
         have nxt := ih (.argL true k x (g ++ [y.Lead]) ks) q (by unfold mu; simp only; omega) (sr.trans h) o1 ⟨by omega, hx, by rw [List.length_append, List.length_singleton]; omega, by omega, Yu hr.2.2.1 hg.1.1, hr.2.2.2⟩
         rw [Qp m1, bR_o]
         refine ⟨?_, ?_⟩
         ·rw [v8]
          simp only [nx]
          rw [R_is h hg, bs, m1, if_neg (by decide), i_ix h, bs, y9 (by rw [List.length_singleton]; omega) (by decide), bs, ud h hn]
          exact nxt.1
         ·rw [ug]
          simp only [nx]
          rw [R_is h hg, bs, m1, if_neg (by decide), i_ix h, bs, y9 (by rw [List.length_singleton]; omega) (by decide), bs, ud h hn]
          exact nxt.2
   | argL b k x g ks =>
     obtain ⟨hl', hx, hr⟩ := hp
     have q1 := hr.1
     have q2 := hr.2.1
     unfold mu at hm; simp only at hm
     have hend : ∀ (g : List BA) (r : List Token), r <:+ t → Good r → 20 * r.length + 12 ≤ f + 1 → g.length + r.length ≤ 200000 → ks.length + r.length ≤ 200000 → Gs g → w7 tk (idx tk r) k x g ks = some (cr tk (bR (S f (.bin 1) r) fun n l => S f (.argL false k x g (ks ++ [n])) l)) ∧ w6 tk (idx tk r) k x g ks = some (cr tk (bR (S f (.bin 1) r) fun n l => S f (.argL false k x g (ks ++ [n])) l)) := fun g r s o hm' hg' hk' hgs => by
      have hls := wu s
      rw [w7, w6]
      simp only [nx]
      have nxt : ∀ n r4, r4 <:+ r → Good r4 → (wfB n = true ∧ r4.length + 1 ≤ r.length) → RP tk f (.argL false k x g (ks ++ [n])) r4 := fun n r4 s4 o4 h4 => ih (.argL false k x g (ks ++ [n])) r4 (by unfold mu; simp only; omega) ((s4.trans s).trans h) o4 ⟨by omega, hx, by omega, by rw [List.length_append, List.length_singleton]; omega, hgs, Z2 hr.2.2.2 h4.1⟩
      constructor
      ·refine bF (eB 1 r (by decide) (by decide) (by omega) s o) (hB1 r o (by omega)) fun n r4 s4 o4 h4 => ?_
       rw [y9 (by rw [List.length_singleton]; omega) (by decide), bs]
       exact (nxt n r4 s4 o4 h4).1
      ·refine bF (eB 1 r (by decide) (by decide) (by omega) s o) (hB1 r o (by omega)) fun n r4 s4 o4 h4 => ?_
       rw [y9 (by rw [List.length_singleton]; omega) (by decide), bs]
       exact (nxt n r4 s4 o4 h4).2
     unfold RP; simp only [S, argP]
     cases t with
     | nil => exact hg.elim
     | cons y q =>
     have sr : q <:+ y :: q := List.suffix_cons y q
     refine ⟨?_, ?_⟩
     ·rw [wr, ux]
      simp only [nx]
      rw [R_is h hg, bs]
      cases c1 : isT ⟨#[41]⟩ (y :: q) with
      | true =>
        have e3 : vn tk (idx tk (y :: q)) k x g ks = some (cr tk (bR (tkT ⟨#[41]⟩ (y :: q)) fun h l => .ok (.mk k x (g ++ [h]) ks, l))) := by
         unfold vn
         rw [i_ix h, bs, y9 (by rw [List.length_singleton]; omega) (by decide), bs, ud h hn, Qp c1]; rfl
        cases b with
        | true => exact e3
        | false =>
          simp only [Bool.not_true, Bool.not_false, Bool.false_eq_true, if_false, if_true]
          rw [bs, if_pos rfl]
          exact e3
      | false =>
        cases b with
        | true =>
          simp only [Bool.not_true, Bool.not_false, Bool.false_eq_true, if_false, if_true]
          exact (hend g _ (List.suffix_refl _) hg (by omega) q1 q2 hr.2.2.1).1
        | false =>
          simp only [Bool.not_true, Bool.not_false, Bool.false_eq_true, if_false, if_true]
          rw [bs, if_neg (by decide), R_is h hg, bs]
          cases c2 : isT ⟨#[44]⟩ (y :: q) with
          | false => rw [K3 c2]; rfl
          | true =>
            rw [List.length_cons] at hm q1 q2 hl'
            have o1 := Ql c2 hg (by decide)
            rw [Qp c2, bR_o, if_neg (by decide), i_ix h, bs, y9 (by rw [List.length_singleton]; omega) (by decide), bs, ud h hn]
            exact (hend (g ++ [y.Lead]) q sr o1 (by omega) (by rw [List.length_append, List.length_singleton]; omega) (by omega) (Yu hr.2.2.1 hg.1.1)).1
     ·rw [wq, uw]
      simp only [nx]
      rw [R_is h hg, bs]
      cases c1 : isT ⟨#[41]⟩ (y :: q) with
      | true =>
        have e3 : vm tk (idx tk (y :: q)) k x g ks = some (cr tk (bR (tkT ⟨#[41]⟩ (y :: q)) fun h l => .ok (.mk k x (g ++ [h]) ks, l))) := by
         unfold vm
         rw [i_ix h, bs, y9 (by rw [List.length_singleton]; omega) (by decide), bs, ud h hn, Qp c1]; rfl
        cases b with
        | true => exact e3
        | false =>
          simp only [Bool.not_true, Bool.not_false, Bool.false_eq_true, if_false, if_true]
          rw [bs, if_pos rfl]
          exact e3
      | false =>
        cases b with
        | true =>
          simp only [Bool.not_true, Bool.not_false, Bool.false_eq_true, if_false, if_true]
          exact (hend g _ (List.suffix_refl _) hg (by omega) q1 q2 hr.2.2.1).2
        | false =>
          simp only [Bool.not_true, Bool.not_false, Bool.false_eq_true, if_false, if_true]
          rw [bs, if_neg (by decide), R_is h hg, bs]
          cases c2 : isT ⟨#[44]⟩ (y :: q) with
          | false => rw [K3 c2]; rfl
          | true =>
            rw [List.length_cons] at hm q1 q2 hl'
            have o1 := Ql c2 hg (by decide)
            rw [Qp c2, bR_o, if_neg (by decide), i_ix h, bs, y9 (by rw [List.length_singleton]; omega) (by decide), bs, ud h hn]
            exact (hend (g ++ [y.Lead]) q sr o1 (by omega) (by rw [List.length_append, List.length_singleton]; omega) (by omega) (Yu hr.2.2.1 hg.1.1)).2
   | stmt =>
     have hl' : t.length ≤ 70000 := hp
     unfold mu at hm; simp only at hm
     show w5 tk (idx tk t) = _
     simp only [S]
     exact q4y h hn hg hB1 hC (fun t' s o => eB 1 t' (by decide) (by decide) (by have := wu s; omega) s o) (fun t' s o => ih .blk t' (by unfold mu; simp only; have := wu s; omega) (s.trans h) o (by show t'.length ≤ 70000; have := wu s; omega))
   | blk =>
     have hl' : t.length ≤ 70000 := hp
     unfold mu at hm; simp only at hm
     show v7 tk (idx tk t) = _
     rw [v7]
     simp only [nx]
     simp only [S]
     cases t with
     | nil => exact hg.elim
     | cons y q =>
       have sr : q <:+ y :: q := List.suffix_cons y q
       rw [List.length_cons] at hl' hm
       rw [R_is h hg, bs]
       cases m1 : isT ⟨#[123]⟩ (y :: q) with
       | false => rw [K3 m1]; rfl
       | true =>
         have o1 := Ql m1 hg (by decide)
         rw [Qp m1, if_neg (by decide), i_ix h, bs, y9 (by simp) (by decide), bs, ud h hn]
         exact ih (.blkL [y.Lead] []) q (by unfold mu; simp only; omega) (sr.trans h) o1 ⟨by omega, by simp only [List.length_cons, List.length_nil]; omega, by simp only [List.length_nil]; omega, jd hg.1.1 ym, y4⟩
   | blkL g ks =>
     obtain ⟨hl', hr⟩ := hp
     have q1 := hr.1
     have q2 := hr.2.1
     unfold mu at hm; simp only at hm
     show Qe tk (idx tk t) 6 ⟨#[]⟩ g ks = _
     rw [Qe]
     simp only [nx]
     simp only [S, blkP]
     rw [R_is h hg, bs]
     cases c1 : isT ⟨#[125]⟩ t with
     | true =>
       cases t with
       | nil => exact hg.elim
       | cons y q =>
         simp only [Bool.not_true, Bool.false_eq_true, if_false, if_true]
         rw [Qp c1, i_ix h, bs, y9 (by rw [List.length_singleton]; omega) (by decide), bs, ud h hn]; rfl
     | false =>
       simp only [Bool.not_false, Bool.false_eq_true, if_false, if_true]
       refine bF (ih .stmt t (by unfold mu; simp only; omega) h hg hl') (hT t hg hl') fun n r4 s4 o4 h4 => ?_
       rw [y9 (by rw [List.length_singleton]; omega) (by decide), bs]
       exact ih (.blkL g (ks ++ [n])) r4 (by unfold mu; simp only; omega) (s4.trans h) o4 ⟨by omega, by omega, by rw [List.length_append, List.length_singleton]; omega, hr.2.2.1, Z2 hr.2.2.2 h4.1⟩
   | parL g ks =>
     obtain ⟨hl', hr⟩ := hp
     have q1 := hr.1
     have q2 := hr.2.1
     unfold mu at hm; simp only at hm
     show vg tk (idx tk t) 3 ⟨#[]⟩ g ks = _
     rw [vg]
     simp only [nx]
     rw [Zz]
     simp only [nx]
     have hend : ∀ (g : List BA) (r : List Token), r <:+ t → Good r → 20 * r.length + 1 ≤ f + 1 → g.length + r.length ≤ 200000 → ks.length + r.length ≤ 200000 → Gs g → Qv tk (idx tk r) 3 ⟨#[]⟩ g ks = some (cr tk (bR (qb8 r) fun n l => S f (.parL g (ks ++ [n])) l)) := fun g r s o hm' hg' hk' hgs => by
      have hls := wu s
      rw [Qv]
      simp only [nx]
      unfold qb8
      rw [qoq (s.trans h) o, bs]
      cases r with
      | nil => exact o.elim
      | cons x1 r1 =>
        have s1 : r1 <:+ x1 :: r1 := List.suffix_cons _ _
        cases m1 : nmT (x1 :: r1) with
        | false => rw [qf8 m1]; rfl
        | true =>
          have o1 := qe8 m1 o
          rw [List.length_cons] at hm' hg' hk' hls
          rw [qf9 m1, if_neg (by decide), i_ix (s.trans h), bs, bs, ud (s.trans h) hn]
          have zh := (s1.trans s).trans h
          simp only [bR_o, qqx]
          refine bF (qx5 hn zh o1) (Yr o1) fun b r3 s3 o3 h3 => ?_
          rw [y9 (by simp) (by decide), bs, y9 (by rw [List.length_singleton]; omega) (by decide), bs]
          exact ih (.parL g (ks ++ [.mk 4 x1.Text [x1.Lead] [.mk 5 b.1 [b.2] []]])) r3 (by unfold mu; simp only; omega) (s3.trans zh) o3 ⟨by omega, by omega, by rw [List.length_append, List.length_singleton]; omega, hgs, Z2 hr.2.2.2 (Qa 4 (by simp) (by simp) o.1.2.1 (jd o.1.1 ym) (wo (Qa 5 (by simp) (by simp) h3.2.1 (jd h3.2.2 ym) y4) y4))⟩
     simp only [S, qxg]
     rw [R_is h hg, bs]
     cases t with
     | nil => exact hg.elim
     | cons y q =>
     have sr : q <:+ y :: q := List.suffix_cons y q
     cases c1 : isT ⟨#[41]⟩ (y :: q) with
     | true =>
       have e3 : Jn tk (idx tk (y :: q)) 3 ⟨#[]⟩ g ks = some (cr tk (bR (tkT ⟨#[41]⟩ (y :: q)) fun h l => .ok (.mk 3 ⟨#[]⟩ (g ++ [h]) ks, l))) := by
        unfold Jn
        rw [i_ix h, bs, y9 (by rw [List.length_singleton]; omega) (by decide), bs, ud h hn, Qp c1]; rfl
       simp only [Bool.not_true, Bool.false_eq_true, if_false, if_true]
       by_cases c2 : 0 < ks.length
       ·rw [if_pos (decide_eq_true (by omega)), if_pos (decide_eq_true (by omega)), bs, if_pos rfl]
        exact e3
       ·rw [if_neg (by rw [decide_eq_true_eq]; omega)]
        exact e3
     | false =>
       simp only [Bool.not_false, Bool.false_eq_true, if_false, if_true]
       by_cases c2 : 0 < ks.length
       ·rw [if_pos (decide_eq_true (by omega)), if_pos (decide_eq_true c2), bs, if_neg (by decide), R_is h hg, bs]
        cases c3 : isT ⟨#[44]⟩ (y :: q) with
        | false => rw [K3 c3]; rfl
        | true =>
          rw [List.length_cons] at hm q1 q2 hl'
          have o1 := Ql c3 hg (by decide)
          rw [Qp c3, bR_o, if_neg (by decide), i_ix h, bs, y9 (by rw [List.length_singleton]; omega) (by decide), bs, ud h hn]
          exact hend (g ++ [y.Lead]) q sr o1 (by omega) (by rw [List.length_append, List.length_singleton]; omega) (by omega) (Yu hr.2.2.1 hg.1.1)
       ·rw [if_neg (by rw [decide_eq_true_eq]; omega), if_neg (by rw [decide_eq_true_eq]; exact c2)]
        exact hend g _ (List.suffix_refl _) hg (by omega) q1 q2 hr.2.2.1
   | func =>
     have hl' : t.length ≤ 70000 := hp
     unfold mu at hm; simp only at hm
     show Jd tk (idx tk t) = _
     unfold Jd; simp only [S, funP]
     refine qx6 hn (by decide) h hg (gc := fun n => n) (d := zN) (fun v y => Wi tk v.2.1 >>= fun x3 => if (!x3.2.2) = true then some (zN, x3.2.1, false) else K9 tk x3.2.1 >>= fun x4 => if (!x4.2.2) = true then some (zN, x4.2.1, false) else v7 tk x4.2.1 >>= fun x5 => if (!x5.2.2) = true then some (zN, x5.2.1, false) else
      app 72 ([] : LN) ([x3.1]) >>= fun x6 => app 72 x6 ([x4.1]) >>= fun x7 => app 72 x7 ([x5.1]) >>= fun x8 => some ((Node.mk (2 : Int) y.Text v.1 x8), x5.2.1, true)) _ ?_
     intro g a r s o hlen hg1 ha1 ha2 y hy
     have epar : Wi tk (idx tk r) = some (cr tk (bR (tkT ⟨#[40]⟩ r) fun g3 t => S f (.parL [g3] []) t)) := by
      unfold Wi
      rw [R_is (s.trans h) o, bs]
      cases r with
      | nil => exact o.elim
      | cons y q =>
        have sr : q <:+ y :: q := List.suffix_cons y q
        cases m1 : isT ⟨#[40]⟩ (y :: q) with
        | false => rw [K3 m1]; rfl
        | true =>
          have o1 := Ql m1 o (by decide)
          rw [List.length_cons] at hlen
          rw [Qp m1, if_neg (by decide), i_ix (s.trans h), bs, y9 (by simp) (by decide), bs, ud (s.trans h) hn]
          exact ih (.parL [y.Lead] []) q (by unfold mu; simp only; omega) ((sr.trans s).trans h) o1 ⟨by omega, by simp only [List.length_cons, List.length_nil]; omega, by simp only [List.length_nil]; omega, jd o.1.1 ym, y4⟩
     have qpar : Q r (fun n q => wfB n = true ∧ q.length + 1 ≤ r.length) (bR (tkT ⟨#[40]⟩ r) fun g3 t => S f (.parL [g3] []) t) := (kd o (by decide)).bind fun g3 q s3 o3 h3 => (S_ok f (.parL [g3] []) q o3 ⟨by omega, by simp only [List.length_cons, List.length_nil]; omega, by simp only [List.length_nil]; omega, jd h3.2 ym, y4⟩).mono fun n q' _ p => ⟨p.1, by have := p.2; unfold wt at this; simp only at this; omega⟩
     rw [show (bR (tkT ⟨#[40]⟩ r) fun g3 t => bR (S f (.parL [g3] []) t) (funK (S f .blk) a.1 [g, a.2])) = bR (bR (tkT ⟨#[40]⟩ r) fun g3 t => S f (.parL [g3] []) t) (funK (S f .blk) a.1 [g, a.2]) from (qqx _ _ _).symm]
     refine bF epar qpar fun p r4 s4 o4 h4 => ?_
     unfold funK
     refine bF (qx5 hn ((s4.trans s).trans h) o4) (Yr o4) fun b r5 s5 o5 h5 => ?_
     have z5 := (s5.trans s4).trans s
     refine bF (ih .blk r5 (by unfold mu; simp only; omega) (z5.trans h) o5 (by show r5.length ≤ 70000; omega)) (hC r5 o5 (by omega)) fun c r6 s6 o6 h6 => ?_
     rw [y9 (by simp) (by decide), bs, y9 (by simp) (by decide), bs, y9 (by simp) (by decide), bs, hy]
     rfl
   | clsL x g ks =>
     obtain ⟨hl', hx, hr⟩ := hp
     have q1 := hr.1
     have q2 := hr.2.1
     unfold mu at hm; simp only at hm
     show Zc tk (idx tk t) 7 x g ks = _
     rw [Zc]
     simp only [nx]
     simp only [S, qx1]
     rw [R_is h hg, bs]
     by_cases c1 : isT ⟨#[102, 110]⟩ t = true
     ·rw [if_pos c1, if_pos c1]
      refine bF (ih .func t (by unfold mu; simp only; omega) h hg hl') (hF t hg hl') fun n r4 s4 o4 h4 => ?_
      rw [y9 (by rw [List.length_singleton]; omega) (by decide), bs]
      exact ih (.clsL x g (ks ++ [n])) r4 (by unfold mu; simp only; omega) (s4.trans h) o4 ⟨by omega, hx, by omega, by rw [List.length_append, List.length_singleton]; omega, hr.2.2.1, Z2 hr.2.2.2 h4.1⟩
     ·rw [if_neg c1, if_neg c1, R_is h hg, bs]
      cases t with
      | nil => exact hg.elim
      | cons y q =>
        cases m1 : isT ⟨#[125]⟩ (y :: q) with
        | false => rw [K3 m1]; rfl
        | true =>
          rw [Qp m1, if_neg (by decide), i_ix h, bs, y9 (by rw [List.length_singleton]; omega) (by decide), bs, ud h hn]; rfl
   | cls =>
     have hl' : t.length ≤ 70000 := hp
     unfold mu at hm; simp only at hm
     show qaz tk (idx tk t) = _
     unfold qaz; simp only [S, clsP]
     refine qx6 hn (by decide) h hg (gc := fun n => n) (d := zN) (fun v x2 => yc tk v.2.1 (⟨#[58]⟩ : BA) >>= fun x3 => if x3 = true then ut tk v.2.1 ([(⟨#[58]⟩ : BA), (⟨#[]⟩ : BA)]) >>= fun x4 => if (!x4.2.2) = true then some (zN, x4.2.1, false) else ix tk (IntKind.i64.wrap (x4.2.1 - (1 : Int))) >>= fun x5 => um tk x4.2.1 (7 : Int) x2.Text v.1 ([] : LN) (Node.mk (8 : Int) x5.Text x4.1 ([] : LN)) else um tk v.2.1 (7 : Int) x2.Text v.1 ([] : LN) (Node.mk (8 : Int) (⟨#[]⟩) ([] : LB) ([] : LN))) _ ?_
     intro g1 a r2 s2 o2 hlen hg1 ha1 ha2 y hy
     have hend : ∀ (b : Node) (r : List Token), r <:+ t → Good r → r.length + 2 ≤ t.length → wfB b = true → um tk (idx tk r) 7 a.1 [g1, a.2] [] b = some (cr tk (bR (tkT ⟨#[123]⟩ r) fun g3 t => S f (.clsL a.1 [g1, a.2, g3] [b]) t)) := fun b r s o hlr hb => by
      unfold um
      rw [y9 (by simp) (by decide), bs, R_is (s.trans h) o, bs]
      cases r with
      | nil => exact o.elim
      | cons y q =>
        have sr : q <:+ y :: q := List.suffix_cons y q
        cases m1 : isT ⟨#[123]⟩ (y :: q) with
        | false => rw [K3 m1]; rfl
        | true =>
          have o1 := Ql m1 o (by decide)
          rw [List.length_cons] at hlr
          rw [Qp m1, if_neg (by decide), i_ix (s.trans h), bs, y9 (by simp) (by decide), bs, ud (s.trans h) hn]
          exact ih (.clsL a.1 [g1, a.2, y.Lead] [b]) q (by unfold mu; simp only; omega) ((sr.trans s).trans h) o1 ⟨by omega, ha1, by simp only [List.length_cons, List.length_nil]; omega, by simp only [List.length_cons, List.length_nil]; omega, jd hg1 (jd ha2 (jd o.1.1 ym)), wo hb y4⟩
     show (yc tk (idx tk r2) ⟨#[58]⟩ >>= _) = _
     rw [R_is (s2.trans h) o2, bs]
     unfold quh
     by_cases c1 : isT ⟨#[58]⟩ r2 = true
     ·rw [if_pos c1, if_pos c1]
      simp only [qqx, bR_o]
      refine qx6 hn (by decide) (s2.trans h) o2 (gc := fun n => n) (d := zN) (fun v x5 => um tk v.2.1 (7 : Int) y.Text [g1, a.2] ([] : LN) (Node.mk (8 : Int) x5.Text v.1 ([] : LN))) _ ?_
      intro y1 y2 r5 s5 o5 hlen5 hg5 ha5 hb5 y5 hy5
      show um tk (idx tk r5) 7 y.Text [g1, a.2] [] (Node.mk 8 y5.Text [y1, y2.2] []) = _
      rw [hy, hy5]
      exact hend _ r5 (s5.trans s2) o5 (by omega) (Qa 8 (by simp) (by simp) ha5 (jd hg5 (jd hb5 ym)) y4)
     ·rw [if_neg c1, if_neg c1, hy]
      exact hend _ r2 s2 o2 (by omega) (Qa 8 (by simp) (by simp) Wp ym y4)
   | file ks => trivial
def limV (n : Node) : Node × Int × Int := if Zg n = 3 then (zN, 3, 0) else (n, 0, 0)
theorem q39 {n : Node} (h : wfB n = true) : Z4 n = some (limV n) := by
 unfold Z4 qfl limV
 rw [if_pos h, bs]
 by_cases e : Zg n = 3
 ·rw [if_pos (decide_eq_true e), if_pos e]
 ·rw [if_neg (by rw [decide_eq_true_eq]; exact e), if_neg e]
/-- What is returned of what is read. -/
def finV : Rs Node → Node × Int × Int
 | .error u => (zN, 1, atE u)
 | .ok y => limV y.1
theorem i_at {u : List Token} (h : u <:+ tk) (hg : Good u) : (ix tk (idx tk u) >>= fun x => some ((zN : Node), (1 : Int), x.At)) = some (zN, 1, atE u) := by
 cases u with
 | nil => exact hg.elim
 | cons x r => rw [i_ix h, bs]; rfl
theorem q2a (hn : tk.length ≤ 70000) : ∀ (f : Nat) (ks : List Node) (t : List Token), mu (.file ks) t.length ≤ f → t <:+ tk → Good t → pre (.file ks) t.length → Z5 tk (idx tk t) 1 ⟨#[]⟩ [] ks = some (finV (S f (.file ks) t))
 | 0, ks, t, hm, _, hg, _ => by
   have := qe5 hg
   unfold mu at hm; simp only at hm; omega
 | f + 1, ks, t, hm, h, hg, hp => by
   obtain ⟨hl', hr⟩ := hp
   have q2 := hr.2.1
   have hl := wu h
   unfold mu at hm; simp only at hm
   have hF : Rd (S f .func) := fun t hg hl => S_ok f .func t hg hl
   have hK : Rd (S f .cls) := fun t hg hl => S_ok f .cls t hg hl
   have hB1 : Rd (S f (.bin 1)) := fun t hg hl => S_ok f (.bin 1) t hg ⟨hl, by decide, by decide⟩
   rw [Z5]
   simp only [nx]
   cases t with
   | nil => exact hg.elim
   | cons x r =>
     simp only [S, qxy]
     rw [List.length_map, j6 (by rw [List.length_cons] at hl; omega) (by omega)]
     by_cases c0 : x.Kind = 4
     ·have hr0 : r = [] := by
       rcases hg.2 with ⟨h1, _⟩ | ⟨h1, _⟩
       ·exact h1
       ·exact absurd c0 h1
      subst hr0
      rw [if_neg (by unfold idx; rw [List.length_singleton, decide_eq_true_eq]; rw [List.length_singleton] at hl; omega), if_pos (decide_eq_true c0), i_ix h, bs, y9 (by simp) (by decide), bs, b3]
      exact q39 (Qa 1 (by omega) (by simp) Wp (jd hg.1.1 ym) hr.2.2.2)
     ·have o1 := qe7 hg c0
      have hp1 := qe5 o1
      rw [if_pos (by unfold idx; rw [List.length_cons, decide_eq_true_eq]; rw [List.length_cons] at hl; omega), if_neg (by rw [decide_eq_true_eq]; exact c0)]
      unfold qhm
      rw [R_is h hg, bs]
      have on : ∀ {G : List Token → Rs Node} {y : Option (Node × Int × Bool)}, y = some (cr tk (G (x :: r))) → Rd G →
       (y >>= fun x2 => if (!x2.2.2) = true then ix tk x2.2.1 >>= fun x3 => some (zN, (1 : Int), x3.At) else app 72 ks [x2.1] >>= fun x4 => Z5 tk x2.2.1 1 ⟨#[]⟩ [] x4) = some (finV (bR (G (x :: r)) fun n l => S f (.file (ks ++ [n])) l)) := fun {G y} hy hG => by
       subst hy
       have q := hG _ hg hl'
       cases e : G (x :: r) with
       | error u =>
         rw [e] at q
         exact i_at (q.1.trans h) q.2
       | ok w =>
         rw [e] at q
         obtain ⟨s4, o4, h4⟩ := q
         show (app 72 ks [w.1] >>= _) = _
         rw [y9 (by rw [List.length_singleton]; omega) (by decide), bs]
         exact q2a hn f (ks ++ [w.1]) w.2 (by unfold mu; simp only; omega) (s4.trans h) o4 ⟨by omega, by simp only [List.length_nil]; omega, by rw [List.length_append, List.length_singleton]; omega, ym, Z2 hr.2.2.2 h4.1⟩
      by_cases c1 : isT ⟨#[102, 110]⟩ (x :: r) = true
      ·rw [if_pos c1, if_pos c1, b3]
       exact on (qqz hn f .func (x :: r) (by unfold mu; simp only; omega) h hg hl') hF
      rw [if_neg c1, if_neg c1, R_is h hg, bs]
      by_cases c2 : isT ⟨#[99, 108, 97, 115, 115]⟩ (x :: r) = true
      ·rw [if_pos c2, if_pos c2, b3]
       exact on (qqz hn f .cls (x :: r) (by unfold mu; simp only; omega) h hg hl') hK
      rw [if_neg c2, if_neg c2, R_is h hg, bs]
      by_cases c3 : isT ⟨#[99, 111, 110, 115, 116]⟩ (x :: r) = true
      ·rw [if_pos c3, if_pos c3, b3]
       refine on (G := qcb (S f (.bin 1)) 9 ⟨#[99, 111, 110, 115, 116]⟩) (qx7 hn 9 (by decide) h hg hB1 ?_) (qj1 hB1 9 (by decide))
       intro t' s o
       exact qqz hn f (.bin 1) t' (by unfold mu; simp only; have := wu s; omega) (s.trans h) o ⟨by have := wu s; omega, by decide, by decide⟩
      rw [if_neg c3, if_neg c3]
      exact i_at h hg
end
end Ps
end Go.Proofs.YtigmilhpeodhbaaGreatDoorW.Ex.Gr
