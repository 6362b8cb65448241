/- The program's reader returns what is read in plain words. Conditions: those in each theorem. -/
import Derived.Test.YtigmilhpeodhbaaGreatDoorA0
namespace Go.Proofs.YtigmilhpeodhbaaGreatDoorW.Ex.Gr
open Go Go.Proofs.YtigmilhpeodhbaaGreatDoorW.Ex Go.Proofs.YtigmilhpeodhbaaGreatDoorW.Plain
set_option linter.all false
set_option maxRecDepth 100000
namespace Ps
open Tk
def rd (tk t : List Token) : Reader := ⟨tk, ((tk.length - t.length : Nat) : Int)⟩
def atE : List Token → Int
 | [] => 0
 | x :: _ => x.At
@[reducible] def cv {α β : Type} (tk : List Token) (f : α → Reader → β) : Rs α → Except Int β
  | .error u => .error (atE u)
  | .ok y => .ok (f y.1 (rd tk y.2))
abbrev cvN (tk : List Token) : Rs Node → Except Int (Node × Reader) := cv tk fun n r => (n, r)
abbrev cvA (tk : List Token) : Rs Node → Except Int (Reader × LB × LN) := cv tk fun n r => (r, n.gaps, n.kids)
theorem bE {α β γ δ : Type} {tk t : List Token} {f : α → Reader → γ} {g : β → Reader → δ} {y : Rs α} {z : α → List Token → Rs β} {P : α → List Token → Prop} {x : Option (Except Int γ)} {c : Except Int γ → Option (Except Int δ)}
 (h : x = some (cv tk f y)) (hQ : Q t P y) (hk : ∀ n r, r <:+ t → Good r → P n r → c (.ok (f n (rd tk r))) = some (cv tk g (z n r))) (hc : ∀ e, c (.error e) = some (.error e) := by exact fun _ => rfl) :
 (x >>= c) = some (cv tk g (bR y z)) := by
 subst h
 cases y with
 | error u => exact hc _
 | ok y => exact hk y.1 y.2 hQ.1 hQ.2.1 hQ.2.2
theorem qxi (x : Token) (r : List Token) : nmT (x :: r) = (decide (x.Kind = 1) && Qj x.Text.data.toList) := rfl
theorem qqx {α β γ : Type} (x : Rs α) (k : α → List Token → Rs β) (g : β → List Token → Rs γ) : bR (bR x k) g = bR x fun n r => bR (k n r) g := by cases x <;> rfl
theorem q4w {α : Type} (y : Rs α) : bR y (fun n r => .ok (n, r)) = y := by cases y <;> rfl
theorem qrv {tk r : List Token} {x : Token} (h : (x :: r) <:+ tk) : ix tk ((tk.length - (x :: r).length : Nat) : Int) = some x := by
 obtain ⟨p, rfl⟩ := h
 rw [show (p ++ x :: r).length - (x :: r).length = p.length by rw [List.length_append]; omega, qv5, List.getElem?_append_right (Nat.le_refl _), Nat.sub_self]; rfl
theorem qjb {tk r : List Token} {x : Token} (h : (x :: r) <:+ tk) (hn : tk.length ≤ 70000) : Reader.mk (rd tk (x :: r)).l_ (IntKind.i64.wrap ((rd tk (x :: r)).at_ + (1 : Int))) = rd tk r := by
 have hl := wu h
 rw [List.length_cons] at hl
 unfold rd
 simp only [List.length_cons]
 rw [j6 (by omega) (by omega)]
 congr 1
 omega
section
variable {tk : List Token}
theorem qdt {x : Token} {r : List Token} (h : (x :: r) <:+ tk) : zy (rd tk (x :: r)) = some x := by
 unfold zy rd
 rw [qrv h, bs]
theorem E_is {t : List Token} {w : BA} (h : t <:+ tk) (hg : Good t) (hw : w ≠ ⟨#[]⟩) : zq (rd tk t) w = some (isT w t) := by
 cases t with
 | nil => exact hg.elim
 | cons x r =>
   unfold zq
   rw [qdt h, bs]
   by_cases h4 : x.Kind = 4
   ·rw [decide_eq_true h4]
    have : x.Text = ⟨#[]⟩ := by
     rcases hg.2 with ⟨_, _, h2⟩ | ⟨h2, _⟩
     ·exact h2
     ·exact absurd h4 h2
    rw [show isT w (x :: r) = false from decide_eq_false (by rw [this]; exact fun e => hw e.symm)]
    rfl
   ·rw [decide_eq_false h4]
    simp only [Bool.not_false, if_true]
    rw [bs]; rfl
theorem qpd {x : Token} {r : List Token} (h : (x :: r) <:+ tk) : jt (rd tk (x :: r)) = some (.error x.At) := by
 unfold jt
 rw [qdt h, bs]
theorem u4 {t : List Token} {w : BA} (h : t <:+ tk) (hn : tk.length ≤ 70000) (hg : Good t) (hw : w ≠ ⟨#[]⟩) (a1 : Int) (a3 : BA) {g : LB} (a5 : LN) (hl : g.length ≤ 1000000) :
 q8 (rd tk t) a1 a3 g a5 w = some (cv tk (fun x r => (r, g ++ [x])) (tkT w t)) := by
 cases t with
 | nil => exact hg.elim
 | cons x r =>
   unfold q8
   rw [E_is h hg hw, bs]
   simp only [tkT]
   show (if (!decide (x.Text = w)) = true then _ else _) = _
   by_cases hx : x.Text = w
   ·rw [decide_eq_true hx]
    unfold uk
    simp only [Bool.not_true, Bool.false_eq_true, if_false, if_true]
    rw [qdt h, bs, y9 (by rw [List.length_singleton]; omega) (by decide), bs, qjb h hn]
   ·rw [decide_eq_false hx, qpd h]
    rfl
theorem qdu {t : List Token} (h : t <:+ tk) (hn : tk.length ≤ 70000) (hg : Good t) (a1 : Int) (a2 : BA) {g : LB} (a4 : LN) (hl : g.length ≤ 1000000) :
 js (rd tk t) a1 a2 g a4 = some (cv tk (fun a r => (r, a.1, g ++ [a.2])) (tkN t)) := by
 cases t with
 | nil => exact hg.elim
 | cons x r =>
   unfold js
   rw [qdt h, bs]
   simp only [tkN]
   by_cases hx : x.Kind = 1
   ·rw [decide_eq_true hx]
    unfold qac
    simp only [Bool.not_true, Bool.false_eq_true, if_false, Bool.true_and]
    rw [bs]
    cases hv : Qj x.Text.data.toList with
    | false =>
      simp only [Bool.not_false, if_true, Bool.false_eq_true, if_false]
      rw [qpd h]; rfl
    | true =>
      unfold wi
      simp only [Bool.not_true, Bool.false_eq_true, if_false, if_true]
      rw [y9 (by rw [List.length_singleton]; omega) (by decide), bs, qjb h hn]
   ·rw [decide_eq_false hx]
    simp only [Bool.not_false, if_true, Bool.false_and, Bool.false_eq_true, if_false]
    rw [qpd h]; rfl
theorem q2n {t : List Token} (h : t <:+ tk) (hn : tk.length ≤ 70000) (hg : Good t) : ui (rd tk t) = some (cv tk (fun a r => (Node.mk 5 a.1 [a.2] [], r)) (tkN t)) := by
 unfold ui
 rw [qdu h hn hg 5 _ [] (by simp)]
 cases tkN t <;> rfl
theorem qix {x : Token} {r : List Token} (h : (x :: r) <:+ tk) (hn : tk.length ≤ 70000) (k : Int) : yd (rd tk (x :: r)) k = some (Node.mk k x.Text [x.Lead] [], rd tk r) := by
 unfold yd
 rw [qdt h, bs, qjb h hn]
theorem Zv (a0 : Int) (a2 : BA) (a3 : LB) {ks : LN} (n : Node) (hl : ks.length ≤ 1000000) : jj a0 a2 a3 ks n = some (ks ++ [n]) := by
 unfold jj
 rw [y9 (by rw [List.length_singleton]; omega) (by decide), bs]
theorem qso (a0 : Int) (a2 : BA) (a3 : LB) {ks : LN} (n : Node) (hl : ks.length ≤ 1000000) : Za a0 a2 a3 ks n = some (ks ++ [n]) := by
 unfold Za
 rw [y9 (by rw [List.length_singleton]; omega) (by decide), bs]
theorem q30 {x : Token} {r : List Token} (hg : Good (x :: r)) : Kn x = some (Js x.Text) := by
 unfold Kn
 by_cases h3 : x.Kind = 3
 ·rw [decide_eq_true h3]
  simp only [Bool.not_true, Bool.false_eq_true, if_false, decide_eq_true_eq]
  unfold Js
  repeat' split
  all_goals first | rfl | simp_all
 ·rw [decide_eq_false h3]
  simp only [Bool.not_false, if_true]
  congr 1
  rcases hg.2 with ⟨_, _, h2⟩ | ⟨_, _, h2, _, _⟩
  ·rw [h2]; decide
  ·unfold Js
   rw [h2] at h3
   have no : ∀ l : List UInt8, qgh l = 3 → x.Text ≠ ⟨l.toArray⟩ := fun l hl e => h3 (by rw [e]; exact hl)
   rw [if_neg (no [124] (by decide)), if_neg (no [38] (by decide)), if_neg (by rintro (e | e); exact no [61, 61] (by decide) e; exact no [60] (by decide) e), if_neg (by rintro (e | e); exact no [43] (by decide) e; exact no [45] (by decide) e), if_neg (by rintro (e | e); exact no [42] (by decide) e; exact no [47] (by decide) e)]
end
theorem nx {α : Type} (a : α) : qb a = a := rfl
theorem qr9 : ∀ (f : Nat) (l : List Token), (∀ (k : Int) (x : BA) (g : List BA) (ks : List Node) (n : Node) (r : List Token), S f (.args k x g ks) l = .ok (n, r) → n = .mk k x n.gaps n.kids) ∧ (∀ (b : Bool) (k : Int) (x : BA) (g : List BA) (ks : List Node) (n : Node) (r : List Token), S f (.argL b k x g ks) l = .ok (n, r) → n = .mk k x n.gaps n.kids)
 | 0, l => ⟨fun _ _ _ _ _ _ h => (by cases h), fun _ _ _ _ _ _ _ h => (by cases h)⟩
 | f + 1, l => by
   have ih := qr9 f
   constructor
   ·intro k x g ks n r h
    simp only [S] at h
    cases h1 : tkT ⟨#[40]⟩ l with
    | error u => rw [h1, bR_e] at h; cases h
    | ok y => rw [h1] at h; exact (ih _).2 _ _ _ _ _ _ _ h
   ·intro b k x g ks n r h
    simp only [S, argP] at h
    split at h
    ·cases h1 : tkT ⟨#[41]⟩ l with
     | error u => rw [h1, bR_e] at h; cases h
     | ok y => rw [h1] at h; cases h; rfl
    split at h
    ·cases h1 : S f (.bin 1) l with
     | error u => rw [h1, bR_e] at h; cases h
     | ok y => rw [h1] at h; exact (ih _).2 _ _ _ _ _ _ _ h
    ·cases h1 : tkT ⟨#[44]⟩ l with
     | error u => rw [h1, bR_e] at h; cases h
     | ok y =>
       rw [h1] at h
       replace h : bR (S f (.bin 1) y.2) (fun n l => S f (.argL false k x (g ++ [y.1]) (ks ++ [n])) l) = .ok (n, r) := h
       cases h2 : S f (.bin 1) y.2 with
       | error u => rw [h2, bR_e] at h; cases h
       | ok z => rw [h2] at h; exact (ih _).2 _ _ _ _ _ _ _ h
theorem qxr {n : Node} {k : Int} {x : BA} (h : n = .mk k x n.gaps n.kids) : Node.mk k x n.gaps n.kids = n := h.symm
section
variable {tk : List Token}
/-- What is claimed of each function. -/
def EP (tk : List Token) (f : Nat) : Cat → List Token → Prop
 | .bin v, t => zi (rd tk t) v = some (cvN tk (S f (.bin v) t))
 | .binL v m, t => j9 v (rd tk t) m = some (cvN tk (S f (.binL v m) t))
 | .un, t => yk (rd tk t) = some (cvN tk (S f .un t))
 | .unL m, t => jz (rd tk t) m = some (cvN tk (S f (.unL m) t))
 | .prim, t => kq (rd tk t) = some (cvN tk (S f .prim t))
 | .args k x g ks, t => jw (rd tk t) k x g ks = some (cvA tk (S f (.args k x g ks) t))
 | .argL b k x g ks, t => jv b (rd tk t) k x g ks = some (cvA tk (S f (.argL b k x g ks) t))
 | .stmt, t => j8 (rd tk t) = some (cvN tk (S f .stmt t))
 | .blk, t => ju (rd tk t) = some (cvN tk (S f .blk t))
 | .blkL g ks, t => yb (rd tk t) 6 ⟨#[]⟩ g ks = some (cvN tk (S f (.blkL g ks) t))
 | .parL g ks, t => ∀ (C : List Token → Rs Node) (a : BA) (ga : List BA), (∀ t', t' <:+ t → Good t' → ju (rd tk t') = some (cvN tk (C t'))) → Rd C → ya (rd tk t) 2 a ga [] 3 ⟨#[]⟩ g ks = some (cvN tk (bR (S f (.parL g ks) t) (funK C a ga)))
 | .func, t => ke (rd tk t) = some (cvN tk (S f .func t))
 | .clsL x g ks, t => yt (rd tk t) 7 x g ks = some (cvN tk (S f (.clsL x g ks) t))
 | .cls, t => uf (rd tk t) = some (cvN tk (S f .cls t))
 | .file ks, t => jm (rd tk t) 1 ⟨#[]⟩ [] ks = some (cvN tk (S f (.file ks) t))
/-- A function that reads as B does, on what is left of t. -/
def qqy (tk t : List Token) (F : Reader → Option (Except Int (Node × Reader))) (B : List Token → Rs Node) : Prop := ∀ t', t' <:+ t → Good t' → F (rd tk t') = some (cvN tk (B t'))
theorem qqy.sub {tk t r : List Token} {F : Reader → Option (Except Int (Node × Reader))} {B : List Token → Rs Node} (h : qqy tk t F B) (hr : r <:+ t) : qqy tk r F B := fun t' h1 h2 => h t' (h1.trans hr) h2
variable {B C : List Token → Rs Node}
theorem qyd {t : List Token} (h : t <:+ tk) (hn : tk.length ≤ 70000) (hg : Good t) (k : Int) {w : BA} (hw : w ≠ ⟨#[]⟩) (hB : Rd B) (hF : qqy tk t (fun r => zi r 1) B) : ue (rd tk t) k w = some (cvN tk (qcb B k w t)) := by
 have hl := wu h
 unfold ue qcb
 refine bE (u4 h hn hg hw k _ [] (by simp)) (kd hg hw) fun g1 r1 s1 o1 h1 => ?_
 dsimp only
 refine bE (qdu (s1.trans h) hn o1 k _ [] (by simp)) (Yr o1) fun a r2 s2 o2 h2 => ?_
 dsimp only
 have z2 := s2.trans s1
 refine bE (u4 (z2.trans h) hn o2 (by decide) k _ [] (by simp)) (kd o2 (by decide)) fun g3 r3 s3 o3 h3 => ?_
 dsimp only
 have z3 := s3.trans z2
 refine bE (hF r3 z3 o3) (hB r3 o3 (by omega)) fun n r4 s4 o4 h4 => ?_
 dsimp only
 have z4 := s4.trans z3
 rw [Zv _ _ _ _ (by simp), bs]
 refine bE (u4 (z4.trans h) hn o4 (by decide) k _ _ (by simp)) (kd o4 (by decide)) fun g5 r5 s5 o5 h5 => ?_
 dsimp only
 rfl
theorem E_at {x y : Token} {r : List Token} (h : (x :: y :: r) <:+ tk) (hn : tk.length ≤ 70000) : ix (rd tk (x :: y :: r)).l_ (IntKind.i64.wrap ((rd tk (x :: y :: r)).at_ + (1 : Int))) = some y := by
 rw [show IntKind.i64.wrap ((rd tk (x :: y :: r)).at_ + (1 : Int)) = (rd tk (y :: r)).at_ from congrArg Reader.at_ (qjb h hn)]
 exact qrv ((List.suffix_cons x (y :: r)).trans h)
theorem q48 {t : List Token} (h : t <:+ tk) (hn : tk.length ≤ 70000) (hg : Good t) (hB : Rd B) (hC : Rd C) (hF : qqy tk t (fun r => zi r 1) B) (hK : qqy tk t ju C) : j8 (rd tk t) = some (cvN tk (qm7 B C t)) := by
 have hl := wu h
 rw [j8]
 simp only [nx]
 rw [E_is h hg (by decide), bs]
 unfold qm7
 by_cases c1 : isT ⟨#[108, 101, 116]⟩ t = true
 ·rw [if_pos c1, if_pos c1, ← q4w (qcb B 10 ⟨#[108, 101, 116]⟩ t)]
  exact bE (qyd h hn hg 10 (by decide) hB hF) (qj1 hB 10 (by decide) t hg (by omega)) fun n r _ _ _ => rfl
 rw [if_neg c1, if_neg c1, E_is h hg (by decide), bs]
 by_cases c2 : isT ⟨#[114, 101, 116, 117, 114, 110]⟩ t = true
 ·rw [if_pos c2, if_pos c2]
  unfold retP
  refine bE (u4 h hn hg (by decide) 12 _ [] (by simp)) (kd hg (by decide)) fun g1 r1 s1 o1 h1 => ?_
  dsimp only
  refine bE (hF r1 s1 o1) (hB r1 o1 (by omega)) fun n r4 s4 o4 h4 => ?_
  dsimp only
  have z4 := s4.trans s1
  rw [Zv _ _ _ _ (by simp), bs]
  refine bE (u4 (z4.trans h) hn o4 (by decide) 12 _ _ (by simp)) (kd o4 (by decide)) fun g5 r5 s5 o5 h5 => ?_
  dsimp only
  rfl
 rw [if_neg c2, if_neg c2, E_is h hg (by decide), bs]
 by_cases c3 : isT ⟨#[105, 102]⟩ t = true
 ·rw [if_pos c3, if_pos c3]
  unfold ifP
  refine bE (u4 h hn hg (by decide) 13 _ [] (by simp)) (kd hg (by decide)) fun g1 r1 s1 o1 h1 => ?_
  dsimp only
  refine bE (hF r1 s1 o1) (hB r1 o1 (by omega)) fun n r4 s4 o4 h4 => ?_
  dsimp only
  have z4 := s4.trans s1
  rw [Zv _ _ _ _ (by simp), bs]
  refine bE (hK r4 z4 o4) (hC r4 o4 (by omega)) fun c r5 s5 o5 h5 => ?_
  dsimp only
  have z5 := s5.trans z4
  rw [Zv _ _ _ _ (by simp), bs, E_is (z5.trans h) o5 (by decide), bs]
  unfold qqq
  by_cases c4 : isT ⟨#[101, 108, 115, 101]⟩ r5 = true
  ·rw [if_pos c4, if_pos c4]
   simp only [qqx, bR_o]
   refine bE (u4 (z5.trans h) hn o5 (by decide) 14 _ [] (by simp)) (kd o5 (by decide)) fun g6 r6 s6 o6 h6 => ?_
   dsimp only
   refine bE (hK r6 (s6.trans z5) o6) (hC r6 o6 (by omega)) fun c7 r7 s7 o7 h7 => ?_
   dsimp only
   rw [Zv _ _ _ _ (by simp), bs]
   unfold yz
   rw [Zv _ _ _ _ (by simp), bs]
   rfl
  ·rw [if_neg c4, if_neg c4]
   unfold yz
   rw [Zv _ _ _ _ (by simp), bs]
   rfl
 rw [if_neg c3, if_neg c3, E_is h hg (by decide), bs]
 by_cases c5 : isT ⟨#[119, 104, 105, 108, 101]⟩ t = true
 ·rw [if_pos c5, if_pos c5]
  unfold qm0
  refine bE (u4 h hn hg (by decide) 15 _ [] (by simp)) (kd hg (by decide)) fun g1 r1 s1 o1 h1 => ?_
  dsimp only
  refine bE (hF r1 s1 o1) (hB r1 o1 (by omega)) fun n r4 s4 o4 h4 => ?_
  dsimp only
  have z4 := s4.trans s1
  rw [Zv _ _ _ _ (by simp), bs]
  refine bE (hK r4 z4 o4) (hC r4 o4 (by omega)) fun c r5 s5 o5 h5 => ?_
  dsimp only
  rw [Zv _ _ _ _ (by simp), bs]
  rfl
 rw [if_neg c5, if_neg c5]
 cases t with
 | nil => exact hg.elim
 | cons x r =>
   have hdo : yg (rd tk (x :: r)) = some (cvN tk (doP B (x :: r))) := by
    unfold yg doP
    refine bE (hF _ (List.suffix_refl _) hg) (hB _ hg (by omega)) fun n r4 s4 o4 h4 => ?_
    dsimp only
    rw [Zv _ _ _ _ (by simp), bs]
    refine bE (u4 (s4.trans h) hn o4 (by decide) 16 _ _ (by simp)) (kd o4 (by decide)) fun g5 r5 s5 o5 h5 => ?_
    dsimp only
    rfl
   rw [qdt h, bs]
   by_cases c6 : x.Kind = 1
   ·rw [if_pos (decide_eq_true c6)]
    unfold qac
    rw [bs]
    cases hv : Qj x.Text.data.toList with
    | false =>
      rw [if_neg (by decide), if_neg (by rw [qxi, hv]; simp), hdo]
    | true =>
      rw [if_pos rfl]
      have hr : Good r := qe7 hg (by rw [c6]; decide)
      cases r with
      | nil => exact hr.elim
      | cons y q =>
        rw [E_at h hn, bs]
        by_cases c7 : y.Text = ⟨#[61]⟩
        ·rw [if_pos (decide_eq_true c7), if_pos (by rw [qxi, hv, decide_eq_true c6]; exact decide_eq_true c7)]
         unfold setP
         refine bE (qdu h hn hg 11 _ [] (by simp)) (Yr hg) fun a r2 s2 o2 h2 => ?_
         dsimp only
         refine bE (u4 (s2.trans h) hn o2 (by decide) 11 _ [] (by simp)) (kd o2 (by decide)) fun g3 r3 s3 o3 h3 => ?_
         dsimp only
         have z3 := s3.trans s2
         refine bE (hF r3 z3 o3) (hB r3 o3 (by omega)) fun n r4 s4 o4 h4 => ?_
         dsimp only
         have z4 := s4.trans z3
         rw [Zv _ _ _ _ (by simp), bs]
         refine bE (u4 (z4.trans h) hn o4 (by decide) 11 _ _ (by simp)) (kd o4 (by decide)) fun g5 r5 s5 o5 h5 => ?_
         dsimp only
         rfl
        ·rw [if_neg (by rw [decide_eq_true_eq]; exact c7), if_neg (by rw [Bool.and_eq_true]; exact fun e => c7 (of_decide_eq_true e.2)), hdo]
   ·rw [if_neg (by rw [decide_eq_true_eq]; exact c6), if_neg (by rw [qxi, decide_eq_false c6]; simp), hdo]
theorem qyc {α : Type} {x : Option (Except Int (α × Reader))} {y : Except Int (α × Reader)} {c : Except Int (α × Reader) → Option (Except Int (α × Reader))} (h : x = some y) (hc : ∀ v, c v = some v := by exact fun v => by cases v <;> rfl) : (x >>= c) = some y := by
 subst h; exact hc y
/-- The functions on expressions, statements and blocks, and on declarations. -/
theorem qye (hn : tk.length ≤ 70000) : ∀ (f : Nat) (c : Cat) (t : List Token), mu c t.length ≤ f → t <:+ tk → Good t → pre c t.length → EP tk f c t
 | 0, c, t, hm, _, hg, _ => by
   have := qe5 hg
   cases c <;> (unfold mu at hm; simp only at hm; omega)
 | f + 1, c, t, hm, h, hg, hp => by
   have ih := qye hn f
   have hl := wu h
   have hpos := qe5 hg
   have hB : ∀ v : Int, 1 ≤ v → v ≤ 6 → Rd (S f (.bin v)) := fun v h1 h6 t hg hl => S_ok f (.bin v) t hg ⟨hl, h1, h6⟩
   have hB1 := hB 1 (by decide) (by decide)
   have hU : Rd (S f .un) := fun t hg hl => S_ok f .un t hg hl
   have hC : Rd (S f .blk) := fun t hg hl => S_ok f .blk t hg hl
   have hT : Rd (S f .stmt) := fun t hg hl => S_ok f .stmt t hg hl
   have hF : Rd (S f .func) := fun t hg hl => S_ok f .func t hg hl
   have hK : Rd (S f .cls) := fun t hg hl => S_ok f .cls t hg hl
   have eB : ∀ (v : Int) (t' : List Token), 1 ≤ v → v ≤ 6 → 20 * t'.length + (10 - v).toNat ≤ f → t' <:+ t → Good t' → zi (rd tk t') v = some (cvN tk (S f (.bin v) t')) := fun v t' h1 h6 hm' hs hg' => ih (.bin v) t' hm' (hs.trans h) hg' ⟨by have := wu hs; omega, h1, h6⟩
   cases c with
   | bin v =>
     obtain ⟨hl', h1, h6⟩ := hp
     unfold mu at hm; simp only at hm
     show zi (rd tk t) v = _
     rw [zi]
     simp only [nx]
     simp only [S]
     by_cases h5 : 5 < v
     ·rw [if_pos (decide_eq_true h5), if_pos (decide_eq_true h5)]
      exact qyc (ih .un t (by unfold mu; simp only; omega) h hg hl')
     ·rw [if_neg (by rw [decide_eq_true_eq]; exact h5), if_neg (by rw [decide_eq_true_eq]; exact h5), j6 (by omega) (by omega)]
      refine bE (eB (v + 1) t (by omega) (by omega) (by omega) (List.suffix_refl _) hg) (hB (v + 1) (by omega) (by omega) t hg hl') fun n r s o p => ?_
      dsimp only
      exact ih (.binL v n) r (by unfold mu; simp only; omega) (s.trans h) o ⟨by omega, h1, by omega, p.1⟩
   | binL v m =>
     obtain ⟨hl', h1, h5, hm'⟩ := hp
     unfold mu at hm; simp only at hm
     show j9 v (rd tk t) m = _
     rw [j9]
     simp only [nx]
     cases t with
     | nil => exact hg.elim
     | cons x r =>
       rw [qdt h, bs, q30 hg, bs]
       simp only [S, binP]
       by_cases hx : Js x.Text = v
       ·have hr : Good r := Y5 hg (by
         rintro h0
         rw [h0] at hx
         rw [show Js ⟨#[]⟩ = 0 from by decide] at hx
         omega)
        rw [List.length_cons] at hl' hm hl
        have sr : r <:+ x :: r := List.suffix_cons x r
        rw [if_pos (decide_eq_true hx), if_pos (decide_eq_true hx), qix h hn, bs, qso _ _ _ _ (by simp [Node.kids]), bs, j6 (by omega) (by omega)]
        refine bE (eB (v + 1) r (by omega) (by omega) (by omega) sr hr) (hB (v + 1) (by omega) (by omega) r hr (by omega)) fun n q s o p => ?_
        dsimp only
        rw [qso _ _ _ _ (by simp [Node.kids]), bs]
        have hw : wfB (.mk 24 x.Text [x.Lead] [m, n]) = true := Qa 24 (by simp) (by simp) hg.1.2.1 (jd hg.1.1 ym) (wo hm' (wo p.1 y4))
        by_cases h3 : v = 3
        ·rw [if_pos (decide_eq_true h3), if_pos (decide_eq_true h3)]
         unfold wc
         rfl
        ·rw [if_neg (by rw [decide_eq_true_eq]; exact h3), if_neg (by rw [decide_eq_true_eq]; exact h3)]
         exact ih (.binL v (.mk 24 x.Text [x.Lead] [m, n])) q (by unfold mu; simp only; omega) ((s.trans sr).trans h) o ⟨by omega, h1, h5, hw⟩
       ·rw [if_neg (by rw [decide_eq_true_eq]; exact hx), if_neg (by rw [decide_eq_true_eq]; exact hx)]
        unfold wc
        rfl
   | un =>
     have hl' : t.length ≤ 70000 := hp
     unfold mu at hm; simp only at hm
     show yk (rd tk t) = _
     rw [yk]
     simp only [nx]
     cases t with
     | nil => exact hg.elim
     | cons x r =>
       have sr : r <:+ x :: r := List.suffix_cons x r
       simp only [S, unP]
       rw [List.length_cons] at hl' hm hl
       rw [E_is h hg (by decide), bs]
       by_cases c1 : isT ⟨#[45]⟩ (x :: r) = true
       ·have hr : Good r := Y5 hg (by rw [of_decide_eq_true c1]; decide)
        rw [if_pos c1, if_pos c1, qix h hn, bs]
        refine bE (ih .un r (by unfold mu; simp only; omega) (sr.trans h) hr (by show r.length ≤ 70000; omega)) (hU r hr (by omega)) fun n q s o p => ?_
        dsimp only
        rw [qso _ _ _ _ (by simp [Node.kids]), bs]
        rfl
       rw [if_neg c1, if_neg c1, E_is h hg (by decide), bs]
       by_cases c2 : isT ⟨#[33]⟩ (x :: r) = true
       ·have hr : Good r := Y5 hg (by rw [of_decide_eq_true c2]; decide)
        rw [if_pos c2, if_pos c2, qix h hn, bs]
        refine bE (ih .un r (by unfold mu; simp only; omega) (sr.trans h) hr (by show r.length ≤ 70000; omega)) (hU r hr (by omega)) fun n q s o p => ?_
        dsimp only
        rw [qso _ _ _ _ (by simp [Node.kids]), bs]
        rfl
       rw [if_neg c2, if_neg c2]
       refine bE (ih .prim (x :: r) (by unfold mu; simp only [List.length_cons]; omega) h hg (by show (x :: r).length ≤ 70000; simp only [List.length_cons]; omega)) (S_ok f .prim (x :: r) hg (by show (x :: r).length ≤ 70000; simp only [List.length_cons]; omega)) fun n q s o p => ?_
       dsimp only
       have p2 := p.2
       unfold wt at p2; simp only [List.length_cons] at p2
       exact ih (.unL n) q (by unfold mu; simp only; omega) (s.trans h) o ⟨by omega, p.1⟩
   | unL m =>
     obtain ⟨hl', hm'⟩ := hp
     unfold mu at hm; simp only at hm
     show jz (rd tk t) m = _
     rw [jz]
     simp only [nx]
     simp only [S]
     rw [E_is h hg (by decide), bs]
     by_cases c1 : isT ⟨#[46]⟩ t = true
     ·rw [if_pos c1, if_pos c1]
      simp only [qw5]
      refine bE (u4 h hn hg (by decide) 21 _ _ (by simp)) (kd hg (by decide)) fun g1 r1 s1 o1 h1 => ?_
      dsimp only
      refine bE (qdu (s1.trans h) hn o1 21 _ _ (by simp)) (Yr o1) fun a r2 s2 o2 h2 => ?_
      dsimp only
      have z2 := s2.trans s1
      have hpr : pre (.args 21 a.1 [g1, a.2] [m]) r2.length := ⟨by omega, h2.2.1, by simp only [List.length_append, List.length_cons, List.length_nil]; omega, by simp only [List.length_cons, List.length_nil]; omega, jd h1.2 (jd h2.2.2 ym), wo hm' y4⟩
      refine bE (ih (.args 21 a.1 [g1, a.2] [m]) r2 (by unfold mu; simp only; omega) (z2.trans h) o2 hpr) (t := r2) (P := fun n r => (wfB n = true ∧ r.length + 1 ≤ r2.length) ∧ n = .mk 21 a.1 n.gaps n.kids) ?_ fun n r3 s3 o3 p => ?_
      ·have q := S_ok f (.args 21 a.1 [g1, a.2] [m]) r2 o2 hpr
       cases e : S f (.args 21 a.1 [g1, a.2] [m]) r2 with
       | error u => rw [e] at q; exact q
       | ok y => rw [e] at q; exact ⟨q.1, q.2.1, q.2.2, (qr9 f r2).1 _ _ _ _ _ _ e⟩
      ·show jz (rd tk r3) (Node.mk 21 a.1 n.gaps n.kids) = _
       rw [qxr p.2]
       exact ih (.unL n) r3 (by unfold mu; simp only; omega) ((s3.trans z2).trans h) o3 ⟨by omega, p.1.1⟩
     ·rw [if_neg c1, if_neg c1]
   | prim =>
     have hl' : t.length ≤ 70000 := hp
     unfold mu at hm; simp only at hm
     show kq (rd tk t) = _
     rw [kq]
     simp only [nx]
     cases t with
     | nil => exact hg.elim
     | cons x r =>
       have sr : r <:+ x :: r := List.suffix_cons x r
       simp only [S, qth]
       rw [List.length_cons] at hl' hm hl
       have hl2 : (x :: r).length ≤ 70000 := by rw [List.length_cons]; omega
       rw [qdt h, bs]
       by_cases c0 : x.Kind = 2
       ·rw [if_pos (decide_eq_true c0), if_pos (decide_eq_true c0), qix h hn, bs]; rfl
       rw [if_neg (by rw [decide_eq_true_eq]; exact c0), if_neg (by rw [decide_eq_true_eq]; exact c0), E_is h hg (by decide), bs]
       by_cases c1 : isT ⟨#[116, 114, 117, 101]⟩ (x :: r) = true
       ·rw [if_pos c1, if_pos c1, qix h hn, bs]; rfl
       rw [if_neg c1, if_neg c1, E_is h hg (by decide), bs]
       by_cases c2 : isT ⟨#[102, 97, 108, 115, 101]⟩ (x :: r) = true
       ·rw [if_pos c2, if_pos c2, qix h hn, bs]; rfl
       rw [if_neg c2, if_neg c2, E_is h hg (by decide), bs]
       by_cases c3 : isT ⟨#[115, 101, 108, 102]⟩ (x :: r) = true
       ·rw [if_pos c3, if_pos c3, qix h hn, bs]; rfl
       rw [if_neg c3, if_neg c3, E_is h hg (by decide), bs]
       by_cases c4 : isT ⟨#[110, 101, 119]⟩ (x :: r) = true
       ·rw [if_pos c4, if_pos c4]
        unfold newP
        refine bE (u4 h hn hg (by decide) 22 _ _ (by simp)) (kd hg (by decide)) fun g1 r1 s1 o1 h1 => ?_
        dsimp only
        refine bE (qdu (s1.trans h) hn o1 22 _ _ (by simp)) (Yr o1) fun a r2 s2 o2 h2 => ?_
        dsimp only
        have z2 := s2.trans s1
        refine bE (u4 (z2.trans h) hn o2 (by decide) 22 _ _ (by simp)) (kd o2 (by decide)) fun g3 r3 s3 o3 h3 => ?_
        dsimp only
        refine bE (u4 ((s3.trans z2).trans h) hn o3 (by decide) 22 _ _ (by simp)) (kd o3 (by decide)) fun g4 r4 s4 o4 h4 => ?_
        dsimp only
        rfl
       rw [if_neg c4, if_neg c4, E_is h hg (by decide), bs]
       by_cases c5 : isT ⟨#[40]⟩ (x :: r) = true
       ·rw [if_pos c5, if_pos c5]
        unfold parP
        refine bE (u4 h hn hg (by decide) 26 _ _ (by simp)) (kd hg (by decide)) fun g1 r1 s1 o1 h1 => ?_
        dsimp only
        rw [List.length_cons] at h1
        refine bE (eB 1 r1 (by decide) (by decide) (by have := h1.1; omega) s1 o1) (hB1 r1 o1 (by omega)) fun n r4 s4 o4 h4 => ?_
        dsimp only
        have z4 := s4.trans s1
        rw [Zv _ _ _ _ (by simp), bs]
        refine bE (u4 (z4.trans h) hn o4 (by decide) 26 _ _ (by simp)) (kd o4 (by decide)) fun g5 r5 s5 o5 h5 => ?_
        dsimp only
        rfl
       rw [if_neg c5, if_neg c5]
       unfold quc
       refine bE (qdu h hn hg 19 _ _ (by simp)) (Yr hg) fun a r2 s2 o2 h2 => ?_
       dsimp only
       rw [List.length_cons] at h2
       rw [E_is (s2.trans h) o2 (by decide), bs]
       by_cases c6 : isT ⟨#[40]⟩ r2 = true
       ·rw [if_pos c6, if_pos c6]
        have hpr : pre (.args 20 a.1 [a.2] []) r2.length := ⟨by omega, h2.2.1, by simp only [List.length_cons, List.length_nil]; omega, by simp only [List.length_nil]; omega, jd h2.2.2 ym, y4⟩
        have e1 := ih (.args 20 a.1 [a.2] []) r2 (by unfold mu; simp only; omega) (s2.trans h) o2 hpr
        unfold EP at e1
        show (jw (rd tk r2) 20 a.1 [a.2] [] >>= _) = _
        rw [e1]
        cases e : S f (.args 20 a.1 [a.2] []) r2 with
        | error u => rfl
        | ok y =>
          show km (rd tk y.2) 20 a.1 y.1.gaps y.1.kids = _
          unfold km
          rw [qxr ((qr9 f r2).1 _ _ _ _ _ _ e)]
       ·rw [if_neg c6, if_neg c6]
        rfl
   | args k x g ks =>
     obtain ⟨hl', hx, hr⟩ := hp
     unfold mu at hm; simp only at hm
     show jw (rd tk t) k x g ks = _
     rw [jw]
     simp only [nx]
     simp only [S]
     refine bE (u4 h hn hg (by decide) k _ _ (by have := hr.1; omega)) (kd hg (by decide)) fun g1 r1 s1 o1 h1 => ?_
     dsimp only
     exact ih (.argL true k x (g ++ [g1]) ks) r1 (by unfold mu; simp only; omega) (s1.trans h) o1 ⟨by omega, hx, by rw [List.length_append, List.length_singleton]; have := hr.1; omega, by have := hr.2.1; omega, Yu hr.2.2.1 h1.2, hr.2.2.2⟩
   | argL b k x g ks =>
     obtain ⟨hl', hx, hr⟩ := hp
     have q1 := hr.1
     have q2 := hr.2.1
     unfold mu at hm; simp only at hm
     show jv b (rd tk t) k x g ks = _
     rw [jv]
     simp only [nx]
     simp only [S, argP]
     rw [E_is h hg (by decide), bs]
     have hend : ∀ (g : List BA) (r : List Token), r <:+ t → Good r → 20 * r.length + 12 ≤ f + 1 → g.length + r.length ≤ 200000 → ks.length + r.length ≤ 200000 → Gs g → yh (rd tk r) k x g ks = some (cvA tk (bR (S f (.bin 1) r) fun n l => S f (.argL false k x g (ks ++ [n])) l)) := fun g r s o hm' hg' hk' hgs => by
      have := wu s
      rw [yh]
      simp only [nx]
      refine bE (eB 1 r (by decide) (by decide) (by omega) s o) (hB1 r o (by omega)) fun n r4 s4 o4 h4 => ?_
      dsimp only
      rw [Zv _ _ _ _ (by omega), bs]
      exact ih (.argL false k x g (ks ++ [n])) r4 (by unfold mu; simp only; omega) ((s4.trans s).trans h) o4 ⟨by omega, hx, by omega, by rw [List.length_append, List.length_singleton]; omega, hgs, Z2 hr.2.2.2 h4.1⟩
     cases c1 : isT ⟨#[41]⟩ t with
     | true =>
       simp only [Bool.not_true, Bool.false_eq_true, if_false, if_true]
       refine bE (u4 h hn hg (by decide) k _ _ (by omega)) (kd hg (by decide)) fun g1 r1 s1 o1 h1 => ?_
       rfl
     | false =>
       simp only [Bool.not_false, Bool.false_eq_true, if_false, if_true]
       cases b with
       | true =>
         simp only [Bool.not_true, Bool.false_eq_true, if_false, if_true]
         exact hend g t (List.suffix_refl _) hg (by omega) q1 q2 hr.2.2.1
       | false =>
         simp only [Bool.not_false, Bool.false_eq_true, if_false, if_true]
         refine bE (u4 h hn hg (by decide) k _ _ (by omega)) (kd hg (by decide)) fun g1 r1 s1 o1 h1 => ?_
         dsimp only
         exact hend (g ++ [g1]) r1 s1 o1 (by omega) (by rw [List.length_append, List.length_singleton]; omega) (by omega) (Yu hr.2.2.1 h1.2)
   | stmt =>
     have hl' : t.length ≤ 70000 := hp
     unfold mu at hm; simp only at hm
     show j8 (rd tk t) = _
     simp only [S]
     exact q48 h hn hg hB1 hC (fun t' s o => eB 1 t' (by decide) (by decide) (by have := wu s; omega) s o) (fun t' s o => ih .blk t' (by unfold mu; simp only; have := wu s; omega) (s.trans h) o (by show t'.length ≤ 70000; have := wu s; omega))
   | blk =>
     have hl' : t.length ≤ 70000 := hp
     unfold mu at hm; simp only at hm
     show ju (rd tk t) = _
     rw [ju]
     simp only [nx]
     simp only [S]
     refine bE (u4 h hn hg (by decide) 6 _ _ (by simp)) (kd hg (by decide)) fun g1 r1 s1 o1 h1 => ?_
     dsimp only
     exact ih (.blkL [g1] []) r1 (by unfold mu; simp only; omega) (s1.trans h) o1 ⟨by omega, by simp only [List.length_cons, List.length_nil]; omega, by simp only [List.length_nil]; omega, jd h1.2 ym, y4⟩
   | blkL g ks =>
     obtain ⟨hl', hr⟩ := hp
     have q1 := hr.1
     have q2 := hr.2.1
     unfold mu at hm; simp only at hm
     show yb (rd tk t) 6 ⟨#[]⟩ g ks = _
     rw [yb]
     simp only [nx]
     simp only [S, blkP]
     rw [E_is h hg (by decide), bs]
     cases c1 : isT ⟨#[125]⟩ t with
     | true =>
       simp only [Bool.not_true, Bool.false_eq_true, if_false, if_true]
       refine bE (u4 h hn hg (by decide) 6 _ _ (by omega)) (kd hg (by decide)) fun g1 r1 s1 o1 h1 => ?_
       rfl
     | false =>
       simp only [Bool.not_false, Bool.false_eq_true, if_false, if_true]
       refine bE (ih .stmt t (by unfold mu; simp only; omega) h hg hl') (hT t hg hl') fun n r4 s4 o4 h4 => ?_
       dsimp only
       rw [Zv _ _ _ _ (by omega), bs]
       exact ih (.blkL g (ks ++ [n])) r4 (by unfold mu; simp only; omega) (s4.trans h) o4 ⟨by omega, by omega, by rw [List.length_append, List.length_singleton]; omega, hr.2.2.1, Z2 hr.2.2.2 h4.1⟩
   | parL g ks =>
     obtain ⟨hl', hr⟩ := hp
     have q1 := hr.1
     have q2 := hr.2.1
     unfold mu at hm; simp only at hm
     intro C a ga hC1 hC2
     rw [ya]
     simp only [nx]
     simp only [S, qxg]
     rw [E_is h hg (by decide), bs]
     have hend : ∀ (g : List BA) (r : List Token), r <:+ t → Good r → 20 * r.length + 1 ≤ f + 1 → g.length + r.length ≤ 200000 → ks.length + r.length ≤ 200000 → Gs g → yl (rd tk r) 2 a ga [] 3 ⟨#[]⟩ g ks = some (cvN tk (bR (bR (qb8 r) fun n l => S f (.parL g (ks ++ [n])) l) (funK C a ga))) := fun g r s o hm' hg' hk' hgs => by
      have := wu s
      rw [yl]
      simp only [nx]
      rw [show (bR (bR (qb8 r) fun n l => S f (.parL g (ks ++ [n])) l) (funK C a ga)) = bR (tkN r) fun x1 t1 => bR (tkN t1) fun b t2 => bR (S f (.parL g (ks ++ [.mk 4 x1.1 [x1.2] [.mk 5 b.1 [b.2] []]])) t2) (funK C a ga) from by simp only [qb8, qqx, bR_o]]
      refine bE (qdu (s.trans h) hn o 4 _ _ (by simp)) (Yr o) fun x1 r2 s2 o2 h2 => ?_
      dsimp only
      have z2 := s2.trans s
      refine bE (q2n (z2.trans h) hn o2) (Yr o2) fun b r3 s3 o3 h3 => ?_
      dsimp only
      have z3 := s3.trans z2
      rw [Zv _ _ _ _ (by simp), bs, Zv _ _ _ _ (by omega), bs]
      refine ih (.parL g (ks ++ [.mk 4 x1.1 [x1.2] [.mk 5 b.1 [b.2] []]])) r3 (by unfold mu; simp only; omega) (z3.trans h) o3 ⟨by omega, by omega, by rw [List.length_append, List.length_singleton]; omega, hgs, Z2 hr.2.2.2 (Qa 4 (by simp) (by simp) h2.2.1 (jd h2.2.2 ym) (wo (Qa 5 (by simp) (by simp) h3.2.1 (jd h3.2.2 ym) y4) y4))⟩ C a ga (fun t' s' o' => hC1 t' (s'.trans z3) o') hC2
     cases c1 : isT ⟨#[41]⟩ t with
     | true =>
       simp only [Bool.not_true, Bool.false_eq_true, if_false, if_true]
       rw [show (bR (bR (tkT ⟨#[41]⟩ t) fun h l => .ok (.mk 3 ⟨#[]⟩ (g ++ [h]) ks, l)) (funK C a ga)) = bR (tkT ⟨#[41]⟩ t) fun h l => funK C a ga (.mk 3 ⟨#[]⟩ (g ++ [h]) ks) l from by cases tkT ⟨#[41]⟩ t <;> rfl]
       refine bE (u4 h hn hg (by decide) 3 _ _ (by omega)) (kd hg (by decide)) fun g1 r1 s1 o1 h1 => ?_
       dsimp only
       rw [Zv _ _ _ _ (by simp), bs]
       unfold funK
       refine bE (q2n (s1.trans h) hn o1) (Yr o1) fun b r3 s3 o3 h3 => ?_
       dsimp only
       have z3 := s3.trans s1
       rw [Zv _ _ _ _ (by simp), bs]
       refine bE (hC1 r3 z3 o3) (hC2 r3 o3 (by omega)) fun n r4 s4 o4 h4 => ?_
       dsimp only
       rw [Zv _ _ _ _ (by simp), bs]
       rfl
     | false =>
       simp only [Bool.not_false, Bool.false_eq_true, if_false, if_true]
       by_cases c2 : 0 < ks.length
       ·rw [if_pos (decide_eq_true (by omega)), if_pos (decide_eq_true c2)]
        rw [show (bR (bR (tkT ⟨#[44]⟩ t) fun h l => bR (qb8 l) fun n l => S f (.parL (g ++ [h]) (ks ++ [n])) l) (funK C a ga)) = bR (tkT ⟨#[44]⟩ t) fun h l => bR (bR (qb8 l) fun n l => S f (.parL (g ++ [h]) (ks ++ [n])) l) (funK C a ga) from by cases tkT ⟨#[44]⟩ t <;> rfl]
        refine bE (u4 h hn hg (by decide) 3 _ _ (by omega)) (kd hg (by decide)) fun g1 r1 s1 o1 h1 => ?_
        dsimp only
        exact hend (g ++ [g1]) r1 s1 o1 (by omega) (by rw [List.length_append, List.length_singleton]; omega) (by omega) (Yu hr.2.2.1 h1.2)
       ·rw [if_neg (by rw [decide_eq_true_eq]; omega), if_neg (by rw [decide_eq_true_eq]; exact c2)]
        exact hend g t (List.suffix_refl _) hg (by omega) q1 q2 hr.2.2.1
   | func =>
     have hl' : t.length ≤ 70000 := hp
     unfold mu at hm; simp only at hm
     show ke (rd tk t) = _
     unfold ke; simp only [S, funP]
     refine bE (u4 h hn hg (by decide) 2 _ _ (by simp)) (kd hg (by decide)) fun g1 r1 s1 o1 h1 => ?_
     dsimp only
     refine bE (qdu (s1.trans h) hn o1 2 _ _ (by simp)) (Yr o1) fun a r2 s2 o2 h2 => ?_
     dsimp only
     have z2 := s2.trans s1
     refine bE (u4 (z2.trans h) hn o2 (by decide) 3 _ _ (by simp)) (kd o2 (by decide)) fun g3 r3 s3 o3 h3 => ?_
     dsimp only
     have z3 := s3.trans z2
     exact ih (.parL [g3] []) r3 (by unfold mu; simp only; omega) (z3.trans h) o3 ⟨by omega, by simp only [List.length_cons, List.length_nil]; omega, by simp only [List.length_nil]; omega, jd h3.2 ym, y4⟩ (S f .blk) a.1 [g1, a.2] (fun t' s o => ih .blk t' (by unfold mu; simp only; have := wu s; omega) ((s.trans z3).trans h) o (by show t'.length ≤ 70000; have := wu s; omega)) hC
   | clsL x g ks =>
     obtain ⟨hl', hx, hr⟩ := hp
     have q1 := hr.1
     have q2 := hr.2.1
     unfold mu at hm; simp only at hm
     show yt (rd tk t) 7 x g ks = _
     rw [yt]
     simp only [nx]
     simp only [S, qx1]
     rw [E_is h hg (by decide), bs]
     by_cases c1 : isT ⟨#[102, 110]⟩ t = true
     ·rw [if_pos c1, if_pos c1]
      refine bE (ih .func t (by unfold mu; simp only; omega) h hg hl') (hF t hg hl') fun n r4 s4 o4 h4 => ?_
      dsimp only
      rw [Zv _ _ _ _ (by omega), bs]
      exact ih (.clsL x g (ks ++ [n])) r4 (by unfold mu; simp only; omega) (s4.trans h) o4 ⟨by omega, hx, by omega, by rw [List.length_append, List.length_singleton]; omega, hr.2.2.1, Z2 hr.2.2.2 h4.1⟩
     ·rw [if_neg c1, if_neg c1]
      refine bE (u4 h hn hg (by decide) 7 _ _ (by omega)) (kd hg (by decide)) fun g1 r1 s1 o1 h1 => ?_
      rfl
   | cls =>
     have hl' : t.length ≤ 70000 := hp
     unfold mu at hm; simp only at hm
     show uf (rd tk t) = _
     unfold uf; simp only [S, clsP]
     refine bE (u4 h hn hg (by decide) 7 _ _ (by simp)) (kd hg (by decide)) fun g1 r1 s1 o1 h1 => ?_
     dsimp only
     refine bE (qdu (s1.trans h) hn o1 7 _ _ (by simp)) (Yr o1) fun a r2 s2 o2 h2 => ?_
     dsimp only
     have z2 := s2.trans s1
     rw [E_is (z2.trans h) o2 (by decide), bs]
     have hend : ∀ (b : Node) (r : List Token), r <:+ t → Good r → r.length + 2 ≤ t.length → wfB b = true → wb (rd tk r) 7 a.1 ([] ++ [g1] ++ [a.2]) [] b = some (cvN tk (bR (tkT ⟨#[123]⟩ r) fun g3 t => S f (.clsL a.1 [g1, a.2, g3] [b]) t)) := fun b r s o hlr hb => by
      unfold wb
      rw [Zv _ _ _ _ (by simp), bs]
      refine bE (u4 (s.trans h) hn o (by decide) 7 _ _ (by simp)) (kd o (by decide)) fun g3 r3 s3 o3 h3 => ?_
      dsimp only
      exact ih (.clsL a.1 [g1, a.2, g3] [b]) r3 (by unfold mu; simp only; omega) ((s3.trans s).trans h) o3 ⟨by omega, h2.2.1, by simp only [List.length_cons, List.length_nil]; omega, by simp only [List.length_cons, List.length_nil]; omega, jd h1.2 (jd h2.2.2 (jd h3.2 ym)), wo hb y4⟩
     unfold quh
     by_cases c1 : isT ⟨#[58]⟩ r2 = true
     ·rw [if_pos c1, if_pos c1]
      rw [show (bR (bR (tkT ⟨#[58]⟩ r2) fun g1 t => bR (tkN t) fun a t => .ok (Node.mk 8 a.1 [g1, a.2] [], t)) fun b t => bR (tkT ⟨#[123]⟩ t) fun g3 t => S f (.clsL a.1 [g1, a.2, g3] [b]) t) = bR (tkT ⟨#[58]⟩ r2) fun y1 t => bR (tkN t) fun y2 t => bR (tkT ⟨#[123]⟩ t) fun g3 t => S f (.clsL a.1 [g1, a.2, g3] [.mk 8 y2.1 [y1, y2.2] []]) t from by simp only [qqx, bR_o]]
      refine bE (u4 (z2.trans h) hn o2 (by decide) 8 _ _ (by simp)) (kd o2 (by decide)) fun y1 r4 s4 o4 h4 => ?_
      dsimp only
      have z4 := s4.trans z2
      refine bE (qdu (z4.trans h) hn o4 8 _ _ (by simp)) (Yr o4) fun y2 r5 s5 o5 h5 => ?_
      dsimp only
      exact hend _ r5 (s5.trans z4) o5 (by omega) (Qa 8 (by simp) (by simp) h5.2.1 (jd h4.2 (jd h5.2.2 ym)) y4)
     ·rw [if_neg c1, if_neg c1]
      exact hend _ r2 z2 o2 (by omega) (Qa 8 (by simp) (by simp) Wp ym y4)
   | file ks =>
     obtain ⟨hl', hr⟩ := hp
     have q2 := hr.2.1
     unfold mu at hm; simp only at hm
     show jm (rd tk t) 1 ⟨#[]⟩ [] ks = _
     rw [jm]
     simp only [nx]
     cases t with
     | nil => exact hg.elim
     | cons x r =>
       have on : ∀ {G : List Token → Rs Node} {y : Option (Except Int (Node × Reader))}, y = some (cvN tk (G (x :: r))) → Rd G → ∀ {K : Reader → LN → Option (Except Int (Node × Reader))}, (∀ q l, K q l = jm q 1 ⟨#[]⟩ [] l) → ∀ {c : Except Int (Node × Reader) → Option (Except Int (Node × Reader))}, (∀ v, c (.ok v) = jj 1 ⟨#[]⟩ [] ks v.1 >>= fun z => K v.2 z) → (∀ e, c (.error e) = some (.error e)) →
        (y >>= c) = some (cvN tk (bR (G (x :: r)) fun n l => S f (.file (ks ++ [n])) l)) := fun {G y} hy hG K hK c hc1 hc2 => by
        refine bE hy (hG _ hg hl') (fun n r4 s4 o4 h4 => ?_) hc2
        rw [hc1, Zv _ _ _ _ (by omega), bs, hK]
        exact ih (.file (ks ++ [n])) r4 (by unfold mu; simp only; omega) (s4.trans h) o4 ⟨by omega, by simp only [List.length_nil]; omega, by rw [List.length_append, List.length_singleton]; omega, ym, Z2 hr.2.2.2 h4.1⟩
       have t11 : ∀ q l, yr q 1 ⟨#[]⟩ [] l = jm q 1 ⟨#[]⟩ [] l := fun q l => by rw [yr]; rfl
       have t17 : ∀ q l, yq q 1 ⟨#[]⟩ [] l = jm q 1 ⟨#[]⟩ [] l := fun q l => by rw [yq]; exact t11 q l
       have t23 : ∀ q l, kg q 1 ⟨#[]⟩ [] l = jm q 1 ⟨#[]⟩ [] l := fun q l => by rw [kg]; exact t17 q l
       simp only [S, qxy]
       rw [qdt h, bs]
       by_cases c0 : x.Kind = 4
       ·rw [decide_eq_true c0]
        simp only [Bool.not_true, Bool.false_eq_true, if_false, if_true]
        rw [bs, y9 (by simp) (by decide), bs]
        rfl
       rw [decide_eq_false c0]
       simp only [Bool.not_false, Bool.false_eq_true, if_false, if_true]
       rw [E_is h hg (by decide), bs]
       by_cases c1 : isT ⟨#[102, 110]⟩ (x :: r) = true
       ·rw [if_pos c1, if_pos c1]
        exact on (ih .func (x :: r) (by unfold mu; simp only; omega) h hg hl') hF t11 (fun _ => rfl) (fun _ => rfl)
       rw [if_neg c1, if_neg c1, E_is h hg (by decide), bs]
       by_cases c2 : isT ⟨#[99, 108, 97, 115, 115]⟩ (x :: r) = true
       ·rw [if_pos c2, if_pos c2]
        exact on (ih .cls (x :: r) (by unfold mu; simp only; omega) h hg hl') hK t17 (fun _ => rfl) (fun _ => rfl)
       rw [if_neg c2, if_neg c2, E_is h hg (by decide), bs]
       by_cases c3 : isT ⟨#[99, 111, 110, 115, 116]⟩ (x :: r) = true
       ·rw [if_pos c3, if_pos c3]
        refine on (G := qcb (S f (.bin 1)) 9 ⟨#[99, 111, 110, 115, 116]⟩) (qyd h hn hg 9 (by decide) hB1 ?_) (qj1 hB1 9 (by decide)) t23 (fun _ => rfl) (fun _ => rfl)
        intro t' s o
        exact ih (.bin 1) t' (by unfold mu; simp only; have := wu s; omega) (s.trans h) o ⟨by have := wu s; omega, by decide, by decide⟩
       rw [if_neg c3, if_neg c3, qpd h]
       rfl
end
end Ps
end Go.Proofs.YtigmilhpeodhbaaGreatDoorW.Ex.Gr
