/- The program's reader returns what is read in plain words. Conditions: those in each theorem. -/
import Derived.Test.YtigmilhpeodhbaaDoorA0
namespace Go.Proofs.YtigmilhpeodhbaaDoorW.Ex.Gr
open Go Go.Proofs.YtigmilhpeodhbaaDoorW.Ex Go.Proofs.YtigmilhpeodhbaaDoorW.Plain
set_option linter.all false
set_option maxRecDepth 100000
namespace Ps
open Tk
def rd (tk t : List Token) : Reader := ⟨tk, ((tk.length - t.length : Nat) : Int)⟩
def atE : List Token → Int
 | [] => 0
 | x :: _ => x.At
@[reducible] def cv {α β : Type} (tk : List Token) (f : α → Reader → β) : Rs α → Except Int β
  | .error u => .error (atE u)
  | .ok y => .ok (f y.1 (rd tk y.2))
abbrev cvN (tk : List Token) : Rs Node → Except Int (Node × Reader) := cv tk fun n r => (n, r)
abbrev cvA (tk : List Token) : Rs Node → Except Int (Reader × LB × LN) := cv tk fun n r => (r, n.gaps, n.kids)
theorem bE {α β γ δ : Type} {tk t : List Token} {f : α → Reader → γ} {g : β → Reader → δ} {y : Rs α} {z : α → List Token → Rs β} {P : α → List Token → Prop} {x : Option (Except Int γ)} {c : Except Int γ → Option (Except Int δ)}
 (h : x = some (cv tk f y)) (hQ : Q t P y) (hk : ∀ n r, r <:+ t → Good r → P n r → c (.ok (f n (rd tk r))) = some (cv tk g (z n r))) (hc : ∀ e, c (.error e) = some (.error e) := by exact fun _ => rfl) :
 (x >>= c) = some (cv tk g (bR y z)) := by
 subst h
 cases y with
 | error u => exact hc _
 | ok y => exact hk y.1 y.2 hQ.1 hQ.2.1 hQ.2.2
theorem qss (x : Token) (r : List Token) : nmT (x :: r) = (decide (x.Kind = 1) && u1 x.Text.data.toList) := rfl
theorem qxv {α β γ : Type} (x : Rs α) (k : α → List Token → Rs β) (g : β → List Token → Rs γ) : bR (bR x k) g = bR x fun n r => bR (k n r) g := by cases x <;> rfl
theorem q04 {α : Type} (y : Rs α) : bR y (fun n r => .ok (n, r)) = y := by cases y <;> rfl
theorem qw1 {tk r : List Token} {x : Token} (h : (x :: r) <:+ tk) : ix tk ((tk.length - (x :: r).length : Nat) : Int) = some x := by
 obtain ⟨p, rfl⟩ := h
 rw [show (p ++ x :: r).length - (x :: r).length = p.length by rw [List.length_append]; omega, qw2, List.getElem?_append_right (Nat.le_refl _), Nat.sub_self]; rfl
theorem qh5 {tk r : List Token} {x : Token} (h : (x :: r) <:+ tk) (hn : tk.length ≤ 70000) : Reader.mk (rd tk (x :: r)).l_ (IntKind.i64.wrap ((rd tk (x :: r)).at_ + (1 : Int))) = rd tk r := by
 have hl := Zq h
 rw [List.length_cons] at hl
 unfold rd
 simp only [List.length_cons]
 rw [wt (by omega) (by omega)]
 congr 1
 omega
section
variable {tk : List Token}
theorem W4 {x : Token} {r : List Token} (h : (x :: r) <:+ tk) : zd (rd tk (x :: r)) = some x := by
 unfold zd rd
 rw [qw1 h, bs]
theorem E_is {t : List Token} {w : BA} (h : t <:+ tk) (hg : Good t) (hw : w ≠ ⟨#[]⟩) : q7 (rd tk t) w = some (isT w t) := by
 cases t with
 | nil => exact hg.elim
 | cons x r =>
   unfold q7
   rw [W4 h, bs]
   by_cases h4 : x.Kind = 4
   ·rw [decide_eq_true h4]
    have : x.Text = ⟨#[]⟩ := by
     rcases hg.2 with ⟨_, _, h2⟩ | ⟨h2, _⟩
     ·exact h2
     exact absurd h4 h2
    rw [show isT w (x :: r) = false from decide_eq_false (by rw [this]; exact fun e => hw e.symm)]
    rfl
   rw [decide_eq_false h4]
   simp only [Bool.not_false, if_true]
   rw [bs]; rfl
theorem qks {x : Token} {r : List Token} (h : (x :: r) <:+ tk) : zw (rd tk (x :: r)) = some (.error x.At) := by
 unfold zw
 rw [W4 h, bs]
theorem wr {t : List Token} {w : BA} (h : t <:+ tk) (hn : tk.length ≤ 70000) (hg : Good t) (hw : w ≠ ⟨#[]⟩) (a1 : Int) (a3 : BA) {g : LB} (a5 : LN) (hl : g.length ≤ 1000000) :
 qj (rd tk t) a1 a3 g a5 w = some (cv tk (fun x r => (r, g ++ [x])) (tkT w t)) := by
 cases t with
 | nil => exact hg.elim
 | cons x r =>
   unfold qj
   rw [E_is h hg hw, bs]
   simp only [tkT]
   show (if (!decide (x.Text = w)) = true then _ else _) = _
   by_cases hx : x.Text = w
   ·rw [decide_eq_true hx]
    unfold wc
    simp only [Bool.not_true, Bool.false_eq_true, if_false, if_true]
    rw [W4 h, bs, qj9 (by rw [List.length_singleton]; omega) (by decide), bs, qh5 h hn]
   rw [decide_eq_false hx, qks h]
   rfl
theorem W5 {t : List Token} (h : t <:+ tk) (hn : tk.length ≤ 70000) (hg : Good t) (a1 : Int) (a2 : BA) {g : LB} (a4 : LN) (hl : g.length ≤ 1000000) :
 zv (rd tk t) a1 a2 g a4 = some (cv tk (fun a r => (r, a.1, g ++ [a.2])) (tkN t)) := by
 cases t with
 | nil => exact hg.elim
 | cons x r =>
   unfold zv
   rw [W4 h, bs]
   simp only [tkN]
   by_cases hx : x.Kind = 1
   ·rw [decide_eq_true hx]
    unfold Ys
    simp only [Bool.not_true, Bool.false_eq_true, if_false, Bool.true_and]
    rw [bs]
    cases hv : u1 x.Text.data.toList with
    | false =>
      simp only [Bool.not_false, if_true, Bool.false_eq_true, if_false]
      rw [qks h]; rfl
    | true =>
      unfold y4
      simp only [Bool.not_true, Bool.false_eq_true, if_false, if_true]
      rw [qj9 (by rw [List.length_singleton]; omega) (by decide), bs, qh5 h hn]
   rw [decide_eq_false hx]
   simp only [Bool.not_false, if_true, Bool.false_and, Bool.false_eq_true, if_false]
   rw [qks h]; rfl
theorem qx8 {t : List Token} (h : t <:+ tk) (hn : tk.length ≤ 70000) (hg : Good t) : k7 (rd tk t) = some (cv tk (fun a r => (Node.mk 5 a.1 [a.2] [], r)) (tkN t)) := by
 unfold k7
 rw [W5 h hn hg 5 _ [] (by simp)]
 cases tkN t <;> rfl
theorem qen {x : Token} {r : List Token} (h : (x :: r) <:+ tk) (hn : tk.length ≤ 70000) (k : Int) : jo (rd tk (x :: r)) k = some (Node.mk k x.Text [x.Lead] [], rd tk r) := by
 unfold jo
 rw [W4 h, bs, qh5 h hn]
theorem Qf (a0 : Int) (a2 : BA) (a3 : LB) {ks : LN} (n : Node) (hl : ks.length ≤ 1000000) : zm a0 a2 a3 ks n = some (ks ++ [n]) := by
 unfold zm
 rw [qj9 (by rw [List.length_singleton]; omega) (by decide), bs]
theorem qnw (a0 : Int) (a2 : BA) (a3 : LB) {ks : LN} (n : Node) (hl : ks.length ≤ 1000000) : vo a0 a2 a3 ks n = some (ks ++ [n]) := by
 unfold vo
 rw [qj9 (by rw [List.length_singleton]; omega) (by decide), bs]
theorem qzx {x : Token} {r : List Token} (hg : Good (x :: r)) : Jg x = some (jh x.Text) := by
 unfold Jg
 by_cases h3 : x.Kind = 3
 ·rw [decide_eq_true h3]
  simp only [Bool.not_true, Bool.false_eq_true, if_false, decide_eq_true_eq]
  unfold jh
  repeat' split
  all_goals first | rfl | simp_all
 rw [decide_eq_false h3]
 simp only [Bool.not_false, if_true]
 congr 1
 rcases hg.2 with ⟨_, _, h2⟩ | ⟨_, _, h2, _, _⟩
 ·rw [h2]; decide
 unfold jh
 rw [h2] at h3
 have no : ∀ l : List UInt8, Qs l = 3 → x.Text ≠ ⟨l.toArray⟩ := fun l hl e => h3 (by rw [e]; exact hl)
 rw [if_neg (no [124] (by decide)), if_neg (no [38] (by decide)), if_neg (by rintro (e | e); exact no [61, 61] (by decide) e; exact no [60] (by decide) e), if_neg (by rintro (e | e); exact no [43] (by decide) e; exact no [45] (by decide) e), if_neg (by rintro (e | e); exact no [42] (by decide) e; exact no [47] (by decide) e)]
end
theorem nx {α : Type} (a : α) : qg a = a := rfl
theorem qnn : ∀ (f : Nat) (l : List Token), (∀ (k : Int) (x : BA) (g : List BA) (ks : List Node) (n : Node) (r : List Token), S f (.args k x g ks) l = .ok (n, r) → n = .mk k x n.gaps n.kids) ∧ (∀ (b : Bool) (k : Int) (x : BA) (g : List BA) (ks : List Node) (n : Node) (r : List Token), S f (.argL b k x g ks) l = .ok (n, r) → n = .mk k x n.gaps n.kids)
 | 0, l => ⟨fun _ _ _ _ _ _ h => (by cases h), fun _ _ _ _ _ _ _ h => (by cases h)⟩
 | f + 1, l => by
   have ih := qnn f
   constructor
   ·intro k x g ks n r h
    simp only [S] at h
    cases h1 : tkT ⟨#[40]⟩ l with
    | error u => rw [h1, bR_e] at h; cases h
    | ok y => rw [h1] at h; exact (ih _).2 _ _ _ _ _ _ _ h
   intro b k x g ks n r h
   simp only [S, argP] at h
   split at h
   ·cases h1 : tkT ⟨#[41]⟩ l with
    | error u => rw [h1, bR_e] at h; cases h
    | ok y => rw [h1] at h; cases h; rfl
   split at h
   ·cases h1 : S f (.bin 1) l with
    | error u => rw [h1, bR_e] at h; cases h
    | ok y => rw [h1] at h; exact (ih _).2 _ _ _ _ _ _ _ h
   cases h1 : tkT ⟨#[44]⟩ l with
   | error u => rw [h1, bR_e] at h; cases h
   | ok y =>
     rw [h1] at h
     replace h : bR (S f (.bin 1) y.2) (fun n l => S f (.argL false k x (g ++ [y.1]) (ks ++ [n])) l) = .ok (n, r) := h
     cases h2 : S f (.bin 1) y.2 with
     | error u => rw [h2, bR_e] at h; cases h
     | ok z => rw [h2] at h; exact (ih _).2 _ _ _ _ _ _ _ h
theorem qs2 {n : Node} {k : Int} {x : BA} (h : n = .mk k x n.gaps n.kids) : Node.mk k x n.gaps n.kids = n := h.symm
section
variable {tk : List Token}
def EP (tk : List Token) (f : Nat) : Cat → List Token → Prop
 | .bin v, t => qw (rd tk t) v = some (cvN tk (S f (.bin v) t))
 | .binL v m, t => jk v (rd tk t) m = some (cvN tk (S f (.binL v m) t))
 | .un, t => jt (rd tk t) = some (cvN tk (S f .un t))
 | .unL m, t => jd (rd tk t) m = some (cvN tk (S f (.unL m) t))
 | .prim, t => yn (rd tk t) = some (cvN tk (S f .prim t))
 | .args k x g ks, t => z8 (rd tk t) k x g ks = some (cvA tk (S f (.args k x g ks) t))
 | .argL b k x g ks, t => z1 b (rd tk t) k x g ks = some (cvA tk (S f (.argL b k x g ks) t))
 | .stmt, t => z7 (rd tk t) = some (cvN tk (S f .stmt t))
 | .blk, t => ja (rd tk t) = some (cvN tk (S f .blk t))
 | .blkL g ks, t => jn (rd tk t) 6 ⟨#[]⟩ g ks = some (cvN tk (S f (.blkL g ks) t))
 | .parL g ks, t => ∀ (C : List Token → Rs Node) (a : BA) (ga : List BA), (∀ t', t' <:+ t → Good t' → ja (rd tk t') = some (cvN tk (C t'))) → Rd C → jm (rd tk t) 2 a ga [] 3 ⟨#[]⟩ g ks = some (cvN tk (bR (S f (.parL g ks) t) (funK C a ga)))
 | .func, t => yf (rd tk t) = some (cvN tk (S f .func t))
 | .clsL x g ks, t => j3 (rd tk t) 7 x g ks = some (cvN tk (S f (.clsL x g ks) t))
 | .cls, t => ky (rd tk t) = some (cvN tk (S f .cls t))
 | .file ks, t => zo (rd tk t) 1 ⟨#[]⟩ [] ks = some (cvN tk (S f (.file ks) t))
def qmb (tk t : List Token) (F : Reader → Option (Except Int (Node × Reader))) (B : List Token → Rs Node) : Prop := ∀ t', t' <:+ t → Good t' → F (rd tk t') = some (cvN tk (B t'))
theorem qmb.sub {tk t r : List Token} {F : Reader → Option (Except Int (Node × Reader))} {B : List Token → Rs Node} (h : qmb tk t F B) (hr : r <:+ t) : qmb tk r F B := fun t' h1 h2 => h t' (h1.trans hr) h2
variable {B C : List Token → Rs Node}
theorem qts {t : List Token} (h : t <:+ tk) (hn : tk.length ≤ 70000) (hg : Good t) (k : Int) {w : BA} (hw : w ≠ ⟨#[]⟩) (hB : Rd B) (hF : qmb tk t (fun r => qw r 1) B) : kx (rd tk t) k w = some (cvN tk (Kb B k w t)) := by
 have hl := Zq h
 unfold kx Kb
 refine bE (wr h hn hg hw k _ [] (by simp)) (yh hg hw) fun g1 r1 s1 o1 h1 => ?_
 dsimp only
 refine bE (W5 (s1.trans h) hn o1 k _ [] (by simp)) (Z6 o1) fun a r2 s2 o2 h2 => ?_
 dsimp only
 have z2 := s2.trans s1
 refine bE (wr (z2.trans h) hn o2 (by decide) k _ [] (by simp)) (yh o2 (by decide)) fun g3 r3 s3 o3 h3 => ?_
 dsimp only
 have z3 := s3.trans z2
 refine bE (hF r3 z3 o3) (hB r3 o3 (by omega)) fun n r4 s4 o4 h4 => ?_
 dsimp only
 have z4 := s4.trans z3
 rw [Qf _ _ _ _ (by simp), bs]
 refine bE (wr (z4.trans h) hn o4 (by decide) k _ _ (by simp)) (yh o4 (by decide)) fun g5 r5 s5 o5 h5 => ?_
 dsimp only
 rfl
theorem E_at {x y : Token} {r : List Token} (h : (x :: y :: r) <:+ tk) (hn : tk.length ≤ 70000) : ix (rd tk (x :: y :: r)).l_ (IntKind.i64.wrap ((rd tk (x :: y :: r)).at_ + (1 : Int))) = some y := by
 rw [show IntKind.i64.wrap ((rd tk (x :: y :: r)).at_ + (1 : Int)) = (rd tk (y :: r)).at_ from congrArg Reader.at_ (qh5 h hn)]
 exact qw1 ((List.suffix_cons x (y :: r)).trans h)
theorem q1o {t : List Token} (h : t <:+ tk) (hn : tk.length ≤ 70000) (hg : Good t) (hB : Rd B) (hC : Rd C) (hF : qmb tk t (fun r => qw r 1) B) (hK : qmb tk t ja C) : z7 (rd tk t) = some (cvN tk (Wm B C t)) := by
 have hl := Zq h
 rw [z7]
 simp only [nx]
 rw [E_is h hg (by decide), bs]
 unfold Wm
 by_cases c1 : isT ⟨#[108, 101, 116]⟩ t = true
 ·rw [if_pos c1, if_pos c1, ← q04 (Kb B 10 ⟨#[108, 101, 116]⟩ t)]
  exact bE (qts h hn hg 10 (by decide) hB hF) (qic hB 10 (by decide) t hg (by omega)) fun n r _ _ _ => rfl
 rw [if_neg c1, if_neg c1, E_is h hg (by decide), bs]
 by_cases c2 : isT ⟨#[114, 101, 116, 117, 114, 110]⟩ t = true
 ·rw [if_pos c2, if_pos c2]
  unfold retP
  refine bE (wr h hn hg (by decide) 12 _ [] (by simp)) (yh hg (by decide)) fun g1 r1 s1 o1 h1 => ?_
  dsimp only
  refine bE (hF r1 s1 o1) (hB r1 o1 (by omega)) fun n r4 s4 o4 h4 => ?_
  dsimp only
  have z4 := s4.trans s1
  rw [Qf _ _ _ _ (by simp), bs]
  refine bE (wr (z4.trans h) hn o4 (by decide) 12 _ _ (by simp)) (yh o4 (by decide)) fun g5 r5 s5 o5 h5 => ?_
  dsimp only
  rfl
 rw [if_neg c2, if_neg c2, E_is h hg (by decide), bs]
 by_cases c3 : isT ⟨#[105, 102]⟩ t = true
 ·rw [if_pos c3, if_pos c3]
  unfold ifP
  refine bE (wr h hn hg (by decide) 13 _ [] (by simp)) (yh hg (by decide)) fun g1 r1 s1 o1 h1 => ?_
  dsimp only
  refine bE (hF r1 s1 o1) (hB r1 o1 (by omega)) fun n r4 s4 o4 h4 => ?_
  dsimp only
  have z4 := s4.trans s1
  rw [Qf _ _ _ _ (by simp), bs]
  refine bE (hK r4 z4 o4) (hC r4 o4 (by omega)) fun c r5 s5 o5 h5 => ?_
  dsimp only
  have z5 := s5.trans z4
  rw [Qf _ _ _ _ (by simp), bs, E_is (z5.trans h) o5 (by decide), bs]
  unfold qhh
  by_cases c4 : isT ⟨#[101, 108, 115, 101]⟩ r5 = true
  ·rw [if_pos c4, if_pos c4]
   simp only [qxv, bR_o]
   refine bE (wr (z5.trans h) hn o5 (by decide) 14 _ [] (by simp)) (yh o5 (by decide)) fun g6 r6 s6 o6 h6 => ?_
   dsimp only
   refine bE (hK r6 (s6.trans z5) o6) (hC r6 o6 (by omega)) fun c7 r7 s7 o7 h7 => ?_
   dsimp only
   rw [Qf _ _ _ _ (by simp), bs]
   unfold j8
   rw [Qf _ _ _ _ (by simp), bs]
   rfl
  rw [if_neg c4, if_neg c4]
  unfold j8
  rw [Qf _ _ _ _ (by simp), bs]
  rfl
 rw [if_neg c3, if_neg c3, E_is h hg (by decide), bs]
 by_cases c5 : isT ⟨#[119, 104, 105, 108, 101]⟩ t = true
 ·rw [if_pos c5, if_pos c5]
  unfold qf5
  refine bE (wr h hn hg (by decide) 15 _ [] (by simp)) (yh hg (by decide)) fun g1 r1 s1 o1 h1 => ?_
  dsimp only
  refine bE (hF r1 s1 o1) (hB r1 o1 (by omega)) fun n r4 s4 o4 h4 => ?_
  dsimp only
  have z4 := s4.trans s1
  rw [Qf _ _ _ _ (by simp), bs]
  refine bE (hK r4 z4 o4) (hC r4 o4 (by omega)) fun c r5 s5 o5 h5 => ?_
  dsimp only
  rw [Qf _ _ _ _ (by simp), bs]
  rfl
 rw [if_neg c5, if_neg c5]
 cases t with
 | nil => exact hg.elim
 | cons x r =>
   have hdo : jq (rd tk (x :: r)) = some (cvN tk (doP B (x :: r))) := by
    unfold jq doP
    refine bE (hF _ (List.suffix_refl _) hg) (hB _ hg (by omega)) fun n r4 s4 o4 h4 => ?_
    dsimp only
    rw [Qf _ _ _ _ (by simp), bs]
    refine bE (wr (s4.trans h) hn o4 (by decide) 16 _ _ (by simp)) (yh o4 (by decide)) fun g5 r5 s5 o5 h5 => ?_
    dsimp only
    rfl
   rw [W4 h, bs]
   by_cases c6 : x.Kind = 1
   ·rw [if_pos (decide_eq_true c6)]
    unfold Ys
    rw [bs]
    cases hv : u1 x.Text.data.toList with
    | false =>
      rw [if_neg (by decide), if_neg (by rw [qss, hv]; simp), hdo]
    | true =>
      rw [if_pos rfl]
      have hr : Good r := qd5 hg (by rw [c6]; decide)
      cases r with
      | nil => exact hr.elim
      | cons y q =>
        rw [E_at h hn, bs]
        by_cases c7 : y.Text = ⟨#[61]⟩
        ·rw [if_pos (decide_eq_true c7), if_pos (by rw [qss, hv, decide_eq_true c6]; exact decide_eq_true c7)]
         unfold setP
         refine bE (W5 h hn hg 11 _ [] (by simp)) (Z6 hg) fun a r2 s2 o2 h2 => ?_
         dsimp only
         refine bE (wr (s2.trans h) hn o2 (by decide) 11 _ [] (by simp)) (yh o2 (by decide)) fun g3 r3 s3 o3 h3 => ?_
         dsimp only
         have z3 := s3.trans s2
         refine bE (hF r3 z3 o3) (hB r3 o3 (by omega)) fun n r4 s4 o4 h4 => ?_
         dsimp only
         have z4 := s4.trans z3
         rw [Qf _ _ _ _ (by simp), bs]
         refine bE (wr (z4.trans h) hn o4 (by decide) 11 _ _ (by simp)) (yh o4 (by decide)) fun g5 r5 s5 o5 h5 => ?_
         dsimp only
         rfl
        rw [if_neg (by rw [decide_eq_true_eq]; exact c7), if_neg (by rw [Bool.and_eq_true]; exact fun e => c7 (of_decide_eq_true e.2)), hdo]
   rw [if_neg (by rw [decide_eq_true_eq]; exact c6), if_neg (by rw [qss, decide_eq_false c6]; simp), hdo]
theorem qtr {α : Type} {x : Option (Except Int (α × Reader))} {y : Except Int (α × Reader)} {c : Except Int (α × Reader) → Option (Except Int (α × Reader))} (h : x = some y) (hc : ∀ v, c v = some v := by exact fun v => by cases v <;> rfl) : (x >>= c) = some y := by
 subst h; exact hc y
theorem qtt (hn : tk.length ≤ 70000) : ∀ (f : Nat) (c : Cat) (t : List Token), mu c t.length ≤ f → t <:+ tk → Good t → pre c t.length → EP tk f c t
 | 0, c, t, hm, _, hg, _ => by
   have := qm7 hg
   cases c <;> (unfold mu at hm; simp only at hm; omega)
 | f + 1, c, t, hm, h, hg, hp => by
   have ih := qtt hn f
   have hl := Zq h
   have hpos := qm7 hg
   have hB : ∀ v : Int, 1 ≤ v → v ≤ 6 → Rd (S f (.bin v)) := fun v h1 h6 t hg hl => S_ok f (.bin v) t hg ⟨hl, h1, h6⟩
   have hB1 := hB 1 (by decide) (by decide)
   have hU : Rd (S f .un) := fun t hg hl => S_ok f .un t hg hl
   have hC : Rd (S f .blk) := fun t hg hl => S_ok f .blk t hg hl
   have hT : Rd (S f .stmt) := fun t hg hl => S_ok f .stmt t hg hl
   have hF : Rd (S f .func) := fun t hg hl => S_ok f .func t hg hl
   have hK : Rd (S f .cls) := fun t hg hl => S_ok f .cls t hg hl
   have eB : ∀ (v : Int) (t' : List Token), 1 ≤ v → v ≤ 6 → 20 * t'.length + (10 - v).toNat ≤ f → t' <:+ t → Good t' → qw (rd tk t') v = some (cvN tk (S f (.bin v) t')) := fun v t' h1 h6 hm' hs hg' => ih (.bin v) t' hm' (hs.trans h) hg' ⟨by have := Zq hs; omega, h1, h6⟩
   cases c with
   | bin v =>
     obtain ⟨hl', h1, h6⟩ := hp
     unfold mu at hm; simp only at hm
     show qw (rd tk t) v = _
     rw [qw]
     simp only [nx]
     simp only [S]
     by_cases h5 : 5 < v
     ·rw [if_pos (decide_eq_true h5), if_pos (decide_eq_true h5)]
      exact qtr (ih .un t (by unfold mu; simp only; omega) h hg hl')
     rw [if_neg (by rw [decide_eq_true_eq]; exact h5), if_neg (by rw [decide_eq_true_eq]; exact h5), wt (by omega) (by omega)]
     refine bE (eB (v + 1) t (by omega) (by omega) (by omega) (List.suffix_refl _) hg) (hB (v + 1) (by omega) (by omega) t hg hl') fun n r s o p => ?_
     dsimp only
     exact ih (.binL v n) r (by unfold mu; simp only; omega) (s.trans h) o ⟨by omega, h1, by omega, p.1⟩
   | binL v m =>
     obtain ⟨hl', h1, h5, hm'⟩ := hp
     unfold mu at hm; simp only at hm
     show jk v (rd tk t) m = _
     rw [jk]
     simp only [nx]
     cases t with
     | nil => exact hg.elim
     | cons x r =>
       rw [W4 h, bs, qzx hg, bs]
       simp only [S, binP]
       by_cases hx : jh x.Text = v
       ·have hr : Good r := Zj hg (by
         rintro h0
         rw [h0] at hx
         rw [show jh ⟨#[]⟩ = 0 from by decide] at hx
         omega)
        rw [List.length_cons] at hl' hm hl
        have sr : r <:+ x :: r := List.suffix_cons x r
        rw [if_pos (decide_eq_true hx), if_pos (decide_eq_true hx), qen h hn, bs, qnw _ _ _ _ (by simp [Node.kids]), bs, wt (by omega) (by omega)]
        refine bE (eB (v + 1) r (by omega) (by omega) (by omega) sr hr) (hB (v + 1) (by omega) (by omega) r hr (by omega)) fun n q s o p => ?_
        dsimp only
        rw [qnw _ _ _ _ (by simp [Node.kids]), bs]
        have hw : wfB (.mk 24 x.Text [x.Lead] [m, n]) = true := Qb 24 (by simp) (by simp) hg.1.2.1 (z6 hg.1.1 y5) (wd hm' (wd p.1 km))
        by_cases h3 : v = 3
        ·rw [if_pos (decide_eq_true h3), if_pos (decide_eq_true h3)]
         unfold yz
         rfl
        rw [if_neg (by rw [decide_eq_true_eq]; exact h3), if_neg (by rw [decide_eq_true_eq]; exact h3)]
        exact ih (.binL v (.mk 24 x.Text [x.Lead] [m, n])) q (by unfold mu; simp only; omega) ((s.trans sr).trans h) o ⟨by omega, h1, h5, hw⟩
       rw [if_neg (by rw [decide_eq_true_eq]; exact hx), if_neg (by rw [decide_eq_true_eq]; exact hx)]
       unfold yz
       rfl
   | un =>
     have hl' : t.length ≤ 70000 := hp
     unfold mu at hm; simp only at hm
     show jt (rd tk t) = _
     rw [jt]
     simp only [nx]
     cases t with
     | nil => exact hg.elim
     | cons x r =>
       have sr : r <:+ x :: r := List.suffix_cons x r
       simp only [S, unP]
       rw [List.length_cons] at hl' hm hl
       rw [E_is h hg (by decide), bs]
       by_cases c1 : isT ⟨#[45]⟩ (x :: r) = true
       ·have hr : Good r := Zj hg (by rw [of_decide_eq_true c1]; decide)
        rw [if_pos c1, if_pos c1, qen h hn, bs]
        refine bE (ih .un r (by unfold mu; simp only; omega) (sr.trans h) hr (by show r.length ≤ 70000; omega)) (hU r hr (by omega)) fun n q s o p => ?_
        dsimp only
        rw [qnw _ _ _ _ (by simp [Node.kids]), bs]
        rfl
       rw [if_neg c1, if_neg c1, E_is h hg (by decide), bs]
       by_cases c2 : isT ⟨#[33]⟩ (x :: r) = true
       ·have hr : Good r := Zj hg (by rw [of_decide_eq_true c2]; decide)
        rw [if_pos c2, if_pos c2, qen h hn, bs]
        refine bE (ih .un r (by unfold mu; simp only; omega) (sr.trans h) hr (by show r.length ≤ 70000; omega)) (hU r hr (by omega)) fun n q s o p => ?_
        dsimp only
        rw [qnw _ _ _ _ (by simp [Node.kids]), bs]
        rfl
       rw [if_neg c2, if_neg c2]
       refine bE (ih .prim (x :: r) (by unfold mu; simp only [List.length_cons]; omega) h hg (by show (x :: r).length ≤ 70000; simp only [List.length_cons]; omega)) (S_ok f .prim (x :: r) hg (by show (x :: r).length ≤ 70000; simp only [List.length_cons]; omega)) fun n q s o p => ?_
       dsimp only
       have p2 := p.2
       unfold kv at p2; simp only [List.length_cons] at p2
       exact ih (.unL n) q (by unfold mu; simp only; omega) (s.trans h) o ⟨by omega, p.1⟩
   | unL m =>
     obtain ⟨hl', hm'⟩ := hp
     unfold mu at hm; simp only at hm
     show jd (rd tk t) m = _
     rw [jd]
     simp only [nx]
     simp only [S]
     rw [E_is h hg (by decide), bs]
     by_cases c1 : isT ⟨#[46]⟩ t = true
     ·rw [if_pos c1, if_pos c1]
      simp only [qon]
      refine bE (wr h hn hg (by decide) 21 _ _ (by simp)) (yh hg (by decide)) fun g1 r1 s1 o1 h1 => ?_
      dsimp only
      refine bE (W5 (s1.trans h) hn o1 21 _ _ (by simp)) (Z6 o1) fun a r2 s2 o2 h2 => ?_
      dsimp only
      have z2 := s2.trans s1
      have hpr : pre (.args 21 a.1 [g1, a.2] [m]) r2.length := ⟨by omega, h2.2.1, by simp only [List.length_append, List.length_cons, List.length_nil]; omega, by simp only [List.length_cons, List.length_nil]; omega, z6 h1.2 (z6 h2.2.2 y5), wd hm' km⟩
      refine bE (ih (.args 21 a.1 [g1, a.2] [m]) r2 (by unfold mu; simp only; omega) (z2.trans h) o2 hpr) (t := r2) (P := fun n r => (wfB n = true ∧ r.length + 1 ≤ r2.length) ∧ n = .mk 21 a.1 n.gaps n.kids) ?_ fun n r3 s3 o3 p => ?_
      ·have q := S_ok f (.args 21 a.1 [g1, a.2] [m]) r2 o2 hpr
       cases e : S f (.args 21 a.1 [g1, a.2] [m]) r2 with
       | error u => rw [e] at q; exact q
       | ok y => rw [e] at q; exact ⟨q.1, q.2.1, q.2.2, (qnn f r2).1 _ _ _ _ _ _ e⟩
      show jd (rd tk r3) (Node.mk 21 a.1 n.gaps n.kids) = _
      rw [qs2 p.2]
      exact ih (.unL n) r3 (by unfold mu; simp only; omega) ((s3.trans z2).trans h) o3 ⟨by omega, p.1.1⟩
     rw [if_neg c1, if_neg c1]
   | prim =>
     have hl' : t.length ≤ 70000 := hp
     unfold mu at hm; simp only at hm
     show yn (rd tk t) = _
     rw [yn]
     simp only [nx]
     cases t with
     | nil => exact hg.elim
     | cons x r =>
       have sr : r <:+ x :: r := List.suffix_cons x r
       simp only [S, qdm]
       rw [List.length_cons] at hl' hm hl
       have hl2 : (x :: r).length ≤ 70000 := by rw [List.length_cons]; omega
       rw [W4 h, bs]
       by_cases c0 : x.Kind = 2
       ·rw [if_pos (decide_eq_true c0), if_pos (decide_eq_true c0), qen h hn, bs]; rfl
       rw [if_neg (by rw [decide_eq_true_eq]; exact c0), if_neg (by rw [decide_eq_true_eq]; exact c0), E_is h hg (by decide), bs]
       by_cases c1 : isT ⟨#[116, 114, 117, 101]⟩ (x :: r) = true
       ·rw [if_pos c1, if_pos c1, qen h hn, bs]; rfl
       rw [if_neg c1, if_neg c1, E_is h hg (by decide), bs]
       by_cases c2 : isT ⟨#[102, 97, 108, 115, 101]⟩ (x :: r) = true
       ·rw [if_pos c2, if_pos c2, qen h hn, bs]; rfl
       rw [if_neg c2, if_neg c2, E_is h hg (by decide), bs]
       by_cases c3 : isT ⟨#[115, 101, 108, 102]⟩ (x :: r) = true
       ·rw [if_pos c3, if_pos c3, qen h hn, bs]; rfl
       rw [if_neg c3, if_neg c3, E_is h hg (by decide), bs]
       by_cases c4 : isT ⟨#[110, 101, 119]⟩ (x :: r) = true
       ·rw [if_pos c4, if_pos c4]
        unfold newP
        refine bE (wr h hn hg (by decide) 22 _ _ (by simp)) (yh hg (by decide)) fun g1 r1 s1 o1 h1 => ?_
        dsimp only
        refine bE (W5 (s1.trans h) hn o1 22 _ _ (by simp)) (Z6 o1) fun a r2 s2 o2 h2 => ?_
        dsimp only
        have z2 := s2.trans s1
        refine bE (wr (z2.trans h) hn o2 (by decide) 22 _ _ (by simp)) (yh o2 (by decide)) fun g3 r3 s3 o3 h3 => ?_
        dsimp only
        refine bE (wr ((s3.trans z2).trans h) hn o3 (by decide) 22 _ _ (by simp)) (yh o3 (by decide)) fun g4 r4 s4 o4 h4 => ?_
        dsimp only
        rfl
       rw [if_neg c4, if_neg c4, E_is h hg (by decide), bs]
       by_cases c5 : isT ⟨#[40]⟩ (x :: r) = true
       ·rw [if_pos c5, if_pos c5]
        unfold parP
        refine bE (wr h hn hg (by decide) 26 _ _ (by simp)) (yh hg (by decide)) fun g1 r1 s1 o1 h1 => ?_
        dsimp only
        rw [List.length_cons] at h1
        refine bE (eB 1 r1 (by decide) (by decide) (by have := h1.1; omega) s1 o1) (hB1 r1 o1 (by omega)) fun n r4 s4 o4 h4 => ?_
        dsimp only
        have z4 := s4.trans s1
        rw [Qf _ _ _ _ (by simp), bs]
        refine bE (wr (z4.trans h) hn o4 (by decide) 26 _ _ (by simp)) (yh o4 (by decide)) fun g5 r5 s5 o5 h5 => ?_
        dsimp only
        rfl
       rw [if_neg c5, if_neg c5]
       unfold qhk
       refine bE (W5 h hn hg 19 _ _ (by simp)) (Z6 hg) fun a r2 s2 o2 h2 => ?_
       dsimp only
       rw [List.length_cons] at h2
       rw [E_is (s2.trans h) o2 (by decide), bs]
       by_cases c6 : isT ⟨#[40]⟩ r2 = true
       ·rw [if_pos c6, if_pos c6]
        have hpr : pre (.args 20 a.1 [a.2] []) r2.length := ⟨by omega, h2.2.1, by simp only [List.length_cons, List.length_nil]; omega, by simp only [List.length_nil]; omega, z6 h2.2.2 y5, km⟩
        have e1 := ih (.args 20 a.1 [a.2] []) r2 (by unfold mu; simp only; omega) (s2.trans h) o2 hpr
        unfold EP at e1
        show (z8 (rd tk r2) 20 a.1 [a.2] [] >>= _) = _
        rw [e1]
        cases e : S f (.args 20 a.1 [a.2] []) r2 with
        | error u => rfl
        | ok y =>
          show yk (rd tk y.2) 20 a.1 y.1.gaps y.1.kids = _
          unfold yk
          rw [qs2 ((qnn f r2).1 _ _ _ _ _ _ e)]
       rw [if_neg c6, if_neg c6]
       rfl
   | args k x g ks =>
     obtain ⟨hl', hx, hr⟩ := hp
     unfold mu at hm; simp only at hm
     show z8 (rd tk t) k x g ks = _
     rw [z8]
     simp only [nx]
     simp only [S]
     refine bE (wr h hn hg (by decide) k _ _ (by have := hr.1; omega)) (yh hg (by decide)) fun g1 r1 s1 o1 h1 => ?_
     dsimp only
     exact ih (.argL true k x (g ++ [g1]) ks) r1 (by unfold mu; simp only; omega) (s1.trans h) o1 ⟨by omega, hx, by rw [List.length_append, List.length_singleton]; have := hr.1; omega, by have := hr.2.1; omega, Y6 hr.2.2.1 h1.2, hr.2.2.2⟩
   | argL b k x g ks =>
     obtain ⟨hl', hx, hr⟩ := hp
     have q1 := hr.1
     have q2 := hr.2.1
     unfold mu at hm; simp only at hm
     show z1 b (rd tk t) k x g ks = _
     rw [z1]
     simp only [nx]
     simp only [S, argP]
     rw [E_is h hg (by decide), bs]
     have hend : ∀ (g : List BA) (r : List Token), r <:+ t → Good r → 20 * r.length + 12 ≤ f + 1 → g.length + r.length ≤ 200000 → ks.length + r.length ≤ 200000 → Gs g → jr (rd tk r) k x g ks = some (cvA tk (bR (S f (.bin 1) r) fun n l => S f (.argL false k x g (ks ++ [n])) l)) := fun g r s o hm' hg' hk' hgs => by
      have := Zq s
      rw [jr]
      simp only [nx]
      refine bE (eB 1 r (by decide) (by decide) (by omega) s o) (hB1 r o (by omega)) fun n r4 s4 o4 h4 => ?_
      dsimp only
      rw [Qf _ _ _ _ (by omega), bs]
      exact ih (.argL false k x g (ks ++ [n])) r4 (by unfold mu; simp only; omega) ((s4.trans s).trans h) o4 ⟨by omega, hx, by omega, by rw [List.length_append, List.length_singleton]; omega, hgs, Jk hr.2.2.2 h4.1⟩
     cases c1 : isT ⟨#[41]⟩ t with
     | true =>
       simp only [Bool.not_true, Bool.false_eq_true, if_false, if_true]
       refine bE (wr h hn hg (by decide) k _ _ (by omega)) (yh hg (by decide)) fun g1 r1 s1 o1 h1 => ?_
       rfl
     | false =>
       simp only [Bool.not_false, Bool.false_eq_true, if_false, if_true]
       cases b with
       | true =>
         simp only [Bool.not_true, Bool.false_eq_true, if_false, if_true]
         exact hend g t (List.suffix_refl _) hg (by omega) q1 q2 hr.2.2.1
       | false =>
         simp only [Bool.not_false, Bool.false_eq_true, if_false, if_true]
         refine bE (wr h hn hg (by decide) k _ _ (by omega)) (yh hg (by decide)) fun g1 r1 s1 o1 h1 => ?_
         dsimp only
         exact hend (g ++ [g1]) r1 s1 o1 (by omega) (by rw [List.length_append, List.length_singleton]; omega) (by omega) (Y6 hr.2.2.1 h1.2)
   | stmt =>
     have hl' : t.length ≤ 70000 := hp
     unfold mu at hm; simp only at hm
     show z7 (rd tk t) = _
     simp only [S]
     exact q1o h hn hg hB1 hC (fun t' s o => eB 1 t' (by decide) (by decide) (by have := Zq s; omega) s o) (fun t' s o => ih .blk t' (by unfold mu; simp only; have := Zq s; omega) (s.trans h) o (by show t'.length ≤ 70000; have := Zq s; omega))
   | blk =>
     have hl' : t.length ≤ 70000 := hp
     unfold mu at hm; simp only at hm
     show ja (rd tk t) = _
     rw [ja]
     simp only [nx]
     simp only [S]
     refine bE (wr h hn hg (by decide) 6 _ _ (by simp)) (yh hg (by decide)) fun g1 r1 s1 o1 h1 => ?_
     dsimp only
     exact ih (.blkL [g1] []) r1 (by unfold mu; simp only; omega) (s1.trans h) o1 ⟨by omega, by simp only [List.length_cons, List.length_nil]; omega, by simp only [List.length_nil]; omega, z6 h1.2 y5, km⟩
   | blkL g ks =>
     obtain ⟨hl', hr⟩ := hp
     have q1 := hr.1
     have q2 := hr.2.1
     unfold mu at hm; simp only at hm
     show jn (rd tk t) 6 ⟨#[]⟩ g ks = _
     rw [jn]
     simp only [nx]
     simp only [S, blkP]
     rw [E_is h hg (by decide), bs]
     cases c1 : isT ⟨#[125]⟩ t with
     | true =>
       simp only [Bool.not_true, Bool.false_eq_true, if_false, if_true]
       refine bE (wr h hn hg (by decide) 6 _ _ (by omega)) (yh hg (by decide)) fun g1 r1 s1 o1 h1 => ?_
       rfl
     | false =>
       simp only [Bool.not_false, Bool.false_eq_true, if_false, if_true]
       refine bE (ih .stmt t (by unfold mu; simp only; omega) h hg hl') (hT t hg hl') fun n r4 s4 o4 h4 => ?_
       dsimp only
       rw [Qf _ _ _ _ (by omega), bs]
       exact ih (.blkL g (ks ++ [n])) r4 (by unfold mu; simp only; omega) (s4.trans h) o4 ⟨by omega, by omega, by rw [List.length_append, List.length_singleton]; omega, hr.2.2.1, Jk hr.2.2.2 h4.1⟩
   | parL g ks =>
     obtain ⟨hl', hr⟩ := hp
     have q1 := hr.1
     have q2 := hr.2.1
     unfold mu at hm; simp only at hm
     intro C a ga hC1 hC2
     rw [jm]
     simp only [nx]
     simp only [S, qso]
     rw [E_is h hg (by decide), bs]
     have hend : ∀ (g : List BA) (r : List Token), r <:+ t → Good r → 20 * r.length + 1 ≤ f + 1 → g.length + r.length ≤ 200000 → ks.length + r.length ≤ 200000 → Gs g → jw (rd tk r) 2 a ga [] 3 ⟨#[]⟩ g ks = some (cvN tk (bR (bR (K2 r) fun n l => S f (.parL g (ks ++ [n])) l) (funK C a ga))) := fun g r s o hm' hg' hk' hgs => by
      have := Zq s
      rw [jw]
      simp only [nx]
      rw [show (bR (bR (K2 r) fun n l => S f (.parL g (ks ++ [n])) l) (funK C a ga)) = bR (tkN r) fun x1 t1 => bR (tkN t1) fun b t2 => bR (S f (.parL g (ks ++ [.mk 4 x1.1 [x1.2] [.mk 5 b.1 [b.2] []]])) t2) (funK C a ga) from by simp only [K2, qxv, bR_o]]
      refine bE (W5 (s.trans h) hn o 4 _ _ (by simp)) (Z6 o) fun x1 r2 s2 o2 h2 => ?_
      dsimp only
      have z2 := s2.trans s
      refine bE (qx8 (z2.trans h) hn o2) (Z6 o2) fun b r3 s3 o3 h3 => ?_
      dsimp only
      have z3 := s3.trans z2
      rw [Qf _ _ _ _ (by simp), bs, Qf _ _ _ _ (by omega), bs]
      refine ih (.parL g (ks ++ [.mk 4 x1.1 [x1.2] [.mk 5 b.1 [b.2] []]])) r3 (by unfold mu; simp only; omega) (z3.trans h) o3 ⟨by omega, by omega, by rw [List.length_append, List.length_singleton]; omega, hgs, Jk hr.2.2.2 (Qb 4 (by simp) (by simp) h2.2.1 (z6 h2.2.2 y5) (wd (Qb 5 (by simp) (by simp) h3.2.1 (z6 h3.2.2 y5) km) km))⟩ C a ga (fun t' s' o' => hC1 t' (s'.trans z3) o') hC2
     cases c1 : isT ⟨#[41]⟩ t with
     | true =>
       simp only [Bool.not_true, Bool.false_eq_true, if_false, if_true]
       rw [show (bR (bR (tkT ⟨#[41]⟩ t) fun h l => .ok (.mk 3 ⟨#[]⟩ (g ++ [h]) ks, l)) (funK C a ga)) = bR (tkT ⟨#[41]⟩ t) fun h l => funK C a ga (.mk 3 ⟨#[]⟩ (g ++ [h]) ks) l from by cases tkT ⟨#[41]⟩ t <;> rfl]
       refine bE (wr h hn hg (by decide) 3 _ _ (by omega)) (yh hg (by decide)) fun g1 r1 s1 o1 h1 => ?_
       dsimp only
       rw [Qf _ _ _ _ (by simp), bs]
       unfold funK
       refine bE (qx8 (s1.trans h) hn o1) (Z6 o1) fun b r3 s3 o3 h3 => ?_
       dsimp only
       have z3 := s3.trans s1
       rw [Qf _ _ _ _ (by simp), bs]
       refine bE (hC1 r3 z3 o3) (hC2 r3 o3 (by omega)) fun n r4 s4 o4 h4 => ?_
       dsimp only
       rw [Qf _ _ _ _ (by simp), bs]
       rfl
     | false =>
       simp only [Bool.not_false, Bool.false_eq_true, if_false, if_true]
       by_cases c2 : 0 < ks.length
       ·rw [if_pos (decide_eq_true (by omega)), if_pos (decide_eq_true c2)]
        rw [show (bR (bR (tkT ⟨#[44]⟩ t) fun h l => bR (K2 l) fun n l => S f (.parL (g ++ [h]) (ks ++ [n])) l) (funK C a ga)) = bR (tkT ⟨#[44]⟩ t) fun h l => bR (bR (K2 l) fun n l => S f (.parL (g ++ [h]) (ks ++ [n])) l) (funK C a ga) from by cases tkT ⟨#[44]⟩ t <;> rfl]
        refine bE (wr h hn hg (by decide) 3 _ _ (by omega)) (yh hg (by decide)) fun g1 r1 s1 o1 h1 => ?_
        dsimp only
        exact hend (g ++ [g1]) r1 s1 o1 (by omega) (by rw [List.length_append, List.length_singleton]; omega) (by omega) (Y6 hr.2.2.1 h1.2)
       rw [if_neg (by rw [decide_eq_true_eq]; omega), if_neg (by rw [decide_eq_true_eq]; exact c2)]
       exact hend g t (List.suffix_refl _) hg (by omega) q1 q2 hr.2.2.1
   | func =>
     have hl' : t.length ≤ 70000 := hp
     unfold mu at hm; simp only at hm
     show yf (rd tk t) = _
     unfold yf; simp only [S, funP]
     refine bE (wr h hn hg (by decide) 2 _ _ (by simp)) (yh hg (by decide)) fun g1 r1 s1 o1 h1 => ?_
     dsimp only
     refine bE (W5 (s1.trans h) hn o1 2 _ _ (by simp)) (Z6 o1) fun a r2 s2 o2 h2 => ?_
     dsimp only
     have z2 := s2.trans s1
     refine bE (wr (z2.trans h) hn o2 (by decide) 3 _ _ (by simp)) (yh o2 (by decide)) fun g3 r3 s3 o3 h3 => ?_
     dsimp only
     have z3 := s3.trans z2
     exact ih (.parL [g3] []) r3 (by unfold mu; simp only; omega) (z3.trans h) o3 ⟨by omega, by simp only [List.length_cons, List.length_nil]; omega, by simp only [List.length_nil]; omega, z6 h3.2 y5, km⟩ (S f .blk) a.1 [g1, a.2] (fun t' s o => ih .blk t' (by unfold mu; simp only; have := Zq s; omega) ((s.trans z3).trans h) o (by show t'.length ≤ 70000; have := Zq s; omega)) hC
   | clsL x g ks =>
     obtain ⟨hl', hx, hr⟩ := hp
     have q1 := hr.1
     have q2 := hr.2.1
     unfold mu at hm; simp only at hm
     show j3 (rd tk t) 7 x g ks = _
     rw [j3]
     simp only [nx]
     simp only [S, qtg]
     rw [E_is h hg (by decide), bs]
     by_cases c1 : isT ⟨#[102, 110]⟩ t = true
     ·rw [if_pos c1, if_pos c1]
      refine bE (ih .func t (by unfold mu; simp only; omega) h hg hl') (hF t hg hl') fun n r4 s4 o4 h4 => ?_
      dsimp only
      rw [Qf _ _ _ _ (by omega), bs]
      exact ih (.clsL x g (ks ++ [n])) r4 (by unfold mu; simp only; omega) (s4.trans h) o4 ⟨by omega, hx, by omega, by rw [List.length_append, List.length_singleton]; omega, hr.2.2.1, Jk hr.2.2.2 h4.1⟩
     rw [if_neg c1, if_neg c1]
     refine bE (wr h hn hg (by decide) 7 _ _ (by omega)) (yh hg (by decide)) fun g1 r1 s1 o1 h1 => ?_
     rfl
   | cls =>
     have hl' : t.length ≤ 70000 := hp
     unfold mu at hm; simp only at hm
     show ky (rd tk t) = _
     unfold ky; simp only [S, clsP]
     refine bE (wr h hn hg (by decide) 7 _ _ (by simp)) (yh hg (by decide)) fun g1 r1 s1 o1 h1 => ?_
     dsimp only
     refine bE (W5 (s1.trans h) hn o1 7 _ _ (by simp)) (Z6 o1) fun a r2 s2 o2 h2 => ?_
     dsimp only
     have z2 := s2.trans s1
     rw [E_is (z2.trans h) o2 (by decide), bs]
     have hend : ∀ (b : Node) (r : List Token), r <:+ t → Good r → r.length + 2 ≤ t.length → wfB b = true → yy (rd tk r) 7 a.1 ([] ++ [g1] ++ [a.2]) [] b = some (cvN tk (bR (tkT ⟨#[123]⟩ r) fun g3 t => S f (.clsL a.1 [g1, a.2, g3] [b]) t)) := fun b r s o hlr hb => by
      unfold yy
      rw [Qf _ _ _ _ (by simp), bs]
      refine bE (wr (s.trans h) hn o (by decide) 7 _ _ (by simp)) (yh o (by decide)) fun g3 r3 s3 o3 h3 => ?_
      dsimp only
      exact ih (.clsL a.1 [g1, a.2, g3] [b]) r3 (by unfold mu; simp only; omega) ((s3.trans s).trans h) o3 ⟨by omega, h2.2.1, by simp only [List.length_cons, List.length_nil]; omega, by simp only [List.length_cons, List.length_nil]; omega, z6 h1.2 (z6 h2.2.2 (z6 h3.2 y5)), wd hb km⟩
     unfold ql9
     by_cases c1 : isT ⟨#[58]⟩ r2 = true
     ·rw [if_pos c1, if_pos c1]
      rw [show (bR (bR (tkT ⟨#[58]⟩ r2) fun g1 t => bR (tkN t) fun a t => .ok (Node.mk 8 a.1 [g1, a.2] [], t)) fun b t => bR (tkT ⟨#[123]⟩ t) fun g3 t => S f (.clsL a.1 [g1, a.2, g3] [b]) t) = bR (tkT ⟨#[58]⟩ r2) fun y1 t => bR (tkN t) fun y2 t => bR (tkT ⟨#[123]⟩ t) fun g3 t => S f (.clsL a.1 [g1, a.2, g3] [.mk 8 y2.1 [y1, y2.2] []]) t from by simp only [qxv, bR_o]]
      refine bE (wr (z2.trans h) hn o2 (by decide) 8 _ _ (by simp)) (yh o2 (by decide)) fun y1 r4 s4 o4 h4 => ?_
      dsimp only
      have z4 := s4.trans z2
      refine bE (W5 (z4.trans h) hn o4 8 _ _ (by simp)) (Z6 o4) fun y2 r5 s5 o5 h5 => ?_
      dsimp only
      exact hend _ r5 (s5.trans z4) o5 (by omega) (Qb 8 (by simp) (by simp) h5.2.1 (z6 h4.2 (z6 h5.2.2 y5)) km)
     rw [if_neg c1, if_neg c1]
     exact hend _ r2 z2 o2 (by omega) (Qb 8 (by simp) (by simp) Y9 y5 km)
   | file ks =>
     obtain ⟨hl', hr⟩ := hp
     have q2 := hr.2.1
     unfold mu at hm; simp only at hm
     show zo (rd tk t) 1 ⟨#[]⟩ [] ks = _
     rw [zo]
     simp only [nx]
     cases t with
     | nil => exact hg.elim
     | cons x r =>
       have on : ∀ {G : List Token → Rs Node} {y : Option (Except Int (Node × Reader))}, y = some (cvN tk (G (x :: r))) → Rd G → ∀ {K : Reader → LN → Option (Except Int (Node × Reader))}, (∀ q l, K q l = zo q 1 ⟨#[]⟩ [] l) → ∀ {c : Except Int (Node × Reader) → Option (Except Int (Node × Reader))}, (∀ v, c (.ok v) = zm 1 ⟨#[]⟩ [] ks v.1 >>= fun z => K v.2 z) → (∀ e, c (.error e) = some (.error e)) →
        (y >>= c) = some (cvN tk (bR (G (x :: r)) fun n l => S f (.file (ks ++ [n])) l)) := fun {G y} hy hG K hK c hc1 hc2 => by
        refine bE hy (hG _ hg hl') (fun n r4 s4 o4 h4 => ?_) hc2
        rw [hc1, Qf _ _ _ _ (by omega), bs, hK]
        exact ih (.file (ks ++ [n])) r4 (by unfold mu; simp only; omega) (s4.trans h) o4 ⟨by omega, by simp only [List.length_nil]; omega, by rw [List.length_append, List.length_singleton]; omega, y5, Jk hr.2.2.2 h4.1⟩
       have t11 : ∀ q l, j0 q 1 ⟨#[]⟩ [] l = zo q 1 ⟨#[]⟩ [] l := fun q l => by rw [j0]; rfl
       have t17 : ∀ q l, jz q 1 ⟨#[]⟩ [] l = zo q 1 ⟨#[]⟩ [] l := fun q l => by rw [jz]; exact t11 q l
       have t23 : ∀ q l, yg q 1 ⟨#[]⟩ [] l = zo q 1 ⟨#[]⟩ [] l := fun q l => by rw [yg]; exact t17 q l
       simp only [S, qtc]
       rw [W4 h, bs]
       by_cases c0 : x.Kind = 4
       ·rw [decide_eq_true c0]
        simp only [Bool.not_true, Bool.false_eq_true, if_false, if_true]
        rw [bs, qj9 (by simp) (by decide), bs]
        rfl
       rw [decide_eq_false c0]
       simp only [Bool.not_false, Bool.false_eq_true, if_false, if_true]
       rw [E_is h hg (by decide), bs]
       by_cases c1 : isT ⟨#[102, 110]⟩ (x :: r) = true
       ·rw [if_pos c1, if_pos c1]
        exact on (ih .func (x :: r) (by unfold mu; simp only; omega) h hg hl') hF t11 (fun _ => rfl) (fun _ => rfl)
       rw [if_neg c1, if_neg c1, E_is h hg (by decide), bs]
       by_cases c2 : isT ⟨#[99, 108, 97, 115, 115]⟩ (x :: r) = true
       ·rw [if_pos c2, if_pos c2]
        exact on (ih .cls (x :: r) (by unfold mu; simp only; omega) h hg hl') hK t17 (fun _ => rfl) (fun _ => rfl)
       rw [if_neg c2, if_neg c2, E_is h hg (by decide), bs]
       by_cases c3 : isT ⟨#[99, 111, 110, 115, 116]⟩ (x :: r) = true
       ·rw [if_pos c3, if_pos c3]
        refine on (G := Kb (S f (.bin 1)) 9 ⟨#[99, 111, 110, 115, 116]⟩) (qts h hn hg 9 (by decide) hB1 ?_) (qic hB1 9 (by decide)) t23 (fun _ => rfl) (fun _ => rfl)
        intro t' s o
        exact ih (.bin 1) t' (by unfold mu; simp only; have := Zq s; omega) (s.trans h) o ⟨by have := Zq s; omega, by decide, by decide⟩
       rw [if_neg c3, if_neg c3, qks h]
       rfl
end
theorem qy8 {w : BA} {x : Token} {r : List Token} (h : isT w (x :: r) = true) (hg : Good (x :: r)) (hw : w ≠ ⟨#[]⟩) : Good r := Zj hg (by rw [of_decide_eq_true h]; exact hw)
end Ps
end Go.Proofs.YtigmilhpeodhbaaDoorW.Ex.Gr
