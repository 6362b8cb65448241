/- The words of a tree, trees that are the same, and steps of reading. Conditions: those in each theorem. -/
import Derived.Test.YtigmilhpeodhbaaDoorB1
namespace Go.Proofs.YtigmilhpeodhbaaDoorW.Ex.Gr
open Go Go.Proofs.YtigmilhpeodhbaaDoorW.Ex Go.Proofs.YtigmilhpeodhbaaDoorW.Plain
set_option linter.all false
set_option maxRecDepth 100000
namespace Ps
open Tk
def wdS : List Step → List (List BA) → List BA
 | [], _ => []
 | .own _ w :: r, ks => w :: wdS r ks
 | .kid _ _ :: r, k :: ks => k ++ wdS r ks
 | .kid _ _ :: r, [] => wdS r []
mutual
def wdN : Node → List BA
 | .mk k t _ ks => wdS (stepsOf 0 k t ks.length e0 0) (wdL ks)
def wdL : List Node → List (List BA)
 | [] => []
 | n :: l => wdN n :: wdL l
end
def shp : List Step → List (Option BA)
 | [] => []
 | .own _ w :: r => some w :: shp r
 | .kid _ _ :: r => none :: shp r
theorem Wo : ∀ a b, shp (a ++ b) = shp a ++ shp b
 | [], b => rfl
 | .own c w :: a, b => by rw [List.cons_append, shp, shp, Wo a b]; rfl
 | .kid c w :: a, b => by rw [List.cons_append, shp, shp, Wo a b]; rfl
theorem qit (v v' : Int) : ∀ (r : Nat) (b : Bool), shp (vn v b r) = shp (vn v' b r)
 | 0, true => rfl
 | 0, false => rfl
 | r + 1, true => by rw [vn, vn, shp, shp, qit v v' r false]
 | r + 1, false => by rw [vn, vn, shp, shp, shp, shp, qit v v' r false]
theorem qh2 (l l' : BA) (v v' : Int) : ∀ r, shp (allS l v r) = shp (allS l' v' r)
 | 0 => rfl
 | r + 1 => by rw [allS, allS, shp, shp, qh2 l l' v v' r]
theorem qol (v v' : Int) : ∀ (r : Nat) (l l' : BA), shp (qah v l r) = shp (qah v' l' r)
 | 0, _, _ => rfl
 | r + 1, l, l' => by rw [qah, qah, shp, shp, qol v v' r _ _]
theorem sif {c : Prop} [Decidable c] {a b a' b' : List Step} (h1 : shp a = shp a') (h2 : shp b = shp b') : shp (if c then a else b) = shp (if c then a' else b') := by
 split
 ·exact h1
 exact h2
theorem qui (k : Int) (t : BA) (nk : Nat) (l l' : BA) (v v' : Int) : shp (stepsOf 0 k t nk l v) = shp (stepsOf 0 k t nk l' v') := by
 unfold stepsOf qpz qi8
 repeat' refine sif ?_ ?_
 all_goals first
  | rfl
  | (rw [Wo, Wo, qol v v' nk l l']; rfl)
  | (rw [shp, shp, Wo, Wo, qh2 _ (qsx (v' + 1)) _ (v' + 1)]; rfl)
  | (rw [shp, shp, shp, shp, shp, shp, shp, shp, Wo, Wo, qh2 _ (qsx (v' + 1)) _ (v' + 1)]; rfl)
  | (simp only [shp, qit v v']; done)
  | (simp only [shp, qh2 sp sp v v']; done)
theorem qh1 : ∀ (a b : List Step) (ks : List (List BA)), shp a = shp b → wdS a ks = wdS b ks
 | [], [], ks, _ => rfl
 | [], .own _ _ :: _, ks, h => by cases h
 | [], .kid _ _ :: _, ks, h => by cases h
 | .own c w :: a, [], ks, h => by cases h
 | .kid c w :: a, [], ks, h => by cases h
 | .own c w :: a, .own c' w' :: b, ks, h => by
   rw [shp, shp] at h
   obtain ⟨h1, h2⟩ := List.cons.inj h
   rw [wdS, wdS, qh1 a b ks h2, Option.some.inj h1]
 | .own c w :: a, .kid _ _ :: b, ks, h => by rw [shp, shp] at h; exact absurd (List.cons.inj h).1 (by simp)
 | .kid c w :: a, .own _ _ :: b, ks, h => by rw [shp, shp] at h; exact absurd (List.cons.inj h).1 (by simp)
 | .kid c w :: a, .kid _ _ :: b, ks, h => by
   rw [shp, shp] at h
   have h2 := (List.cons.inj h).2
   cases ks with
   | nil => rw [wdS, wdS, qh1 a b [] h2]
   | cons k ks => rw [wdS, wdS, qh1 a b ks h2]
theorem qb7 : ∀ (S : List Step) (g : List BA) (ks : List Node), (∀ m ∈ ks, ∀ l v, (toks 0 m l v).map (·.2) = wdN m) → (uz S g (Zd 0 ks)).map (·.2) = wdS S (wdL ks)
 | [], g, ks, h => rfl
 | .own c w :: S, [], ks, h => by rw [uz, wdS, List.map_cons, qb7 S [] ks h]
 | .own c w :: S, x :: g, ks, h => by rw [uz, wdS, List.map_cons, qb7 S g ks h]
 | .kid l v :: S, g, [], h => by
   have := qb7 S g [] h
   rw [Zd, wdL] at this
   rw [Zd, wdL, uz, wdS, this]
 | .kid l v :: S, g, m :: ks, h => by rw [Zd, wdL, uz, wdS, List.map_append, h m (List.mem_cons_self ..) l v, qb7 S g ks fun m hm => h m (List.mem_cons_of_mem _ hm)]
theorem qr5 : ∀ (j : Nat) (n : Node), Zv n ≤ j → ∀ l v, (toks 0 n l v).map (·.2) = wdN n
 | 0, n, h, _, _ => by have := W9 n; omega
 | j + 1, n, h, l, v => by
   have e := qaa n
   rw [qc7, qb7 _ _ _ fun m hm => qr5 j m (by
    obtain ⟨a, b, q⟩ := List.append_of_mem hm
    rw [q, Ww, Z7] at e
    omega)]
   cases n with
   | mk k t g ks => rw [wdN]; exact qh1 _ _ _ (qui k t ks.length l e0 v 0)
mutual
def sameN : Node → Node → Prop
 | .mk k t _ l, n => k = n.kind ∧ t = n.text ∧ Qk l n.kids
def Qk : List Node → List Node → Prop
 | [], l => l = []
 | n :: l, [] => False
 | n :: l, m :: r => sameN n m ∧ Qk l r
end
theorem u0 {k : Int} {t : BA} {g : List BA} {l : List Node} {n : Node} (h1 : k = n.kind) (h2 : t = n.text) (h3 : Qk l n.kids) : sameN (.mk k t g l) n := by rw [sameN]; exact ⟨h1, h2, h3⟩
theorem Ku : ∀ {a b : List Node}, Qk a b → a.length = b.length
 | [], b, h => by rw [Qk] at h; rw [h]
 | n :: a, [], h => by rw [Qk] at h; exact h.elim
 | n :: a, m :: b, h => by rw [Qk] at h; rw [List.length_cons, List.length_cons, Ku h.2]
theorem kw : Qk [] [] := by rw [Qk]
theorem ym {n m : Node} {a b : List Node} (h : sameN n m) (h2 : Qk a b) : Qk (n :: a) (m :: b) := by rw [Qk]; exact ⟨h, h2⟩
def Ck (c : Cat) (t : List Token) (n : Node) (r : List Token) : Prop := ∀ f, mu c t.length ≤ f → S f c t = .ok (n, r)
theorem Ql {c : Cat} {t : List Token} {n : Node} {r : List Token} {m : Nat} (hm : mu c t.length = m + 1) (h : ∀ f, m ≤ f → S (f + 1) c t = .ok (n, r)) : Ck c t n r := fun f hf => by
 obtain ⟨g, rfl⟩ : ∃ g, f = g + 1 := ⟨f - 1, by omega⟩
 exact h g (by omega)
section
variable {t r q : List Token} {x y z u : Token} {n m N : Node} {R : List Token} {v : Int}
theorem qye (h6 : v = 6) (h : Ck .un t n r) : Ck (.bin v) t n r := Ql (m := 20 * t.length + 3) (by subst h6; unfold mu; simp only; omega) fun f hf => by
 simp only [S]
 rw [if_pos (decide_eq_true (by omega))]
 exact h f hf
theorem q0c (h1 : 1 ≤ v) (h5 : v ≤ 5) (h : Ck (.bin (v + 1)) t n r) (hl : r.length < t.length) (h2 : Ck (.binL v n) r N R) : Ck (.bin v) t N R := Ql (m := 20 * t.length + (9 - v).toNat) (by unfold mu; simp only; omega) fun f hf => by
 simp only [S]
 rw [if_neg (by rw [decide_eq_true_eq]; omega), h f (by unfold mu; simp only; omega)]
 exact h2 f (by unfold mu; simp only; omega)
theorem qyc (h : jh x.Text ≠ v) : Ck (.binL v m) (x :: r) m (x :: r) := Ql rfl fun f hf => by
 simp only [S, binP]
 rw [if_neg (by rw [decide_eq_true_eq]; exact h)]
theorem C_go (h1 : 1 ≤ v) (h5 : v ≤ 5) (h : jh x.Text = v) (h3 : v ≠ 3) (hb : Ck (.bin (v + 1)) r n q) (hl : q.length ≤ r.length) (h2 : Ck (.binL v (.mk 24 x.Text [x.Lead] [m, n])) q N R) : Ck (.binL v m) (x :: r) N R := Ql (m := 20 * (r.length + 1)) (by unfold mu; simp only [List.length_cons]) fun f hf => by
 simp only [S, binP]
 rw [if_pos (decide_eq_true h), hb f (by unfold mu; simp only; omega), bR_o, if_neg (by rw [decide_eq_true_eq]; exact h3)]
 exact h2 f (by unfold mu; simp only; omega)
theorem q2w (h : jh x.Text = 3) (hb : Ck (.bin 4) r n q) : Ck (.binL 3 m) (x :: r) (.mk 24 x.Text [x.Lead] [m, n]) q := Ql (m := 20 * (r.length + 1)) (by unfold mu; simp only [List.length_cons]) fun f hf => by
 simp only [S, binP]
 rw [if_pos (decide_eq_true h), show (3 : Int) + 1 = 4 from rfl, hb f (by unfold mu; simp only; omega), bR_o, if_pos (by decide)]
theorem q1p (h : x.Text = ⟨#[45]⟩ ∨ x.Text = ⟨#[33]⟩) (hb : Ck .un r n q) : Ck .un (x :: r) (.mk 25 x.Text [x.Lead] [n]) q := Ql (m := 20 * (r.length + 1) + 2) (by unfold mu; simp only [List.length_cons]) fun f hf => by
 simp only [S, unP]
 rcases h with h | h
 ·rw [if_pos (show isT _ (x :: r) = true from decide_eq_true h), hb f (by unfold mu; simp only; omega), bR_o]
 rw [if_neg (show ¬ isT _ (x :: r) = true from fun e => absurd (h.symm.trans (of_decide_eq_true e)) (by decide)), if_pos (show isT _ (x :: r) = true from decide_eq_true h), hb f (by unfold mu; simp only; omega), bR_o]
theorem qyb (h1 : x.Text ≠ ⟨#[45]⟩) (h2 : x.Text ≠ ⟨#[33]⟩) (hb : Ck .prim (x :: r) n q) (hl : q.length ≤ r.length) (h : Ck (.unL n) q N R) : Ck .un (x :: r) N R := Ql (m := 20 * (r.length + 1) + 2) (by unfold mu; simp only [List.length_cons]) fun f hf => by
 simp only [S, unP]
 rw [if_neg (show ¬ isT _ (x :: r) = true from fun e => h1 (of_decide_eq_true e)), if_neg (show ¬ isT _ (x :: r) = true from fun e => h2 (of_decide_eq_true e)), hb f (by unfold mu; simp only [List.length_cons]; omega), bR_o]
 exact h f (by unfold mu; simp only; omega)
theorem qya (h : x.Text ≠ ⟨#[46]⟩) : Ck (.unL m) (x :: r) m (x :: r) := Ql rfl fun f hf => by
 simp only [S]
 rw [if_neg (show ¬ isT _ (x :: r) = true from fun e => h (of_decide_eq_true e))]
theorem vq {w : BA} (h : x.Text = w) : tkT w (x :: r) = .ok (x.Lead, r) := if_pos (decide_eq_true h)
theorem qf7 (h1 : x.Kind = 1) (h2 : Nm x) : tkN (x :: r) = .ok ((x.Text, x.Lead), r) := if_pos (by rw [decide_eq_true h1]; exact h2)
theorem Kk {w : BA} (h : x.Text = w) : isT w (x :: r) = true := decide_eq_true h
theorem um {w : BA} (h : x.Text ≠ w) : ¬ isT w (x :: r) = true := fun e => h (of_decide_eq_true e)
theorem q1q (h : x.Text = ⟨#[46]⟩) (h1 : y.Kind = 1) (h2 : Nm y) (hb : Ck (.args 21 y.Text [x.Lead, y.Lead] [m]) r n q) (hl : q.length ≤ r.length) (hk : Ck (.unL n) q N R) : Ck (.unL m) (x :: y :: r) N R := Ql (m := 20 * (r.length + 2)) (by unfold mu; simp only [List.length_cons]) fun f hf => by
 simp only [S]
 rw [if_pos (Kk h)]
 simp only [qon]
 rw [vq h, bR_o, qf7 h1 h2, bR_o, hb f (by unfold mu; simp only; omega), bR_o]
 exact hk f (by unfold mu; simp only; omega)
theorem q2t (h : x.Kind = 2) : Ck .prim (x :: r) (.mk 17 x.Text [x.Lead] []) r := Ql (m := 20 * (r.length + 1) + 1) (by unfold mu; simp only [List.length_cons]) fun f hf => by
 simp only [S, qdm]
 rw [if_pos (decide_eq_true h)]
theorem qx9 (k : Int) (h0 : x.Kind ≠ 2) (h : (x.Text = ⟨#[116, 114, 117, 101]⟩ ∧ k = 18) ∨ (x.Text = ⟨#[102, 97, 108, 115, 101]⟩ ∧ k = 18) ∨ (x.Text = ⟨#[115, 101, 108, 102]⟩ ∧ k = 23)) : Ck .prim (x :: r) (.mk k x.Text [x.Lead] []) r := Ql (m := 20 * (r.length + 1) + 1) (by unfold mu; simp only [List.length_cons]) fun f hf => by
 simp only [S, qdm]
 rw [if_neg (by rw [decide_eq_true_eq]; exact h0)]
 rcases h with ⟨h, rfl⟩ | ⟨h, rfl⟩ | ⟨h, rfl⟩
 ·rw [if_pos (Kk h)]
 ·rw [if_neg (um (by rw [h]; decide)), if_pos (Kk h)]
 rw [if_neg (um (by rw [h]; decide)), if_neg (um (by rw [h]; decide)), if_pos (Kk h)]
theorem q2r (h0 : x.Kind ≠ 2) (h : x.Text = ⟨#[110, 101, 119]⟩) (h1 : y.Kind = 1) (h2 : Nm y) (h3 : z.Text = ⟨#[40]⟩) (h4 : u.Text = ⟨#[41]⟩) : Ck .prim (x :: y :: z :: u :: r) (.mk 22 y.Text [x.Lead, y.Lead, z.Lead, u.Lead] []) r := Ql (m := 20 * (r.length + 4) + 1) (by unfold mu; simp only [List.length_cons]) fun f hf => by
 simp only [S, qdm]
 rw [if_neg (by rw [decide_eq_true_eq]; exact h0), if_neg (um (by rw [h]; decide)), if_neg (um (by rw [h]; decide)), if_neg (um (by rw [h]; decide)), if_pos (Kk h)]
 unfold newP
 rw [vq h, bR_o, qf7 h1 h2, bR_o, vq h3, bR_o, vq h4, bR_o]
theorem q2q (h0 : x.Kind ≠ 2) (h : x.Text = ⟨#[40]⟩) (hb : Ck (.bin 1) r n (y :: q)) (h2 : y.Text = ⟨#[41]⟩) : Ck .prim (x :: r) (.mk 26 ⟨#[]⟩ [x.Lead, y.Lead] [n]) q := Ql (m := 20 * (r.length + 1) + 1) (by unfold mu; simp only [List.length_cons]) fun f hf => by
 simp only [S, qdm]
 rw [if_neg (by rw [decide_eq_true_eq]; exact h0), if_neg (um (by rw [h]; decide)), if_neg (um (by rw [h]; decide)), if_neg (um (by rw [h]; decide)), if_neg (um (by rw [h]; decide)), if_pos (Kk h)]
 unfold parP
 rw [vq h, bR_o, hb f (by unfold mu; simp only; omega), bR_o, vq h2, bR_o]
theorem qad (h : Nm x) (l : Array UInt8) (hl : u1 l.toList = false) : x.Text ≠ ⟨l⟩ := fun e => by
 unfold Nm at h
 rw [e] at h
 exact absurd (h.symm.trans hl) (by decide)
theorem qlm (h1 : x.Kind = 1) (h2 : Nm x) (f : Nat) : S (f + 1) .prim (x :: r) = qhk (fun a g => S f (.args 20 a [g] [])) (x :: r) := by
 simp only [S, qdm]
 rw [if_neg (by rw [decide_eq_true_eq, h1]; decide), if_neg (um (qad h2 _ (by decide))), if_neg (um (qad h2 _ (by decide))), if_neg (um (qad h2 _ (by decide))), if_neg (um (qad h2 _ (by decide))), if_neg (um (qad h2 _ (by decide)))]
theorem q1r (h1 : x.Kind = 1) (h2 : Nm x) (h3 : y.Text ≠ ⟨#[40]⟩) : Ck .prim (x :: y :: r) (.mk 19 x.Text [x.Lead] []) (y :: r) := Ql (m := 20 * (r.length + 2) + 1) (by unfold mu; simp only [List.length_cons]) fun f hf => by
 rw [qlm h1 h2]
 unfold qhk
 rw [qf7 h1 h2, bR_o, if_neg (um h3)]
theorem q1s (h1 : x.Kind = 1) (h2 : Nm x) (h3 : y.Text = ⟨#[40]⟩) (hb : Ck (.args 20 x.Text [x.Lead] []) (y :: r) n q) : Ck .prim (x :: y :: r) n q := Ql (m := 20 * (r.length + 2) + 1) (by unfold mu; simp only [List.length_cons]) fun f hf => by
 rw [qlm h1 h2]
 unfold qhk
 rw [qf7 h1 h2, bR_o, if_pos (Kk h3)]
 exact hb f (by unfold mu; simp only [List.length_cons]; omega)
theorem qyf {k : Int} {a : BA} {g : List BA} {ks : List Node} (h : x.Text = ⟨#[40]⟩) (hb : Ck (.argL true k a (g ++ [x.Lead]) ks) r n q) : Ck (.args k a g ks) (x :: r) n q := Ql (m := 20 * (r.length + 1)) (by unfold mu; simp only [List.length_cons]) fun f hf => by
 simp only [S]
 rw [vq h, bR_o]
 exact hb f (by unfold mu; simp only; omega)
theorem qyg {b : Bool} {k : Int} {a : BA} {g : List BA} {ks : List Node} (h : x.Text = ⟨#[41]⟩) : Ck (.argL b k a g ks) (x :: r) (.mk k a (g ++ [x.Lead]) ks) r := Ql (m := 20 * (r.length + 1) + 11) (by unfold mu; simp only [List.length_cons]) fun f hf => by
 simp only [S, argP]
 rw [if_pos (Kk h), vq h, bR_o]
theorem qrw {k : Int} {a : BA} {g : List BA} {ks : List Node} (h : x.Text ≠ ⟨#[41]⟩) (hb : Ck (.bin 1) (x :: r) n q) (hl : q.length ≤ r.length) (hk : Ck (.argL false k a g (ks ++ [n])) q N R) : Ck (.argL true k a g ks) (x :: r) N R := Ql (m := 20 * (r.length + 1) + 11) (by unfold mu; simp only [List.length_cons]) fun f hf => by
 simp only [S, argP, if_true]
 rw [if_neg (um h), hb f (by unfold mu; simp only [List.length_cons]; omega), bR_o]
 exact hk f (by unfold mu; simp only; omega)
theorem qva {k : Int} {a : BA} {g : List BA} {ks : List Node} (h : x.Text = ⟨#[44]⟩) (hb : Ck (.bin 1) r n q) (hl : q.length ≤ r.length) (hk : Ck (.argL false k a (g ++ [x.Lead]) (ks ++ [n])) q N R) : Ck (.argL false k a g ks) (x :: r) N R := Ql (m := 20 * (r.length + 1) + 11) (by unfold mu; simp only [List.length_cons]) fun f hf => by
 simp only [S, argP]
 rw [if_neg (um (by rw [h]; decide)), if_neg (by decide), vq h, bR_o, hb f (by unfold mu; simp only; omega), bR_o]
 exact hk f (by unfold mu; simp only; omega)
theorem qwo {B : List Token → Rs Node} {k : Int} {w : BA} (h : x.Text = w) (h1 : y.Kind = 1) (h2 : Nm y) (h3 : z.Text = ⟨#[61]⟩) (hb : B r = .ok (n, u :: q)) (h5 : u.Text = ⟨#[59]⟩) : Kb B k w (x :: y :: z :: r) = .ok (.mk k y.Text [x.Lead, y.Lead, z.Lead, u.Lead] [n], q) := by
 unfold Kb
 rw [vq h, bR_o, qf7 h1 h2, bR_o, vq h3, bR_o, hb, bR_o, vq h5, bR_o]
theorem q2s (h : x.Text = ⟨#[108, 101, 116]⟩) (h1 : y.Kind = 1) (h2 : Nm y) (h3 : z.Text = ⟨#[61]⟩) (hb : Ck (.bin 1) r n (u :: q)) (h5 : u.Text = ⟨#[59]⟩) : Ck .stmt (x :: y :: z :: r) (.mk 10 y.Text [x.Lead, y.Lead, z.Lead, u.Lead] [n]) q := Ql (m := 20 * (r.length + 3) + 12) (by unfold mu; simp only [List.length_cons]) fun f hf => by
 simp only [S]
 unfold Wm
 rw [if_pos (Kk h)]
 exact qwo h h1 h2 h3 (hb f (by unfold mu; simp only; omega)) h5
theorem q2p (h : x.Text = ⟨#[114, 101, 116, 117, 114, 110]⟩) (hb : Ck (.bin 1) r n (u :: q)) (h5 : u.Text = ⟨#[59]⟩) : Ck .stmt (x :: r) (.mk 12 ⟨#[]⟩ [x.Lead, u.Lead] [n]) q := Ql (m := 20 * (r.length + 1) + 12) (by unfold mu; simp only [List.length_cons]) fun f hf => by
 simp only [S]
 unfold Wm
 rw [if_neg (um (by rw [h]; decide)), if_pos (Kk h)]
 unfold retP
 rw [vq h, bR_o, hb f (by unfold mu; simp only; omega), bR_o, vq h5, bR_o]
theorem q2v {c : Node} (h : x.Text = ⟨#[105, 102]⟩) (hb : Ck (.bin 1) r n q) (hl : q.length ≤ r.length) (hc : Ck .blk q c (y :: R)) (h2 : y.Text ≠ ⟨#[101, 108, 115, 101]⟩) : Ck .stmt (x :: r) (.mk 13 ⟨#[]⟩ [x.Lead] [n, c, .mk 14 ⟨#[]⟩ [] []]) (y :: R) := Ql (m := 20 * (r.length + 1) + 12) (by unfold mu; simp only [List.length_cons]) fun f hf => by
 simp only [S]
 unfold Wm
 rw [if_neg (um (by rw [h]; decide)), if_neg (um (by rw [h]; decide)), if_pos (Kk h)]
 unfold ifP
 rw [vq h, bR_o, hb f (by unfold mu; simp only; omega), bR_o, hc f (by unfold mu; simp only; omega), bR_o]
 unfold qhh
 rw [if_neg (um h2), bR_o]
theorem q2u {c e : Node} {Q : List Token} (h : x.Text = ⟨#[105, 102]⟩) (hb : Ck (.bin 1) r n q) (hl : q.length ≤ r.length) (hc : Ck .blk q c (y :: R)) (hl2 : R.length ≤ q.length) (h2 : y.Text = ⟨#[101, 108, 115, 101]⟩) (he : Ck .blk R e Q) : Ck .stmt (x :: r) (.mk 13 ⟨#[]⟩ [x.Lead] [n, c, .mk 14 ⟨#[]⟩ [y.Lead] [e]]) Q := Ql (m := 20 * (r.length + 1) + 12) (by unfold mu; simp only [List.length_cons]) fun f hf => by
 simp only [S]
 unfold Wm
 rw [if_neg (um (by rw [h]; decide)), if_neg (um (by rw [h]; decide)), if_pos (Kk h)]
 unfold ifP
 rw [vq h, bR_o, hb f (by unfold mu; simp only; omega), bR_o, hc f (by unfold mu; simp only; omega), bR_o]
 unfold qhh
 rw [if_pos (Kk h2), vq h2, bR_o, he f (by unfold mu; simp only; omega), bR_o, bR_o]
theorem qzy {c : Node} (h : x.Text = ⟨#[119, 104, 105, 108, 101]⟩) (hb : Ck (.bin 1) r n q) (hl : q.length ≤ r.length) (hc : Ck .blk q c R) : Ck .stmt (x :: r) (.mk 15 ⟨#[]⟩ [x.Lead] [n, c]) R := Ql (m := 20 * (r.length + 1) + 12) (by unfold mu; simp only [List.length_cons]) fun f hf => by
 simp only [S]
 unfold Wm
 rw [if_neg (um (by rw [h]; decide)), if_neg (um (by rw [h]; decide)), if_neg (um (by rw [h]; decide)), if_pos (Kk h)]
 unfold qf5
 rw [vq h, bR_o, hb f (by unfold mu; simp only; omega), bR_o, hc f (by unfold mu; simp only; omega), bR_o]
theorem q2o (h1 : y.Kind = 1) (h2 : Nm y) (h3 : z.Text = ⟨#[61]⟩) (hb : Ck (.bin 1) r n (u :: q)) (h5 : u.Text = ⟨#[59]⟩) : Ck .stmt (y :: z :: r) (.mk 11 y.Text [y.Lead, z.Lead, u.Lead] [n]) q := Ql (m := 20 * (r.length + 2) + 12) (by unfold mu; simp only [List.length_cons]) fun f hf => by
 simp only [S]
 unfold Wm
 rw [if_neg (um (qad h2 _ (by decide))), if_neg (um (qad h2 _ (by decide))), if_neg (um (qad h2 _ (by decide))), if_neg (um (qad h2 _ (by decide))), if_pos (by rw [qss, decide_eq_true h1, show u1 y.Text.data.toList = true from h2]; show isT ⟨#[61]⟩ (z :: r) = true; exact Kk h3)]
 unfold setP
 rw [qf7 h1 h2, bR_o, vq h3, bR_o, hb f (by unfold mu; simp only; omega), bR_o, vq h5, bR_o]
def okE (w : BA) : Prop := w ≠ ⟨#[108, 101, 116]⟩ ∧ w ≠ ⟨#[114, 101, 116, 117, 114, 110]⟩ ∧ w ≠ ⟨#[105, 102]⟩ ∧ w ≠ ⟨#[119, 104, 105, 108, 101]⟩ ∧ w ≠ ⟨#[61]⟩ ∧ w ≠ ⟨#[101, 108, 115, 101]⟩ ∧ w ≠ ⟨#[125]⟩
theorem C_do (h : okE x.Text) (h2 : y.Text ≠ ⟨#[61]⟩) (hb : Ck (.bin 1) (x :: y :: r) n (u :: q)) (h5 : u.Text = ⟨#[59]⟩) : Ck .stmt (x :: y :: r) (.mk 16 ⟨#[]⟩ [u.Lead] [n]) q := Ql (m := 20 * (r.length + 2) + 12) (by unfold mu; simp only [List.length_cons]) fun f hf => by
 simp only [S]
 unfold Wm
 rw [if_neg (um h.1), if_neg (um h.2.1), if_neg (um h.2.2.1), if_neg (um h.2.2.2.1), if_neg (by rw [Bool.and_eq_true]; exact fun e => um h2 e.2)]
 unfold doP
 rw [hb f (by unfold mu; simp only [List.length_cons]; omega), bR_o, vq h5, bR_o]
theorem q2x (h : x.Text = ⟨#[123]⟩) (hb : Ck (.blkL [x.Lead] []) r n q) : Ck .blk (x :: r) n q := Ql (m := 20 * (r.length + 1)) (by unfold mu; simp only [List.length_cons]) fun f hf => by
 simp only [S]
 rw [vq h, bR_o]
 exact hb f (by unfold mu; simp only; omega)
theorem qyd {g : List BA} {ks : List Node} (h : x.Text = ⟨#[125]⟩) : Ck (.blkL g ks) (x :: r) (.mk 6 ⟨#[]⟩ (g ++ [x.Lead]) ks) r := Ql (m := 20 * (r.length + 1) + 13) (by unfold mu; simp only [List.length_cons]) fun f hf => by
 simp only [S, blkP]
 rw [if_pos (Kk h), vq h, bR_o]
theorem qu9 {g : List BA} {ks : List Node} (h : x.Text ≠ ⟨#[125]⟩) (hb : Ck .stmt (x :: r) n q) (hl : q.length ≤ r.length) (hk : Ck (.blkL g (ks ++ [n])) q N R) : Ck (.blkL g ks) (x :: r) N R := Ql (m := 20 * (r.length + 1) + 13) (by unfold mu; simp only [List.length_cons]) fun f hf => by
 simp only [S, blkP]
 rw [if_neg (um h), hb f (by unfold mu; simp only [List.length_cons]; omega), bR_o]
 exact hk f (by unfold mu; simp only; omega)
end
end Ps
end Go.Proofs.YtigmilhpeodhbaaDoorW.Ex.Gr
