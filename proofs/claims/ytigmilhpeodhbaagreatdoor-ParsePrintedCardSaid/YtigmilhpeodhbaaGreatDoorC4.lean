/- The words of a tree, trees that are the same, and steps of reading. Conditions: those in each theorem. Well-formed nodes of each kind, their words, and what their words are as tokens. Conditions: those in each theorem. An expression's words are read as the same expression. Conditions: those in each theorem. The words of statements, declarations and files are read as the same trees. Conditions: those in each theorem. The law ParsePrinted on the printed functions. Conditions: those in each theorem. -/
import Derived.Test.YtigmilhpeodhbaaGreatDoorB1
import Derived.Test.YtigmilhpeodhbaaGreatDoorKu
import Derived.Test.YtigmilhpeodhbaaGreatDoorB3
namespace Go.Proofs.YtigmilhpeodhbaaGreatDoorW.Ex.Gr
open Go Go.Proofs.YtigmilhpeodhbaaGreatDoorW.Ex Go.Proofs.YtigmilhpeodhbaaGreatDoorW.Plain
set_option linter.all false
set_option maxRecDepth 100000
namespace Ps
open Tk
def wdS : List Step → List (List BA) → List BA
 | [], _ => []
 | .own _ w :: r, ks => w :: wdS r ks
 | .kid _ _ :: r, k :: ks => k ++ wdS r ks
 | .kid _ _ :: r, [] => wdS r []
mutual
def wdN : Node → List BA
 | .mk k t _ ks => wdS (stepsOf 0 k t ks.length e0 0) (wdL ks)
def wdL : List Node → List (List BA)
 | [] => []
 | n :: l => wdN n :: wdL l
end
def shp : List Step → List (Option BA)
 | [] => []
 | .own _ w :: r => some w :: shp r
 | .kid _ _ :: r => none :: shp r
theorem qch : ∀ a b, shp (a ++ b) = shp a ++ shp b
 | [], b => rfl
 | .own c w :: a, b => by rw [List.cons_append, shp, shp, qch a b]; rfl
 | .kid c w :: a, b => by rw [List.cons_append, shp, shp, qch a b]; rfl
theorem qna (v v' : Int) : ∀ (r : Nat) (b : Bool), shp (kh v b r) = shp (kh v' b r)
 | 0, true => rfl
 | 0, false => rfl
 | r + 1, true => by rw [kh, kh, shp, shp, qna v v' r false]
 | r + 1, false => by rw [kh, kh, shp, shp, shp, shp, qna v v' r false]
theorem qme (l l' : BA) (v v' : Int) : ∀ r, shp (allS l v r) = shp (allS l' v' r)
 | 0 => rfl
 | r + 1 => by rw [allS, allS, shp, shp, qme l l' v v' r]
theorem quf (v v' : Int) : ∀ (r : Nat) (l l' : BA), shp (Q5 v l r) = shp (Q5 v' l' r)
 | 0, _, _ => rfl
 | r + 1, l, l' => by rw [Q5, Q5, shp, shp, quf v v' r _ _]
theorem sif {c : Prop} [Decidable c] {a b a' b' : List Step} (h1 : shp a = shp a') (h2 : shp b = shp b') : shp (if c then a else b) = shp (if c then a' else b') := by
 split
 ·exact h1
 exact h2
theorem q0r (k : Int) (t : BA) (nk : Nat) (l l' : BA) (v v' : Int) : shp (stepsOf 0 k t nk l v) = shp (stepsOf 0 k t nk l' v') := by
 unfold stepsOf qay qak
 repeat' refine sif ?_ ?_
 all_goals first
  | rfl
  | (rw [qch, qch, quf v v' nk l l']; rfl)
  | (rw [shp, shp, qch, qch, qme _ (qi0 (v' + 1)) _ (v' + 1)]; rfl)
  | (rw [shp, shp, shp, shp, shp, shp, shp, shp, qch, qch, qme _ (qi0 (v' + 1)) _ (v' + 1)]; rfl)
  | (simp only [shp, qna v v']; done)
  | (simp only [shp, qme sp sp v v']; done)
theorem qmd : ∀ (a b : List Step) (ks : List (List BA)), shp a = shp b → wdS a ks = wdS b ks
 | [], [], ks, _ => rfl
 | [], .own _ _ :: _, ks, h => by cases h
 | [], .kid _ _ :: _, ks, h => by cases h
 | .own c w :: a, [], ks, h => by cases h
 | .kid c w :: a, [], ks, h => by cases h
 | .own c w :: a, .own c' w' :: b, ks, h => by
   rw [shp, shp] at h
   obtain ⟨h1, h2⟩ := List.cons.inj h
   rw [wdS, wdS, qmd a b ks h2, Option.some.inj h1]
 | .own c w :: a, .kid _ _ :: b, ks, h => by rw [shp, shp] at h; exact absurd (List.cons.inj h).1 (by simp)
 | .kid c w :: a, .own _ _ :: b, ks, h => by rw [shp, shp] at h; exact absurd (List.cons.inj h).1 (by simp)
 | .kid c w :: a, .kid _ _ :: b, ks, h => by
   rw [shp, shp] at h
   have h2 := (List.cons.inj h).2
   cases ks with
   | nil => rw [wdS, wdS, qmd a b [] h2]
   | cons k ks => rw [wdS, wdS, qmd a b ks h2]
theorem qfl : ∀ (S : List Step) (g : List BA) (ks : List Node), (∀ m ∈ ks, ∀ l v, (toks 0 m l v).map (·.2) = wdN m) → (ke S g (ve 0 ks)).map (·.2) = wdS S (wdL ks)
 | [], g, ks, h => rfl
 | .own c w :: S, [], ks, h => by rw [ke, wdS, List.map_cons, qfl S [] ks h]
 | .own c w :: S, x :: g, ks, h => by rw [ke, wdS, List.map_cons, qfl S g ks h]
 | .kid l v :: S, g, [], h => by
   have := qfl S g [] h
   rw [ve, wdL] at this
   rw [ve, wdL, ke, wdS, this]
 | .kid l v :: S, g, m :: ks, h => by rw [ve, wdL, ke, wdS, List.map_append, h m (List.mem_cons_self ..) l v, qfl S g ks fun m hm => h m (List.mem_cons_of_mem _ hm)]
theorem qya : ∀ (j : Nat) (n : Node), wl n ≤ j → ∀ l v, (toks 0 n l v).map (·.2) = wdN n
 | 0, n, h, _, _ => by have := J1 n; omega
 | j + 1, n, h, l, v => by
   have e := Yg n
   rw [qd8, qfl _ _ _ fun m hm => qya j m (by
    obtain ⟨a, b, q⟩ := List.append_of_mem hm
    rw [q, W7, vt] at e
    omega)]
   cases n with
   | mk k t g ks => rw [wdN]; exact qmd _ _ _ (q0r k t ks.length l e0 v 0)
mutual
def sameN : Node → Node → Prop
 | .mk k t _ l, n => k = n.kind ∧ t = n.text ∧ Jx l n.kids
def Jx : List Node → List Node → Prop
 | [], l => l = []
 | n :: l, [] => False
 | n :: l, m :: r => sameN n m ∧ Jx l r
end
theorem wi {k : Int} {t : BA} {g : List BA} {l : List Node} {n : Node} (h1 : k = n.kind) (h2 : t = n.text) (h3 : Jx l n.kids) : sameN (.mk k t g l) n := by rw [sameN]; exact ⟨h1, h2, h3⟩
theorem qj5 : ∀ {a b : List Node}, Jx a b → a.length = b.length
 | [], b, h => by rw [Jx] at h; rw [h]
 | n :: a, [], h => by rw [Jx] at h; exact h.elim
 | n :: a, m :: b, h => by rw [Jx] at h; rw [List.length_cons, List.length_cons, qj5 h.2]
theorem yk : Jx [] [] := by rw [Jx]
theorem jf {n m : Node} {a b : List Node} (h : sameN n m) (h2 : Jx a b) : Jx (n :: a) (m :: b) := by rw [Jx]; exact ⟨h, h2⟩
def Ck (c : Cat) (t : List Token) (n : Node) (r : List Token) : Prop := ∀ f, mu c t.length ≤ f → S f c t = .ok (n, r)
theorem ux {c : Cat} {t : List Token} {n : Node} {r : List Token} {m : Nat} (hm : mu c t.length = m + 1) (h : ∀ f, m ≤ f → S (f + 1) c t = .ok (n, r)) : Ck c t n r := fun f hf => by
 obtain ⟨g, rfl⟩ : ∃ g, f = g + 1 := ⟨f - 1, by omega⟩
 exact h g (by omega)
section
variable {t r q : List Token} {x y z u : Token} {n m N : Node} {R : List Token} {v : Int}
theorem q4y (h6 : v = 6) (h : Ck .un t n r) : Ck (.bin v) t n r := ux (m := 20 * t.length + 3) (by subst h6; unfold mu; simp only; omega) fun f hf => by
 simp only [S]
 rw [if_pos (decide_eq_true (by omega))]
 exact h f hf
theorem q64 (h1 : 1 ≤ v) (h5 : v ≤ 5) (h : Ck (.bin (v + 1)) t n r) (hl : r.length < t.length) (h2 : Ck (.binL v n) r N R) : Ck (.bin v) t N R := ux (m := 20 * t.length + (9 - v).toNat) (by unfold mu; simp only; omega) fun f hf => by
 simp only [S]
 rw [if_neg (by rw [decide_eq_true_eq]; omega), h f (by unfold mu; simp only; omega)]
 exact h2 f (by unfold mu; simp only; omega)
theorem q4r (h : jx x.Text ≠ v) : Ck (.binL v m) (x :: r) m (x :: r) := ux rfl fun f hf => by
 simp only [S, binP]
 rw [if_neg (by rw [decide_eq_true_eq]; exact h)]
theorem C_go (h1 : 1 ≤ v) (h5 : v ≤ 5) (h : jx x.Text = v) (h3 : v ≠ 3) (hb : Ck (.bin (v + 1)) r n q) (hl : q.length ≤ r.length) (h2 : Ck (.binL v (.mk 24 x.Text [x.Lead] [m, n])) q N R) : Ck (.binL v m) (x :: r) N R := ux (m := 20 * (r.length + 1)) (by unfold mu; simp only [List.length_cons]) fun f hf => by
 simp only [S, binP]
 rw [if_pos (decide_eq_true h), hb f (by unfold mu; simp only; omega), bR_o, if_neg (by rw [decide_eq_true_eq]; exact h3)]
 exact h2 f (by unfold mu; simp only; omega)
theorem q9z (h : jx x.Text = 3) (hb : Ck (.bin 4) r n q) : Ck (.binL 3 m) (x :: r) (.mk 24 x.Text [x.Lead] [m, n]) q := ux (m := 20 * (r.length + 1)) (by unfold mu; simp only [List.length_cons]) fun f hf => by
 simp only [S, binP]
 rw [if_pos (decide_eq_true h), show (3 : Int) + 1 = 4 from rfl, hb f (by unfold mu; simp only; omega), bR_o, if_pos (by decide)]
theorem q8p (h : x.Text = ⟨#[45]⟩ ∨ x.Text = ⟨#[33]⟩) (hb : Ck .un r n q) : Ck .un (x :: r) (.mk 25 x.Text [x.Lead] [n]) q := ux (m := 20 * (r.length + 1) + 2) (by unfold mu; simp only [List.length_cons]) fun f hf => by
 simp only [S, unP]
 rcases h with h | h
 ·rw [if_pos (show isT _ (x :: r) = true from decide_eq_true h), hb f (by unfold mu; simp only; omega), bR_o]
 rw [if_neg (show ¬ isT _ (x :: r) = true from fun e => absurd (h.symm.trans (of_decide_eq_true e)) (by decide)), if_pos (show isT _ (x :: r) = true from decide_eq_true h), hb f (by unfold mu; simp only; omega), bR_o]
theorem q4q (h1 : x.Text ≠ ⟨#[45]⟩) (h2 : x.Text ≠ ⟨#[33]⟩) (hb : Ck .prim (x :: r) n q) (hl : q.length ≤ r.length) (h : Ck (.unL n) q N R) : Ck .un (x :: r) N R := ux (m := 20 * (r.length + 1) + 2) (by unfold mu; simp only [List.length_cons]) fun f hf => by
 simp only [S, unP]
 rw [if_neg (show ¬ isT _ (x :: r) = true from fun e => h1 (of_decide_eq_true e)), if_neg (show ¬ isT _ (x :: r) = true from fun e => h2 (of_decide_eq_true e)), hb f (by unfold mu; simp only [List.length_cons]; omega), bR_o]
 exact h f (by unfold mu; simp only; omega)
theorem q4p (h : x.Text ≠ ⟨#[46]⟩) : Ck (.unL m) (x :: r) m (x :: r) := ux rfl fun f hf => by
 simp only [S]
 rw [if_neg (show ¬ isT _ (x :: r) = true from fun e => h (of_decide_eq_true e))]
theorem ug {w : BA} (h : x.Text = w) : tkT w (x :: r) = .ok (x.Lead, r) := if_pos (decide_eq_true h)
theorem Wz (h1 : x.Kind = 1) (h2 : Nm x) : tkN (x :: r) = .ok ((x.Text, x.Lead), r) := if_pos (by rw [decide_eq_true h1]; exact h2)
theorem Yv {w : BA} (h : x.Text = w) : isT w (x :: r) = true := decide_eq_true h
theorem uh {w : BA} (h : x.Text ≠ w) : ¬ isT w (x :: r) = true := fun e => h (of_decide_eq_true e)
theorem q8q (h : x.Text = ⟨#[46]⟩) (h1 : y.Kind = 1) (h2 : Nm y) (hb : Ck (.args 21 y.Text [x.Lead, y.Lead] [m]) r n q) (hl : q.length ≤ r.length) (hk : Ck (.unL n) q N R) : Ck (.unL m) (x :: y :: r) N R := ux (m := 20 * (r.length + 2)) (by unfold mu; simp only [List.length_cons]) fun f hf => by
 simp only [S]
 rw [if_pos (Yv h)]
 simp only [quh]
 rw [ug h, bR_o, Wz h1 h2, bR_o, hb f (by unfold mu; simp only; omega), bR_o]
 exact hk f (by unfold mu; simp only; omega)
theorem q9w (h : x.Kind = 2) : Ck .prim (x :: r) (.mk 17 x.Text [x.Lead] []) r := ux (m := 20 * (r.length + 1) + 1) (by unfold mu; simp only [List.length_cons]) fun f hf => by
 simp only [S, qg9]
 rw [if_pos (decide_eq_true h)]
theorem q4o (k : Int) (h0 : x.Kind ≠ 2) (h : (x.Text = ⟨#[116, 114, 117, 101]⟩ ∧ k = 18) ∨ (x.Text = ⟨#[102, 97, 108, 115, 101]⟩ ∧ k = 18) ∨ (x.Text = ⟨#[115, 101, 108, 102]⟩ ∧ k = 23)) : Ck .prim (x :: r) (.mk k x.Text [x.Lead] []) r := ux (m := 20 * (r.length + 1) + 1) (by unfold mu; simp only [List.length_cons]) fun f hf => by
 simp only [S, qg9]
 rw [if_neg (by rw [decide_eq_true_eq]; exact h0)]
 rcases h with ⟨h, rfl⟩ | ⟨h, rfl⟩ | ⟨h, rfl⟩
 ·rw [if_pos (Yv h)]
 ·rw [if_neg (uh (by rw [h]; decide)), if_pos (Yv h)]
 rw [if_neg (uh (by rw [h]; decide)), if_neg (uh (by rw [h]; decide)), if_pos (Yv h)]
theorem q9u (h0 : x.Kind ≠ 2) (h : x.Text = ⟨#[110, 101, 119]⟩) (h1 : y.Kind = 1) (h2 : Nm y) (h3 : z.Text = ⟨#[40]⟩) (h4 : u.Text = ⟨#[41]⟩) : Ck .prim (x :: y :: z :: u :: r) (.mk 22 y.Text [x.Lead, y.Lead, z.Lead, u.Lead] []) r := ux (m := 20 * (r.length + 4) + 1) (by unfold mu; simp only [List.length_cons]) fun f hf => by
 simp only [S, qg9]
 rw [if_neg (by rw [decide_eq_true_eq]; exact h0), if_neg (uh (by rw [h]; decide)), if_neg (uh (by rw [h]; decide)), if_neg (uh (by rw [h]; decide)), if_pos (Yv h)]
 unfold newP
 rw [ug h, bR_o, Wz h1 h2, bR_o, ug h3, bR_o, ug h4, bR_o]
theorem q9t (h0 : x.Kind ≠ 2) (h : x.Text = ⟨#[40]⟩) (hb : Ck (.bin 1) r n (y :: q)) (h2 : y.Text = ⟨#[41]⟩) : Ck .prim (x :: r) (.mk 26 ⟨#[]⟩ [x.Lead, y.Lead] [n]) q := ux (m := 20 * (r.length + 1) + 1) (by unfold mu; simp only [List.length_cons]) fun f hf => by
 simp only [S, qg9]
 rw [if_neg (by rw [decide_eq_true_eq]; exact h0), if_neg (uh (by rw [h]; decide)), if_neg (uh (by rw [h]; decide)), if_neg (uh (by rw [h]; decide)), if_neg (uh (by rw [h]; decide)), if_pos (Yv h)]
 unfold parP
 rw [ug h, bR_o, hb f (by unfold mu; simp only; omega), bR_o, ug h2, bR_o]
theorem qcj (h : Nm x) (l : Array UInt8) (hl : vc l.toList = false) : x.Text ≠ ⟨l⟩ := fun e => by
 unfold Nm at h
 rw [e] at h
 exact absurd (h.symm.trans hl) (by decide)
theorem qqu (h1 : x.Kind = 1) (h2 : Nm x) (f : Nat) : S (f + 1) .prim (x :: r) = qlv (fun a g => S f (.args 20 a [g] [])) (x :: r) := by
 simp only [S, qg9]
 rw [if_neg (by rw [decide_eq_true_eq, h1]; decide), if_neg (uh (qcj h2 _ (by decide))), if_neg (uh (qcj h2 _ (by decide))), if_neg (uh (qcj h2 _ (by decide))), if_neg (uh (qcj h2 _ (by decide))), if_neg (uh (qcj h2 _ (by decide)))]
theorem q8r (h1 : x.Kind = 1) (h2 : Nm x) (h3 : y.Text ≠ ⟨#[40]⟩) : Ck .prim (x :: y :: r) (.mk 19 x.Text [x.Lead] []) (y :: r) := ux (m := 20 * (r.length + 2) + 1) (by unfold mu; simp only [List.length_cons]) fun f hf => by
 rw [qqu h1 h2]
 unfold qlv
 rw [Wz h1 h2, bR_o, if_neg (uh h3)]
theorem q8v (h1 : x.Kind = 1) (h2 : Nm x) (h3 : y.Text = ⟨#[40]⟩) (hb : Ck (.args 20 x.Text [x.Lead] []) (y :: r) n q) : Ck .prim (x :: y :: r) n q := ux (m := 20 * (r.length + 2) + 1) (by unfold mu; simp only [List.length_cons]) fun f hf => by
 rw [qqu h1 h2]
 unfold qlv
 rw [Wz h1 h2, bR_o, if_pos (Yv h3)]
 exact hb f (by unfold mu; simp only [List.length_cons]; omega)
theorem q4z {k : Int} {a : BA} {g : List BA} {ks : List Node} (h : x.Text = ⟨#[40]⟩) (hb : Ck (.argL true k a (g ++ [x.Lead]) ks) r n q) : Ck (.args k a g ks) (x :: r) n q := ux (m := 20 * (r.length + 1)) (by unfold mu; simp only [List.length_cons]) fun f hf => by
 simp only [S]
 rw [ug h, bR_o]
 exact hb f (by unfold mu; simp only; omega)
theorem q40 {b : Bool} {k : Int} {a : BA} {g : List BA} {ks : List Node} (h : x.Text = ⟨#[41]⟩) : Ck (.argL b k a g ks) (x :: r) (.mk k a (g ++ [x.Lead]) ks) r := ux (m := 20 * (r.length + 1) + 11) (by unfold mu; simp only [List.length_cons]) fun f hf => by
 simp only [S, argP]
 rw [if_pos (Yv h), ug h, bR_o]
theorem qx0 {k : Int} {a : BA} {g : List BA} {ks : List Node} (h : x.Text ≠ ⟨#[41]⟩) (hb : Ck (.bin 1) (x :: r) n q) (hl : q.length ≤ r.length) (hk : Ck (.argL false k a g (ks ++ [n])) q N R) : Ck (.argL true k a g ks) (x :: r) N R := ux (m := 20 * (r.length + 1) + 11) (by unfold mu; simp only [List.length_cons]) fun f hf => by
 simp only [S, argP, if_true]
 rw [if_neg (uh h), hb f (by unfold mu; simp only [List.length_cons]; omega), bR_o]
 exact hk f (by unfold mu; simp only; omega)
theorem q1j {k : Int} {a : BA} {g : List BA} {ks : List Node} (h : x.Text = ⟨#[44]⟩) (hb : Ck (.bin 1) r n q) (hl : q.length ≤ r.length) (hk : Ck (.argL false k a (g ++ [x.Lead]) (ks ++ [n])) q N R) : Ck (.argL false k a g ks) (x :: r) N R := ux (m := 20 * (r.length + 1) + 11) (by unfold mu; simp only [List.length_cons]) fun f hf => by
 simp only [S, argP]
 rw [if_neg (uh (by rw [h]; decide)), if_neg (by decide), ug h, bR_o, hb f (by unfold mu; simp only; omega), bR_o]
 exact hk f (by unfold mu; simp only; omega)
theorem qux {B : List Token → Rs Node} {k : Int} {w : BA} (h : x.Text = w) (h1 : y.Kind = 1) (h2 : Nm y) (h3 : z.Text = ⟨#[61]⟩) (hb : B r = .ok (n, u :: q)) (h5 : u.Text = ⟨#[59]⟩) : qal B k w (x :: y :: z :: r) = .ok (.mk k y.Text [x.Lead, y.Lead, z.Lead, u.Lead] [n], q) := by
 unfold qal
 rw [ug h, bR_o, Wz h1 h2, bR_o, ug h3, bR_o, hb, bR_o, ug h5, bR_o]
theorem q9v (h : x.Text = ⟨#[108, 101, 116]⟩) (h1 : y.Kind = 1) (h2 : Nm y) (h3 : z.Text = ⟨#[61]⟩) (hb : Ck (.bin 1) r n (u :: q)) (h5 : u.Text = ⟨#[59]⟩) : Ck .stmt (x :: y :: z :: r) (.mk 10 y.Text [x.Lead, y.Lead, z.Lead, u.Lead] [n]) q := ux (m := 20 * (r.length + 3) + 12) (by unfold mu; simp only [List.length_cons]) fun f hf => by
 simp only [S]
 unfold qcf
 rw [if_pos (Yv h)]
 exact qux h h1 h2 h3 (hb f (by unfold mu; simp only; omega)) h5
theorem q9s (h : x.Text = ⟨#[114, 101, 116, 117, 114, 110]⟩) (hb : Ck (.bin 1) r n (u :: q)) (h5 : u.Text = ⟨#[59]⟩) : Ck .stmt (x :: r) (.mk 12 ⟨#[]⟩ [x.Lead, u.Lead] [n]) q := ux (m := 20 * (r.length + 1) + 12) (by unfold mu; simp only [List.length_cons]) fun f hf => by
 simp only [S]
 unfold qcf
 rw [if_neg (uh (by rw [h]; decide)), if_pos (Yv h)]
 unfold retP
 rw [ug h, bR_o, hb f (by unfold mu; simp only; omega), bR_o, ug h5, bR_o]
theorem q9y {c : Node} (h : x.Text = ⟨#[105, 102]⟩) (hb : Ck (.bin 1) r n q) (hl : q.length ≤ r.length) (hc : Ck .blk q c (y :: R)) (h2 : y.Text ≠ ⟨#[101, 108, 115, 101]⟩) : Ck .stmt (x :: r) (.mk 13 ⟨#[]⟩ [x.Lead] [n, c, .mk 14 ⟨#[]⟩ [] []]) (y :: R) := ux (m := 20 * (r.length + 1) + 12) (by unfold mu; simp only [List.length_cons]) fun f hf => by
 simp only [S]
 unfold qcf
 rw [if_neg (uh (by rw [h]; decide)), if_neg (uh (by rw [h]; decide)), if_pos (Yv h)]
 unfold ifP
 rw [ug h, bR_o, hb f (by unfold mu; simp only; omega), bR_o, hc f (by unfold mu; simp only; omega), bR_o]
 unfold qls
 rw [if_neg (uh h2), bR_o]
theorem q9x {c e : Node} {Q : List Token} (h : x.Text = ⟨#[105, 102]⟩) (hb : Ck (.bin 1) r n q) (hl : q.length ≤ r.length) (hc : Ck .blk q c (y :: R)) (hl2 : R.length ≤ q.length) (h2 : y.Text = ⟨#[101, 108, 115, 101]⟩) (he : Ck .blk R e Q) : Ck .stmt (x :: r) (.mk 13 ⟨#[]⟩ [x.Lead] [n, c, .mk 14 ⟨#[]⟩ [y.Lead] [e]]) Q := ux (m := 20 * (r.length + 1) + 12) (by unfold mu; simp only [List.length_cons]) fun f hf => by
 simp only [S]
 unfold qcf
 rw [if_neg (uh (by rw [h]; decide)), if_neg (uh (by rw [h]; decide)), if_pos (Yv h)]
 unfold ifP
 rw [ug h, bR_o, hb f (by unfold mu; simp only; omega), bR_o, hc f (by unfold mu; simp only; omega), bR_o]
 unfold qls
 rw [if_pos (Yv h2), ug h2, bR_o, he f (by unfold mu; simp only; omega), bR_o, bR_o]
theorem q6n {c : Node} (h : x.Text = ⟨#[119, 104, 105, 108, 101]⟩) (hb : Ck (.bin 1) r n q) (hl : q.length ≤ r.length) (hc : Ck .blk q c R) : Ck .stmt (x :: r) (.mk 15 ⟨#[]⟩ [x.Lead] [n, c]) R := ux (m := 20 * (r.length + 1) + 12) (by unfold mu; simp only [List.length_cons]) fun f hf => by
 simp only [S]
 unfold qcf
 rw [if_neg (uh (by rw [h]; decide)), if_neg (uh (by rw [h]; decide)), if_neg (uh (by rw [h]; decide)), if_pos (Yv h)]
 unfold qj0
 rw [ug h, bR_o, hb f (by unfold mu; simp only; omega), bR_o, hc f (by unfold mu; simp only; omega), bR_o]
theorem q9r (h1 : y.Kind = 1) (h2 : Nm y) (h3 : z.Text = ⟨#[61]⟩) (hb : Ck (.bin 1) r n (u :: q)) (h5 : u.Text = ⟨#[59]⟩) : Ck .stmt (y :: z :: r) (.mk 11 y.Text [y.Lead, z.Lead, u.Lead] [n]) q := ux (m := 20 * (r.length + 2) + 12) (by unfold mu; simp only [List.length_cons]) fun f hf => by
 simp only [S]
 unfold qcf
 rw [if_neg (uh (qcj h2 _ (by decide))), if_neg (uh (qcj h2 _ (by decide))), if_neg (uh (qcj h2 _ (by decide))), if_neg (uh (qcj h2 _ (by decide))), if_pos (by rw [qyu, decide_eq_true h1, show vc y.Text.data.toList = true from h2]; show isT ⟨#[61]⟩ (z :: r) = true; exact Yv h3)]
 unfold setP
 rw [Wz h1 h2, bR_o, ug h3, bR_o, hb f (by unfold mu; simp only; omega), bR_o, ug h5, bR_o]
def okE (w : BA) : Prop := w ≠ ⟨#[108, 101, 116]⟩ ∧ w ≠ ⟨#[114, 101, 116, 117, 114, 110]⟩ ∧ w ≠ ⟨#[105, 102]⟩ ∧ w ≠ ⟨#[119, 104, 105, 108, 101]⟩ ∧ w ≠ ⟨#[61]⟩ ∧ w ≠ ⟨#[101, 108, 115, 101]⟩ ∧ w ≠ ⟨#[125]⟩
theorem C_do (h : okE x.Text) (h2 : y.Text ≠ ⟨#[61]⟩) (hb : Ck (.bin 1) (x :: y :: r) n (u :: q)) (h5 : u.Text = ⟨#[59]⟩) : Ck .stmt (x :: y :: r) (.mk 16 ⟨#[]⟩ [u.Lead] [n]) q := ux (m := 20 * (r.length + 2) + 12) (by unfold mu; simp only [List.length_cons]) fun f hf => by
 simp only [S]
 unfold qcf
 rw [if_neg (uh h.1), if_neg (uh h.2.1), if_neg (uh h.2.2.1), if_neg (uh h.2.2.2.1), if_neg (by rw [Bool.and_eq_true]; exact fun e => uh h2 e.2)]
 unfold doP
 rw [hb f (by unfold mu; simp only [List.length_cons]; omega), bR_o, ug h5, bR_o]
theorem q90 (h : x.Text = ⟨#[123]⟩) (hb : Ck (.blkL [x.Lead] []) r n q) : Ck .blk (x :: r) n q := ux (m := 20 * (r.length + 1)) (by unfold mu; simp only [List.length_cons]) fun f hf => by
 simp only [S]
 rw [ug h, bR_o]
 exact hb f (by unfold mu; simp only; omega)
theorem q4x {g : List BA} {ks : List Node} (h : x.Text = ⟨#[125]⟩) : Ck (.blkL g ks) (x :: r) (.mk 6 ⟨#[]⟩ (g ++ [x.Lead]) ks) r := ux (m := 20 * (r.length + 1) + 13) (by unfold mu; simp only [List.length_cons]) fun f hf => by
 simp only [S, blkP]
 rw [if_pos (Yv h), ug h, bR_o]
theorem q1i {g : List BA} {ks : List Node} (h : x.Text ≠ ⟨#[125]⟩) (hb : Ck .stmt (x :: r) n q) (hl : q.length ≤ r.length) (hk : Ck (.blkL g (ks ++ [n])) q N R) : Ck (.blkL g ks) (x :: r) N R := ux (m := 20 * (r.length + 1) + 13) (by unfold mu; simp only [List.length_cons]) fun f hf => by
 simp only [S, blkP]
 rw [if_neg (uh h), hb f (by unfold mu; simp only [List.length_cons]; omega), bR_o]
 exact hk f (by unfold mu; simp only; omega)
theorem quu (h1 : x.Kind = 1) (h2 : Nm x) (h3 : y.Kind = 1) (h4 : Nm y) : W0 (x :: y :: r) = .ok (.mk 4 x.Text [x.Lead] [.mk 5 y.Text [y.Lead] []], r) := by
 unfold W0
 rw [Wz h1 h2, bR_o, Wz h3 h4, bR_o]
theorem q4s {g : List BA} {ks : List Node} (h : x.Text = ⟨#[41]⟩) : Ck (.parL g ks) (x :: r) (.mk 3 ⟨#[]⟩ (g ++ [x.Lead]) ks) r := ux (m := 20 * (r.length + 1)) (by unfold mu; simp only [List.length_cons]) fun f hf => by
 simp only [S, qnu]
 rw [if_pos (Yv h), ug h, bR_o]
theorem qxy {g : List BA} (h1 : x.Kind = 1) (h2 : Nm x) (h3 : y.Kind = 1) (h4 : Nm y) (hk : Ck (.parL g [.mk 4 x.Text [x.Lead] [.mk 5 y.Text [y.Lead] []]]) r N R) : Ck (.parL g []) (x :: y :: r) N R := ux (m := 20 * (r.length + 2)) (by unfold mu; simp only [List.length_cons]) fun f hf => by
 simp only [S, qnu]
 rw [if_neg (uh (qcj h2 _ (by decide))), if_neg (by simp), quu h1 h2 h3 h4, bR_o]
 exact hk f (by unfold mu; simp only; omega)
theorem q1g {g : List BA} {ks : List Node} (h0 : 0 < ks.length) (h : z.Text = ⟨#[44]⟩) (h1 : x.Kind = 1) (h2 : Nm x) (h3 : y.Kind = 1) (h4 : Nm y) (hk : Ck (.parL (g ++ [z.Lead]) (ks ++ [.mk 4 x.Text [x.Lead] [.mk 5 y.Text [y.Lead] []]])) r N R) : Ck (.parL g ks) (z :: x :: y :: r) N R := ux (m := 20 * (r.length + 3)) (by unfold mu; simp only [List.length_cons]) fun f hf => by
 simp only [S, qnu]
 rw [if_neg (uh (by rw [h]; decide)), if_pos (decide_eq_true h0), ug h, bR_o, quu h1 h2 h3 h4, bR_o]
 exact hk f (by unfold mu; simp only; omega)
theorem q8s {w : Token} {p c : Node} (h : x.Text = ⟨#[102, 110]⟩) (h1 : y.Kind = 1) (h2 : Nm y) (h3 : z.Text = ⟨#[40]⟩) (hp : Ck (.parL [z.Lead] []) r p (w :: q)) (hl : q.length ≤ r.length) (h4 : w.Kind = 1) (h5 : Nm w) (hc : Ck .blk q c R) : Ck .func (x :: y :: z :: r) (.mk 2 y.Text [x.Lead, y.Lead] [p, .mk 5 w.Text [w.Lead] [], c]) R := ux (m := 20 * (r.length + 3)) (by unfold mu; simp only [List.length_cons]) fun f hf => by
 simp only [S, funP]
 rw [ug h, bR_o, Wz h1 h2, bR_o, ug h3, bR_o, hp f (by unfold mu; simp only; omega), bR_o]
 unfold funK
 rw [Wz h4 h5, bR_o, hc f (by unfold mu; simp only; omega), bR_o]
theorem q4w {a : BA} {g : List BA} {ks : List Node} (h : x.Text = ⟨#[125]⟩) : Ck (.clsL a g ks) (x :: r) (.mk 7 a (g ++ [x.Lead]) ks) r := ux (m := 20 * (r.length + 1) + 1) (by unfold mu; simp only [List.length_cons]) fun f hf => by
 simp only [S, qrd]
 rw [if_neg (uh (by rw [h]; decide)), ug h, bR_o]
theorem q1h {a : BA} {g : List BA} {ks : List Node} (h : x.Text = ⟨#[102, 110]⟩) (hb : Ck .func (x :: r) n q) (hl : q.length ≤ r.length) (hk : Ck (.clsL a g (ks ++ [n])) q N R) : Ck (.clsL a g ks) (x :: r) N R := ux (m := 20 * (r.length + 1) + 1) (by unfold mu; simp only [List.length_cons]) fun f hf => by
 simp only [S, qrd]
 rw [if_pos (Yv h), hb f (by unfold mu; simp only [List.length_cons]; omega), bR_o]
 exact hk f (by unfold mu; simp only; omega)
theorem q8u (h : x.Text = ⟨#[99, 108, 97, 115, 115]⟩) (h1 : y.Kind = 1) (h2 : Nm y) (h3 : z.Text = ⟨#[123]⟩) (hk : Ck (.clsL y.Text [x.Lead, y.Lead, z.Lead] [.mk 8 ⟨#[]⟩ [] []]) r N R) : Ck .cls (x :: y :: z :: r) N R := ux (m := 20 * (r.length + 3)) (by unfold mu; simp only [List.length_cons]) fun f hf => by
 simp only [S, clsP]
 rw [ug h, bR_o, Wz h1 h2, bR_o]
 unfold qlw
 rw [if_neg (uh (by rw [h3]; decide)), bR_o, ug h3, bR_o]
 exact hk f (by unfold mu; simp only; omega)
theorem q8t {w : Token} (h : x.Text = ⟨#[99, 108, 97, 115, 115]⟩) (h1 : y.Kind = 1) (h2 : Nm y) (h4 : u.Text = ⟨#[58]⟩) (h5 : w.Kind = 1) (h6 : Nm w) (h3 : z.Text = ⟨#[123]⟩) (hk : Ck (.clsL y.Text [x.Lead, y.Lead, z.Lead] [.mk 8 w.Text [u.Lead, w.Lead] []]) r N R) : Ck .cls (x :: y :: u :: w :: z :: r) N R := ux (m := 20 * (r.length + 5)) (by unfold mu; simp only [List.length_cons]) fun f hf => by
 simp only [S, clsP]
 rw [ug h, bR_o, Wz h1 h2, bR_o]
 unfold qlw
 rw [if_pos (Yv h4), ug h4, bR_o, Wz h5 h6, bR_o, bR_o, ug h3, bR_o]
 exact hk f (by unfold mu; simp only; omega)
theorem q4u {ks : List Node} (h : x.Kind = 4) : Ck (.file ks) (x :: r) (.mk 1 ⟨#[]⟩ [x.Lead] ks) (x :: r) := ux (m := 20 * (r.length + 1) + 11) (by unfold mu; simp only [List.length_cons]) fun f hf => by
 simp only [S, qlo]
 rw [if_pos (decide_eq_true h)]
theorem q6o {ks : List Node} (h0 : x.Kind ≠ 4) (h : x.Text = ⟨#[102, 110]⟩) (hb : Ck .func (x :: r) n q) (hl : q.length ≤ r.length) (hk : Ck (.file (ks ++ [n])) q N R) : Ck (.file ks) (x :: r) N R := ux (m := 20 * (r.length + 1) + 11) (by unfold mu; simp only [List.length_cons]) fun f hf => by
 simp only [S, qlo]
 rw [if_neg (by rw [decide_eq_true_eq]; exact h0), if_pos (Yv h), hb f (by unfold mu; simp only [List.length_cons]; omega), bR_o]
 exact hk f (by unfold mu; simp only; omega)
theorem q4v {ks : List Node} (h0 : x.Kind ≠ 4) (h : x.Text = ⟨#[99, 108, 97, 115, 115]⟩) (hb : Ck .cls (x :: r) n q) (hl : q.length ≤ r.length) (hk : Ck (.file (ks ++ [n])) q N R) : Ck (.file ks) (x :: r) N R := ux (m := 20 * (r.length + 1) + 11) (by unfold mu; simp only [List.length_cons]) fun f hf => by
 simp only [S, qlo]
 rw [if_neg (by rw [decide_eq_true_eq]; exact h0), if_neg (uh (by rw [h]; decide)), if_pos (Yv h), hb f (by unfold mu; simp only [List.length_cons]; omega), bR_o]
 exact hk f (by unfold mu; simp only; omega)
theorem qxz {ks : List Node} (h0 : x.Kind ≠ 4) (h : x.Text = ⟨#[99, 111, 110, 115, 116]⟩) (h1 : y.Kind = 1) (h2 : Nm y) (h3 : z.Text = ⟨#[61]⟩) (hb : Ck (.bin 1) r n (u :: q)) (hl : q.length ≤ r.length) (h5 : u.Text = ⟨#[59]⟩) (hk : Ck (.file (ks ++ [.mk 9 y.Text [x.Lead, y.Lead, z.Lead, u.Lead] [n]])) q N R) : Ck (.file ks) (x :: y :: z :: r) N R := ux (m := 20 * (r.length + 3) + 11) (by unfold mu; simp only [List.length_cons]) fun f hf => by
 simp only [S, qlo]
 rw [if_neg (by rw [decide_eq_true_eq]; exact h0), if_neg (uh (by rw [h]; decide)), if_neg (uh (by rw [h]; decide)), if_pos (Yv h), qux h h1 h2 h3 (hb f (by unfold mu; simp only; omega)) h5, bR_o]
 exact hk f (by unfold mu; simp only; omega)
end
end Ps
end Go.Proofs.YtigmilhpeodhbaaGreatDoorW.Ex.Gr

namespace Go.Proofs.YtigmilhpeodhbaaGreatDoorW.Ex.Gr
open Go Go.Proofs.YtigmilhpeodhbaaGreatDoorW.Ex Go.Proofs.YtigmilhpeodhbaaGreatDoorW.Plain
set_option linter.all false
set_option maxRecDepth 100000
namespace Ps
open Tk
structure IN (n : Node) : Prop where
 kn : known n.kind = true
 nk : nkOk n.kind n.kids.length
 ks : ∀ m ∈ n.kids, firstErr m = 0
 ft : ∀ (i : Nat) (m : Node), n.kids[i]? = some m → fits n.kind i m.kind = true
 sp : spelledOk n = true
 lv : levelsOk n = true
 ca : calledOk n = true
theorem inn {n : Node} (h : firstErr n = 0) : IN n := by
 obtain ⟨h1, h2⟩ := qjc h
 obtain ⟨a1, a2, a3, a4, a5, a6⟩ := qml h1
 refine ⟨a1, q6y a1 a2, h2, fun i m hm => ?_, a3, a4, a5⟩
 unfold Ja at a2
 by_cases h14 : n.kind = 14 ∧ n.kids.length = 0
 ·rw [List.length_eq_zero_iff.1 h14.2] at hm; cases i <;> cases hm
 rw [if_neg h14] at a2
 split at a2
 ·cases a2
 have := qtb (fun (i : Nat) (m : Node) => fits n.kind i m.kind) n.kids 0 a2 i m hm
 rw [Nat.zero_add] at this
 exact this
theorem Zr {p k : Int} {i : Nat} {q : Int × Int} (h : fits p i k = true) (hq : Zy p (i : Int) = q) : if q.2 = 0 then q.1 = k else q.2 = zv k := by
 unfold fits at h
 rw [hq] at h
 simp only [Bool.and_eq_true] at h
 have h := h.2
 split at h
 ·rename_i e; rw [if_pos e]; exact of_decide_eq_true h
 rename_i e; rw [if_neg e]; exact of_decide_eq_true h
section
variable {t : BA} {g : List BA} {ks : List Node}
theorem qf1 {k : Int} (h : firstErr (.mk k t g ks) = 0) (hf : (z7 k).first = []) {q : Int × Int} (hr : (z7 k).rest = q) : ∀ m ∈ ks, firstErr m = 0 ∧ (if q.2 = 0 then q.1 = m.kind else q.2 = zv m.kind) := fun m hm => by
 have w := inn h
 obtain ⟨i, hi⟩ := List.getElem?_of_mem hm
 refine ⟨w.ks m hm, Zr (w.ft i m hi) ?_⟩
 unfold Zy
 show (if (i : Int) < (z7 k).first.length then _ else (z7 k).rest) = q
 rw [hf, if_neg (by simp), hr]
theorem qy8 {k : Int} (h : firstErr (.mk k t g ks) = 0) (hn : nkOk k ks.length = (ks.length = 1)) {q : Int × Int} (hq : Zy k 0 = q) : ∃ a, ks = [a] ∧ firstErr a = 0 ∧ (if q.2 = 0 then q.1 = a.kind else q.2 = zv a.kind) := by
 have w := inn h
 have hl : ks.length = 1 := hn ▸ w.nk
 obtain ⟨a, rfl⟩ := List.length_eq_one_iff.1 hl
 exact ⟨a, rfl, w.ks a (List.mem_cons_self ..), Zr (w.ft 0 a rfl) hq⟩
theorem qbp {k : Int} (h : firstErr (.mk k t g ks) = 0) (hn : nkOk k ks.length = (ks.length = 0)) : ks = [] := by
 have w := inn h
 have hl : ks.length = 0 := hn ▸ w.nk
 exact List.length_eq_zero_iff.1 hl
theorem two {α : Type} {l : List α} (h : l.length = 2) : ∃ a b, l = [a, b] := by
 match l, h with
 | [a, b], _ => exact ⟨a, b, rfl⟩
theorem q6t {α : Type} {l : List α} (h : l.length = 3) : ∃ a b c, l = [a, b, c] := by
 match l, h with
 | [a, b, c], _ => exact ⟨a, b, c, rfl⟩
theorem q83 {t : BA} (h : memB t [⟨#[124]⟩, ⟨#[38]⟩, ⟨#[61, 61]⟩, ⟨#[60]⟩, ⟨#[43]⟩, ⟨#[45]⟩, ⟨#[42]⟩, ⟨#[47]⟩] = true) : 1 ≤ jx t ∧ jx t ≤ 5 ∧ t ≠ ⟨#[46]⟩ ∧ t ≠ ⟨#[40]⟩ ∧ t ≠ e0 := by
 have hm := qfx h
 simp only [List.mem_cons, List.not_mem_nil, or_false] at hm
 rcases hm with rfl | rfl | rfl | rfl | rfl | rfl | rfl | rfl <;> decide
theorem i24 (h : firstErr (.mk 24 t g ks) = 0) : ∃ a b, ks = [a, b] ∧ firstErr a = 0 ∧ firstErr b = 0 ∧ zv a.kind = 3 ∧ zv b.kind = 3 ∧ (1 ≤ jx t ∧ jx t ≤ 5 ∧ t ≠ ⟨#[46]⟩ ∧ t ≠ ⟨#[40]⟩ ∧ t ≠ e0) ∧ jx t ≤ level a ∧ (jx t = 3 → 3 < level a) ∧ jx t + 1 ≤ level b := by
 have w := inn h
 obtain ⟨a, b, rfl⟩ := two (show ks.length = 2 from w.nk)
 have hl : (!(decide (level a < jx t) || (decide (level a = jx t) && decide (jx t = 3))) && decide (jx t < level b)) = true := w.lv
 simp only [Bool.and_eq_true, Bool.not_eq_true', Bool.or_eq_false_iff, decide_eq_false_iff_not, decide_eq_true_eq, Bool.and_eq_false_iff] at hl
 exact ⟨a, b, rfl, w.ks a (List.mem_cons_self ..), w.ks b (List.mem_cons_of_mem _ (List.mem_cons_self ..)), (Zr (q := (0, 3)) (w.ft 0 a rfl) rfl).symm, (Zr (q := (0, 3)) (w.ft 1 b rfl) rfl).symm, q83 w.sp, by omega, fun e => by omega, by omega⟩
theorem i25 (h : firstErr (.mk 25 t g ks) = 0) : ∃ a, ks = [a] ∧ firstErr a = 0 ∧ zv a.kind = 3 ∧ (t = ⟨#[45]⟩ ∨ t = ⟨#[33]⟩) ∧ 6 ≤ level a := by
 have w := inn h
 obtain ⟨a, rfl, h1, h2⟩ := qy8 h rfl (q := (0, 3)) rfl
 have hm := qfx (l := [⟨#[45]⟩, ⟨#[33]⟩]) (v := t) w.sp
 simp only [List.mem_cons, List.not_mem_nil, or_false] at hm
 exact ⟨a, rfl, h1, h2.symm, hm, of_decide_eq_true w.lv⟩
theorem i21 (h : firstErr (.mk 21 t g ks) = 0) : ∃ a l, ks = a :: l ∧ firstErr a = 0 ∧ zv a.kind = 3 ∧ level a = 7 ∧ (∀ m ∈ l, firstErr m = 0 ∧ zv m.kind = 3) ∧ vc t.data.toList = true := by
 have w := inn h
 cases ks with
 | nil => exact absurd (show 1 ≤ 0 from w.nk) (by decide)
 | cons a l =>
   refine ⟨a, l, rfl, w.ks a (List.mem_cons_self ..), (Zr (q := (0, 3)) (w.ft 0 a rfl) rfl).symm, of_decide_eq_true w.lv, fun m hm => ?_, w.ca⟩
   obtain ⟨i, hi⟩ := List.getElem?_of_mem hm
   refine ⟨w.ks m (List.mem_cons_of_mem _ hm), (Zr (q := (0, 3)) (w.ft (i + 1) m hi) ?_).symm⟩
   show (if ((i + 1 : Nat) : Int) < 1 then _ else _) = _
   rw [if_neg (by omega)]; rfl
theorem i20 (h : firstErr (.mk 20 t g ks) = 0) : (∀ m ∈ ks, firstErr m = 0 ∧ zv m.kind = 3) ∧ vc t.data.toList = true :=
 ⟨fun m hm => ⟨(qf1 h rfl (q := (0, 3)) rfl m hm).1, (qf1 h rfl (q := (0, 3)) rfl m hm).2.symm⟩, (inn h).ca⟩
theorem i26 (h : firstErr (.mk 26 t g ks) = 0) : ∃ a, ks = [a] ∧ firstErr a = 0 ∧ zv a.kind = 3 ∧ t = e0 := by
 obtain ⟨a, e, h1, h2⟩ := qy8 h rfl (q := (0, 3)) rfl
 exact ⟨a, e, h1, h2.symm, of_decide_eq_true (inn h).sp⟩
theorem i18 (h : firstErr (.mk 18 t g ks) = 0) : ks = [] ∧ (t = ⟨#[116, 114, 117, 101]⟩ ∨ t = ⟨#[102, 97, 108, 115, 101]⟩) := by
 have hm := qfx (l := [⟨#[116, 114, 117, 101]⟩, ⟨#[102, 97, 108, 115, 101]⟩]) (v := t) (inn h).sp
 simp only [List.mem_cons, List.not_mem_nil, or_false] at hm
 exact ⟨qbp h rfl, hm⟩
theorem i23 (h : firstErr (.mk 23 t g ks) = 0) : ks = [] ∧ t = ⟨#[115, 101, 108, 102]⟩ := by
 have hm := qfx (l := [⟨#[115, 101, 108, 102]⟩]) (v := t) (inn h).sp
 simp only [List.mem_cons, List.not_mem_nil, or_false] at hm
 exact ⟨qbp h rfl, hm⟩
end
def wdR : Bool → List Node → List BA
 | _, [] => [⟨#[41]⟩]
 | true, m :: l => wdN m ++ wdR false l
 | false, m :: l => ⟨#[44]⟩ :: (wdN m ++ wdR false l)
theorem qio (v : Int) : ∀ (l : List Node) (b : Bool), wdS (kh v b l.length) (wdL l) = wdR b l
 | [], true => rfl
 | [], false => rfl
 | m :: l, true => by rw [List.length_cons, kh, wdL, wdS, qio v l false, wdR]
 | m :: l, false => by rw [List.length_cons, kh, wdL, wdS, wdS, qio v l false, wdR]
def wdA : List Node → List BA
 | [] => []
 | m :: l => wdN m ++ wdA l
theorem qwp (x : BA) (v : Int) (R : List Step) : ∀ (l : List Node), wdS (allS x v l.length ++ R) (wdL l) = wdA l ++ wdS R []
 | [] => rfl
 | m :: l => by rw [List.length_cons, allS, wdL, List.cons_append, wdS, qwp x v R l, wdA, List.append_assoc]
theorem qx6 (v : Int) (R : List Step) : ∀ (l : List Node) (x : BA), wdS (Q5 v x l.length ++ R) (wdL l) = wdA l ++ wdS R []
 | [], x => rfl
 | m :: l, x => by rw [List.length_cons, Q5, wdL, List.cons_append, wdS, qx6 v R l, wdA, List.append_assoc]
theorem q0x {l : List UInt8} (h : vc l = true) : Qz l = 1 := by
 unfold vc at h
 simp only [Bool.and_eq_true, decide_eq_true_eq] at h
 obtain ⟨⟨⟨h0, h1⟩, _⟩, h3⟩ := h
 have hr := qka l 0 h3
 cases l with
 | nil => cases h0
 | cons c l =>
   unfold Q4 at h3
   simp only [Bool.and_eq_true, Bool.or_eq_true, bne_self_eq_false, Bool.false_and, Bool.false_eq_true, or_false] at h3
   have hl : Z7 c.toNat = true := h3.1
   have hd : digC c = false := by
    unfold digC u6
    unfold Z7 at hl
    have := of_decide_eq_true hl
    exact decide_eq_false (by omega)
   have hw : letC c = true := by unfold letC; rw [hl]; simp
   have hn := qei l hw hd
   rw [hr, if_pos h1] at hn
   unfold Qz
   rw [hn, if_pos rfl]
theorem q3e {l : List UInt8} (h : wc l = true) : Qz l = 2 := by
 have h' := h
 unfold wc at h
 simp only [Bool.and_eq_true, decide_eq_true_eq] at h
 obtain ⟨⟨⟨h0, h1⟩, _⟩, h3⟩ := h
 cases hv : jo 0 l with
 | none => rw [hv] at h3; cases h3
 | some v =>
   have hr := qj1 l 0 v hv
   cases l with
   | nil => cases h0
   | cons c l =>
     unfold jo at hv
     have hd : digC c = true := by
      unfold digC
      cases hq : u6 c.toNat with
      | true => rfl
      | false => rw [hq] at hv; cases hv
     have hn := qej l hd
     rw [hr, List.take_of_length_le (Nat.le_refl _), if_pos h'] at hn
     unfold Qz
     rw [hn, if_pos rfl]
def Ty (T : List Token) : Prop := ∀ x ∈ T, x.Kind = Qz (L x.Text)
theorem Ty.app {a b : List Token} (h : Ty (a ++ b)) : Ty a ∧ Ty b := ⟨fun x hx => h x (List.mem_append_left _ hx), fun x hx => h x (List.mem_append_right _ hx)⟩
theorem Ty.tail {x : Token} {b : List Token} (h : Ty (x :: b)) : Ty b := fun y hy => h y (List.mem_cons_of_mem _ hy)
theorem Ty.head {x : Token} {b : List Token} (h : Ty (x :: b)) : x.Kind = Qz (L x.Text) := h x (List.mem_cons_self ..)
theorem Ty.name {x : Token} {b : List Token} (h : Ty (x :: b)) (hn : vc x.Text.data.toList = true) : x.Kind = 1 ∧ Nm x := ⟨h.head.trans (q0x hn), hn⟩
theorem zw {T : List Token} {w : BA} {l : List BA} (h : T.map (·.Text) = w :: l) : ∃ x T', T = x :: T' ∧ x.Text = w ∧ T'.map (·.Text) = l := by
 cases T with
 | nil => cases h
 | cons x T => rw [List.map_cons] at h; exact ⟨x, T, rfl, (List.cons.inj h).1, (List.cons.inj h).2⟩
theorem Zw {T : List Token} {a b : List BA} (h : T.map (·.Text) = a ++ b) : ∃ A B, T = A ++ B ∧ A.map (·.Text) = a ∧ B.map (·.Text) = b := List.map_eq_append_iff.1 h
theorem Zj {T : List Token} (h : T.map (·.Text) = []) : T = [] := List.map_eq_nil_iff.1 h
theorem qfv {w : BA} (h : vc w.data.toList = true) : okE w := by
 have ne : ∀ l : Array UInt8, vc l.toList = false → w ≠ ⟨l⟩ := fun l hl e => by rw [e] at h; exact absurd (h.symm.trans hl) (by decide)
 exact ⟨ne _ (by decide), ne _ (by decide), ne _ (by decide), ne _ (by decide), ne _ (by decide), ne _ (by decide), ne _ (by decide)⟩
theorem q5l {w : BA} (h : wc w.data.toList = true) : okE w := by
 have ne : ∀ l : Array UInt8, wc l.toList = false → w ≠ ⟨l⟩ := fun l hl e => by rw [e] at h; exact absurd (h.symm.trans hl) (by decide)
 exact ⟨ne _ (by decide), ne _ (by decide), ne _ (by decide), ne _ (by decide), ne _ (by decide), ne _ (by decide), ne _ (by decide)⟩
theorem q7h {t : BA} (h : 1 ≤ jx t) : okE t := by
 have ne : ∀ l : Array UInt8, jx ⟨l⟩ = 0 → t ≠ ⟨l⟩ := fun l hl e => by rw [e, hl] at h; exact absurd h (by decide)
 exact ⟨ne _ (by decide), ne _ (by decide), ne _ (by decide), ne _ (by decide), ne _ (by decide), ne _ (by decide), ne _ (by decide)⟩
theorem qmi : ∀ (l : List Node) (b : Bool), (∀ m ∈ l, ∀ w ∈ wdN m, okE w) → ∀ w ∈ wdR b l, okE w
 | [], true, h, w, hw => by rw [wdR, List.mem_singleton] at hw; rw [hw]; unfold okE; decide
 | [], false, h, w, hw => by rw [wdR, List.mem_singleton] at hw; rw [hw]; unfold okE; decide
 | m :: l, true, h, w, hw => by
   rw [wdR] at hw
   rcases List.mem_append.1 hw with hw | hw
   ·exact h m (List.mem_cons_self ..) w hw
   exact qmi l false (fun m hm => h m (List.mem_cons_of_mem _ hm)) w hw
 | m :: l, false, h, w, hw => by
   rw [wdR] at hw
   rcases List.mem_cons.1 hw with e | hw
   ·rw [e]; unfold okE; decide
   rcases List.mem_append.1 hw with hw | hw
   ·exact h m (List.mem_cons_self ..) w hw
   exact qmi l false (fun m hm => h m (List.mem_cons_of_mem _ hm)) w hw
theorem qoc {k : Int} (h : zv k = 3) : k = 17 ∨ k = 18 ∨ k = 19 ∨ k = 20 ∨ k = 21 ∨ k = 22 ∨ k = 23 ∨ k = 24 ∨ k = 25 ∨ k = 26 := by
 have hk := kinds (Jb h)
 rcases hk with rfl | rfl | rfl | rfl | rfl | rfl | rfl | rfl | rfl | rfl | rfl | rfl | rfl | rfl | rfl | rfl | rfl | rfl | rfl | rfl | rfl | rfl | rfl | rfl | rfl | rfl <;> first | (exact absurd h (by decide)) | simp
section
variable {t : BA} {g : List BA} {a b : Node} {l : List Node}
theorem qcn (k : Int) (h : k = 17 ∨ k = 18 ∨ k = 19 ∨ k = 23 ∨ k = 5) : wdN (.mk k t g []) = [t] := by rcases h with rfl | rfl | rfl | rfl | rfl <;> (rw [wdN]; rfl)
theorem w22 : wdN (.mk 22 t g []) = [⟨#[110, 101, 119]⟩, t, ⟨#[40]⟩, ⟨#[41]⟩] := by rw [wdN]; rfl
theorem w24 : wdN (.mk 24 t g [a, b]) = wdN a ++ t :: wdN b := by rw [wdN]; show wdN a ++ t :: (wdN b ++ []) = _; rw [List.append_nil]
theorem w25 : wdN (.mk 25 t g [a]) = t :: wdN a := by rw [wdN]; show t :: (wdN a ++ []) = _; rw [List.append_nil]
theorem w26 : wdN (.mk 26 t g [a]) = ⟨#[40]⟩ :: (wdN a ++ [⟨#[41]⟩]) := by rw [wdN]; rfl
theorem w20 : wdN (.mk 20 t g l) = t :: ⟨#[40]⟩ :: wdR true l := by rw [wdN]; show t :: _ :: wdS (kh 0 true l.length) (wdL l) = _; rw [qio]
theorem w21 : wdN (.mk 21 t g (a :: l)) = wdN a ++ ⟨#[46]⟩ :: t :: ⟨#[40]⟩ :: wdR true l := by rw [wdN]; show wdN a ++ (_ :: t :: _ :: wdS (kh 0 true (l.length + 1 - 1)) (wdL l)) = _; rw [Nat.add_sub_cancel, qio]
end
theorem qju : ∀ (j : Nat) (n : Node), wl n ≤ j → firstErr n = 0 → zv n.kind = 3 → (∀ w ∈ wdN n, okE w) ∧ ∃ w l, wdN n = w :: l ∧ w ≠ ⟨#[41]⟩
 | 0, n, h, _, _ => by have := J1 n; omega
 | j + 1, n, h, hf, hg => by
   have hs := Yg n
   have ih : ∀ m ∈ n.kids, firstErr m = 0 → zv m.kind = 3 → (∀ w ∈ wdN m, okE w) ∧ ∃ w l, wdN m = w :: l ∧ w ≠ ⟨#[41]⟩ := fun m hm => qju j m (by have := qac hm; omega)
   obtain ⟨k, t, g, ks⟩ := n
   have nm : ∀ {w : BA}, vc w.data.toList = true → w ≠ ⟨#[41]⟩ := fun h e => by rw [e] at h; exact absurd h (by decide)
   have one : ∀ {w : BA}, okE w → w ≠ ⟨#[41]⟩ → (∀ v ∈ [w], okE v) ∧ ∃ v l, [w] = v :: l ∧ v ≠ ⟨#[41]⟩ := fun h h2 => ⟨fun v hv => by rw [List.mem_singleton.1 hv]; exact h, _, _, rfl, h2⟩
   rcases qoc hg with hk | hk | hk | hk | hk | hk | hk | hk | hk | hk <;> (have hk : k = _ := hk; subst hk)
   ·rw [qbp hf rfl, qcn 17 (by simp)]
    have : wc t.data.toList = true := (inn hf).ca
    exact one (q5l this) (fun e => by rw [e] at this; exact absurd this (by decide))
   ·obtain ⟨e, h2⟩ := i18 hf
    rw [e, qcn 18 (by simp)]
    rcases h2 with h2 | h2 <;> (rw [h2]; exact one (by unfold okE; decide) (by decide))
   ·rw [qbp hf rfl, qcn 19 (by simp)]
    exact one (qfv (inn hf).ca) (nm (inn hf).ca)
   ·obtain ⟨h1, h2⟩ := i20 hf
    rw [w20]
    refine ⟨fun w hw => ?_, _, _, rfl, nm h2⟩
    rcases List.mem_cons.1 hw with e | hw
    ·rw [e]; exact qfv h2
    rcases List.mem_cons.1 hw with e | hw
    ·rw [e]; unfold okE; decide
    exact qmi ks true (fun m hm => (ih m hm (h1 m hm).1 (h1 m hm).2).1) w hw
   ·obtain ⟨a, l, rfl, ha, ga, _, h1, h2⟩ := i21 hf
    obtain ⟨q1, w, l', q2, q3⟩ := ih a (List.mem_cons_self ..) ha ga
    rw [w21]
    refine ⟨fun w hw => ?_, w, _, by rw [q2]; rfl, q3⟩
    rcases List.mem_append.1 hw with hw | hw
    ·exact q1 w hw
    rcases List.mem_cons.1 hw with e | hw
    ·rw [e]; unfold okE; decide
    rcases List.mem_cons.1 hw with e | hw
    ·rw [e]; exact qfv h2
    rcases List.mem_cons.1 hw with e | hw
    ·rw [e]; unfold okE; decide
    exact qmi l true (fun m hm => (ih m (List.mem_cons_of_mem _ hm) (h1 m hm).1 (h1 m hm).2).1) w hw
   ·rw [qbp hf rfl, w22]
    refine ⟨fun w hw => ?_, _, _, rfl, by decide⟩
    simp only [List.mem_cons, List.not_mem_nil, or_false] at hw
    rcases hw with e | e | e | e
    ·rw [e]; unfold okE; decide
    ·rw [e]; exact qfv (inn hf).ca
    ·rw [e]; unfold okE; decide
    rw [e]; unfold okE; decide
   ·obtain ⟨e, h2⟩ := i23 hf
    rw [e, qcn 23 (by simp), h2]
    exact one (by unfold okE; decide) (by decide)
   ·obtain ⟨a, b, rfl, ha, hb, ga, gb, ho, _⟩ := i24 hf
    obtain ⟨q1, w, l', q2, q3⟩ := ih a (List.mem_cons_self ..) ha ga
    obtain ⟨p1, _⟩ := ih b (List.mem_cons_of_mem _ (List.mem_cons_self ..)) hb gb
    rw [w24]
    refine ⟨fun w hw => ?_, w, _, by rw [q2]; rfl, q3⟩
    rcases List.mem_append.1 hw with hw | hw
    ·exact q1 w hw
    rcases List.mem_cons.1 hw with e | hw
    ·rw [e]; exact q7h ho.1
    exact p1 w hw
   ·obtain ⟨a, rfl, ha, ga, ht, _⟩ := i25 hf
    obtain ⟨q1, _⟩ := ih a (List.mem_cons_self ..) ha ga
    rw [w25]
    refine ⟨fun w hw => ?_, _, _, rfl, by rcases ht with e | e <;> (rw [e]; decide)⟩
    rcases List.mem_cons.1 hw with e | hw
    ·rw [e]; rcases ht with e | e <;> (rw [e]; unfold okE; decide)
    exact q1 w hw
   obtain ⟨a, rfl, ha, ga, ht⟩ := i26 hf
   obtain ⟨q1, _⟩ := ih a (List.mem_cons_self ..) ha ga
   rw [w26]
   refine ⟨fun w hw => ?_, _, _, rfl, by decide⟩
   rcases List.mem_cons.1 hw with e | hw
   ·rw [e]; unfold okE; decide
   rcases List.mem_append.1 hw with hw | hw
   ·exact q1 w hw
   rw [List.mem_singleton.1 hw]; unfold okE; decide
end Ps
end Go.Proofs.YtigmilhpeodhbaaGreatDoorW.Ex.Gr

namespace Go.Proofs.YtigmilhpeodhbaaGreatDoorW.Ex.Gr
open Go Go.Proofs.YtigmilhpeodhbaaGreatDoorW.Ex Go.Proofs.YtigmilhpeodhbaaGreatDoorW.Plain
set_option linter.all false
set_option maxRecDepth 100000
namespace Ps
open Tk
def stop (v : Int) (r : List Token) : Prop := ∃ x q, r = x :: q ∧ jx x.Text < v ∧ x.Text ≠ ⟨#[46]⟩ ∧ x.Text ≠ ⟨#[40]⟩
theorem stop.up {v w : Int} {r : List Token} (h : stop v r) (hv : v ≤ w) : stop w r := by
 obtain ⟨x, q, h1, h2, h3⟩ := h
 exact ⟨x, q, h1, by omega, h3⟩
def np (r : List Token) : Prop := ∃ x q, r = x :: q ∧ x.Text ≠ ⟨#[40]⟩
structure CE (n : Node) (T : List Token) (n' : Node) : Prop where
 same : sameN n' n
 bin : ∀ (v : Int) r, 1 ≤ v → v ≤ 6 → v ≤ level n → stop v r → Ck (.bin v) (T ++ r) n' r
 binL : ∀ (v : Int) r, 1 ≤ v → v ≤ 5 → v ≤ level n → ¬ (v = 3 ∧ level n = 3) → stop (v + 1) r → ∀ N R, Ck (.binL v n') r N R → Ck (.bin v) (T ++ r) N R
 un : ∀ r, level n = 7 → np r → ∀ N R, Ck (.unL n') r N R → Ck .un (T ++ r) N R
 un6 : ∀ r, 6 ≤ level n → stop 6 r → Ck .un (T ++ r) n' r
theorem q23 {T r : List Token} (h : T ≠ []) : r.length < (T ++ r).length := by
 rw [List.length_append]
 have := List.length_pos_iff.2 h
 omega
theorem qbn {T r : List Token} : r.length ≤ (T ++ r).length := by rw [List.length_append]; omega
theorem q31 {n n' : Node} {T : List Token} (hT : T ≠ []) (M : Int) (hM : M = if level n ≤ 5 then level n else 6) (hA : ∀ r, stop M r → Ck (.bin M) (T ++ r) n' r) (hD : level n ≤ 5 → level n ≠ 3 → ∀ r, stop (level n + 1) r → ∀ N R, Ck (.binL (level n) n') r N R → Ck (.bin (level n)) (T ++ r) N R) :
 (∀ (v : Int) r, 1 ≤ v → v ≤ 6 → v ≤ level n → stop v r → Ck (.bin v) (T ++ r) n' r) ∧ (∀ (v : Int) r, 1 ≤ v → v ≤ 5 → v ≤ level n → ¬ (v = 3 ∧ level n = 3) → stop (v + 1) r → ∀ N R, Ck (.binL v n') r N R → Ck (.bin v) (T ++ r) N R) := by
 have hM6 : M ≤ 6 ∧ M ≤ level n ∧ (level n ≤ 5 → M = level n) ∧ (6 ≤ level n → M = 6) := by
  rw [hM]; split <;> omega
 have A : ∀ (k : Nat) (v : Int) r, v + k = M → 1 ≤ v → stop v r → Ck (.bin v) (T ++ r) n' r := by
  intro k
  induction k with
  | zero => intro v r h h1 hs; have : v = M := by omega
            rw [this] at hs ⊢; exact hA r hs
  | succ k ih =>
    intro v r h h1 hs
    have h2 := ih (v + 1) r (by omega) (by omega) (hs.up (by omega))
    obtain ⟨x, q, rfl, h3, h4, h5⟩ := hs
    exact q64 h1 (by omega) h2 (q23 hT) (q4r (by omega))
 have A' : ∀ (v : Int) r, 1 ≤ v → v ≤ 6 → v ≤ level n → stop v r → Ck (.bin v) (T ++ r) n' r := fun v r h1 h6 hl hs => A (M - v).toNat v r (by omega) h1 hs
 refine ⟨A', fun v r h1 h5 hl h3 hs N R hk => ?_⟩
 by_cases e : v = level n
 ·rw [e] at hs hk ⊢
  exact hD (by omega) (fun q => h3 ⟨by omega, q⟩) r hs N R hk
 exact q64 h1 h5 (A' (v + 1) r (by omega) (by omega) (by omega) hs) (q23 hT) hk
theorem qz4 {n n' : Node} {T : List Token} (hT : T ≠ []) (hl : level n = 7) (hs : sameN n' n) (hu : ∀ r, np r → ∀ N R, Ck (.unL n') r N R → Ck .un (T ++ r) N R) : CE n T n' := by
 have h6 : ∀ r, stop 6 r → Ck .un (T ++ r) n' r := fun r h => by
  obtain ⟨x, q, rfl, _, h2, h3⟩ := h
  exact hu _ ⟨x, q, rfl, h3⟩ _ _ (q4p h2)
 obtain ⟨c1, c2⟩ := q31 (n := n) (n' := n') hT 6 (by rw [hl, if_neg (by decide)]) (fun r h => q4y rfl (h6 r h)) (fun h => absurd h (by omega))
 exact ⟨hs, c1, c2, fun r _ h => hu r h, fun r _ h => h6 r h⟩
theorem qe5 {n n' : Node} {x : Token} {T : List Token} (hl : level n = 7) (hs : sameN n' n) (h1 : x.Text ≠ ⟨#[45]⟩) (h2 : x.Text ≠ ⟨#[33]⟩) (hp : ∀ r, np r → Ck .prim ((x :: T) ++ r) n' r) : CE n (x :: T) n' :=
 qz4 (by simp) hl hs fun r h N R hk => q4q h1 h2 (hp r h) qbn hk
theorem CE.ne {n n' : Node} {T : List Token} (hw : ∃ w l, wdN n = w :: l ∧ w ≠ ⟨#[41]⟩) (h : T.map (·.Text) = wdN n) : T ≠ [] := by
 rintro rfl
 obtain ⟨w, l, e, _⟩ := hw
 rw [e] at h; cases h
theorem qdb {n : Node} (hf : firstErr n = 0) (hg : zv n.kind = 3) : 1 ≤ level n := by
 obtain ⟨k, t, g, ks⟩ := n
 rcases qoc hg with hk | hk | hk | hk | hk | hk | hk | hk | hk | hk <;> (have hk : k = _ := hk; subst hk)
 case' inr.inr.inr.inr.inr.inr.inr.inl =>
  obtain ⟨_, _, _, _, _, _, _, ho, _⟩ := i24 hf
  exact ho.1
 all_goals first | (show (1 : Int) ≤ 7; decide) | (show (1 : Int) ≤ 6; decide)
theorem qqo {ks : List Node} {T r : List Token} (h : T.map (·.Text) = wdR false ks) : stop 1 (T ++ r) := by
 cases ks with
 | nil =>
   obtain ⟨x, T', rfl, hx, _⟩ := zw (show T.map (·.Text) = ⟨#[41]⟩ :: [] from h)
   exact ⟨x, _, rfl, by rw [hx]; decide, by rw [hx]; decide, by rw [hx]; decide⟩
 | cons m l =>
   rw [wdR] at h
   obtain ⟨x, T', rfl, hx, _⟩ := zw h
   exact ⟨x, _, rfl, by rw [hx]; decide, by rw [hx]; decide, by rw [hx]; decide⟩
theorem qtm : ∀ (ks : List Node) (b : Bool) (T : List Token), (∀ m ∈ ks, firstErr m = 0 ∧ zv m.kind = 3) → (∀ m ∈ ks, ∀ U, U.map (·.Text) = wdN m → Ty U → ∃ m', CE m U m') → T.map (·.Text) = wdR b ks → Ty T →
 ∃ g' ks', Jx ks' ks ∧ ∀ (k : Int) (a : BA) (g : List BA) (ls : List Node) (r : List Token), Ck (.argL b k a g ls) (T ++ r) (.mk k a (g ++ g') (ls ++ ks')) r
 | [], b, T, _, _, h, ty => by
   have h : T.map (·.Text) = [⟨#[41]⟩] := by rw [h]; cases b <;> rfl
   obtain ⟨x, T', rfl, hx, hT⟩ := zw h
   rw [Zj hT]
   exact ⟨[x.Lead], [], yk, fun k a g ls r => by rw [List.append_nil]; exact q40 hx⟩
 | m :: ks, true, T, h1, ih, h, ty => by
   rw [wdR] at h
   obtain ⟨U, T', rfl, hU, hT⟩ := Zw h
   have hm := h1 m (List.mem_cons_self ..)
   obtain ⟨m', c⟩ := ih m (List.mem_cons_self ..) U hU ty.app.1
   obtain ⟨g', ks', hs, hk⟩ := qtm ks false T' (fun m hm => h1 m (List.mem_cons_of_mem _ hm)) (fun m hm => ih m (List.mem_cons_of_mem _ hm)) hT ty.app.2
   obtain ⟨_, w, l, e, hw⟩ := qju (wl m) m (Nat.le_refl _) hm.1 hm.2
   refine ⟨g', m' :: ks', jf c.same hs, fun k a g ls r => ?_⟩
   rw [e] at hU
   obtain ⟨x, U', rfl, hx, _⟩ := zw hU
   have lev : 1 ≤ level m := qdb hm.1 hm.2
   have st : stop 1 (T' ++ r) := qqo hT
   have hb := c.bin 1 (T' ++ r) (by decide) (by decide) lev st
   have hk' := hk k a g (ls ++ [m']) r
   rw [List.append_assoc] at hk'
   rw [List.append_assoc]
   exact qx0 (by rw [hx]; exact hw) hb qbn hk'
 | m :: ks, false, T, h1, ih, h, ty => by
   rw [wdR] at h
   obtain ⟨y, T1, rfl, hy, h⟩ := zw h
   obtain ⟨U, T', rfl, hU, hT⟩ := Zw h
   have hm := h1 m (List.mem_cons_self ..)
   obtain ⟨m', c⟩ := ih m (List.mem_cons_self ..) U hU ty.tail.app.1
   obtain ⟨g', ks', hs, hk⟩ := qtm ks false T' (fun m hm => h1 m (List.mem_cons_of_mem _ hm)) (fun m hm => ih m (List.mem_cons_of_mem _ hm)) hT ty.tail.app.2
   refine ⟨y.Lead :: g', m' :: ks', jf c.same hs, fun k a g ls r => ?_⟩
   have lev : 1 ≤ level m := qdb hm.1 hm.2
   have st : stop 1 (T' ++ r) := qqo hT
   have hb := c.bin 1 (T' ++ r) (by decide) (by decide) lev st
   have hk' := hk k a (g ++ [y.Lead]) (ls ++ [m']) r
   rw [List.append_assoc, List.append_assoc] at hk'
   rw [List.cons_append, List.append_assoc]
   exact q1j hy hb qbn hk'
theorem qtn : ∀ (j : Nat) (n : Node), wl n ≤ j → firstErr n = 0 → zv n.kind = 3 → ∀ T, T.map (·.Text) = wdN n → Ty T → ∃ n', CE n T n'
 | 0, n, h, _, _, _, _, _ => by have := J1 n; omega
 | j + 1, n, h, hf, hg, T, hT, ty => by
   have hs := Yg n
   have ih : ∀ m ∈ n.kids, firstErr m = 0 → zv m.kind = 3 → ∀ T, T.map (·.Text) = wdN m → Ty T → ∃ m', CE m T m' := fun m hm => qtn j m (by have := qac hm; omega)
   have hne := CE.ne (n' := n) (qju (wl n) n (Nat.le_refl _) hf hg).2 hT
   obtain ⟨k, t, g, ks⟩ := n
   rcases qoc hg with hk | hk | hk | hk | hk | hk | hk | hk | hk | hk <;> (have hk : k = _ := hk; subst hk)
   ·-- an integer
    have e := qbp hf rfl
    subst e
    rw [qcn 17 (by simp)] at hT
    obtain ⟨x, T', rfl, hx, hT⟩ := zw hT
    rw [Zj hT]
    have hi : wc x.Text.data.toList = true := by rw [hx]; exact (inn hf).ca
    have k2 : x.Kind = 2 := ty.head.trans (q3e hi)
    have ne : ∀ l : Array UInt8, wc l.toList = false → x.Text ≠ ⟨l⟩ := fun l hl e => by rw [e] at hi; exact absurd (hi.symm.trans hl) (by decide)
    exact ⟨.mk 17 x.Text [x.Lead] [], qe5 rfl (wi rfl hx yk) (ne _ (by decide)) (ne _ (by decide)) fun r _ => q9w k2⟩
   ·-- true, false
    obtain ⟨e, ht⟩ := i18 hf
    subst e
    rw [qcn 18 (by simp)] at hT
    obtain ⟨x, T', rfl, hx, hT⟩ := zw hT
    rw [Zj hT]
    have k2 : x.Kind ≠ 2 := by rw [ty.head, hx]; rcases ht with e | e <;> (rw [e]; decide)
    exact ⟨.mk 18 x.Text [x.Lead] [], qe5 rfl (wi rfl hx yk) (by rw [hx]; rcases ht with e | e <;> (rw [e]; decide)) (by rw [hx]; rcases ht with e | e <;> (rw [e]; decide)) fun r _ => q4o 18 k2 (by rw [hx]; rcases ht with e | e <;> simp [e])⟩
   ·-- a name
    have e := qbp hf rfl
    subst e
    rw [qcn 19 (by simp)] at hT
    obtain ⟨x, T', rfl, hx, hT⟩ := zw hT
    rw [Zj hT]
    have hi : vc x.Text.data.toList = true := by rw [hx]; exact (inn hf).ca
    obtain ⟨k1, n1⟩ := ty.name hi
    refine ⟨.mk 19 x.Text [x.Lead] [], qe5 rfl (wi rfl hx yk) (qcj n1 _ (by decide)) (qcj n1 _ (by decide)) fun r hr => ?_⟩
    obtain ⟨y, q, rfl, hy⟩ := hr
    exact q8r k1 n1 hy
   ·-- a call
    obtain ⟨hks, hn⟩ := i20 hf
    rw [w20] at hT
    obtain ⟨x, T', rfl, hx, hT⟩ := zw hT
    obtain ⟨y, T', rfl, hy, hT⟩ := zw hT
    obtain ⟨k1, n1⟩ := ty.name (by rw [hx]; exact hn)
    obtain ⟨g', ks', hsame, hk⟩ := qtm ks true T' hks (fun m hm U hU tU => ih m hm (hks m hm).1 (hks m hm).2 U hU tU) hT ty.tail.tail
    refine ⟨.mk 20 x.Text ([x.Lead] ++ [y.Lead] ++ g') ([] ++ ks'), qe5 rfl (wi rfl hx hsame) (qcj n1 _ (by decide)) (qcj n1 _ (by decide)) fun r _ => ?_⟩
    exact q8v k1 n1 hy (q4z hy (hk 20 x.Text ([x.Lead] ++ [y.Lead]) [] r))
   ·-- a call of a method
    obtain ⟨a, l, rfl, ha, ga, la, hks, hn⟩ := i21 hf
    rw [w21] at hT
    obtain ⟨U, T', rfl, hU, hT⟩ := Zw hT
    obtain ⟨x, T', rfl, hx, hT⟩ := zw hT
    obtain ⟨y, T', rfl, hy, hT⟩ := zw hT
    obtain ⟨z, T', rfl, hz, hT⟩ := zw hT
    have ty' := ty.app.2
    obtain ⟨k1, n1⟩ := ty'.tail.name (by rw [hy]; exact hn)
    obtain ⟨a', ca⟩ := ih a (List.mem_cons_self ..) ha ga U hU ty.app.1
    obtain ⟨g', ks', hsame, hk⟩ := qtm l true T' hks (fun m hm U hU tU => ih m (List.mem_cons_of_mem _ hm) (hks m hm).1 (hks m hm).2 U hU tU) hT ty'.tail.tail.tail
    refine ⟨.mk 21 y.Text ([x.Lead, y.Lead] ++ [z.Lead] ++ g') ([a'] ++ ks'), qz4 hne rfl (wi rfl hy (jf ca.same hsame)) fun r hr N R hk' => ?_⟩
    rw [List.append_assoc]
    refine ca.un _ la ⟨x, _, rfl, by rw [hx]; decide⟩ N R ?_
    refine q8q hx k1 n1 (q4z hz (hk 21 y.Text ([x.Lead, y.Lead] ++ [z.Lead]) [a'] r)) ?_ hk'
    show r.length ≤ (z :: (T' ++ r)).length
    rw [List.length_cons, List.length_append]; omega
   ·-- new
    have e := qbp hf rfl
    subst e
    rw [w22] at hT
    obtain ⟨x, T', rfl, hx, hT⟩ := zw hT
    obtain ⟨y, T', rfl, hy, hT⟩ := zw hT
    obtain ⟨z, T', rfl, hz, hT⟩ := zw hT
    obtain ⟨u, T', rfl, hu, hT⟩ := zw hT
    rw [Zj hT]
    obtain ⟨k1, n1⟩ := ty.tail.name (by rw [hy]; exact (inn hf).ca)
    have k2 : x.Kind ≠ 2 := by rw [ty.head, hx]; decide
    exact ⟨.mk 22 y.Text [x.Lead, y.Lead, z.Lead, u.Lead] [], qe5 rfl (wi rfl hy yk) (by rw [hx]; decide) (by rw [hx]; decide) fun r _ => q9u k2 hx k1 n1 hz hu⟩
   ·-- self
    obtain ⟨e, ht⟩ := i23 hf
    subst e
    rw [qcn 23 (by simp)] at hT
    obtain ⟨x, T', rfl, hx, hT⟩ := zw hT
    rw [Zj hT]
    have k2 : x.Kind ≠ 2 := by rw [ty.head, hx, ht]; decide
    exact ⟨.mk 23 x.Text [x.Lead] [], qe5 rfl (wi rfl hx yk) (by rw [hx, ht]; decide) (by rw [hx, ht]; decide) fun r _ => q4o 23 k2 (by rw [hx, ht]; simp)⟩
   ·-- two operands
    obtain ⟨a, b, rfl, ha, hb, ga, gb, ho, la, l3, lb⟩ := i24 hf
    rw [w24] at hT
    obtain ⟨U, T', rfl, hU, hT⟩ := Zw hT
    obtain ⟨x, W, rfl, hx, hW⟩ := zw hT
    obtain ⟨a', ca⟩ := ih a (List.mem_cons_self ..) ha ga U hU ty.app.1
    obtain ⟨b', cb⟩ := ih b (List.mem_cons_of_mem _ (List.mem_cons_self ..)) hb gb W hW ty.app.2.tail
    have hlev : level (.mk 24 t g [a, b]) = jx t := rfl
    have hxo : jx x.Text = jx t := by rw [hx]
    have st1 : ∀ r, stop (jx t + 1) (x :: (W ++ r)) := fun r => ⟨x, _, rfl, by omega, by rw [hx]; exact ho.2.2.1, by rw [hx]; exact ho.2.2.2.1⟩
    have hsame : sameN (.mk 24 x.Text [x.Lead] [a', b']) (.mk 24 t g [a, b]) := wi rfl hx (jf ca.same (jf cb.same yk))
    have hD : jx t ≠ 3 → ∀ r, stop (jx t + 1) r → ∀ N R, Ck (.binL (jx t) (.mk 24 x.Text [x.Lead] [a', b'])) r N R → Ck (.bin (jx t)) ((U ++ x :: W) ++ r) N R := fun h3 r hr N R hk => by
     rw [List.append_assoc]
     refine ca.binL (jx t) _ ho.1 ho.2.1 la (fun e => h3 e.1) (st1 r) N R ?_
     exact C_go ho.1 ho.2.1 hxo h3 (cb.bin (jx t + 1) r (by omega) (by omega) lb hr) qbn hk
    have hA : ∀ r, stop (jx t) r → Ck (.bin (jx t)) ((U ++ x :: W) ++ r) (.mk 24 x.Text [x.Lead] [a', b']) r := fun r hr => by
     by_cases h3 : jx t = 3
     ·rw [List.append_assoc, h3]
      refine ca.binL 3 _ (by decide) (by decide) (by omega) (fun e => by have := l3 h3; omega) (by have := st1 r; rw [h3] at this; exact this) _ _ ?_
      exact q9z (by rw [hxo, h3]) (cb.bin 4 r (by decide) (by decide) (by omega) (hr.up (by omega)))
     obtain ⟨y, q, rfl, q1, q2, q3⟩ := hr
     exact hD h3 _ ⟨y, q, rfl, by omega, q2, q3⟩ _ _ (q4r (by omega))
    obtain ⟨c1, c2⟩ := q31 (n := .mk 24 t g [a, b]) hne (jx t) (by rw [hlev, if_pos ho.2.1]) hA (fun _ h3 => hD h3)
    exact ⟨_, hsame, c1, c2, fun r e => by rw [hlev] at e; omega, fun r e => by rw [hlev] at e; omega⟩
   ·-- an operator ahead
    obtain ⟨a, rfl, ha, ga, ht, la⟩ := i25 hf
    rw [w25] at hT
    obtain ⟨x, W, rfl, hx, hW⟩ := zw hT
    obtain ⟨a', ca⟩ := ih a (List.mem_cons_self ..) ha ga W hW ty.tail
    have hu : ∀ r, stop 6 r → Ck .un ((x :: W) ++ r) (.mk 25 x.Text [x.Lead] [a']) r := fun r hr => q8p (by rw [hx]; exact ht) (ca.un6 r la hr)
    have hlev : level (.mk 25 t g [a]) = 6 := rfl
    obtain ⟨c1, c2⟩ := q31 (n := .mk 25 t g [a]) hne 6 (by rw [hlev, if_neg (by decide)]) (fun r h => q4y rfl (hu r h)) (fun h => absurd h (by rw [hlev]; decide))
    exact ⟨_, wi rfl hx (jf ca.same yk), c1, c2, fun r e => by rw [hlev] at e; exact absurd e (by decide), fun r _ h => hu r h⟩
   -- parentheses
   obtain ⟨a, rfl, ha, ga, ht⟩ := i26 hf
   rw [w26] at hT
   obtain ⟨x, T', rfl, hx, hT⟩ := zw hT
   obtain ⟨U, T', rfl, hU, hT⟩ := Zw hT
   obtain ⟨y, T', rfl, hy, hT⟩ := zw hT
   rw [Zj hT] at ty ⊢
   obtain ⟨a', ca⟩ := ih a (List.mem_cons_self ..) ha ga U hU ty.tail.app.1
   have k2 : x.Kind ≠ 2 := by rw [ty.head, hx]; decide
   refine ⟨.mk 26 ⟨#[]⟩ [x.Lead, y.Lead] [a'], qe5 rfl (wi rfl ht.symm (jf ca.same yk)) (by rw [hx]; decide) (by rw [hx]; decide) fun r _ => ?_⟩
   rw [List.cons_append, List.append_assoc]
   exact q9t k2 hx (ca.bin 1 _ (by decide) (by decide) (qdb ha ga) ⟨y, r, rfl, by rw [hy]; decide, by rw [hy]; decide, by rw [hy]; decide⟩) hy
end Ps
end Go.Proofs.YtigmilhpeodhbaaGreatDoorW.Ex.Gr

namespace Go.Proofs.YtigmilhpeodhbaaGreatDoorW.Ex.Gr
open Go Go.Proofs.YtigmilhpeodhbaaGreatDoorW.Ex Go.Proofs.YtigmilhpeodhbaaGreatDoorW.Plain
set_option linter.all false
set_option maxRecDepth 100000
namespace Ps
open Tk
theorem qsn {A q : List Token} {x : Token} : q.length ≤ (A ++ x :: q).length := by rw [List.length_append, List.length_cons]; omega
def nels (r : List Token) : Prop := ∃ x q, r = x :: q ∧ x.Text ≠ ⟨#[101, 108, 115, 101]⟩
section
variable {t : BA} {g : List BA} {a b c : Node} {ks : List Node}
theorem w9 : wdN (.mk 9 t g [a]) = ⟨#[99, 111, 110, 115, 116]⟩ :: t :: ⟨#[61]⟩ :: (wdN a ++ [⟨#[59]⟩]) := by rw [wdN]; rfl
theorem w10 : wdN (.mk 10 t g [a]) = ⟨#[108, 101, 116]⟩ :: t :: ⟨#[61]⟩ :: (wdN a ++ [⟨#[59]⟩]) := by rw [wdN]; rfl
theorem w11 : wdN (.mk 11 t g [a]) = t :: ⟨#[61]⟩ :: (wdN a ++ [⟨#[59]⟩]) := by rw [wdN]; rfl
theorem w12 : wdN (.mk 12 t g [a]) = ⟨#[114, 101, 116, 117, 114, 110]⟩ :: (wdN a ++ [⟨#[59]⟩]) := by rw [wdN]; rfl
theorem w13 : wdN (.mk 13 t g [a, b, c]) = ⟨#[105, 102]⟩ :: (wdN a ++ (wdN b ++ wdN c)) := by rw [wdN]; show _ :: (wdN a ++ (wdN b ++ (wdN c ++ []))) = _; rw [List.append_nil]
theorem w14 : wdN (.mk 14 t g []) = [] := by rw [wdN]; rfl
theorem w14b : wdN (.mk 14 t g [b]) = ⟨#[101, 108, 115, 101]⟩ :: wdN b := by rw [wdN]; show _ :: (wdN b ++ []) = _; rw [List.append_nil]
theorem w15 : wdN (.mk 15 t g [a, b]) = ⟨#[119, 104, 105, 108, 101]⟩ :: (wdN a ++ wdN b) := by rw [wdN]; show _ :: (wdN a ++ (wdN b ++ [])) = _; rw [List.append_nil]
theorem w16 : wdN (.mk 16 t g [a]) = wdN a ++ [⟨#[59]⟩] := by rw [wdN]; rfl
theorem w6 : wdN (.mk 6 t g ks) = ⟨#[123]⟩ :: (wdA ks ++ [⟨#[125]⟩]) := by rw [wdN]; show _ :: wdS (allS _ _ ks.length ++ _) (wdL ks) = _; rw [qwp]; rfl
theorem w3 : wdN (.mk 3 t g ks) = ⟨#[40]⟩ :: wdR true ks := by rw [wdN]; show _ :: wdS (kh 0 true ks.length) (wdL ks) = _; rw [qio]
theorem w4 : wdN (.mk 4 t g [a]) = t :: wdN a := by rw [wdN]; show _ :: (wdN a ++ []) = _; rw [List.append_nil]
theorem w2 : wdN (.mk 2 t g [a, b, c]) = ⟨#[102, 110]⟩ :: t :: (wdN a ++ (wdN b ++ wdN c)) := by rw [wdN]; show _ :: _ :: (wdN a ++ (wdN b ++ (wdN c ++ []))) = _; rw [List.append_nil]
theorem w7 : wdN (.mk 7 t g (b :: ks)) = ⟨#[99, 108, 97, 115, 115]⟩ :: t :: (wdN b ++ ⟨#[123]⟩ :: (wdA ks ++ [⟨#[125]⟩])) := by rw [wdN]; show _ :: _ :: (wdN b ++ _ :: wdS (allS _ _ (ks.length + 1 - 1) ++ _) (wdL ks)) = _; rw [Nat.add_sub_cancel, qwp]; rfl
theorem w8 : wdN (.mk 8 t g []) = if t = e0 then [] else [⟨#[58]⟩, t] := by
 rw [wdN]
 show wdS (if t = e0 then [] else _) _ = _
 split <;> rfl
theorem w1 : wdN (.mk 1 t g ks) = wdA ks ++ [e0] := by rw [wdN]; show wdS (Q5 _ _ ks.length ++ _) (wdL ks) = _; rw [qx6]; rfl
end
theorem qvh {k : Int} (h : zv k = 2) : k = 10 ∨ k = 11 ∨ k = 12 ∨ k = 13 ∨ k = 15 ∨ k = 16 := by
 have hk := kinds (qvg h)
 rcases hk with rfl | rfl | rfl | rfl | rfl | rfl | rfl | rfl | rfl | rfl | rfl | rfl | rfl | rfl | rfl | rfl | rfl | rfl | rfl | rfl | rfl | rfl | rfl | rfl | rfl | rfl <;> first | (exact absurd h (by decide)) | simp
theorem q3n {k : Int} (h : zv k = 1) : k = 2 ∨ k = 7 ∨ k = 9 := by
 have hk := kinds (qvi h)
 rcases hk with rfl | rfl | rfl | rfl | rfl | rfl | rfl | rfl | rfl | rfl | rfl | rfl | rfl | rfl | rfl | rfl | rfl | rfl | rfl | rfl | rfl | rfl | rfl | rfl | rfl | rfl <;> first | (exact absurd h (by decide)) | simp
section
variable {t : BA} {g : List BA} {ks : List Node}
theorem iE (k : Int) (h : firstErr (.mk k t g ks) = 0) (hk : k = 9 ∨ k = 10 ∨ k = 11 ∨ k = 12 ∨ k = 16) : ∃ a, ks = [a] ∧ firstErr a = 0 ∧ zv a.kind = 3 := by
 rcases hk with rfl | rfl | rfl | rfl | rfl <;> (obtain ⟨a, e, h1, h2⟩ := qy8 h rfl (q := (0, 3)) rfl; exact ⟨a, e, h1, h2.symm⟩)
theorem i13 (h : firstErr (.mk 13 t g ks) = 0) : ∃ a b c, ks = [a, b, c] ∧ firstErr a = 0 ∧ firstErr b = 0 ∧ firstErr c = 0 ∧ zv a.kind = 3 ∧ b.kind = 6 ∧ c.kind = 14 ∧ t = e0 := by
 have w := inn h
 obtain ⟨a, b, c, rfl⟩ := q6t (show ks.length = 3 from w.nk)
 exact ⟨a, b, c, rfl, w.ks a (List.mem_cons_self ..), w.ks b (List.mem_cons_of_mem _ (List.mem_cons_self ..)), w.ks c (List.mem_cons_of_mem _ (List.mem_cons_of_mem _ (List.mem_cons_self ..))), (Zr (q := (0, 3)) (w.ft 0 a rfl) rfl).symm, (Zr (q := (6, 0)) (w.ft 1 b rfl) rfl).symm, (Zr (q := (14, 0)) (w.ft 2 c rfl) rfl).symm, of_decide_eq_true w.sp⟩
theorem i15 (h : firstErr (.mk 15 t g ks) = 0) : ∃ a b, ks = [a, b] ∧ firstErr a = 0 ∧ firstErr b = 0 ∧ zv a.kind = 3 ∧ b.kind = 6 ∧ t = e0 := by
 have w := inn h
 obtain ⟨a, b, rfl⟩ := two (show ks.length = 2 from w.nk)
 exact ⟨a, b, rfl, w.ks a (List.mem_cons_self ..), w.ks b (List.mem_cons_of_mem _ (List.mem_cons_self ..)), (Zr (q := (0, 3)) (w.ft 0 a rfl) rfl).symm, (Zr (q := (6, 0)) (w.ft 1 b rfl) rfl).symm, of_decide_eq_true w.sp⟩
theorem i14 (h : firstErr (.mk 14 t g ks) = 0) : t = e0 ∧ (ks = [] ∨ ∃ b, ks = [b] ∧ firstErr b = 0 ∧ b.kind = 6) := by
 have w := inn h
 refine ⟨of_decide_eq_true w.sp, ?_⟩
 have hl : ks.length ≤ 1 := w.nk
 match ks, hl, w with
 | [], _, _ => exact .inl rfl
 | [b], _, w => exact .inr ⟨b, rfl, w.ks b (List.mem_cons_self ..), (Zr (q := (6, 0)) (w.ft 0 b rfl) rfl).symm⟩
theorem i6 (h : firstErr (.mk 6 t g ks) = 0) : (∀ m ∈ ks, firstErr m = 0 ∧ zv m.kind = 2) ∧ t = e0 :=
 ⟨fun m hm => ⟨(qf1 h rfl (q := (0, 2)) rfl m hm).1, (qf1 h rfl (q := (0, 2)) rfl m hm).2.symm⟩, of_decide_eq_true (inn h).sp⟩
theorem i3 (h : firstErr (.mk 3 t g ks) = 0) : (∀ m ∈ ks, firstErr m = 0 ∧ m.kind = 4) ∧ t = e0 :=
 ⟨fun m hm => ⟨(qf1 h rfl (q := (4, 0)) rfl m hm).1, (qf1 h rfl (q := (4, 0)) rfl m hm).2.symm⟩, of_decide_eq_true (inn h).sp⟩
theorem i1 (h : firstErr (.mk 1 t g ks) = 0) : (∀ m ∈ ks, firstErr m = 0 ∧ zv m.kind = 1) ∧ t = e0 :=
 ⟨fun m hm => ⟨(qf1 h rfl (q := (0, 1)) rfl m hm).1, (qf1 h rfl (q := (0, 1)) rfl m hm).2.symm⟩, of_decide_eq_true (inn h).sp⟩
theorem i4 (h : firstErr (.mk 4 t g ks) = 0) : ∃ t2 g2, ks = [.mk 5 t2 g2 []] ∧ vc t.data.toList = true ∧ vc t2.data.toList = true := by
 obtain ⟨a, e, h1, h2⟩ := qy8 h rfl (q := (5, 0)) rfl
 obtain ⟨k, t2, g2, l⟩ := a
 have hk : k = 5 := h2.symm
 subst hk
 have := qbp h1 rfl
 subst this
 exact ⟨t2, g2, e, (inn h).ca, (inn h1).ca⟩
theorem i2 (h : firstErr (.mk 2 t g ks) = 0) : ∃ p t2 g2 c, ks = [p, .mk 5 t2 g2 [], c] ∧ firstErr p = 0 ∧ firstErr c = 0 ∧ p.kind = 3 ∧ c.kind = 6 ∧ vc t2.data.toList = true ∧ vc t.data.toList = true := by
 have w := inn h
 obtain ⟨a, b, c, rfl⟩ := q6t (show ks.length = 3 from w.nk)
 have hb := w.ks b (List.mem_cons_of_mem _ (List.mem_cons_self ..))
 have kb : b.kind = 5 := (Zr (q := (5, 0)) (w.ft 1 b rfl) rfl).symm
 obtain ⟨k, t2, g2, l⟩ := b
 have hk : k = 5 := kb
 subst hk
 have := qbp hb rfl
 subst this
 exact ⟨a, t2, g2, c, rfl, w.ks a (List.mem_cons_self ..), w.ks c (List.mem_cons_of_mem _ (List.mem_cons_of_mem _ (List.mem_cons_self ..))), (Zr (q := (3, 0)) (w.ft 0 a rfl) rfl).symm, (Zr (q := (6, 0)) (w.ft 2 c rfl) rfl).symm, (inn hb).ca, w.ca⟩
theorem i7 (h : firstErr (.mk 7 t g ks) = 0) : ∃ t2 g2 l, ks = .mk 8 t2 g2 [] :: l ∧ (t2 = e0 ∨ vc t2.data.toList = true) ∧ (∀ m ∈ l, firstErr m = 0 ∧ m.kind = 2) ∧ vc t.data.toList = true := by
 have w := inn h
 cases ks with
 | nil => exact absurd (show 1 ≤ 0 from w.nk) (by decide)
 | cons a l =>
   have ha := w.ks a (List.mem_cons_self ..)
   have ka : a.kind = 8 := (Zr (q := (8, 0)) (w.ft 0 a rfl) rfl).symm
   obtain ⟨k, t2, g2, l2⟩ := a
   have hk : k = 8 := ka
   subst hk
   have := qbp ha rfl
   subst this
   have hc : (decide (t2 = ⟨#[]⟩) || vc t2.data.toList) = true := (inn ha).ca
   rw [Bool.or_eq_true, decide_eq_true_eq] at hc
   refine ⟨t2, g2, l, rfl, hc, fun m hm => ?_, w.ca⟩
   obtain ⟨i, hi⟩ := List.getElem?_of_mem hm
   refine ⟨w.ks m (List.mem_cons_of_mem _ hm), (Zr (q := (2, 0)) (w.ft (i + 1) m hi) ?_).symm⟩
   show (if ((i + 1 : Nat) : Int) < 1 then _ else _) = _
   rw [if_neg (by omega)]; rfl
end
theorem q4e {n : Node} (hf : firstErr n = 0) (hg : zv n.kind = 2) : ∃ w l, wdN n = w :: l ∧ w ≠ ⟨#[101, 108, 115, 101]⟩ ∧ w ≠ ⟨#[125]⟩ := by
 obtain ⟨k, t, g, ks⟩ := n
 rcases qvh hg with hk | hk | hk | hk | hk | hk <;> (have hk : k = _ := hk; subst hk)
 ·obtain ⟨a, rfl, _⟩ := iE 10 hf (by simp); exact ⟨_, _, w10, by decide, by decide⟩
 ·obtain ⟨a, rfl, _⟩ := iE 11 hf (by simp)
  have h := qfv (w := t) (inn hf).ca
  exact ⟨_, _, w11, h.2.2.2.2.2.1, h.2.2.2.2.2.2⟩
 ·obtain ⟨a, rfl, _⟩ := iE 12 hf (by simp); exact ⟨_, _, w12, by decide, by decide⟩
 ·obtain ⟨a, b, c, rfl, _⟩ := i13 hf; exact ⟨_, _, w13, by decide, by decide⟩
 ·obtain ⟨a, b, rfl, _⟩ := i15 hf; exact ⟨_, _, w15, by decide, by decide⟩
 obtain ⟨a, rfl, ha, ga⟩ := iE 16 hf (by simp)
 obtain ⟨q1, w, l, q2, _⟩ := qju (wl a) a (Nat.le_refl _) ha ga
 have h := q1 w (by rw [q2]; exact List.mem_cons_self ..)
 exact ⟨w, _, by rw [w16, q2]; rfl, h.2.2.2.2.2.1, h.2.2.2.2.2.2⟩
def SP (n : Node) (T : List Token) : Prop := ∃ n', sameN n' n ∧ ∀ r, nels r → Ck .stmt (T ++ r) n' r
def BP (n : Node) (T : List Token) : Prop := ∃ n', sameN n' n ∧ ∀ r, Ck .blk (T ++ r) n' r
theorem qz2 : ∀ (ks : List Node) (T : List Token), (∀ m ∈ ks, firstErr m = 0 ∧ zv m.kind = 2) → (∀ m ∈ ks, ∀ U, U.map (·.Text) = wdN m → Ty U → SP m U) → T.map (·.Text) = wdA ks → Ty T →
 ∃ ks', Jx ks' ks ∧ ∀ (g : List BA) (ls : List Node) (y : Token) (r : List Token), y.Text = ⟨#[125]⟩ → Ck (.blkL g ls) (T ++ y :: r) (.mk 6 ⟨#[]⟩ (g ++ [y.Lead]) (ls ++ ks')) r
 | [], T, _, _, h, _ => by
   rw [Zj h]
   exact ⟨[], yk, fun g ls y r hy => by rw [List.append_nil]; exact q4x hy⟩
 | m :: ks, T, h1, ih, h, ty => by
   rw [wdA] at h
   obtain ⟨U, T', rfl, hU, hT⟩ := Zw h
   have hm := h1 m (List.mem_cons_self ..)
   obtain ⟨m', hs, c⟩ := ih m (List.mem_cons_self ..) U hU ty.app.1
   obtain ⟨ks', hs', hk⟩ := qz2 ks T' (fun m hm => h1 m (List.mem_cons_of_mem _ hm)) (fun m hm => ih m (List.mem_cons_of_mem _ hm)) hT ty.app.2
   obtain ⟨w, l, e, hw1, hw2⟩ := q4e hm.1 hm.2
   refine ⟨m' :: ks', jf hs hs', fun g ls y r hy => ?_⟩
   have hn : nels (T' ++ y :: r) := by
    cases ks with
    | nil => rw [Zj hT]; exact ⟨y, r, rfl, by rw [hy]; decide⟩
    | cons m2 ks =>
      have hm2 := h1 m2 (List.mem_cons_of_mem _ (List.mem_cons_self ..))
      obtain ⟨w2, l2, e2, hw3, _⟩ := q4e hm2.1 hm2.2
      rw [wdA, e2] at hT
      obtain ⟨x, T2, rfl, hx, _⟩ := zw hT
      exact ⟨x, _, rfl, by rw [hx]; exact hw3⟩
   have hb := c (T' ++ y :: r) hn
   have hk' := hk g (ls ++ [m']) y r hy
   rw [List.append_assoc] at hk'
   rw [e] at hU
   obtain ⟨x, U', rfl, hx, _⟩ := zw hU
   rw [List.append_assoc]
   exact q1i (by rw [hx]; exact hw2) hb qbn hk'
theorem C_sb : ∀ (j : Nat) (n : Node), wl n ≤ j → firstErr n = 0 → ∀ T, T.map (·.Text) = wdN n → Ty T → (zv n.kind = 2 → SP n T) ∧ (n.kind = 6 → BP n T)
 | 0, n, h, _, _, _, _ => by have := J1 n; omega
 | j + 1, n, h, hf, T, hT, ty => by
   have hs := Yg n
   have ih : ∀ m ∈ n.kids, firstErr m = 0 → ∀ T, T.map (·.Text) = wdN m → Ty T → (zv m.kind = 2 → SP m T) ∧ (m.kind = 6 → BP m T) := fun m hm => C_sb j m (by have := qac hm; omega)
   have blk : ∀ m ∈ n.kids, firstErr m = 0 → m.kind = 6 → ∀ T, T.map (·.Text) = wdN m → Ty T → BP m T ∧ ∀ r v, 1 ≤ v → stop v (T ++ r) := fun m hm hf hk T hT ty => by
    refine ⟨(ih m hm hf T hT ty).2 hk, fun r v hv => ?_⟩
    obtain ⟨k, t, g, ks⟩ := m
    have hk : k = 6 := hk
    subst hk
    rw [w6] at hT
    obtain ⟨x, T', rfl, hx, _⟩ := zw hT
    exact ⟨x, _, rfl, by rw [hx, show jx ⟨#[123]⟩ = 0 from by decide]; omega, by rw [hx]; decide, by rw [hx]; decide⟩
   have exp : ∀ a : Node, firstErr a = 0 → zv a.kind = 3 → ∀ U, U.map (·.Text) = wdN a → Ty U → ∃ a', sameN a' a ∧ ∀ r, stop 1 r → Ck (.bin 1) (U ++ r) a' r := fun a ha ga U hU tU => by
    obtain ⟨a', c⟩ := qtn (wl a) a (Nat.le_refl _) ha ga U hU tU
    exact ⟨a', c.same, fun r hr => c.bin 1 r (by decide) (by decide) (qdb ha ga) hr⟩
   have semi : ∀ (u : Token) (r : List Token), u.Text = ⟨#[59]⟩ → stop 1 (u :: r) := fun u r hu => ⟨u, r, rfl, by rw [hu]; decide, by rw [hu]; decide, by rw [hu]; decide⟩
   obtain ⟨k, t, g, ks⟩ := n
   refine ⟨fun hg => ?_, fun hk => ?_⟩
   ·rcases qvh hg with hk | hk | hk | hk | hk | hk <;> (have hk : k = _ := hk; subst hk)
    ·obtain ⟨a, rfl, ha, ga⟩ := iE 10 hf (by simp)
     rw [w10] at hT
     obtain ⟨x, T', rfl, hx, hT⟩ := zw hT
     obtain ⟨y, T', rfl, hy, hT⟩ := zw hT
     obtain ⟨z, T', rfl, hz, hT⟩ := zw hT
     obtain ⟨U, T', rfl, hU, hT⟩ := Zw hT
     obtain ⟨u, T', rfl, hu, hT⟩ := zw hT
     rw [Zj hT] at ty ⊢
     obtain ⟨k1, n1⟩ := ty.tail.name (by rw [hy]; exact (inn hf).ca)
     obtain ⟨a', hsa, ca⟩ := exp a ha ga U hU ty.tail.tail.tail.app.1
     refine ⟨_, wi (k := 10) (g := [x.Lead, y.Lead, z.Lead, u.Lead]) rfl hy (jf hsa yk), fun r _ => ?_⟩
     have hb := ca (u :: r) (semi u r hu)
     have := q9v hx k1 n1 hz hb hu
     rw [List.cons_append, List.cons_append, List.cons_append, List.append_assoc]
     exact this
    ·obtain ⟨a, rfl, ha, ga⟩ := iE 11 hf (by simp)
     rw [w11] at hT
     obtain ⟨y, T', rfl, hy, hT⟩ := zw hT
     obtain ⟨z, T', rfl, hz, hT⟩ := zw hT
     obtain ⟨U, T', rfl, hU, hT⟩ := Zw hT
     obtain ⟨u, T', rfl, hu, hT⟩ := zw hT
     rw [Zj hT] at ty ⊢
     obtain ⟨k1, n1⟩ := ty.name (by rw [hy]; exact (inn hf).ca)
     obtain ⟨a', hsa, ca⟩ := exp a ha ga U hU ty.tail.tail.app.1
     refine ⟨_, wi (k := 11) (g := [y.Lead, z.Lead, u.Lead]) rfl hy (jf hsa yk), fun r _ => ?_⟩
     have hb := ca (u :: r) (semi u r hu)
     have := q9r k1 n1 hz hb hu
     rw [List.cons_append, List.cons_append, List.append_assoc]
     exact this
    ·obtain ⟨a, rfl, ha, ga⟩ := iE 12 hf (by simp)
     rw [w12] at hT
     obtain ⟨x, T', rfl, hx, hT⟩ := zw hT
     obtain ⟨U, T', rfl, hU, hT⟩ := Zw hT
     obtain ⟨u, T', rfl, hu, hT⟩ := zw hT
     rw [Zj hT] at ty ⊢
     obtain ⟨a', hsa, ca⟩ := exp a ha ga U hU ty.tail.app.1
     have ht : t = e0 := of_decide_eq_true (inn hf).sp
     refine ⟨_, wi (k := 12) (g := [x.Lead, u.Lead]) rfl ht.symm (jf hsa yk), fun r _ => ?_⟩
     have hb := ca (u :: r) (semi u r hu)
     have := q9s hx hb hu
     rw [List.cons_append, List.append_assoc]
     exact this
    ·obtain ⟨a, b, c, rfl, ha, hb, hc, ga, kb, kc, ht⟩ := i13 hf
     rw [w13] at hT
     obtain ⟨x, T', rfl, hx, hT⟩ := zw hT
     obtain ⟨U, T', rfl, hU, hT⟩ := Zw hT
     obtain ⟨W, T', rfl, hW, hT⟩ := Zw hT
     obtain ⟨a', hsa, ca⟩ := exp a ha ga U hU ty.tail.app.1
     obtain ⟨⟨b', hsb, cb⟩, hst⟩ := blk b (List.mem_cons_of_mem _ (List.mem_cons_self ..)) hb kb W hW ty.tail.app.2.app.1
     obtain ⟨k, t3, g3, l3⟩ := c
     have kc : k = 14 := kc
     subst kc
     obtain ⟨ht3, h3⟩ := i14 hc
     rcases h3 with rfl | ⟨d, rfl, hd, kd⟩
     ·rw [w14] at hT
      rw [Zj hT] at ty ⊢
      refine ⟨_, wi (k := 13) (g := [x.Lead]) rfl ht.symm (jf hsa (jf hsb (jf (wi (k := 14) (g := []) rfl ht3.symm yk) yk))), fun r hr => ?_⟩
      obtain ⟨y, q, rfl, hy⟩ := hr
      rw [List.append_nil, List.cons_append, List.append_assoc]
      exact q9y hx (ca _ (hst _ 1 (Int.le_refl _))) qbn (cb (y :: q)) hy
     rw [w14b] at hT
     obtain ⟨y, Z, rfl, hy, hZ⟩ := zw hT
     have td := ty.tail.app.2.app.2.tail
     have ihd : BP d Z := (C_sb j d (by
      have e1 := qac (l := [a, b, Node.mk 14 t3 g3 [d]]) (m := Node.mk 14 t3 g3 [d]) (by simp)
      have e2 : wl d ≤ wl (Node.mk 14 t3 g3 [d]) := by rw [wl, vt, vt]; omega
      have e3 : wl (Node.mk 13 t g [a, b, Node.mk 14 t3 g3 [d]]) = vt [a, b, Node.mk 14 t3 g3 [d]] + 1 := hs
      omega) hd Z hZ td).2 kd
     obtain ⟨d', hsd, cd⟩ := ihd
     refine ⟨_, wi (k := 13) (g := [x.Lead]) rfl ht.symm (jf hsa (jf hsb (jf (wi (k := 14) (g := [y.Lead]) rfl ht3.symm (jf hsd yk)) yk))), fun r hr => ?_⟩
     have hcb := cb (y :: (Z ++ r))
     rw [List.cons_append, List.append_assoc, List.append_assoc]
     exact q9x hx (ca _ (hst _ 1 (Int.le_refl _))) qbn hcb qsn hy (cd r)
    ·obtain ⟨a, b, rfl, ha, hb, ga, kb, ht⟩ := i15 hf
     rw [w15] at hT
     obtain ⟨x, T', rfl, hx, hT⟩ := zw hT
     obtain ⟨U, W, rfl, hU, hW⟩ := Zw hT
     obtain ⟨a', hsa, ca⟩ := exp a ha ga U hU ty.tail.app.1
     obtain ⟨⟨b', hsb, cb⟩, hst⟩ := blk b (List.mem_cons_of_mem _ (List.mem_cons_self ..)) hb kb W hW ty.tail.app.2
     refine ⟨_, wi (k := 15) (g := [x.Lead]) rfl ht.symm (jf hsa (jf hsb yk)), fun r _ => ?_⟩
     rw [List.cons_append, List.append_assoc]
     exact q6n hx (ca _ (hst _ 1 (Int.le_refl _))) qbn (cb r)
    obtain ⟨a, rfl, ha, ga⟩ := iE 16 hf (by simp)
    rw [w16] at hT
    obtain ⟨U, T', rfl, hU, hT⟩ := Zw hT
    obtain ⟨u, T', rfl, hu, hT⟩ := zw hT
    rw [Zj hT] at ty ⊢
    obtain ⟨a', hsa, ca⟩ := exp a ha ga U hU ty.app.1
    have ht : t = e0 := of_decide_eq_true (inn hf).sp
    obtain ⟨q1, w, l, q2, _⟩ := qju (wl a) a (Nat.le_refl _) ha ga
    refine ⟨_, wi (k := 16) (g := [u.Lead]) rfl ht.symm (jf hsa yk), fun r _ => ?_⟩
    have hb := ca (u :: r) (semi u r hu)
    have hall : ∀ x ∈ U, okE x.Text := fun x hx => q1 _ (by rw [← hU]; exact List.mem_map_of_mem hx)
    rw [q2] at hU
    obtain ⟨x, U', rfl, hx, hU'⟩ := zw hU
    have hx' := hall x (List.mem_cons_self ..)
    rw [List.append_assoc]
    cases U' with
    | nil => exact C_do hx' (by rw [hu]; decide) hb hu
    | cons y U' => exact C_do hx' (hall y (List.mem_cons_of_mem _ (List.mem_cons_self ..))).2.2.2.2.1 hb hu
   have hk : k = 6 := hk
   subst hk
   obtain ⟨h1, ht⟩ := i6 hf
   rw [w6] at hT
   obtain ⟨x, T', rfl, hx, hT⟩ := zw hT
   obtain ⟨U, T', rfl, hU, hT⟩ := Zw hT
   obtain ⟨y, T', rfl, hy, hT⟩ := zw hT
   rw [Zj hT] at ty ⊢
   obtain ⟨ks', hsk, hk⟩ := qz2 ks U h1 (fun m hm V hV tV => (ih m hm (h1 m hm).1 V hV tV).1 (h1 m hm).2) hU ty.tail.app.1
   refine ⟨_, wi (g := [x.Lead] ++ [y.Lead]) (l := [] ++ ks') rfl ht.symm hsk, fun r => ?_⟩
   rw [List.cons_append, List.append_assoc]
   exact q90 hx (hk [x.Lead] [] y r hy)
theorem qxx : ∀ (ps : List Node) (b : Bool) (T : List Token), (∀ m ∈ ps, firstErr m = 0 ∧ m.kind = 4) → T.map (·.Text) = wdR b ps → Ty T →
 ∃ g' ps', Jx ps' ps ∧ ∀ (g : List BA) (ls : List Node) (r : List Token), b = decide (ls.length = 0) → Ck (.parL g ls) (T ++ r) (.mk 3 ⟨#[]⟩ (g ++ g') (ls ++ ps')) r
 | [], b, T, _, h, ty => by
   have h : T.map (·.Text) = [⟨#[41]⟩] := by rw [h]; cases b <;> rfl
   obtain ⟨x, T', rfl, hx, hT⟩ := zw h
   rw [Zj hT]
   exact ⟨[x.Lead], [], yk, fun g ls r _ => by rw [List.append_nil]; exact q4s hx⟩
 | m :: ps, b, T, h1, h, ty => by
   have hm := h1 m (List.mem_cons_self ..)
   obtain ⟨k, t, g0, l0⟩ := m
   have hk : k = 4 := hm.2
   subst hk
   obtain ⟨t2, g2, rfl, n1, n2⟩ := i4 hm.1
   have wm : wdN (.mk 4 t g0 [.mk 5 t2 g2 []]) = [t, t2] := by rw [w4, qcn 5 (by simp)]
   have sm : ∀ {x y : Token}, x.Text = t → y.Text = t2 → sameN (.mk 4 x.Text [x.Lead] [.mk 5 y.Text [y.Lead] []]) (.mk 4 t g0 [.mk 5 t2 g2 []]) := fun hx hy => wi rfl hx (jf (wi rfl hy yk) yk)
   cases b with
   | true =>
     rw [wdR, wm] at h
     obtain ⟨x, T', rfl, hx, h⟩ := zw h
     obtain ⟨y, T', rfl, hy, h⟩ := zw h
     obtain ⟨k1, m1⟩ := ty.name (by rw [hx]; exact n1)
     obtain ⟨k2, m2⟩ := ty.tail.name (by rw [hy]; exact n2)
     obtain ⟨g', ps', hs, hk⟩ := qxx ps false T' (fun m hm => h1 m (List.mem_cons_of_mem _ hm)) h ty.tail.tail
     refine ⟨g', .mk 4 x.Text [x.Lead] [.mk 5 y.Text [y.Lead] []] :: ps', jf (sm hx hy) hs, fun g ls r hl => ?_⟩
     have hl0 : ls = [] := List.length_eq_zero_iff.1 (of_decide_eq_true hl.symm)
     subst hl0
     exact qxy k1 m1 k2 m2 (hk g [.mk 4 x.Text [x.Lead] [.mk 5 y.Text [y.Lead] []]] r rfl)
   | false =>
     rw [wdR, wm] at h
     obtain ⟨z, T', rfl, hz, h⟩ := zw h
     obtain ⟨x, T', rfl, hx, h⟩ := zw h
     obtain ⟨y, T', rfl, hy, h⟩ := zw h
     obtain ⟨k1, m1⟩ := ty.tail.name (by rw [hx]; exact n1)
     obtain ⟨k2, m2⟩ := ty.tail.tail.name (by rw [hy]; exact n2)
     obtain ⟨g', ps', hs, hk⟩ := qxx ps false T' (fun m hm => h1 m (List.mem_cons_of_mem _ hm)) h ty.tail.tail.tail
     refine ⟨z.Lead :: g', .mk 4 x.Text [x.Lead] [.mk 5 y.Text [y.Lead] []] :: ps', jf (sm hx hy) hs, fun g ls r hl => ?_⟩
     have hl0 : ¬ ls.length = 0 := of_decide_eq_false hl.symm
     have hk' := hk (g ++ [z.Lead]) (ls ++ [.mk 4 x.Text [x.Lead] [.mk 5 y.Text [y.Lead] []]]) r (by rw [List.length_append, List.length_singleton, decide_eq_false (by omega)])
     rw [List.append_assoc, List.append_assoc] at hk'
     exact q1g (by omega) hz k1 m1 k2 m2 hk'
theorem C_fn {n : Node} (hf : firstErr n = 0) (hk : n.kind = 2) {T : List Token} (hT : T.map (·.Text) = wdN n) (ty : Ty T) : ∃ n', sameN n' n ∧ (∃ x T', T = x :: T' ∧ x.Text = ⟨#[102, 110]⟩) ∧ ∀ r, Ck .func (T ++ r) n' r := by
 obtain ⟨k, t, g, ks⟩ := n
 have hk : k = 2 := hk
 subst hk
 obtain ⟨p, t2, g2, c, rfl, hp, hc, kp, kc, n2, n1⟩ := i2 hf
 obtain ⟨k, t3, g3, ps⟩ := p
 have kp : k = 3 := kp
 subst kp
 obtain ⟨h1, ht3⟩ := i3 hp
 rw [w2, w3, qcn 5 (by simp)] at hT
 obtain ⟨x, T', rfl, hx, hT⟩ := zw hT
 obtain ⟨y, T', rfl, hy, hT⟩ := zw hT
 obtain ⟨Z0, T2, rfl, hZ0, hT2⟩ := Zw hT
 obtain ⟨z, Z, rfl, hz, hZ⟩ := zw hZ0
 obtain ⟨w, W, rfl, hw, hW⟩ := zw (show T2.map (·.Text) = t2 :: wdN c from hT2)
 have tz := ty.tail.tail.app
 obtain ⟨k1, m1⟩ := ty.tail.name (by rw [hy]; exact n1)
 obtain ⟨k2, m2⟩ := tz.2.name (by rw [hw]; exact n2)
 obtain ⟨g', ps', hs, hk⟩ := qxx ps true Z h1 hZ tz.1.tail
 obtain ⟨c', hsc, cc⟩ := (C_sb (wl c) c (Nat.le_refl _) hc W hW tz.2.tail).2 kc
 refine ⟨_, wi (k := 2) (g := [x.Lead, y.Lead]) rfl hy (jf (wi (k := 3) (g := [z.Lead] ++ g') (l := [] ++ ps') rfl ht3.symm hs) (jf (wi (k := 5) (g := [w.Lead]) rfl hw yk) (jf hsc yk))), ⟨x, _, rfl, hx⟩, fun r => ?_⟩
 have hp' := hk [z.Lead] [] (w :: (W ++ r)) rfl
 rw [List.cons_append, List.cons_append, List.append_assoc]
 exact q8s hx k1 m1 hz hp' qsn k2 m2 (cc r)
theorem q4t : ∀ (ks : List Node) (T : List Token), (∀ m ∈ ks, firstErr m = 0 ∧ m.kind = 2) → T.map (·.Text) = wdA ks → Ty T →
 ∃ ks', Jx ks' ks ∧ ∀ (a : BA) (g : List BA) (ls : List Node) (y : Token) (r : List Token), y.Text = ⟨#[125]⟩ → Ck (.clsL a g ls) (T ++ y :: r) (.mk 7 a (g ++ [y.Lead]) (ls ++ ks')) r
 | [], T, _, h, _ => by
   rw [Zj h]
   exact ⟨[], yk, fun a g ls y r hy => by rw [List.append_nil]; exact q4w hy⟩
 | m :: ks, T, h1, h, ty => by
   rw [wdA] at h
   obtain ⟨U, T', rfl, hU, hT⟩ := Zw h
   have hm := h1 m (List.mem_cons_self ..)
   obtain ⟨m', hs, ⟨x, U', rfl, hx⟩, c⟩ := C_fn hm.1 hm.2 hU ty.app.1
   obtain ⟨ks', hs', hk⟩ := q4t ks T' (fun m hm => h1 m (List.mem_cons_of_mem _ hm)) hT ty.app.2
   refine ⟨m' :: ks', jf hs hs', fun a g ls y r hy => ?_⟩
   have hk' := hk a g (ls ++ [m']) y r hy
   rw [List.append_assoc] at hk'
   rw [List.append_assoc]
   exact q1h hx (c (T' ++ y :: r)) qbn hk'
theorem q6p {n : Node} (hf : firstErr n = 0) (hk : n.kind = 7) {T : List Token} (hT : T.map (·.Text) = wdN n) (ty : Ty T) : ∃ n', sameN n' n ∧ (∃ x T', T = x :: T' ∧ x.Text = ⟨#[99, 108, 97, 115, 115]⟩) ∧ ∀ r, Ck .cls (T ++ r) n' r := by
 obtain ⟨k, t, g, ks⟩ := n
 have hk : k = 7 := hk
 subst hk
 obtain ⟨t2, g2, l, rfl, hb, h1, n1⟩ := i7 hf
 rw [w7, w8] at hT
 obtain ⟨x, T', rfl, hx, hT⟩ := zw hT
 obtain ⟨y, T', rfl, hy, hT⟩ := zw hT
 obtain ⟨k1, m1⟩ := ty.tail.name (by rw [hy]; exact n1)
 by_cases e : t2 = e0
 ·rw [if_pos e] at hT
  obtain ⟨z, T', rfl, hz, hT⟩ := zw (show T'.map (·.Text) = ⟨#[123]⟩ :: (wdA l ++ [⟨#[125]⟩]) from hT)
  obtain ⟨U, T', rfl, hU, hT⟩ := Zw hT
  obtain ⟨u, T', rfl, hu, hT⟩ := zw hT
  rw [Zj hT] at ty ⊢
  obtain ⟨ks', hs', hk⟩ := q4t l U h1 hU ty.tail.tail.tail.app.1
  refine ⟨_, wi (g := [x.Lead, y.Lead, z.Lead] ++ [u.Lead]) (l := [.mk 8 ⟨#[]⟩ [] []] ++ ks') rfl hy (jf (wi (k := 8) (t := ⟨#[]⟩) (g := []) (n := .mk 8 t2 g2 []) rfl e.symm yk) hs'), ⟨x, _, rfl, hx⟩, fun r => ?_⟩
  rw [List.cons_append, List.cons_append, List.cons_append, List.append_assoc]
  exact q8u hx k1 m1 hz (hk y.Text _ _ u r hu)
 rw [if_neg e] at hT
 obtain ⟨v, T', rfl, hv, hT⟩ := zw (show T'.map (·.Text) = ⟨#[58]⟩ :: t2 :: ⟨#[123]⟩ :: (wdA l ++ [⟨#[125]⟩]) from hT)
 obtain ⟨w, T', rfl, hw, hT⟩ := zw hT
 obtain ⟨z, T', rfl, hz, hT⟩ := zw hT
 obtain ⟨U, T', rfl, hU, hT⟩ := Zw hT
 obtain ⟨u, T', rfl, hu, hT⟩ := zw hT
 rw [Zj hT] at ty ⊢
 have n2 : vc t2.data.toList = true := by
  rcases hb with h | h
  ·exact absurd h e
  exact h
 obtain ⟨k2, m2⟩ := ty.tail.tail.tail.name (by rw [hw]; exact n2)
 obtain ⟨ks', hs', hk⟩ := q4t l U h1 hU ty.tail.tail.tail.tail.tail.app.1
 refine ⟨_, wi (g := [x.Lead, y.Lead, z.Lead] ++ [u.Lead]) (l := [.mk 8 w.Text [v.Lead, w.Lead] []] ++ ks') rfl hy (jf (wi (k := 8) (g := [v.Lead, w.Lead]) (n := .mk 8 t2 g2 []) rfl hw yk) hs'), ⟨x, _, rfl, hx⟩, fun r => ?_⟩
 rw [List.cons_append, List.cons_append, List.cons_append, List.cons_append, List.cons_append, List.append_assoc]
 exact q8t hx k1 m1 hv k2 m2 hz (hk y.Text _ _ u r hu)
theorem qz3 : ∀ (ks : List Node) (T : List Token), (∀ m ∈ ks, firstErr m = 0 ∧ zv m.kind = 1) → T.map (·.Text) = wdA ks → Ty T →
 ∃ ks', Jx ks' ks ∧ ∀ (ls : List Node) (y : Token) (r : List Token), y.Kind = 4 → Ck (.file ls) (T ++ y :: r) (.mk 1 ⟨#[]⟩ [y.Lead] (ls ++ ks')) (y :: r)
 | [], T, _, h, _ => by
   rw [Zj h]
   exact ⟨[], yk, fun ls y r hy => by rw [List.append_nil]; exact q4u hy⟩
 | m :: ks, T, h1, h, ty => by
   rw [wdA] at h
   obtain ⟨U, T', rfl, hU, hT⟩ := Zw h
   have hm := h1 m (List.mem_cons_self ..)
   obtain ⟨ks', hs', hk⟩ := qz3 ks T' (fun m hm => h1 m (List.mem_cons_of_mem _ hm)) hT ty.app.2
   have tyU := ty.app.1
   rcases q3n hm.2 with hk2 | hk7 | hk9
   ·obtain ⟨m', hs, ⟨x, U', rfl, hx⟩, c⟩ := C_fn hm.1 hk2 hU tyU
    refine ⟨m' :: ks', jf hs hs', fun ls y r hy => ?_⟩
    have hk' := hk (ls ++ [m']) y r hy
    rw [List.append_assoc] at hk'
    rw [List.append_assoc]
    exact q6o (by rw [tyU.head, hx]; decide) hx (c (T' ++ y :: r)) qbn hk'
   ·obtain ⟨m', hs, ⟨x, U', rfl, hx⟩, c⟩ := q6p hm.1 hk7 hU tyU
    refine ⟨m' :: ks', jf hs hs', fun ls y r hy => ?_⟩
    have hk' := hk (ls ++ [m']) y r hy
    rw [List.append_assoc] at hk'
    rw [List.append_assoc]
    exact q4v (by rw [tyU.head, hx]; decide) hx (c (T' ++ y :: r)) qbn hk'
   obtain ⟨k, t, g, l⟩ := m
   have hk9 : k = 9 := hk9
   subst hk9
   obtain ⟨a, rfl, ha, ga⟩ := iE 9 hm.1 (by simp)
   rw [w9] at hU
   obtain ⟨x, U, rfl, hx, hU⟩ := zw hU
   obtain ⟨z, U, rfl, hz, hU⟩ := zw hU
   obtain ⟨v, U, rfl, hv, hU⟩ := zw hU
   obtain ⟨W, U, rfl, hW, hU⟩ := Zw hU
   obtain ⟨u, U, rfl, hu, hU⟩ := zw hU
   rw [Zj hU] at tyU ⊢
   obtain ⟨k1, n1⟩ := tyU.tail.name (by rw [hz]; exact (inn hm.1).ca)
   obtain ⟨a', ca⟩ := qtn (wl a) a (Nat.le_refl _) ha ga W hW tyU.tail.tail.tail.app.1
   refine ⟨.mk 9 z.Text [x.Lead, z.Lead, v.Lead, u.Lead] [a'] :: ks', jf (wi rfl hz (jf ca.same yk)) hs', fun ls y r hy => ?_⟩
   have hk' := hk (ls ++ [.mk 9 z.Text [x.Lead, z.Lead, v.Lead, u.Lead] [a']]) y r hy
   rw [List.append_assoc] at hk'
   have hb := ca.bin 1 (u :: (T' ++ y :: r)) (by decide) (by decide) (qdb ha ga) ⟨u, _, rfl, by rw [hu]; decide, by rw [hu]; decide, by rw [hu]; decide⟩
   have := qxz (ks := ls) (by rw [tyU.head, hx]; decide) hx k1 n1 hv hb qsn hu hk'
   simp only [List.append_assoc, List.cons_append, List.nil_append]
   exact this
end Ps
end Go.Proofs.YtigmilhpeodhbaaGreatDoorW.Ex.Gr

namespace Go.Proofs.YtigmilhpeodhbaaGreatDoorW.Ex.Gr
open Go Go.Proofs.YtigmilhpeodhbaaGreatDoorW.Ex Go.Proofs.YtigmilhpeodhbaaGreatDoorW.Plain
set_option linter.all false
set_option maxRecDepth 100000
namespace Ps
open Tk
theorem qki : ∀ {T : List Token} {x : Token}, Good (T ++ [x]) → Ty T ∧ x.Kind = 4
 | [], x, h => by
   refine ⟨fun y hy => (by cases hy), ?_⟩
   rcases h.2 with ⟨_, h2, _⟩ | ⟨_, _, _, _, h2⟩
   ·exact h2
   exact h2.elim
 | y :: T, x, h => by
   rcases h.2 with ⟨h1, _⟩ | ⟨_, _, h2, _, h3⟩
   ·exact absurd h1 (by simp)
   obtain ⟨q1, q2⟩ := qki h3
   refine ⟨fun z hz => ?_, q2⟩
   rcases List.mem_cons.1 hz with e | hz
   ·rw [e]; exact h2
   exact q1 z hz
theorem qun (S : Nat) : ∀ (T : List Tok) (last : BA) (f : Nat), (∀ x ∈ T, qhd x) → (sfx last T).length < f → ∃ m x, Wu S f (sfx last T) = .ok (m ++ [x]) ∧ m.map (·.Text) = T.map (·.2) ∧ x.Lead = ⟨#[]⟩
 | [], last, 0, h, hf => by omega
 | [], last, f + 1, h, hf => ⟨[], _, by rw [sfx, Wu, if_pos (show q9 [] = [] from rfl)]; rfl, rfl, rfl⟩
 | (g, w) :: T, last, 0, h, hf => by omega
 | (g, w) :: T, last, f + 1, h, hf => by
   obtain ⟨hg, h3⟩ := h _ (List.mem_cons_self ..)
   have h4 := qsu T (fun x hx => h x (List.mem_cons_of_mem _ hx))
   have h1 : q9 (sfx last ((g, w) :: T)) = q9 (L w ++ sfx w T) := by
    rw [sfx]
    have : q9 (L g ++ (L w ++ sfx w T)) = q9 (L w ++ sfx w T) := qqp _ _ hg
    unfold sepL
    split
    ·rw [List.singleton_append, qnh, this]
    rw [List.nil_append, this]
   have ha := qrh w h3 T h4
   have hne := (Tk.kind_cases h3).1
   rw [quk h3 ha] at h1
   have hn := quw h3 ha
   have hlen : (sfx w T).length < f := by
    rw [sfx, List.length_append, List.length_append, List.length_append] at hf
    have : 0 < (L w).length := List.length_pos_iff.2 hne
    omega
   obtain ⟨m, x, hm, ht, hx⟩ := qun S T w f (fun x hx => h x (List.mem_cons_of_mem _ hx)) hlen
   rw [Wu, h1, if_neg (by simp [hne]), hn, if_neg (by exact h3)]
   simp only
   rw [show (L w ++ sfx w T).drop (L w).length = sfx w T from List.drop_left, hm]
   refine ⟨_ :: m, x, rfl, ?_, hx⟩
   rw [List.map_cons, ht]
   simp only [List.take_left]
   rw [qys]; rfl
mutual
theorem qqn : ∀ (a b : Node) (d : Nat), sameN a b → size? a d = size? b d
 | .mk k t g l, .mk k2 t2 g2 l2, 0, h => by rw [size?, size?]
 | .mk k t g l, .mk k2 t2 g2 l2, d + 1, h => by
   rw [sameN] at h
   obtain ⟨h1, _, h3⟩ := h
   have h1 : k = k2 := h1
   have h3 : Jx l l2 := h3
   rw [size?, size?]
   show (if most k < (l.length : Int) then none else (sizeL? l d).map (· + 1)) = (if most k2 < (l2.length : Int) then none else (sizeL? l2 d).map (· + 1))
   rw [h1, qj5 h3, qne l l2 d h3]
theorem qne : ∀ (a b : List Node) (d : Nat), Jx a b → sizeL? a d = sizeL? b d
 | [], b, d, h => by rw [Jx] at h; rw [h]
 | n :: a, [], d, h => by rw [Jx] at h; exact h.elim
 | n :: a, m :: b, d, h => by rw [Jx] at h; rw [sizeL?, sizeL?, qqn n m d h.1, qne a b d h.2]
end
theorem qhq {a b : Node} (h : sameN a b) (hb : checkErr b = 0) (ha : firstErr a = 0) : checkErr a = 0 := by
 obtain ⟨k, h1, h2, _⟩ := qbr hb
 exact qvv (by rw [qqn a b 60 h]; exact h1) h2 ha
mutual
theorem q4g : ∀ (a b : Node), sameN a b → wl b ≤ 1000000 → Ku a b = some true
 | .mk k t g l, n, h, hs => by
   rw [sameN] at h
   obtain ⟨h1, h2, h3⟩ := h
   have e := Yg n
   have hl := qea n.kids
   have hlen := qj5 h3
   rw [Ku]
   simp only [qa]
   show (if (!decide (k = n.kind)) = true then _ else if (!decide (t = n.text)) = true then _ else if (!decide (((l.map Node.cells).length : Int) = ((n.kids.map Node.cells).length : Int))) = true then _ else _) = _
   rw [decide_eq_true h1, nff, decide_eq_true h2, nff, decide_eq_true (by rw [List.length_map, List.length_map, hlen]), nff]
   exact qrk l n.kids [] [] (.mk k t g l) n rfl rfl rfl h3 (by omega) (by omega)
theorem qrk : ∀ (l l2 pre pre2 : List Node) (a b : Node), a.kids = pre ++ l → b.kids = pre2 ++ l2 → pre.length = pre2.length → Jx l l2 → vt l2 ≤ 1000000 → b.kids.length ≤ 1000000 → Qy (pre.length : Int) a b = some true
 | [], l2, pre, pre2, a, b, ha, hb, hp, h, hs, hn => by
   rw [Qy]
   simp only [qa]
   rw [qmo ha, Ke]
 | m :: l, [], pre, pre2, a, b, ha, hb, hp, h, hs, hn => by rw [Jx] at h; exact h.elim
 | m :: l, m2 :: l2, pre, pre2, a, b, ha, hb, hp, h, hs, hn => by
   rw [Jx] at h
   rw [vt] at hs
   have hl := qw7 hb
   rw [Qy]
   simp only [qa]
   have hx2 : ix b.kids (pre.length : Int) = some m2 := by rw [hp]; exact qn9 hb
   rw [qmn ha, Kd, qn9 ha, bs, hx2, bs, q4g m m2 h.1 (by omega), bs, nff, qim (by omega) m]
   exact qrk l l2 (pre ++ [m]) (pre2 ++ [m2]) a b (qfw ha) (qfw hb) (by rw [List.length_append, List.length_append, hp]; rfl) h.2 (by omega) hn
end
theorem q6k (n : Node) : ∃ b, qca n 300 60 4000 = some b ∧ (b = true → wl n ≤ 300 ∧ bdN n) := by
 obtain ⟨r, e, hr⟩ := qrl n 300 60 (by decide) (by decide) (by decide) (by decide)
 rw [qca.eq_def, qg3.eq_def, e, bs, bs]
 by_cases c : 0 ≤ r
 ·rw [if_pos (decide_eq_true c)]
  have hs : wl n ≤ 300 := by
   rcases hr with q | q
   ·omega
   omega
  obtain ⟨r2, e2, _, hb⟩ := qt4 (wl n) n (Nat.le_refl _) (by omega) 4000 (by decide) (by decide)
  rw [e2, bs]
  exact ⟨_, rfl, fun q => ⟨hs, hb (of_decide_eq_true q)⟩⟩
 rw [if_neg (by rw [decide_eq_true_eq]; exact c)]
 exact ⟨_, rfl, fun q => by cases q⟩
theorem qr3 {c : List Token → Rs Node} {s : BA} {m : List Token} {n' : Node} {r : List Token} (ht : Wu s.size (s.size + 1) (L s) = .ok m) (hs : s.size ≤ 65536) (hy : c m = .ok (n', r)) (h3 : checkErr n' = 0) : qfs c s = (n', 0, 0) := by
 have e : Tk.resT s = (m, 0, 0) := by
  unfold Tk.resT
  rw [if_neg (show ¬ 65536 < s.size by omega), ht]
  rfl
 unfold qfs
 rw [e]
 show (if (0 : Int) = 0 then finV (c m) else _) = _
 rw [if_pos rfl, hy]
 show limV n' = _
 unfold limV
 rw [if_neg (by rw [h3]; decide)]
theorem qty (n : Node) : (toks 0 n e0 0).map (·.2) = wdN n := qya (wl n) n (Nat.le_refl _) e0 0
theorem qwu {m : List Token} {l : List BA} {w : BA} (h : m.map (·.Text) = l ++ [w]) : ∃ T x, m = T ++ [x] ∧ T.map (·.Text) = l ∧ x.Text = w := by
 obtain ⟨T, B, rfl, h1, h2⟩ := Zw h
 obtain ⟨x, B', rfl, hx, hB⟩ := zw h2
 rw [Zj hB]
 exact ⟨T, x, rfl, h1, hx⟩
theorem q16 {x : Token} (h : x.Text = ⟨#[]⟩) : stop 1 [x] := ⟨x, [], rfl, by rw [h]; decide, by rw [h]; decide, by rw [h]; decide⟩
theorem qv3 {B : List Token → Rs Node} {m : List Token} {n : Node} {x : Token} (h : B m = .ok (n, [x])) (h4 : x.Kind = 4) (h5 : x.Lead = ⟨#[]⟩) : qcq B m = .ok (n, [x]) := by
 unfold qcq
 rw [h, bR_o]
 show (if decide (x.Kind = 4) = true then _ else _) = _
 rw [if_pos (decide_eq_true h4), if_pos (decide_eq_true h5)]
section
variable {n : Node} {s : BA} (hc : checkErr n = 0) (hsrc : s = ofB (sfx e0 (toks 0 n e0 0))) (hlen : s.size ≤ 65536)
include hc hsrc hlen
theorem q5f (hk : n.kind = 1) : ∃ n', qfs qvn s = (n', 0, 0) ∧ sameN n' n := by
 obtain ⟨_, _, _, hf⟩ := qbr hc
 obtain ⟨hg, _, h1⟩ := qt8 n hc e0 0 b_e0
 obtain ⟨T0, g0, e0', hT0⟩ := h1 hk
 have hL : L s = sfx e0 (toks 0 n e0 0) := by rw [hsrc, qly]
 obtain ⟨m, hm, htx⟩ := qum s.size (toks 0 n e0 0) e0 (s.size + 1) hg (by rw [← hL, Yh]; omega)
 rw [← hL] at hm
 rw [e0', qx9 T0 g0 hT0, ← e0', qty] at htx
 obtain ⟨k, t, g, ks⟩ := n
 have hk : k = 1 := hk
 subst hk
 obtain ⟨i1a, ht⟩ := i1 hf
 rw [w1] at htx
 obtain ⟨T, x, rfl, hT, hx⟩ := qwu htx
 obtain ⟨gd, gl⟩ := qd7 _ _ _ _ hm (by rw [Yh]; omega) (by rw [Yh]; omega)
 obtain ⟨ty, h4⟩ := qki gd
 obtain ⟨ks', hsame, hck⟩ := qz3 ks T i1a hT ty
 have hy : qvn (T ++ [x]) = .ok (.mk 1 ⟨#[]⟩ [x.Lead] ([] ++ ks'), [x]) := hck [] x [] h4 _ (Nat.le_refl _)
 have hsn : sameN (.mk 1 ⟨#[]⟩ [x.Lead] ([] ++ ks')) (.mk 1 t g ks) := wi rfl ht.symm hsame
 have hwf := q5z gd (by rw [Yh] at gl; omega) hy
 exact ⟨_, qr3 hm hlen hy (qhq hsn hc hwf.fe), hsn⟩
theorem qyn (hk : n.kind ≠ 1) : ∃ T x, Wu s.size (s.size + 1) (L s) = .ok (T ++ [x]) ∧ Good (T ++ [x]) ∧ (T ++ [x]).length ≤ 65537 ∧ T.map (·.Text) = wdN n ∧ Ty T ∧ x.Kind = 4 ∧ x.Text = ⟨#[]⟩ ∧ x.Lead = ⟨#[]⟩ := by
 obtain ⟨hg, h0, _⟩ := qt8 n hc e0 0 b_e0
 have hL : L s = sfx e0 (toks 0 n e0 0) := by rw [hsrc, qly]
 obtain ⟨T, x, hm, htx, hx⟩ := qun s.size (toks 0 n e0 0) e0 (s.size + 1) (h0 hk) (by rw [← hL, Yh]; omega)
 rw [← hL] at hm
 rw [qty] at htx
 obtain ⟨gd, gl⟩ := qd7 _ _ _ _ hm (by rw [Yh]; omega) (by rw [Yh]; omega)
 obtain ⟨ty, h4⟩ := qki gd
 have h5 : x.Text = ⟨#[]⟩ := by
  have : ∀ (T : List Token), Good (T ++ [x]) → x.Text = ⟨#[]⟩ := by
   intro T
   induction T with
   | nil => exact fun h => (qda (r := []) h h4).2
   | cons y T ih =>
     intro h
     rcases h.2 with ⟨h1, _⟩ | ⟨_, _, _, _, h3⟩
     ·exact absurd h1 (by simp)
     exact ih h3
  exact this T gd
 exact ⟨T, x, hm, gd, by rw [Yh] at gl; omega, htx, ty, h4, h5, hx⟩
theorem q5g (hg : zv n.kind = 3) : ∃ n', qfs qze s = (n', 0, 0) ∧ sameN n' n := by
 obtain ⟨_, _, _, hf⟩ := qbr hc
 obtain ⟨T, x, hm, gd, gl, hT, ty, h4, h5, h6⟩ := qyn hc hsrc hlen (by intro e; rw [e] at hg; exact absurd hg (by decide))
 obtain ⟨n', c⟩ := qtn (wl n) n (Nat.le_refl _) hf hg T hT ty
 have hy : qze (T ++ [x]) = .ok (n', [x]) := qv3 (c.bin 1 [x] (by decide) (by decide) (qdb hf hg) (q16 h5) _ (Nat.le_refl _)) h4 h6
 obtain ⟨_, _, _, _, _, _, ⟨hwf, _⟩, _⟩ := q50 gd gl hy
 exact ⟨n', qr3 hm hlen hy (qhq c.same hc hwf.fe), c.same⟩
theorem q5e (hg : zv n.kind = 2) : ∃ n', qfs qyd s = (n', 0, 0) ∧ sameN n' n := by
 obtain ⟨_, _, _, hf⟩ := qbr hc
 obtain ⟨T, x, hm, gd, gl, hT, ty, h4, h5, h6⟩ := qyn hc hsrc hlen (by intro e; rw [e] at hg; exact absurd hg (by decide))
 obtain ⟨n', hs, c⟩ := (C_sb (wl n) n (Nat.le_refl _) hf T hT ty).1 hg
 have hy : qyd (T ++ [x]) = .ok (n', [x]) := qv3 (c [x] ⟨x, [], rfl, by rw [h5]; decide⟩ _ (Nat.le_refl _)) h4 h6
 obtain ⟨_, _, _, _, _, _, ⟨hwf, _⟩, _⟩ := q48 gd gl hy
 exact ⟨n', qr3 hm hlen hy (qhq hs hc hwf.fe), hs⟩
end
theorem t31 {n n' : Node} (h : sameN n' n) (hs : wl n ≤ 300) : uk 0 n n' = some true := by
 unfold uk
 rw [qjn, bs, if_pos rfl, if_pos (by rfl), q4g n' n h (by omega)]; rfl
theorem L9_Printed (n : Node) : Yd n = some true := by
 obtain ⟨b, eb, hb⟩ := q6k n
 rw [Yd.eq_def, eb, bs]
 cases b with
 | false => rw [if_pos (by decide), qjn]; rfl
 | true =>
   obtain ⟨hs, hbd⟩ := hb rfl
   rw [if_neg (by decide), (qzi (q38 n hbd (by omega))).1, bs]
   by_cases hc : checkErr n = 0
   ·rw [if_neg (by rw [qmk]; exact fun q => q hc), q8k n hs hbd, bs, q14, if_pos hc]
    by_cases hl : 65536 < (srcL (toks 0 n e0 0) [] e0).1.length
    ·rw [if_pos hl, if_pos (by decide), qjn]; rfl
    rw [if_neg hl, if_neg (by simp)]
    have hsrc : (srcL (toks 0 n e0 0) [] e0).1 = sfx e0 (toks 0 n e0 0) := by rw [qye, List.nil_append]
    rw [hsrc] at hl ⊢
    have hlen : (ofB (sfx e0 (toks 0 n e0 0))).size ≤ 65536 := by rw [qc2]; omega
    have hkn := (wn hc).kn
    rw [qvd hkn, bs]
    by_cases k1 : n.kind = 1
    ·obtain ⟨n', e1, h1⟩ := q5f hc rfl hlen k1
     rw [if_pos (decide_eq_true k1), q4h, e1, bs]
     exact t31 h1 hs
    rw [if_neg (by rw [decide_eq_true_eq]; exact k1)]
    by_cases g3 : zv n.kind = 3
    ·obtain ⟨n', e1, h1⟩ := q5g hc rfl hlen g3
     rw [if_pos (decide_eq_true g3), q4i, e1, bs]
     unfold uj
     exact t31 h1 hs
    rw [if_neg (by rw [decide_eq_true_eq]; exact g3)]
    by_cases g2 : zv n.kind = 2
    ·obtain ⟨n', e1, h1⟩ := q5e hc rfl hlen g2
     rw [if_pos (decide_eq_true g2), q4f, e1, bs]
     unfold uj
     exact t31 h1 hs
    rw [if_neg (by rw [decide_eq_true_eq]; exact g2), qjn]; rfl
   rw [if_pos (by rw [qmk]; exact hc), qjn]; rfl
end Ps
end Go.Proofs.YtigmilhpeodhbaaGreatDoorW.Ex.Gr
