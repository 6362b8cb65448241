/- The reader of tokens in plain words: what it returns, and that it goes on. Conditions: those in each theorem. -/
import Derived.Test.YtigmilhpeodhbaaDoorKt
namespace Go.Proofs.YtigmilhpeodhbaaDoorW.Ex.Gr
open Go Go.Proofs.YtigmilhpeodhbaaDoorW.Ex Go.Proofs.YtigmilhpeodhbaaDoorW.Plain
set_option linter.all false
set_option maxRecDepth 100000
namespace Ps
open Tk
abbrev Rs (α : Type) := Except (List Token) (α × List Token)
def bR {α β : Type} (x : Rs α) (k : α → List Token → Rs β) : Rs β := match x with
 | .error u => .error u
 | .ok y => k y.1 y.2
theorem bR_e {α β : Type} (u : List Token) (k : α → List Token → Rs β) : bR (.error u) k = .error u := rfl
theorem bR_k {α β : Type} (y : α × List Token) (k : α → List Token → Rs β) : bR (.ok y) k = k y.1 y.2 := rfl
theorem bR_o {α β : Type} (n : α) (r : List Token) (k : α → List Token → Rs β) : bR (.ok (n, r)) k = k n r := rfl
def isT (w : BA) : List Token → Bool
 | [] => false
 | x :: _ => decide (x.Text = w)
def nmT : List Token → Bool
 | [] => false
 | x :: _ => decide (x.Kind = 1) && u1 x.Text.data.toList
def tkT (w : BA) : List Token → Rs BA
 | [] => .error []
 | x :: r => if decide (x.Text = w) = true then .ok (x.Lead, r) else .error (x :: r)
def tkN : List Token → Rs (BA × BA)
 | [] => .error []
 | x :: r => if (decide (x.Kind = 1) && u1 x.Text.data.toList) = true then .ok ((x.Text, x.Lead), r) else .error (x :: r)
def any : List Token → Rs Token
 | [] => .error []
 | x :: r => .ok (x, r)
inductive Cat where
 | bin (v : Int)
 | binL (v : Int) (m : Node)
 | un
 | unL (m : Node)
 | prim
 | args (k : Int) (t : BA) (g : List BA) (ks : List Node)
 | argL (b : Bool) (k : Int) (t : BA) (g : List BA) (ks : List Node)
 | stmt
 | blk
 | blkL (g : List BA) (ks : List Node)
 | parL (g : List BA) (ks : List Node)
 | func
 | clsL (t : BA) (g : List BA) (ks : List Node)
 | cls
 | file (ks : List Node)
def Kb (B : List Token → Rs Node) (k : Int) (w : BA) (t : List Token) : Rs Node :=
 bR (tkT w t) fun g1 t => bR (tkN t) fun a t => bR (tkT ⟨#[61]⟩ t) fun g3 t => bR (B t) fun n t => bR (tkT ⟨#[59]⟩ t) fun g4 t => .ok (.mk k a.1 [g1, a.2, g3, g4] [n], t)
def setP (B : List Token → Rs Node) (t : List Token) : Rs Node :=
 bR (tkN t) fun a t => bR (tkT ⟨#[61]⟩ t) fun g3 t => bR (B t) fun n t => bR (tkT ⟨#[59]⟩ t) fun g4 t => .ok (.mk 11 a.1 [a.2, g3, g4] [n], t)
def doP (B : List Token → Rs Node) (t : List Token) : Rs Node :=
 bR (B t) fun n t => bR (tkT ⟨#[59]⟩ t) fun g4 t => .ok (.mk 16 ⟨#[]⟩ [g4] [n], t)
def retP (B : List Token → Rs Node) (t : List Token) : Rs Node :=
 bR (tkT ⟨#[114, 101, 116, 117, 114, 110]⟩ t) fun g1 t => bR (B t) fun n t => bR (tkT ⟨#[59]⟩ t) fun g4 t => .ok (.mk 12 ⟨#[]⟩ [g1, g4] [n], t)
def qf5 (B C : List Token → Rs Node) (t : List Token) : Rs Node :=
 bR (tkT ⟨#[119, 104, 105, 108, 101]⟩ t) fun g1 t => bR (B t) fun n t => bR (C t) fun c t => .ok (.mk 15 ⟨#[]⟩ [g1] [n, c], t)
def qhh (C : List Token → Rs Node) (t : List Token) : Rs Node :=
 if isT ⟨#[101, 108, 115, 101]⟩ t = true then bR (tkT ⟨#[101, 108, 115, 101]⟩ t) fun g t => bR (C t) fun c t => .ok (.mk 14 ⟨#[]⟩ [g] [c], t) else .ok (.mk 14 ⟨#[]⟩ [] [], t)
def ifP (B C : List Token → Rs Node) (t : List Token) : Rs Node :=
 bR (tkT ⟨#[105, 102]⟩ t) fun g1 t => bR (B t) fun n t => bR (C t) fun c t => bR (qhh C t) fun e t => .ok (.mk 13 ⟨#[]⟩ [g1] [n, c, e], t)
def Wm (B C : List Token → Rs Node) (t : List Token) : Rs Node :=
 if isT ⟨#[108, 101, 116]⟩ t = true then Kb B 10 ⟨#[108, 101, 116]⟩ t
 else if isT ⟨#[114, 101, 116, 117, 114, 110]⟩ t = true then retP B t
 else if isT ⟨#[105, 102]⟩ t = true then ifP B C t
 else if isT ⟨#[119, 104, 105, 108, 101]⟩ t = true then qf5 B C t
 else if (nmT t && isT ⟨#[61]⟩ t.tail) = true then setP B t
 else doP B t
def newP (t : List Token) : Rs Node :=
 bR (tkT ⟨#[110, 101, 119]⟩ t) fun g1 t => bR (tkN t) fun a t => bR (tkT ⟨#[40]⟩ t) fun g3 t => bR (tkT ⟨#[41]⟩ t) fun g4 t => .ok (.mk 22 a.1 [g1, a.2, g3, g4] [], t)
def parP (B : List Token → Rs Node) (t : List Token) : Rs Node :=
 bR (tkT ⟨#[40]⟩ t) fun g1 t => bR (B t) fun n t => bR (tkT ⟨#[41]⟩ t) fun g2 t => .ok (.mk 26 ⟨#[]⟩ [g1, g2] [n], t)
def qhk (A : BA → BA → List Token → Rs Node) (t : List Token) : Rs Node :=
 bR (tkN t) fun a t => if isT ⟨#[40]⟩ t = true then A a.1 a.2 t else .ok (.mk 19 a.1 [a.2] [], t)
def qdm (B : List Token → Rs Node) (A : BA → BA → List Token → Rs Node) : List Token → Rs Node
 | [] => .error []
 | x :: r =>
   if decide (x.Kind = 2) = true then .ok (.mk 17 x.Text [x.Lead] [], r)
   else if isT ⟨#[116, 114, 117, 101]⟩ (x :: r) = true then .ok (.mk 18 x.Text [x.Lead] [], r)
   else if isT ⟨#[102, 97, 108, 115, 101]⟩ (x :: r) = true then .ok (.mk 18 x.Text [x.Lead] [], r)
   else if isT ⟨#[115, 101, 108, 102]⟩ (x :: r) = true then .ok (.mk 23 x.Text [x.Lead] [], r)
   else if isT ⟨#[110, 101, 119]⟩ (x :: r) = true then newP (x :: r)
   else if isT ⟨#[40]⟩ (x :: r) = true then parP B (x :: r)
   else qhk A (x :: r)
def qon (A : BA → List BA → List Token → Rs Node) (K : Node → List Token → Rs Node) (t : List Token) : Rs Node :=
 bR (tkT ⟨#[46]⟩ t) fun g1 t => bR (tkN t) fun a t => bR (A a.1 [g1, a.2] t) K
def unP (U P : List Token → Rs Node) (K : Node → List Token → Rs Node) : List Token → Rs Node
 | [] => .error []
 | x :: r =>
   if isT ⟨#[45]⟩ (x :: r) = true then bR (U r) fun n t => .ok (.mk 25 x.Text [x.Lead] [n], t)
   else if isT ⟨#[33]⟩ (x :: r) = true then bR (U r) fun n t => .ok (.mk 25 x.Text [x.Lead] [n], t)
   else bR (P (x :: r)) K
def binP (v : Int) (m : Node) (B : List Token → Rs Node) (K : Node → List Token → Rs Node) : List Token → Rs Node
 | [] => .error []
 | x :: r =>
   if decide (jh x.Text = v) = true then bR (B r) fun n t => if decide (v = 3) = true then .ok (.mk 24 x.Text [x.Lead] [m, n], t) else K (.mk 24 x.Text [x.Lead] [m, n]) t
   else .ok (m, x :: r)
def argP (k : Int) (t : BA) (g : List BA) (ks : List Node) (B : List Token → Rs Node) (K : List BA → List Node → List Token → Rs Node) (b : Bool) (l : List Token) : Rs Node :=
 if isT ⟨#[41]⟩ l = true then bR (tkT ⟨#[41]⟩ l) fun h l => .ok (.mk k t (g ++ [h]) ks, l)
 else if b = true then bR (B l) fun n l => K g (ks ++ [n]) l
 else bR (tkT ⟨#[44]⟩ l) fun h l => bR (B l) fun n l => K (g ++ [h]) (ks ++ [n]) l
def blkP (g : List BA) (ks : List Node) (T : List Token → Rs Node) (K : List Node → List Token → Rs Node) (l : List Token) : Rs Node :=
 if isT ⟨#[125]⟩ l = true then bR (tkT ⟨#[125]⟩ l) fun h l => .ok (.mk 6 ⟨#[]⟩ (g ++ [h]) ks, l)
 else bR (T l) fun n l => K (ks ++ [n]) l
def K2 (t : List Token) : Rs Node :=
 bR (tkN t) fun a t => bR (tkN t) fun b t => .ok (.mk 4 a.1 [a.2] [.mk 5 b.1 [b.2] []], t)
def qso (g : List BA) (ks : List Node) (K : List BA → List Node → List Token → Rs Node) (l : List Token) : Rs Node :=
 if isT ⟨#[41]⟩ l = true then bR (tkT ⟨#[41]⟩ l) fun h l => .ok (.mk 3 ⟨#[]⟩ (g ++ [h]) ks, l)
 else if decide (0 < ks.length) = true then bR (tkT ⟨#[44]⟩ l) fun h l => bR (K2 l) fun n l => K (g ++ [h]) (ks ++ [n]) l
 else bR (K2 l) fun n l => K g (ks ++ [n]) l
def funK (C : List Token → Rs Node) (a : BA) (g : List BA) (p : Node) (t : List Token) : Rs Node :=
 bR (tkN t) fun b t => bR (C t) fun c t => .ok (.mk 2 a g [p, .mk 5 b.1 [b.2] [], c], t)
def funP (Q : BA → List Token → Rs Node) (C : List Token → Rs Node) (t : List Token) : Rs Node :=
 bR (tkT ⟨#[102, 110]⟩ t) fun g1 t => bR (tkN t) fun a t => bR (tkT ⟨#[40]⟩ t) fun g3 t => bR (Q g3 t) (funK C a.1 [g1, a.2])
def ql9 (t : List Token) : Rs Node :=
 if isT ⟨#[58]⟩ t = true then bR (tkT ⟨#[58]⟩ t) fun g1 t => bR (tkN t) fun a t => .ok (.mk 8 a.1 [g1, a.2] [], t) else .ok (.mk 8 ⟨#[]⟩ [] [], t)
def clsP (K : BA → List BA → List Node → List Token → Rs Node) (t : List Token) : Rs Node :=
 bR (tkT ⟨#[99, 108, 97, 115, 115]⟩ t) fun g1 t => bR (tkN t) fun a t => bR (ql9 t) fun b t => bR (tkT ⟨#[123]⟩ t) fun g3 t => K a.1 [g1, a.2, g3] [b] t
def qtg (x : BA) (g : List BA) (ks : List Node) (F : List Token → Rs Node) (K : List Node → List Token → Rs Node) (l : List Token) : Rs Node :=
 if isT ⟨#[102, 110]⟩ l = true then bR (F l) fun n l => K (ks ++ [n]) l
 else bR (tkT ⟨#[125]⟩ l) fun h l => .ok (.mk 7 x (g ++ [h]) ks, l)
def qtc (ks : List Node) (F C : List Token → Rs Node) (B : List Token → Rs Node) (K : List Node → List Token → Rs Node) : List Token → Rs Node
 | [] => .error []
 | x :: r =>
   if decide (x.Kind = 4) = true then .ok (.mk 1 ⟨#[]⟩ [x.Lead] ks, x :: r)
   else if isT ⟨#[102, 110]⟩ (x :: r) = true then bR (F (x :: r)) fun n l => K (ks ++ [n]) l
   else if isT ⟨#[99, 108, 97, 115, 115]⟩ (x :: r) = true then bR (C (x :: r)) fun n l => K (ks ++ [n]) l
   else if isT ⟨#[99, 111, 110, 115, 116]⟩ (x :: r) = true then bR (Kb B 9 ⟨#[99, 111, 110, 115, 116]⟩ (x :: r)) fun n l => K (ks ++ [n]) l
   else .error (x :: r)
def S : Nat → Cat → List Token → Rs Node
 | 0, _, t => .error t
 | f + 1, .bin v, t => if decide (5 < v) = true then S f .un t else bR (S f (.bin (v + 1)) t) fun n r => S f (.binL v n) r
 | f + 1, .binL v m, t => binP v m (S f (.bin (v + 1))) (fun m => S f (.binL v m)) t
 | f + 1, .un, t => unP (S f .un) (S f .prim) (fun m => S f (.unL m)) t
 | f + 1, .unL m, t => if isT ⟨#[46]⟩ t = true then qon (fun a g => S f (.args 21 a g [m])) (fun m => S f (.unL m)) t else .ok (m, t)
 | f + 1, .prim, t => qdm (S f (.bin 1)) (fun a g => S f (.args 20 a [g] [])) t
 | f + 1, .args k t g ks, l => bR (tkT ⟨#[40]⟩ l) fun h l => S f (.argL true k t (g ++ [h]) ks) l
 | f + 1, .argL b k t g ks, l => argP k t g ks (S f (.bin 1)) (fun g ks => S f (.argL false k t g ks)) b l
 | f + 1, .stmt, t => Wm (S f (.bin 1)) (S f .blk) t
 | f + 1, .blk, t => bR (tkT ⟨#[123]⟩ t) fun g t => S f (.blkL [g] []) t
 | f + 1, .blkL g ks, t => blkP g ks (S f .stmt) (fun ks => S f (.blkL g ks)) t
 | f + 1, .parL g ks, t => qso g ks (fun g ks => S f (.parL g ks)) t
 | f + 1, .func, t => funP (fun g => S f (.parL [g] [])) (S f .blk) t
 | f + 1, .clsL x g ks, t => qtg x g ks (S f .func) (fun ks => S f (.clsL x g ks)) t
 | f + 1, .cls, t => clsP (fun x g ks => S f (.clsL x g ks)) t
 | f + 1, .file ks, t => qtc ks (S f .func) (S f .cls) (S f (.bin 1)) (fun ks => S f (.file ks)) t
def mu : Cat → Nat → Nat
 | .bin v, n => 20 * n + (10 - v).toNat
 | .binL _ _, n => 20 * n + 1
 | .un, n => 20 * n + 3
 | .unL _, n => 20 * n + 1
 | .prim, n => 20 * n + 2
 | .args .., n => 20 * n + 1
 | .argL .., n => 20 * n + 12
 | .stmt, n => 20 * n + 13
 | .blk, n => 20 * n + 1
 | .blkL .., n => 20 * n + 14
 | .parL .., n => 20 * n + 1
 | .func, n => 20 * n + 1
 | .clsL .., n => 20 * n + 2
 | .cls, n => 20 * n + 1
 | .file _, n => 20 * n + 12
def Good : List Token → Prop
 | [] => False
 | x :: r => (x.Lead.size ≤ 65536 ∧ x.Text.size ≤ 65536 ∧ trivValid x.Lead = true) ∧ ((r = [] ∧ x.Kind = 4 ∧ x.Text = ⟨#[]⟩) ∨ (x.Kind ≠ 4 ∧ x.Kind ≠ 0 ∧ x.Kind = Qs (L x.Text) ∧ x.Text ≠ ⟨#[]⟩ ∧ Good r))
theorem Zj {x : Token} {r : List Token} (h : Good (x :: r)) (ht : x.Text ≠ ⟨#[]⟩) : Good r := by
 rcases h.2 with ⟨_, _, h2⟩ | ⟨_, _, _, _, h2⟩
 ·exact absurd h2 ht
 exact h2
theorem qd5 {x : Token} {r : List Token} (h : Good (x :: r)) (ht : x.Kind ≠ 4) : Good r := by
 rcases h.2 with ⟨_, h2, _⟩ | ⟨_, _, _, _, h2⟩
 ·exact absurd h2 ht
 exact h2
def Q {α : Type} (t : List Token) (P : α → List Token → Prop) : Rs α → Prop
 | .ok y => y.2 <:+ t ∧ Good y.2 ∧ P y.1 y.2
 | .error u => u <:+ t ∧ Good u
theorem Q.bind {α β : Type} {t : List Token} {P : α → List Token → Prop} {P' : β → List Token → Prop} {x : Rs α} {k : α → List Token → Rs β} (h : Q t P x)
 (hk : ∀ n r, r <:+ t → Good r → P n r → Q r P' (k n r)) : Q t P' (bR x k) := by
 cases x with
 | error u => exact h
 | ok y =>
   obtain ⟨h1, h2, h3⟩ := h
   have := hk y.1 y.2 h1 h2 h3
   show Q t P' (k y.1 y.2)
   revert this
   cases k y.1 y.2 with
   | error u => exact fun q => ⟨q.1.trans h1, q.2⟩
   | ok z => exact fun q => ⟨q.1.trans h1, q.2⟩
theorem Q.up {α : Type} {t r : List Token} {P : α → List Token → Prop} {x : Rs α} (h : Q r P x) (hr : r <:+ t) : Q t P x := by
 cases x with
 | error u => exact ⟨h.1.trans hr, h.2⟩
 | ok z => exact ⟨h.1.trans hr, h.2⟩
theorem Q.mono {α : Type} {t : List Token} {P P' : α → List Token → Prop} {x : Rs α} (h : Q t P x) (hp : ∀ n r, r <:+ t → P n r → P' n r) : Q t P' x := by
 cases x with
 | error u => exact h
 | ok z => exact ⟨h.1, h.2.1, hp _ _ h.1 h.2.2⟩
theorem Q.ok {α : Type} {t : List Token} {P : α → List Token → Prop} {n : α} (hg : Good t) (h : P n t) : Q t P (.ok (n, t)) := ⟨List.suffix_refl t, hg, h⟩
def Zn (g : BA) : Prop := g.size ≤ 65536
theorem yh {w : BA} {t : List Token} (hg : Good t) (hw : w ≠ ⟨#[]⟩) : Q t (fun g r => r.length + 1 = t.length ∧ Zn g) (tkT w t) := by
 cases t with
 | nil => exact hg.elim
 | cons x r =>
   simp only [tkT]
   by_cases h : x.Text = w
   ·rw [if_pos (decide_eq_true h)]
    exact ⟨List.suffix_cons x r, Zj hg (by rw [h]; exact hw), rfl, hg.1.1⟩
   rw [if_neg (by rw [decide_eq_true_eq]; exact h)]
   exact ⟨List.suffix_refl _, hg⟩
theorem Z6 {t : List Token} (hg : Good t) : Q t (fun g r => r.length + 1 = t.length ∧ Zn g.1 ∧ Zn g.2) (tkN t) := by
 cases t with
 | nil => exact hg.elim
 | cons x r =>
   simp only [tkN]
   by_cases h : (decide (x.Kind = 1) && u1 x.Text.data.toList) = true
   ·rw [if_pos h]
    have h1 : x.Kind = 1 := by
     rw [Bool.and_eq_true] at h
     exact of_decide_eq_true h.1
    exact ⟨List.suffix_cons x r, qd5 hg (by rw [h1]; decide), rfl, hg.1.2.1, hg.1.1⟩
   rw [if_neg h]
   exact ⟨List.suffix_refl _, hg⟩
def Ws (ks : List Node) : Prop := ∀ m ∈ ks, wfB m = true
def Gs (g : List BA) : Prop := ∀ x ∈ g, Zn x
theorem qr1 : ∀ (l : List Node), Ws l → wfBL l = true
 | [], _ => rfl
 | n :: l, h => by rw [wfBL, h n (List.mem_cons_self ..), qr1 l fun m hm => h m (List.mem_cons_of_mem _ hm)]; rfl
theorem Qb (k : Int) {t : BA} {g : List BA} {ks : List Node} (h1 : ks.length ≤ 1000000) (h2 : g.length ≤ 1000000) (h3 : Zn t) (h4 : Gs g) (h5 : Ws ks) : wfB (.mk k t g ks) = true := by
 unfold Zn at h3
 rw [wfB, qr1 ks h5, decide_eq_true (by omega), decide_eq_true (by omega), decide_eq_true (by omega), List.all_eq_true.2]
 ·rfl
 intro x hx
 have := h4 x hx
 unfold Zn at this
 exact decide_eq_true (by omega)
theorem y5 : Gs [] := fun x h => by cases h
theorem z6 {x : BA} {g : List BA} (h : Zn x) (h2 : Gs g) : Gs (x :: g) := fun y hy => by
 rcases List.mem_cons.1 hy with rfl | hy
 ·exact h
 exact h2 y hy
theorem Y6 {x : BA} {g : List BA} (h2 : Gs g) (h : Zn x) : Gs (g ++ [x]) := fun y hy => by
 rcases List.mem_append.1 hy with hy | hy
 ·exact h2 y hy
 rw [List.mem_singleton.1 hy]; exact h
theorem km : Ws [] := fun x h => by cases h
theorem wd {x : Node} {g : List Node} (h : wfB x = true) (h2 : Ws g) : Ws (x :: g) := fun y hy => by
 rcases List.mem_cons.1 hy with rfl | hy
 ·exact h
 exact h2 y hy
theorem Jk {x : Node} {g : List Node} (h2 : Ws g) (h : wfB x = true) : Ws (g ++ [x]) := fun y hy => by
 rcases List.mem_append.1 hy with hy | hy
 ·exact h2 y hy
 rw [List.mem_singleton.1 hy]; exact h
theorem Y9 : Zn ⟨#[]⟩ := by unfold Zn; decide
def room (g : List BA) (ks : List Node) (n : Nat) : Prop := g.length + n ≤ 200000 ∧ ks.length + n ≤ 200000 ∧ Gs g ∧ Ws ks
def pre : Cat → Nat → Prop
 | .bin v, n => n ≤ 70000 ∧ 1 ≤ v ∧ v ≤ 6
 | .binL v m, n => n ≤ 70000 ∧ 1 ≤ v ∧ v ≤ 5 ∧ wfB m = true
 | .unL m, n => n ≤ 70000 ∧ wfB m = true
 | .args _ t g ks, n => n ≤ 70000 ∧ Zn t ∧ room g ks n
 | .argL _ _ t g ks, n => n ≤ 70000 ∧ Zn t ∧ room g ks n
 | .blkL g ks, n => n ≤ 70000 ∧ room g ks n
 | .parL g ks, n => n ≤ 70000 ∧ room g ks n
 | .clsL t g ks, n => n ≤ 70000 ∧ Zn t ∧ room g ks n
 | .file ks, n => n ≤ 70000 ∧ room [] ks n
 | _, n => n ≤ 70000
def kv : Cat → Nat
 | .binL .. => 0
 | .unL .. => 0
 | .file .. => 0
 | _ => 1
def post (c : Cat) (n : Nat) (m : Node) (r : List Token) : Prop := wfB m = true ∧ r.length + kv c ≤ n
def Rd (B : List Token → Rs Node) : Prop := ∀ t, Good t → t.length ≤ 70000 → Q t (fun n r => wfB n = true ∧ r.length + 1 ≤ t.length) (B t)
theorem Zq {r t : List Token} (h : r <:+ t) : r.length ≤ t.length := List.IsSuffix.length_le h
section
variable {B C F : List Token → Rs Node}
theorem qic (hB : Rd B) (k : Int) {w : BA} (hw : w ≠ ⟨#[]⟩) : Rd (Kb B k w) := fun t hg hl => by
 unfold Kb
 refine (yh hg hw).bind fun g1 r1 s1 o1 h1 => ?_
 refine (Z6 o1).bind fun a r2 s2 o2 h2 => ?_
 refine (yh o2 (by decide)).bind fun g3 r3 s3 o3 h3 => ?_
 refine (hB r3 o3 (by omega)).bind fun n r4 s4 o4 h4 => ?_
 refine (yh o4 (by decide)).bind fun g5 r5 s5 o5 h5 => ?_
 exact Q.ok o5 ⟨Qb k (by simp) (by simp) h2.2.1 (z6 h1.2 (z6 h2.2.2 (z6 h3.2 (z6 h5.2 y5)))) (wd h4.1 km), by omega⟩
theorem q2h (hB : Rd B) : Rd (setP B) := fun t hg hl => by
 unfold setP
 refine (Z6 hg).bind fun a r2 s2 o2 h2 => ?_
 refine (yh o2 (by decide)).bind fun g3 r3 s3 o3 h3 => ?_
 refine (hB r3 o3 (by omega)).bind fun n r4 s4 o4 h4 => ?_
 refine (yh o4 (by decide)).bind fun g5 r5 s5 o5 h5 => ?_
 exact Q.ok o5 ⟨Qb 11 (by simp) (by simp) h2.2.1 (z6 h2.2.2 (z6 h3.2 (z6 h5.2 y5))) (wd h4.1 km), by omega⟩
theorem Q_do (hB : Rd B) : Rd (doP B) := fun t hg hl => by
 unfold doP
 refine (hB t hg hl).bind fun n r4 s4 o4 h4 => ?_
 refine (yh o4 (by decide)).bind fun g5 r5 s5 o5 h5 => ?_
 exact Q.ok o5 ⟨Qb 16 (by simp) (by simp) Y9 (z6 h5.2 y5) (wd h4.1 km), by omega⟩
theorem q2i (hB : Rd B) : Rd (retP B) := fun t hg hl => by
 unfold retP
 refine (yh hg (by decide)).bind fun g1 r1 s1 o1 h1 => ?_
 refine (hB r1 o1 (by omega)).bind fun n r4 s4 o4 h4 => ?_
 refine (yh o4 (by decide)).bind fun g5 r5 s5 o5 h5 => ?_
 exact Q.ok o5 ⟨Qb 12 (by simp) (by simp) Y9 (z6 h1.2 (z6 h5.2 y5)) (wd h4.1 km), by omega⟩
theorem qzs (hB : Rd B) (hC : Rd C) : Rd (qf5 B C) := fun t hg hl => by
 unfold qf5
 refine (yh hg (by decide)).bind fun g1 r1 s1 o1 h1 => ?_
 refine (hB r1 o1 (by omega)).bind fun n r4 s4 o4 h4 => ?_
 refine (hC r4 o4 (by omega)).bind fun c r5 s5 o5 h5 => ?_
 exact Q.ok o5 ⟨Qb 15 (by simp) (by simp) Y9 (z6 h1.2 y5) (wd h4.1 (wd h5.1 km)), by omega⟩
theorem q1i (hC : Rd C) : ∀ t, Good t → t.length ≤ 70000 → Q t (fun n r => wfB n = true ∧ r.length ≤ t.length) (qhh C t) := fun t hg hl => by
 unfold qhh
 split
 ·refine (yh hg (by decide)).bind fun g1 r1 s1 o1 h1 => ?_
  refine (hC r1 o1 (by omega)).bind fun c r5 s5 o5 h5 => ?_
  exact Q.ok o5 ⟨Qb 14 (by simp) (by simp) Y9 (z6 h1.2 y5) (wd h5.1 km), by omega⟩
 exact Q.ok hg ⟨Qb 14 (by simp) (by simp) Y9 y5 km, Nat.le_refl _⟩
theorem Q_if (hB : Rd B) (hC : Rd C) : Rd (ifP B C) := fun t hg hl => by
 unfold ifP
 refine (yh hg (by decide)).bind fun g1 r1 s1 o1 h1 => ?_
 refine (hB r1 o1 (by omega)).bind fun n r4 s4 o4 h4 => ?_
 refine (hC r4 o4 (by omega)).bind fun c r5 s5 o5 h5 => ?_
 refine (q1i hC r5 o5 (by omega)).bind fun e r6 s6 o6 h6 => ?_
 exact Q.ok o6 ⟨Qb 13 (by simp) (by simp) Y9 (z6 h1.2 y5) (wd h4.1 (wd h5.1 (wd h6.1 km))), by omega⟩
theorem q1g (hB : Rd B) (hC : Rd C) : Rd (Wm B C) := fun t hg hl => by
 unfold Wm
 split
 ·exact qic hB 10 (by decide) t hg hl
 split
 ·exact q2i hB t hg hl
 split
 ·exact Q_if hB hC t hg hl
 split
 ·exact qzs hB hC t hg hl
 split
 ·exact q2h hB t hg hl
 exact Q_do hB t hg hl
theorem q2k : Rd newP := fun t hg hl => by
 unfold newP
 refine (yh hg (by decide)).bind fun g1 r1 s1 o1 h1 => ?_
 refine (Z6 o1).bind fun a r2 s2 o2 h2 => ?_
 refine (yh o2 (by decide)).bind fun g3 r3 s3 o3 h3 => ?_
 refine (yh o3 (by decide)).bind fun g5 r5 s5 o5 h5 => ?_
 exact Q.ok o5 ⟨Qb 22 (by simp) (by simp) h2.2.1 (z6 h1.2 (z6 h2.2.2 (z6 h3.2 (z6 h5.2 y5)))) km, by omega⟩
theorem q2j (hB : Rd B) : Rd (parP B) := fun t hg hl => by
 unfold parP
 refine (yh hg (by decide)).bind fun g1 r1 s1 o1 h1 => ?_
 refine (hB r1 o1 (by omega)).bind fun n r4 s4 o4 h4 => ?_
 refine (yh o4 (by decide)).bind fun g5 r5 s5 o5 h5 => ?_
 exact Q.ok o5 ⟨Qb 26 (by simp) (by simp) Y9 (z6 h1.2 (z6 h5.2 y5)) (wd h4.1 km), by omega⟩
theorem q1j {A : BA → BA → List Token → Rs Node} (hA : ∀ a g, Zn a → Zn g → Rd (A a g)) : Rd (qhk A) := fun t hg hl => by
 unfold qhk
 refine (Z6 hg).bind fun a r2 s2 o2 h2 => ?_
 split
 ·exact (hA a.1 a.2 h2.2.1 h2.2.2 r2 o2 (by omega)).mono fun n r _ h => ⟨h.1, by omega⟩
 exact Q.ok o2 ⟨Qb 19 (by simp) (by simp) h2.2.1 (z6 h2.2.2 y5) km, by omega⟩
theorem q1h (hB : Rd B) {A : BA → BA → List Token → Rs Node} (hA : ∀ a g, Zn a → Zn g → Rd (A a g)) : Rd (qdm B A) := fun t hg hl => by
 cases t with
 | nil => exact hg.elim
 | cons x r =>
   have leaf : ∀ k : Int, x.Text ≠ ⟨#[]⟩ → Q (x :: r) (fun n q => wfB n = true ∧ q.length + 1 ≤ (x :: r).length) (.ok (.mk k x.Text [x.Lead] [], r)) := fun k h =>
    ⟨List.suffix_cons x r, Zj hg h, Qb k (by simp) (by simp) hg.1.2.1 (z6 hg.1.1 y5) km, Nat.le_refl _⟩
   have lit : ∀ {w : BA}, isT w (x :: r) = true → w ≠ ⟨#[]⟩ → x.Text ≠ ⟨#[]⟩ := fun h h2 => by rw [of_decide_eq_true h]; exact h2
   simp only [qdm]
   split
   ·rename_i h
    refine leaf 17 ?_
    rcases hg.2 with ⟨_, h2, _⟩ | ⟨_, _, _, h2, _⟩
    ·rw [of_decide_eq_true h] at h2; exact absurd h2 (by decide)
    exact h2
   split
   ·rename_i h; exact leaf 18 (lit h (by decide))
   split
   ·rename_i h; exact leaf 18 (lit h (by decide))
   split
   ·rename_i h; exact leaf 23 (lit h (by decide))
   split
   ·exact q2k _ hg hl
   split
   ·exact q2j hB _ hg hl
   exact q1j hA _ hg hl
theorem qto : Rd K2 := fun t hg hl => by
 unfold K2
 refine (Z6 hg).bind fun a r2 s2 o2 h2 => ?_
 refine (Z6 o2).bind fun b r3 s3 o3 h3 => ?_
 exact Q.ok o3 ⟨Qb 4 (by simp) (by simp) h2.2.1 (z6 h2.2.2 y5) (wd (Qb 5 (by simp) (by simp) h3.2.1 (z6 h3.2.2 y5) km) km), by omega⟩
theorem q1k : ∀ t, Good t → t.length ≤ 70000 → Q t (fun n r => wfB n = true ∧ r.length ≤ t.length) (ql9 t) := fun t hg hl => by
 unfold ql9
 split
 ·refine (yh hg (by decide)).bind fun g1 r1 s1 o1 h1 => ?_
  refine (Z6 o1).bind fun a r2 s2 o2 h2 => ?_
  exact Q.ok o2 ⟨Qb 8 (by simp) (by simp) h2.2.1 (z6 h1.2 (z6 h2.2.2 y5)) km, by omega⟩
 exact Q.ok hg ⟨Qb 8 (by simp) (by simp) Y9 y5 km, Nat.le_refl _⟩
end
theorem qm7 {t : List Token} (h : Good t) : 1 ≤ t.length := by
 cases t with
 | nil => exact h.elim
 | cons x r => rw [List.length_cons]; omega
theorem S_ok : ∀ (f : Nat) (c : Cat) (t : List Token), Good t → pre c t.length → Q t (post c t.length) (S f c t)
 | 0, c, t, hg, hp => ⟨List.suffix_refl t, hg⟩
 | f + 1, c, t, hg, hp => by
   have ih := S_ok f
   have hB : ∀ v : Int, 1 ≤ v → v ≤ 6 → Rd (S f (.bin v)) := fun v h1 h6 t hg hl => ih (.bin v) t hg ⟨hl, h1, h6⟩
   have hB1 := hB 1 (by decide) (by decide)
   have hU : Rd (S f .un) := fun t hg hl => ih .un t hg hl
   have hC : Rd (S f .blk) := fun t hg hl => ih .blk t hg hl
   have hT : Rd (S f .stmt) := fun t hg hl => ih .stmt t hg hl
   have hF : Rd (S f .func) := fun t hg hl => ih .func t hg hl
   have hK : Rd (S f .cls) := fun t hg hl => ih .cls t hg hl
   have hpos := qm7 hg
   cases c with
   | bin v =>
     obtain ⟨hl, h1, h6⟩ := hp
     simp only [S]
     split
     ·exact hU t hg hl
     rename_i h5
     rw [decide_eq_true_eq] at h5
     refine (hB (v + 1) (by omega) (by omega) t hg hl).bind fun n r s o h => ?_
     exact (ih (.binL v n) r o ⟨by omega, h1, by omega, h.1⟩).mono fun m q _ h' => ⟨h'.1, by have := h'.2; unfold kv at this ⊢; simp only at this ⊢; omega⟩
   | binL v m =>
     obtain ⟨hl, h1, h5, hm⟩ := hp
     cases t with
     | nil => exact hg.elim
     | cons x r =>
       simp only [S, binP]
       split
       ·rename_i hx
        have hr : Good r := Zj hg (by
         rintro h0
         rw [h0] at hx
         have := of_decide_eq_true hx
         rw [show jh ⟨#[]⟩ = 0 from by decide] at this
         omega)
        rw [List.length_cons] at hl
        refine Q.up (r := r) ?_ (List.suffix_cons x r)
        refine (hB (v + 1) (by omega) (by omega) r hr (by omega)).bind fun n q s o h => ?_
        have hw : wfB (.mk 24 x.Text [x.Lead] [m, n]) = true := Qb 24 (by simp) (by simp) hg.1.2.1 (z6 hg.1.1 y5) (wd hm (wd h.1 km))
        split
        ·exact Q.ok o ⟨hw, by rw [List.length_cons]; unfold kv; simp only; omega⟩
        exact (ih (.binL v _) q o ⟨by omega, h1, h5, hw⟩).mono fun m q _ h' => ⟨h'.1, by have := h'.2; rw [List.length_cons]; unfold kv at this ⊢; simp only at this ⊢; omega⟩
       exact Q.ok hg ⟨hm, by unfold kv; simp only; omega⟩
   | un =>
     have hl : t.length ≤ 70000 := hp
     cases t with
     | nil => exact hg.elim
     | cons x r =>
       simp only [S, unP]
       have neg : ∀ {w : BA}, isT w (x :: r) = true → w ≠ ⟨#[]⟩ → Q (x :: r) (post .un (x :: r).length) (bR (S f .un r) fun n t => .ok (.mk 25 x.Text [x.Lead] [n], t)) := fun {w} h h2 => by
        have hr : Good r := Zj hg (by rw [of_decide_eq_true h]; exact h2)
        rw [List.length_cons] at hl
        refine Q.up (r := r) ?_ (List.suffix_cons x r)
        refine (hU r hr (by omega)).bind fun n q s o h => ?_
        exact Q.ok o ⟨Qb 25 (by simp) (by simp) hg.1.2.1 (z6 hg.1.1 y5) (wd h.1 km), by rw [List.length_cons]; unfold kv; simp only; omega⟩
       split
       ·rename_i h; exact neg h (by decide)
       split
       ·rename_i h; exact neg h (by decide)
       refine (ih .prim (x :: r) hg hl).bind fun n q s o h => ?_
       have h2 := h.2
       unfold kv at h2; simp only at h2
       exact (ih (.unL n) q o ⟨by omega, h.1⟩).mono fun m q _ h' => ⟨h'.1, by have := h'.2; unfold kv at this ⊢; simp only at this ⊢; omega⟩
   | unL m =>
     obtain ⟨hl, hm⟩ := hp
     simp only [S]
     split
     ·unfold qon
      refine (yh hg (by decide)).bind fun g1 r1 s1 o1 h1 => ?_
      refine (Z6 o1).bind fun a r2 s2 o2 h2 => ?_
      refine (ih (.args 21 a.1 [g1, a.2] [m]) r2 o2 ⟨by omega, h2.2.1, ?_, ?_, z6 h1.2 (z6 h2.2.2 y5), wd hm km⟩).bind fun n r3 s3 o3 h3 => ?_
      ·simp only [List.length_cons, List.length_nil]; omega
      ·simp only [List.length_cons, List.length_nil]; omega
      have h32 := h3.2
      unfold kv at h32; simp only at h32
      exact (ih (.unL n) r3 o3 ⟨by omega, h3.1⟩).mono fun m q _ h' => ⟨h'.1, by have := h'.2; unfold kv at this ⊢; simp only at this ⊢; omega⟩
     exact Q.ok hg ⟨hm, by unfold kv; simp only; omega⟩
   | prim =>
     have hl : t.length ≤ 70000 := hp
     refine q1h hB1 (fun a g ha hg' t hg hl => ih (.args 20 a [g] []) t hg ⟨hl, ha, ?_, ?_, z6 hg' y5, km⟩) t hg hl
     ·simp only [List.length_cons, List.length_nil]; omega
     simp only [List.length_nil]; omega
   | args k x g ks =>
     obtain ⟨hl, hx, hr⟩ := hp
     simp only [S]
     refine (yh hg (by decide)).bind fun g1 r1 s1 o1 h1 => ?_
     refine (ih (.argL true k x (g ++ [g1]) ks) r1 o1 ⟨by omega, hx, ?_, ?_, Y6 hr.2.2.1 h1.2, hr.2.2.2⟩).mono fun m q _ h' => ⟨h'.1, by have := h'.2; unfold kv at this ⊢; simp only at this ⊢; omega⟩
     ·rw [List.length_append, List.length_singleton]; have := hr.1; omega
     have := hr.2.1; omega
   | argL b k x g ks =>
     obtain ⟨hl, hx, hr⟩ := hp
     have r1 := hr.1
     have r2 := hr.2.1
     simp only [S, argP]
     split
     ·refine (yh hg (by decide)).bind fun g1 r1 s1 o1 h1 => ?_
      exact Q.ok o1 ⟨Qb k (by omega) (by rw [List.length_append, List.length_singleton]; omega) hx (Y6 hr.2.2.1 h1.2) hr.2.2.2, by unfold kv; simp only; omega⟩
     split
     ·refine (hB1 t hg hl).bind fun n r4 s4 o4 h4 => ?_
      refine (ih (.argL false k x g (ks ++ [n])) r4 o4 ⟨by omega, hx, by omega, ?_, hr.2.2.1, Jk hr.2.2.2 h4.1⟩).mono fun m q _ h' => ⟨h'.1, by have := h'.2; unfold kv at this ⊢; simp only at this ⊢; omega⟩
      rw [List.length_append, List.length_singleton]; omega
     refine (yh hg (by decide)).bind fun g1 r1 s1 o1 h1 => ?_
     refine (hB1 r1 o1 (by omega)).bind fun n r4 s4 o4 h4 => ?_
     refine (ih (.argL false k x (g ++ [g1]) (ks ++ [n])) r4 o4 ⟨by omega, hx, ?_, ?_, Y6 hr.2.2.1 h1.2, Jk hr.2.2.2 h4.1⟩).mono fun m q _ h' => ⟨h'.1, by have := h'.2; unfold kv at this ⊢; simp only at this ⊢; omega⟩
     ·rw [List.length_append, List.length_singleton]; omega
     rw [List.length_append, List.length_singleton]; omega
   | stmt => exact q1g hB1 hC t hg hp
   | blk =>
     have hl : t.length ≤ 70000 := hp
     simp only [S]
     refine (yh hg (by decide)).bind fun g1 r1 s1 o1 h1 => ?_
     refine (ih (.blkL [g1] []) r1 o1 ⟨by omega, ?_, ?_, z6 h1.2 y5, km⟩).mono fun m q _ h' => ⟨h'.1, by have := h'.2; unfold kv at this ⊢; simp only at this ⊢; omega⟩
     ·simp only [List.length_cons, List.length_nil]; omega
     simp only [List.length_nil]; omega
   | blkL g ks =>
     obtain ⟨hl, hr⟩ := hp
     have r1 := hr.1
     have r2 := hr.2.1
     simp only [S, blkP]
     split
     ·refine (yh hg (by decide)).bind fun g1 r1 s1 o1 h1 => ?_
      exact Q.ok o1 ⟨Qb 6 (by omega) (by rw [List.length_append, List.length_singleton]; omega) Y9 (Y6 hr.2.2.1 h1.2) hr.2.2.2, by unfold kv; simp only; omega⟩
     refine (hT t hg hl).bind fun n r4 s4 o4 h4 => ?_
     refine (ih (.blkL g (ks ++ [n])) r4 o4 ⟨by omega, by omega, ?_, hr.2.2.1, Jk hr.2.2.2 h4.1⟩).mono fun m q _ h' => ⟨h'.1, by have := h'.2; unfold kv at this ⊢; simp only at this ⊢; omega⟩
     rw [List.length_append, List.length_singleton]; omega
   | parL g ks =>
     obtain ⟨hl, hr⟩ := hp
     have r1 := hr.1
     have r2 := hr.2.1
     simp only [S, qso]
     split
     ·refine (yh hg (by decide)).bind fun g1 r1 s1 o1 h1 => ?_
      exact Q.ok o1 ⟨Qb 3 (by omega) (by rw [List.length_append, List.length_singleton]; omega) Y9 (Y6 hr.2.2.1 h1.2) hr.2.2.2, by unfold kv; simp only; omega⟩
     split
     ·refine (yh hg (by decide)).bind fun g1 r1 s1 o1 h1 => ?_
      refine (qto r1 o1 (by omega)).bind fun n r4 s4 o4 h4 => ?_
      refine (ih (.parL (g ++ [g1]) (ks ++ [n])) r4 o4 ⟨by omega, ?_, ?_, Y6 hr.2.2.1 h1.2, Jk hr.2.2.2 h4.1⟩).mono fun m q _ h' => ⟨h'.1, by have := h'.2; unfold kv at this ⊢; simp only at this ⊢; omega⟩
      ·rw [List.length_append, List.length_singleton]; omega
      rw [List.length_append, List.length_singleton]; omega
     refine (qto t hg hl).bind fun n r4 s4 o4 h4 => ?_
     refine (ih (.parL g (ks ++ [n])) r4 o4 ⟨by omega, by omega, ?_, hr.2.2.1, Jk hr.2.2.2 h4.1⟩).mono fun m q _ h' => ⟨h'.1, by have := h'.2; unfold kv at this ⊢; simp only at this ⊢; omega⟩
     rw [List.length_append, List.length_singleton]; omega
   | func =>
     have hl : t.length ≤ 70000 := hp
     simp only [S, funP]
     refine (yh hg (by decide)).bind fun g1 r1 s1 o1 h1 => ?_
     refine (Z6 o1).bind fun a r2 s2 o2 h2 => ?_
     refine (yh o2 (by decide)).bind fun g3 r3 s3 o3 h3 => ?_
     refine (ih (.parL [g3] []) r3 o3 ⟨by omega, ?_, ?_, z6 h3.2 y5, km⟩).bind fun p r4 s4 o4 h4 => ?_
     ·simp only [List.length_cons, List.length_nil]; omega
     ·simp only [List.length_nil]; omega
     have h42 := h4.2
     unfold funK
     refine (Z6 o4).bind fun b r5 s5 o5 h5 => ?_
     refine (hC r5 o5 (by omega)).bind fun c r6 s6 o6 h6 => ?_
     exact Q.ok o6 ⟨Qb 2 (by simp) (by simp) h2.2.1 (z6 h1.2 (z6 h2.2.2 y5)) (wd h4.1 (wd (Qb 5 (by simp) (by simp) h5.2.1 (z6 h5.2.2 y5) km) (wd h6.1 km))), by unfold kv; simp only; omega⟩
   | clsL x g ks =>
     obtain ⟨hl, hx, hr⟩ := hp
     have r1 := hr.1
     have r2 := hr.2.1
     simp only [S, qtg]
     split
     ·refine (hF t hg hl).bind fun n r4 s4 o4 h4 => ?_
      refine (ih (.clsL x g (ks ++ [n])) r4 o4 ⟨by omega, hx, by omega, ?_, hr.2.2.1, Jk hr.2.2.2 h4.1⟩).mono fun m q _ h' => ⟨h'.1, by have := h'.2; unfold kv at this ⊢; simp only at this ⊢; omega⟩
      rw [List.length_append, List.length_singleton]; omega
     refine (yh hg (by decide)).bind fun g1 r1 s1 o1 h1 => ?_
     exact Q.ok o1 ⟨Qb 7 (by omega) (by rw [List.length_append, List.length_singleton]; omega) hx (Y6 hr.2.2.1 h1.2) hr.2.2.2, by unfold kv; simp only; omega⟩
   | cls =>
     have hl : t.length ≤ 70000 := hp
     simp only [S, clsP]
     refine (yh hg (by decide)).bind fun g1 r1 s1 o1 h1 => ?_
     refine (Z6 o1).bind fun a r2 s2 o2 h2 => ?_
     refine (q1k r2 o2 (by omega)).bind fun b r3 s3 o3 h3 => ?_
     refine (yh o3 (by decide)).bind fun g4 r4 s4 o4 h4 => ?_
     refine (ih (.clsL a.1 [g1, a.2, g4] [b]) r4 o4 ⟨by omega, h2.2.1, ?_, ?_, z6 h1.2 (z6 h2.2.2 (z6 h4.2 y5)), wd h3.1 km⟩).mono fun m q _ h' => ⟨h'.1, by have := h'.2; unfold kv at this ⊢; simp only at this ⊢; omega⟩
     ·simp only [List.length_cons, List.length_nil]; omega
     simp only [List.length_cons, List.length_nil]; omega
   | file ks =>
     obtain ⟨hl, hr⟩ := hp
     have r2 := hr.2.1
     cases t with
     | nil => exact hg.elim
     | cons x r =>
       have on : ∀ {G : List Token → Rs Node}, Rd G → Q (x :: r) (post (.file ks) (x :: r).length) (bR (G (x :: r)) fun n l => S f (.file (ks ++ [n])) l) := fun {G} hG => by
        refine (hG _ hg hl).bind fun n r4 s4 o4 h4 => ?_
        refine (ih (.file (ks ++ [n])) r4 o4 ⟨by omega, ?_, ?_, y5, Jk hr.2.2.2 h4.1⟩).mono fun m q _ h' => ⟨h'.1, by have := h'.2; unfold kv at this ⊢; simp only at this ⊢; omega⟩
        ·simp only [List.length_nil]; omega
        rw [List.length_append, List.length_singleton]; omega
       simp only [S, qtc]
       split
       ·exact Q.ok hg ⟨Qb 1 (by omega) (by simp) Y9 (z6 hg.1.1 y5) hr.2.2.2, by unfold kv; simp only; omega⟩
       split
       ·exact on hF
       split
       ·exact on hK
       split
       ·exact on (qic hB1 9 (by decide))
       exact ⟨List.suffix_refl _, hg⟩
end Ps
end Go.Proofs.YtigmilhpeodhbaaDoorW.Ex.Gr
