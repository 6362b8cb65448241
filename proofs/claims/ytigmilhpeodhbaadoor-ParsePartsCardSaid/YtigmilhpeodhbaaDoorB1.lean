/- What is read is a well-formed tree with all gaps, whose tokens are those that were read. Conditions: those in each theorem. -/
import Derived.Test.YtigmilhpeodhbaaDoorB0
namespace Go.Proofs.YtigmilhpeodhbaaDoorW.Ex.Gr
open Go Go.Proofs.YtigmilhpeodhbaaDoorW.Ex Go.Proofs.YtigmilhpeodhbaaDoorW.Plain
set_option linter.all false
set_option maxRecDepth 100000
namespace Ps
open Tk
def Gd (t : List Token) : Prop := Good t ∧ t.length ≤ 70000
theorem qne {x : Token} {r : List Token} (h : Gd (x :: r)) : r.length ≤ 70000 := by
 have := h.2
 rw [List.length_cons] at this
 omega
def QT {α : Type} (t : List Token) (P : α → List Token → List Token → Prop) : Rs α → Prop
 | .ok y => ∃ T, t = T ++ y.2 ∧ Gd y.2 ∧ P y.1 T y.2
 | .error _ => True
theorem QT.bind {α β : Type} {t : List Token} {P : α → List Token → List Token → Prop} {P' : β → List Token → List Token → Prop} {x : Rs α} {k : α → List Token → Rs β} (h : QT t P x)
 (hk : ∀ n r T, t = T ++ r → Gd r → P n T r → QT r (fun m T' r' => P' m (T ++ T') r') (k n r)) : QT t P' (bR x k) := by
 cases x with
 | error u => trivial
 | ok y =>
   obtain ⟨T, h1, h2, h3⟩ := h
   have := hk y.1 y.2 T h1 h2 h3
   show QT t P' (k y.1 y.2)
   revert this
   cases k y.1 y.2 with
   | error u => exact fun _ => trivial
   | ok z =>
     rintro ⟨T', q1, q2, q3⟩
     exact ⟨T ++ T', by rw [h1, q1, List.append_assoc], q2, q3⟩
theorem QT.mono {α : Type} {t : List Token} {P P' : α → List Token → List Token → Prop} {x : Rs α} (h : QT t P x) (hp : ∀ n T r, P n T r → P' n T r) : QT t P' x := by
 cases x with
 | error u => trivial
 | ok z => obtain ⟨T, h1, h2, h3⟩ := h; exact ⟨T, h1, h2, hp _ _ _ h3⟩
theorem QT.mono2 {α : Type} {t : List Token} {P P' : α → List Token → List Token → Prop} {x : Rs α} (h : QT t P x) (hp : ∀ n T r, t = T ++ r → P n T r → P' n T r) : QT t P' x := by
 cases x with
 | error u => trivial
 | ok z => obtain ⟨T, h1, h2, h3⟩ := h; exact ⟨T, h1, h2, hp _ _ _ h1 h3⟩
theorem QT.ok {α : Type} {t : List Token} {P : α → List Token → List Token → Prop} {n : α} (hg : Gd t) (h : P n [] t) : QT t P (.ok (n, t)) := ⟨[], rfl, hg, h⟩
theorem wq {w : BA} {t : List Token} (hg : Gd t) (hw : w ≠ ⟨#[]⟩) : QT t (fun g T _ => ∃ x, T = [x] ∧ x.Text = w ∧ x.Lead = g ∧ V x) (tkT w t) := by
 cases t with
 | nil => exact hg.1.elim
 | cons x r =>
   simp only [tkT]
   by_cases h : x.Text = w
   ·rw [if_pos (decide_eq_true h)]
    exact ⟨[x], rfl, ⟨Zj hg.1 (by rw [h]; exact hw), qne hg⟩, x, rfl, h, rfl, hg.1.1.2.2⟩
   rw [if_neg (by rw [decide_eq_true_eq]; exact h)]
   trivial
theorem K7 {t : List Token} (hg : Gd t) : QT t (fun a T _ => ∃ x, T = [x] ∧ x.Text = a.1 ∧ x.Lead = a.2 ∧ V x ∧ Nm x) (tkN t) := by
 cases t with
 | nil => exact hg.1.elim
 | cons x r =>
   simp only [tkN]
   by_cases h : (decide (x.Kind = 1) && u1 x.Text.data.toList) = true
   ·rw [if_pos h]
    have h2 := h
    rw [Bool.and_eq_true] at h2
    exact ⟨[x], rfl, ⟨qd5 hg.1 (by rw [of_decide_eq_true h2.1]; decide), qne hg⟩, x, rfl, rfl, rfl, hg.1.1.2.2, h2.2⟩
   rw [if_neg h]
   trivial
def PT : Cat → Node → List Token → List Token → Prop
 | .bin v, n, T, _ => WF n T ∧ zy n.kind = 3 ∧ v ≤ level n
 | .binL v m, n, T, _ => ∀ Tm, WF m Tm → zy m.kind = 3 → v ≤ level m → (v = 3 → 3 < level m) → WF n (Tm ++ T) ∧ zy n.kind = 3 ∧ v ≤ level n
 | .un, n, T, _ => WF n T ∧ zy n.kind = 3 ∧ 6 ≤ level n
 | .unL m, n, T, _ => ∀ Tm, WF m Tm → zy m.kind = 3 → level m = 7 → WF n (Tm ++ T) ∧ zy n.kind = 3 ∧ level n = 7
 | .prim, n, T, _ => WF n T ∧ zy n.kind = 3 ∧ level n = 7
 | .args k x g ks, n, T, _ => ∃ y g' ks' T', T = y :: T' ∧ y.Text = ⟨#[40]⟩ ∧ V y ∧ n = .mk k x (g ++ y.Lead :: g') (ks ++ ks') ∧ AR (fun k => zy k = 3) true g' ks' T'
 | .argL b k x g ks, n, T, _ => ∃ g' ks', n = .mk k x (g ++ g') (ks ++ ks') ∧ AR (fun k => zy k = 3) b g' ks' T
 | .stmt, n, T, _ => WF n T ∧ zy n.kind = 2
 | .blk, n, T, _ => WF n T ∧ n.kind = 6
 | .blkL g ks, n, T, _ => ∃ ks' y T', n = .mk 6 ⟨#[]⟩ (g ++ [y.Lead]) (ks ++ ks') ∧ T = T' ++ [y] ∧ y.Text = ⟨#[125]⟩ ∧ V y ∧ KL (fun k => zy k = 2) ks' T'
 | .parL g ks, n, T, _ => ∃ g' ks', n = .mk 3 ⟨#[]⟩ (g ++ g') (ks ++ ks') ∧ AR (fun k => k = 4) (decide (ks.length = 0)) g' ks' T
 | .func, n, T, _ => WF n T ∧ n.kind = 2
 | .clsL x g ks, n, T, _ => ∃ ks' y T', n = .mk 7 x (g ++ [y.Lead]) (ks ++ ks') ∧ T = T' ++ [y] ∧ y.Text = ⟨#[125]⟩ ∧ V y ∧ KL (fun k => k = 2) ks' T'
 | .cls, n, T, _ => WF n T ∧ n.kind = 7
 | .file ks, n, T, r => ∃ ks' y q, r = y :: q ∧ y.Kind = 4 ∧ n = .mk 1 ⟨#[]⟩ [y.Lead] (ks ++ ks') ∧ V y ∧ KL (fun k => zy k = 1) ks' T
abbrev EX (n : Node) (T : List Token) : Prop := WF n T ∧ zy n.kind = 3
abbrev ST (n : Node) (T : List Token) : Prop := WF n T ∧ zy n.kind = 2
abbrev BK (n : Node) (T : List Token) : Prop := WF n T ∧ n.kind = 6
def Rt (B : List Token → Rs Node) (P : Node → List Token → Prop) : Prop := ∀ t, Gd t → QT t (fun n T _ => P n T) (B t)
section
variable {B C : List Token → Rs Node}
theorem qtn (hB : Rt B EX) (k : Int) {w : BA} (hk : k = 9 ∨ k = 10) (hw : w = if k = 9 then ⟨#[99, 111, 110, 115, 116]⟩ else ⟨#[108, 101, 116]⟩) : Rt (Kb B k w) (fun n T => WF n T ∧ n.kind = k) := fun t hg => by
 unfold Kb
 have w0 : w ≠ ⟨#[]⟩ := by rw [hw]; rcases hk with e | e <;> rw [e] <;> decide
 refine (wq hg w0).bind fun g1 r1 T1 e1 o1 p1 => ?_
 refine (K7 o1).bind fun a r2 T2 e2 o2 p2 => ?_
 refine (wq o2 (by decide)).bind fun g3 r3 T3 e3 o3 p3 => ?_
 refine (hB r3 o3).bind fun n r4 T4 e4 o4 p4 => ?_
 refine (wq o4 (by decide)).bind fun g5 r5 T5 e5 o5 p5 => ?_
 obtain ⟨x1, rfl, q1, rfl, v1⟩ := p1
 obtain ⟨x2, rfl, q2, q22, v2, n2⟩ := p2
 obtain ⟨x3, rfl, q3, rfl, v3⟩ := p3
 obtain ⟨x5, rfl, q5, rfl, v5⟩ := p5
 refine QT.ok o5 ?_
 rw [← q2, ← q22]
 exact ⟨qzp k hk (by rw [q1, hw]) n2 q3 p4.1 p4.2 q5 v1 v2 v3 v5, rfl⟩
theorem q1e (hC : Rt C BK) : Rt (qhh C) (fun n T => WF n T ∧ n.kind = 14) := fun t hg => by
 unfold qhh
 split
 ·refine (wq hg (by decide)).bind fun g1 r1 T1 e1 o1 p1 => ?_
  refine (hC r1 o1).bind fun c r2 T2 e2 o2 p2 => ?_
  obtain ⟨x1, rfl, q1, rfl, v1⟩ := p1
  refine QT.ok o2 ?_
  rw [List.append_nil]
  exact ⟨q1a q1 p2.1 p2.2 v1, rfl⟩
 exact QT.ok hg ⟨qzq, rfl⟩
theorem q1d (hB : Rt B EX) (hC : Rt C BK) : Rt (Wm B C) ST := fun t hg => by
 unfold Wm
 split
 ·exact (qtn hB 10 (.inr rfl) rfl t hg).mono fun n T _ h => ⟨h.1, by rw [h.2]; rfl⟩
 split
 ·unfold retP
  refine (wq hg (by decide)).bind fun g1 r1 T1 e1 o1 p1 => ?_
  refine (hB r1 o1).bind fun n r4 T4 e4 o4 p4 => ?_
  refine (wq o4 (by decide)).bind fun g5 r5 T5 e5 o5 p5 => ?_
  obtain ⟨x1, rfl, q1, rfl, v1⟩ := p1
  obtain ⟨x5, rfl, q5, rfl, v5⟩ := p5
  exact QT.ok o5 ⟨q2a q1 p4.1 p4.2 q5 v1 v5, rfl⟩
 split
 ·unfold ifP
  refine (wq hg (by decide)).bind fun g1 r1 T1 e1 o1 p1 => ?_
  refine (hB r1 o1).bind fun n r4 T4 e4 o4 p4 => ?_
  refine (hC r4 o4).bind fun c r5 T5 e5 o5 p5 => ?_
  refine (q1e hC r5 o5).bind fun e r6 T6 e6 o6 p6 => ?_
  obtain ⟨x1, rfl, q1, rfl, v1⟩ := p1
  refine QT.ok o6 ?_
  rw [List.append_nil]
  show WF _ (x1 :: (T4 ++ (T5 ++ T6))) ∧ _
  exact ⟨W_if q1 p4.1 p4.2 p5.1 p5.2 p6.1 p6.2 v1, rfl⟩
 split
 ·unfold qf5
  refine (wq hg (by decide)).bind fun g1 r1 T1 e1 o1 p1 => ?_
  refine (hB r1 o1).bind fun n r4 T4 e4 o4 p4 => ?_
  refine (hC r4 o4).bind fun c r5 T5 e5 o5 p5 => ?_
  obtain ⟨x1, rfl, q1, rfl, v1⟩ := p1
  refine QT.ok o5 ?_
  rw [List.append_nil]
  show WF _ (x1 :: (T4 ++ T5)) ∧ _
  exact ⟨qzn q1 p4.1 p4.2 p5.1 p5.2 v1, rfl⟩
 split
 ·unfold setP
  refine (K7 hg).bind fun a r2 T2 e2 o2 p2 => ?_
  refine (wq o2 (by decide)).bind fun g3 r3 T3 e3 o3 p3 => ?_
  refine (hB r3 o3).bind fun n r4 T4 e4 o4 p4 => ?_
  refine (wq o4 (by decide)).bind fun g5 r5 T5 e5 o5 p5 => ?_
  obtain ⟨x2, rfl, q2, q22, v2, n2⟩ := p2
  obtain ⟨x3, rfl, q3, rfl, v3⟩ := p3
  obtain ⟨x5, rfl, q5, rfl, v5⟩ := p5
  refine QT.ok o5 ?_
  rw [← q2, ← q22]
  exact ⟨q19 n2 q3 p4.1 p4.2 q5 v2 v3 v5, rfl⟩
 unfold doP
 refine (hB t hg).bind fun n r4 T4 e4 o4 p4 => ?_
 refine (wq o4 (by decide)).bind fun g5 r5 T5 e5 o5 p5 => ?_
 obtain ⟨x5, rfl, q5, rfl, v5⟩ := p5
 exact QT.ok o5 ⟨W_do p4.1 p4.2 q5 v5, rfl⟩
theorem q2g : Rt newP (fun n T => WF n T ∧ zy n.kind = 3 ∧ level n = 7) := fun t hg => by
 unfold newP
 refine (wq hg (by decide)).bind fun g1 r1 T1 e1 o1 p1 => ?_
 refine (K7 o1).bind fun a r2 T2 e2 o2 p2 => ?_
 refine (wq o2 (by decide)).bind fun g3 r3 T3 e3 o3 p3 => ?_
 refine (wq o3 (by decide)).bind fun g5 r5 T5 e5 o5 p5 => ?_
 obtain ⟨x1, rfl, q1, rfl, v1⟩ := p1
 obtain ⟨x2, rfl, q2, q22, v2, n2⟩ := p2
 obtain ⟨x3, rfl, q3, rfl, v3⟩ := p3
 obtain ⟨x5, rfl, q5, rfl, v5⟩ := p5
 refine QT.ok o5 ?_
 rw [← q2, ← q22]
 exact ⟨q2b q1 n2 q3 q5 v1 v2 v3 v5, rfl, rfl⟩
theorem q2f (hB : Rt B EX) : Rt (parP B) (fun n T => WF n T ∧ zy n.kind = 3 ∧ level n = 7) := fun t hg => by
 unfold parP
 refine (wq hg (by decide)).bind fun g1 r1 T1 e1 o1 p1 => ?_
 refine (hB r1 o1).bind fun n r4 T4 e4 o4 p4 => ?_
 refine (wq o4 (by decide)).bind fun g5 r5 T5 e5 o5 p5 => ?_
 obtain ⟨x1, rfl, q1, rfl, v1⟩ := p1
 obtain ⟨x5, rfl, q5, rfl, v5⟩ := p5
 exact QT.ok o5 ⟨q0b q1 p4.1 p4.2 q5 v1 v5, rfl, rfl⟩
theorem qtm : Rt K2 (fun n T => WF n T ∧ n.kind = 4) := fun t hg => by
 unfold K2
 refine (K7 hg).bind fun a r2 T2 e2 o2 p2 => ?_
 refine (K7 o2).bind fun b r3 T3 e3 o3 p3 => ?_
 obtain ⟨x2, rfl, q2, q22, v2, n2⟩ := p2
 obtain ⟨x3, rfl, q3, q33, v3, n3⟩ := p3
 refine QT.ok o3 ?_
 rw [← q2, ← q22, ← q3, ← q33]
 exact ⟨qzo n2 v2 n3 v3, rfl⟩
theorem q1f : Rt ql9 (fun n T => WF n T ∧ n.kind = 8) := fun t hg => by
 unfold ql9
 split
 ·refine (wq hg (by decide)).bind fun g1 r1 T1 e1 o1 p1 => ?_
  refine (K7 o1).bind fun a r2 T2 e2 o2 p2 => ?_
  obtain ⟨x1, rfl, q1, rfl, v1⟩ := p1
  obtain ⟨x2, rfl, q2, q22, v2, n2⟩ := p2
  refine QT.ok o2 ?_
  rw [← q2, ← q22]
  exact ⟨q1c q1 n2 v1 v2, rfl⟩
 exact QT.ok hg ⟨qzr, rfl⟩
end
theorem q0v {x : Token} {r : List Token} (hg : Good (x :: r)) (h : x.Kind = 2) : y7 (L x.Text) = true := by
 rcases hg.2 with ⟨_, h2, _⟩ | ⟨_, _, h2, _, _⟩
 ·rw [h] at h2; exact absurd h2 (by decide)
 rw [h] at h2
 have k2 : ∀ l : List UInt8, Qs l = 2 → y7 l = true := fun l h2 => by
  unfold Qs at h2
  split at h2
  ·rename_i hl
   cases l with
   | nil => exact absurd h2 (by decide)
   | cons c l =>
     cases hw : letC c with
     | false =>
       cases hm : Yb c with
       | false => rw [qe2 l hw hm] at h2; exact absurd h2 (by decide)
       | true => rw [Wr l hw hm] at h2; split at h2; exact absurd h2 (by decide); split at h2 <;> exact absurd h2 (by decide)
     | true =>
       cases hd : digC c with
       | false => rw [qbd l hw hd] at h2; split at h2 <;> exact absurd h2 (by simp)
       | true =>
         rw [qbe l hd] at h2 hl
         by_cases hi : y7 ((c :: l).take (Tk.runL (c :: l))) = true
         ·rw [if_pos hi] at hl
          rw [show Tk.runL (c :: l) = (c :: l).length from hl, List.take_length] at hi
          exact hi
         rw [if_neg hi] at h2; exact absurd h2 (by decide)
  exact absurd h2 (by decide)
 exact k2 _ h2.symm
theorem AR.glen {p : Int → Prop} {b : Bool} {g : List BA} {ks : List Node} {T : List Token} (h : AR p b g ks T) : g.length ≤ T.length := by
 induction h with
 | last _ _ => exact Nat.le_refl _
 | first _ _ _ ih => rw [List.length_append]; omega
 | next _ _ _ _ _ ih => rw [List.length_cons, List.length_cons, List.length_append]; omega
theorem AR.klen {p : Int → Prop} {b : Bool} {g : List BA} {ks : List Node} {T : List Token} (h : AR p b g ks T) : ks.length ≤ T.length + 1 := by
 have h1 := h.glen
 have h2 := h.len
 split at h2 <;> omega
def preT : Cat → Prop
 | .bin v => 1 ≤ v ∧ v ≤ 6
 | .binL v _ => 1 ≤ v ∧ v ≤ 5
 | _ => True
theorem QT.step {α : Type} {x : Token} {r : List Token} {P : α → List Token → List Token → Prop} {y : Rs α} (hr : Gd r) (h : QT r (fun n T q => P n (x :: T) q) y) : QT (x :: r) P y := by
 cases y with
 | error u => trivial
 | ok z =>
   obtain ⟨T, h1, h2, h3⟩ := h
   exact ⟨x :: T, by rw [h1]; rfl, h2, h3⟩
theorem qta {x : Token} {r : List Token} (h : Gd (x :: r)) (ht : x.Text ≠ ⟨#[]⟩) : Gd r := ⟨Zj h.1 ht, qne h⟩
theorem q15 {w : BA} {x : Token} {r : List Token} (h : isT w (x :: r) = true) (hg : Gd (x :: r)) (hw : w ≠ ⟨#[]⟩) : Gd r := ⟨qy8 h hg.1 hw, qne hg⟩
theorem qrm : ∀ (f : Nat) (c : Cat) (t : List Token), Gd t → preT c → QT t (PT c) (S f c t)
 | 0, c, t, hg, _ => trivial
 | f + 1, c, t, hg, hp => by
   have ih := qrm f
   have hB : ∀ v : Int, 1 ≤ v → v ≤ 6 → ∀ t, Gd t → QT t (fun n T _ => WF n T ∧ zy n.kind = 3 ∧ v ≤ level n) (S f (.bin v) t) := fun v h1 h6 t hg => ih (.bin v) t hg ⟨h1, h6⟩
   have hB1 : Rt (S f (.bin 1)) EX := fun t hg => (hB 1 (by decide) (by decide) t hg).mono fun n T r h => ⟨h.1, h.2.1⟩
   have hC : Rt (S f .blk) BK := fun t hg => ih .blk t hg trivial
   have hT : Rt (S f .stmt) ST := fun t hg => ih .stmt t hg trivial
   have hF : Rt (S f .func) (fun n T => WF n T ∧ n.kind = 2) := fun t hg => ih .func t hg trivial
   have hK : Rt (S f .cls) (fun n T => WF n T ∧ n.kind = 7) := fun t hg => ih .cls t hg trivial
   cases c with
   | bin v =>
     simp only [S]
     split
     ·rename_i h5
      have h5 := of_decide_eq_true h5
      refine (ih .un t hg trivial).mono fun n T r h => ?_
      exact ⟨h.1, h.2.1, by have := h.2.2; have := hp.2; omega⟩
     rename_i h5
     rw [decide_eq_true_eq] at h5
     refine (hB (v + 1) (by have := hp.1; omega) (by omega) t hg).bind fun n r T e o h => ?_
     refine (ih (.binL v n) r o ⟨hp.1, by omega⟩).mono fun m T' r' h' => ?_
     exact h' T h.1 h.2.1 (by have := h.2.2; omega) (fun e3 => by have := h.2.2; omega)
   | binL v m =>
     obtain ⟨p1, p5⟩ := hp
     cases t with
     | nil => exact hg.1.elim
     | cons x r =>
       simp only [S, binP]
       split
       ·rename_i hx
        have hx := of_decide_eq_true hx
        have hr : Gd r := qta hg (by
         rintro h0
         rw [h0] at hx
         rw [show jh ⟨#[]⟩ = 0 from by decide] at hx
         omega)
        refine QT.step hr ?_
        refine (hB (v + 1) (by omega) (by omega) r hr).bind fun n q T e o h => ?_
        have hw : ∀ Tm, WF m Tm → zy m.kind = 3 → v ≤ level m → (v = 3 → 3 < level m) → WF (.mk 24 x.Text [x.Lead] [m, n]) (Tm ++ (x :: T)) := fun Tm h1 h2 h3 h4 => q2e p1 hx h1 h2 h3 h4 h.1 h.2.1 h.2.2 hg.1.1.2.2
        split
        ·rename_i h3
         refine QT.ok o fun Tm h1 h2 h3' h4 => ?_
         rw [List.append_nil]
         exact ⟨hw Tm h1 h2 h3' h4, rfl, by show v ≤ jh x.Text; omega⟩
        rename_i h3
        rw [decide_eq_true_eq] at h3
        refine (ih (.binL v (.mk 24 x.Text [x.Lead] [m, n])) q o ⟨p1, p5⟩).mono fun n' T' r' h' Tm h2 h3' h4 h5 => ?_
        have := h' (Tm ++ (x :: T)) (hw Tm h2 h3' h4 h5) rfl (by show v ≤ jh x.Text; omega) (fun e => absurd e h3)
        rw [List.append_assoc] at this
        exact this
       exact QT.ok hg fun Tm h1 h2 h3 _ => by rw [List.append_nil]; exact ⟨h1, h2, h3⟩
   | un =>
     cases t with
     | nil => exact hg.1.elim
     | cons x r =>
       simp only [S, unP]
       have neg : ∀ {w : BA}, isT w (x :: r) = true → w = ⟨#[45]⟩ ∨ w = ⟨#[33]⟩ → QT (x :: r) (PT .un) (bR (S f .un r) fun n t => .ok (.mk 25 x.Text [x.Lead] [n], t)) := fun {w} h h2 => by
        have hx : x.Text = w := of_decide_eq_true h
        have hr : Gd r := q15 h hg (by rcases h2 with e | e <;> rw [e] <;> decide)
        refine QT.step hr ?_
        refine (ih .un r hr trivial).bind fun n q T e o p => ?_
        refine QT.ok o ?_
        rw [List.append_nil]
        exact ⟨W_un (by rw [hx]; exact h2) p.1 p.2.1 p.2.2 hg.1.1.2.2, rfl, Int.le_refl _⟩
       split
       ·rename_i h; exact neg h (.inl rfl)
       split
       ·rename_i h; exact neg h (.inr rfl)
       refine (ih .prim (x :: r) hg trivial).bind fun n q T e o h => ?_
       refine (ih (.unL n) q o trivial).mono fun m T' r' h' => ?_
       have := h' T h.1 h.2.1 h.2.2
       exact ⟨this.1, this.2.1, by rw [this.2.2]; decide⟩
   | unL m =>
     simp only [S]
     split
     ·simp only [qon]
      refine (wq hg (by decide)).bind fun g1 r1 T1 e1 o1 q1 => ?_
      refine (K7 o1).bind fun a r2 T2 e2 o2 q2 => ?_
      refine (ih (.args 21 a.1 [g1, a.2] [m]) r2 o2 trivial).bind fun n r3 T3 e3 o3 q3 => ?_
      refine (ih (.unL n) r3 o3 trivial).mono fun n' T' r' h' Tm h1 h2 h3 => ?_
      obtain ⟨x1, rfl, w1, rfl, v1⟩ := q1
      obtain ⟨x2, rfl, w2, w22, v2, n2⟩ := q2
      obtain ⟨y, g', ks', T4, rfl, wy, vy, hn, ar⟩ := q3
      have hks := ar.klen
      have hT : T4.length ≤ 70000 := by
       have := o2.2
       rw [e3, List.length_append, List.length_cons] at this
       omega
      have hw := q08 h1 h3 h2 w1 n2 wy v1 v2 vy ar (by omega)
      have hn' : n = .mk 21 x2.Text (x1.Lead :: x2.Lead :: y.Lead :: g') (m :: ks') := by rw [hn, w2, w22]; rfl
      have := h' (Tm ++ (x1 :: x2 :: y :: T4)) (by rw [hn']; exact hw) (by rw [hn']; rfl) (by rw [hn']; rfl)
      rw [List.append_assoc] at this
      exact this
     exact QT.ok hg fun Tm h1 h2 h3 => by rw [List.append_nil]; exact ⟨h1, h2, h3⟩
   | prim =>
     cases t with
     | nil => exact hg.1.elim
     | cons x r =>
       have vx : V x := hg.1.1.2.2
       have leaf : ∀ k : Int, (k = 17 ∨ k = 18 ∨ k = 23) → x.Text ≠ ⟨#[]⟩ → spelledOk (.mk k x.Text [x.Lead] []) = true → calledOk (.mk k x.Text [x.Lead] []) = true → QT (x :: r) (PT .prim) (.ok (.mk k x.Text [x.Lead] [], r)) := fun k hk h hs hc => by
        have hr := qta hg h
        refine QT.step hr (QT.ok hr ⟨qrl k (by rcases hk with e | e | e <;> simp [e]) vx hs hc, ?_, ?_⟩) <;> (rcases hk with e | e | e <;> rw [e] <;> rfl)
       have lit : ∀ {w : BA}, isT w (x :: r) = true → x.Text = w := fun h => of_decide_eq_true h
       simp only [S, qdm]
       split
       ·rename_i h
        have h := of_decide_eq_true h
        refine leaf 17 (.inl rfl) ?_ rfl (q0v hg.1 h)
        rcases hg.1.2 with ⟨_, h2, _⟩ | ⟨_, _, _, h2, _⟩
        ·rw [h] at h2; exact absurd h2 (by decide)
        exact h2
       split
       ·rename_i h; have e := lit h; exact leaf 18 (.inr (.inl rfl)) (by rw [e]; decide) (by rw [e]; rfl) rfl
       split
       ·rename_i h; have e := lit h; exact leaf 18 (.inr (.inl rfl)) (by rw [e]; decide) (by rw [e]; rfl) rfl
       split
       ·rename_i h; have e := lit h; exact leaf 23 (.inr (.inr rfl)) (by rw [e]; decide) (by rw [e]; rfl) rfl
       split
       ·exact q2g _ hg
       split
       ·exact q2f hB1 _ hg
       unfold qhk
       refine (K7 hg).bind fun a r2 T2 e2 o2 q2 => ?_
       obtain ⟨x2, rfl, w2, w22, v2, n2⟩ := q2
       split
       ·refine (ih (.args 20 a.1 [a.2] []) r2 o2 trivial).mono2 fun n T3 r3 e3 q3 => ?_
        obtain ⟨y, g', ks', T4, rfl, wy, vy, hn, ar⟩ := q3
        have hks := ar.klen
        have hT : T4.length ≤ 70000 := by
         have := o2.2
         rw [e3, List.length_append, List.length_cons] at this
         omega
        rw [hn, ← w2, ← w22]
        exact ⟨q1b (ks := ks') n2 wy v2 vy ar (by omega), rfl, rfl⟩
       refine QT.ok o2 ?_
       rw [← w2, ← w22]
       exact ⟨qrl 19 (by simp) v2 rfl n2, rfl, rfl⟩
   | args k x g ks =>
     simp only [S]
     refine (wq hg (by decide)).bind fun g1 r1 T1 e1 o1 q1 => ?_
     refine (ih (.argL true k x (g ++ [g1]) ks) r1 o1 trivial).mono fun n T r h => ?_
     obtain ⟨x1, rfl, w1, rfl, v1⟩ := q1
     obtain ⟨g', ks', hn, ar⟩ := h
     exact ⟨x1, g', ks', T, rfl, w1, v1, by rw [hn, List.append_assoc]; rfl, ar⟩
   | argL b k x g ks =>
     simp only [S, argP]
     split
     ·refine (wq hg (by decide)).bind fun g1 r1 T1 e1 o1 q1 => ?_
      obtain ⟨x1, rfl, w1, rfl, v1⟩ := q1
      exact QT.ok o1 ⟨[x1.Lead], [], by rw [List.append_nil], .last w1 v1⟩
     split
     ·rename_i hb
      refine (hB1 t hg).bind fun n r T e o h => ?_
      refine (ih (.argL false k x g (ks ++ [n])) r o trivial).mono fun n' T' r' h' => ?_
      obtain ⟨g', ks', hn, ar⟩ := h'
      rw [hb]
      exact ⟨g', n :: ks', by rw [hn, List.append_assoc]; rfl, .first h.1 h.2 ar⟩
     rename_i hb
     have hb : b = false := by cases b with | true => exact absurd rfl hb | false => rfl
     refine (wq hg (by decide)).bind fun g1 r1 T1 e1 o1 q1 => ?_
     refine (hB1 r1 o1).bind fun n r T e o h => ?_
     refine (ih (.argL false k x (g ++ [g1]) (ks ++ [n])) r o trivial).mono fun n' T' r' h' => ?_
     obtain ⟨x1, rfl, w1, rfl, v1⟩ := q1
     obtain ⟨g', ks', hn, ar⟩ := h'
     rw [hb]
     exact ⟨x1.Lead :: g', n :: ks', by rw [hn, List.append_assoc, List.append_assoc]; rfl, .next (T1 := T) (T2 := T') w1 v1 h.1 h.2 ar⟩
   | stmt => exact q1d hB1 hC t hg
   | blk =>
     simp only [S]
     refine (wq hg (by decide)).bind fun g1 r1 T1 e1 o1 q1 => ?_
     refine (ih (.blkL [g1] []) r1 o1 trivial).mono fun n T r h => ?_
     obtain ⟨x1, rfl, w1, rfl, v1⟩ := q1
     obtain ⟨ks', y, T', hn, rfl, wy, vy, kl⟩ := h
     rw [hn]
     exact ⟨q2d w1 kl wy v1 vy, rfl⟩
   | blkL g ks =>
     simp only [S, blkP]
     split
     ·refine (wq hg (by decide)).bind fun g1 r1 T1 e1 o1 q1 => ?_
      obtain ⟨x1, rfl, w1, rfl, v1⟩ := q1
      exact QT.ok o1 ⟨[], x1, [], by rw [List.append_nil], rfl, w1, v1, .nil⟩
     refine (hT t hg).bind fun n r T e o h => ?_
     refine (ih (.blkL g (ks ++ [n])) r o trivial).mono fun n' T' r' h' => ?_
     obtain ⟨ks', y, T2, hn, rfl, wy, vy, kl⟩ := h'
     exact ⟨n :: ks', y, T ++ T2, by rw [hn, List.append_assoc]; rfl, by rw [List.append_assoc], wy, vy, .cons h.1 h.2 kl⟩
   | parL g ks =>
     simp only [S, qso]
     split
     ·refine (wq hg (by decide)).bind fun g1 r1 T1 e1 o1 q1 => ?_
      obtain ⟨x1, rfl, w1, rfl, v1⟩ := q1
      exact QT.ok o1 ⟨[x1.Lead], [], by rw [List.append_nil], .last w1 v1⟩
     have nz : ∀ n : Node, decide ((ks ++ [n]).length = 0) = false := fun n => decide_eq_false (by rw [List.length_append, List.length_singleton]; omega)
     split
     ·rename_i hb
      have hb := of_decide_eq_true hb
      refine (wq hg (by decide)).bind fun g1 r1 T1 e1 o1 q1 => ?_
      refine (qtm r1 o1).bind fun n r T e o h => ?_
      refine (ih (.parL (g ++ [g1]) (ks ++ [n])) r o trivial).mono fun n' T' r' h' => ?_
      obtain ⟨x1, rfl, w1, rfl, v1⟩ := q1
      obtain ⟨g', ks', hn, ar⟩ := h'
      rw [nz] at ar
      show ∃ g' ks', _ ∧ AR _ (decide (ks.length = 0)) _ _ _
      rw [decide_eq_false (show ¬ ks.length = 0 by omega)]
      exact ⟨x1.Lead :: g', n :: ks', by rw [hn, List.append_assoc, List.append_assoc]; rfl, .next (T1 := T) (T2 := T') w1 v1 h.1 h.2 ar⟩
     rename_i hb
     rw [decide_eq_true_eq] at hb
     refine (qtm t hg).bind fun n r T e o h => ?_
     refine (ih (.parL g (ks ++ [n])) r o trivial).mono fun n' T' r' h' => ?_
     obtain ⟨g', ks', hn, ar⟩ := h'
     rw [nz] at ar
     show ∃ g' ks', _ ∧ AR _ (decide (ks.length = 0)) _ _ _
     rw [decide_eq_true (show ks.length = 0 by omega)]
     exact ⟨g', n :: ks', by rw [hn, List.append_assoc]; rfl, .first h.1 h.2 ar⟩
   | func =>
     simp only [S, funP]
     refine (wq hg (by decide)).bind fun g1 r1 T1 e1 o1 q1 => ?_
     refine (K7 o1).bind fun a r2 T2 e2 o2 q2 => ?_
     refine (wq o2 (by decide)).bind fun g3 r3 T3 e3 o3 q3 => ?_
     refine (ih (.parL [g3] []) r3 o3 trivial).bind fun p r4 T4 e4 o4 q4 => ?_
     unfold funK
     refine (K7 o4).bind fun b r5 T5 e5 o5 q5 => ?_
     refine (hC r5 o5).bind fun c r6 T6 e6 o6 q6 => ?_
     obtain ⟨x1, rfl, w1, rfl, v1⟩ := q1
     obtain ⟨x2, rfl, w2, w22, v2, n2⟩ := q2
     obtain ⟨x3, rfl, w3, rfl, v3⟩ := q3
     obtain ⟨g', ks', hn, ar⟩ := q4
     obtain ⟨x5, rfl, w5, w55, v5, n5⟩ := q5
     have hks := ar.klen
     have hT : T4.length ≤ 70000 := by
      have := o3.2
      rw [e4, List.length_append] at this
      omega
     have hp := qxz w3 v3 ar (by omega)
     refine QT.ok o6 ?_
     rw [List.append_nil, hn, ← w2, ← w22, ← w5, ← w55]
     show WF _ (x1 :: x2 :: ((x3 :: T4) ++ (x5 :: T6))) ∧ _
     exact ⟨q09 w1 n2 v1 v2 hp rfl n5 v5 q6.1 q6.2, rfl⟩
   | clsL x g ks =>
     simp only [S, qtg]
     split
     ·refine (hF t hg).bind fun n r T e o h => ?_
      refine (ih (.clsL x g (ks ++ [n])) r o trivial).mono fun n' T' r' h' => ?_
      obtain ⟨ks', y, T2, hn, rfl, wy, vy, kl⟩ := h'
      exact ⟨n :: ks', y, T ++ T2, by rw [hn, List.append_assoc]; rfl, by rw [List.append_assoc], wy, vy, .cons h.1 h.2 kl⟩
     refine (wq hg (by decide)).bind fun g1 r1 T1 e1 o1 q1 => ?_
     obtain ⟨x1, rfl, w1, rfl, v1⟩ := q1
     exact QT.ok o1 ⟨[], x1, [], by rw [List.append_nil], rfl, w1, v1, .nil⟩
   | cls =>
     simp only [S, clsP]
     refine (wq hg (by decide)).bind fun g1 r1 T1 e1 o1 q1 => ?_
     refine (K7 o1).bind fun a r2 T2 e2 o2 q2 => ?_
     refine (q1f r2 o2).bind fun b r3 T3 e3 o3 q3 => ?_
     refine (wq o3 (by decide)).bind fun g4 r4 T4 e4 o4 q4 => ?_
     refine (ih (.clsL a.1 [g1, a.2, g4] [b]) r4 o4 trivial).mono fun n T r h => ?_
     obtain ⟨x1, rfl, w1, rfl, v1⟩ := q1
     obtain ⟨x2, rfl, w2, w22, v2, n2⟩ := q2
     obtain ⟨x4, rfl, w4, rfl, v4⟩ := q4
     obtain ⟨ks', y, T', hn, rfl, wy, vy, kl⟩ := h
     rw [hn, ← w2, ← w22]
     show WF _ (x1 :: x2 :: (T3 ++ (x4 :: (T' ++ [y])))) ∧ _
     exact ⟨q2c w1 n2 v1 v2 q3.1 q3.2 w4 v4 kl wy vy, rfl⟩
   | file ks =>
     cases t with
     | nil => exact hg.1.elim
     | cons x r =>
       have on : ∀ {G : List Token → Rs Node} {P : Node → List Token → Prop}, Rt G P → (∀ n T, P n T → WF n T ∧ zy n.kind = 1) → QT (x :: r) (PT (.file ks)) (bR (G (x :: r)) fun n l => S f (.file (ks ++ [n])) l) := fun {G P} hG hP => by
        refine (hG _ hg).bind fun n r1 T e o h => ?_
        refine (ih (.file (ks ++ [n])) r1 o trivial).mono fun n' T' r' h' => ?_
        obtain ⟨ks', y, q, h1, h2, hn, h4, kl⟩ := h'
        exact ⟨n :: ks', y, q, h1, h2, by rw [hn, List.append_assoc]; rfl, h4, .cons (hP n T h).1 (hP n T h).2 kl⟩
       simp only [S, qtc]
       split
       ·rename_i h
        exact QT.ok hg ⟨[], x, r, rfl, of_decide_eq_true h, by rw [List.append_nil], hg.1.1.2.2, .nil⟩
       split
       ·exact on hF fun n T h => ⟨h.1, by rw [h.2]; rfl⟩
       split
       ·exact on hK fun n T h => ⟨h.1, by rw [h.2]; rfl⟩
       split
       ·exact on (qtn hB1 9 (.inl rfl) rfl) fun n T h => ⟨h.1, by rw [h.2]; rfl⟩
       trivial
end Ps
end Go.Proofs.YtigmilhpeodhbaaDoorW.Ex.Gr
