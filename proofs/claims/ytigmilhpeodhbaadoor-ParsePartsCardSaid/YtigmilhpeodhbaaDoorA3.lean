/- What File, Expr and Stmt of the program return. Conditions: those in each theorem. -/
import Derived.Test.YtigmilhpeodhbaaDoorA1
import Derived.Test.YtigmilhpeodhbaaDoorKq
import Derived.KernelRfl
namespace Go.Proofs.YtigmilhpeodhbaaDoorW.Ex.Gr
open Go Go.Proofs.YtigmilhpeodhbaaDoorW.Ex Go.Proofs.YtigmilhpeodhbaaDoorW.Plain
set_option linter.all false
set_option maxRecDepth 100000
namespace Ps
open Tk
@[reducible] def zN : Node := Node.mk 0 (⟨#[]⟩) ([] : LB) ([] : LN)
theorem b3 {α β γ : Type} (a : Option (α × β × γ)) : (a >>= fun x => some (x.1, x.2.1, x.2.2)) = a := by cases a <;> rfl
def limV (n : Node) : Node × Int × Int := if checkErr n = 3 then (zN, 3, 0) else (n, 0, 0)
def finV : Rs Node → Node × Int × Int
 | .error u => (zN, 1, atE u)
 | .ok y => limV y.1
theorem qvp (s : BA) (h : qt (L s) = []) : trivValid s = true := by
 unfold trivValid
 rw [show (0 : Int) = ((0 : Nat) : Int) from rfl, qfm (Nat.zero_le _)]
 refine decide_eq_true ?_
 unfold ku
 rw [List.drop_zero, show s.data.toList = L s from rfl, h]; rfl
theorem qy4 (l : List UInt8) : (j6 l).2 = 0 ∨ (j6 l).2 = 1 ∨ (j6 l).2 = 2 ∨ (j6 l).2 = 3 := by
 cases l with
 | nil => exact .inl rfl
 | cons c l =>
   unfold j6
   repeat' split
   all_goals simp
theorem qdx (S : Nat) : ∀ (f : Nat) (l : List UInt8) (m : List Token), Ju S f l = .ok m → l.length < f → l.length ≤ 65536 → Good m ∧ m.length ≤ l.length + 1
 | 0, l, m, _, h, _ => absurd h (Nat.not_lt_zero _)
 | f + 1, l, m, h, hf, hl => by
   have hr := Wk l
   obtain ⟨p, hp⟩ := qey l
   have hpl : p = l.take (l.length - (qt l).length) := by
    have hlen := congrArg List.length hp
    rw [List.length_append] at hlen
    have : l.length - (qt l).length = p.length := by omega
    rw [this]
    conv => rhs; rw [hp]
    rw [List.take_left']; rfl
   have hv : trivValid (ofB (l.take (l.length - (qt l).length))) = true := by
    refine qvp _ ?_
    rw [qcx, ← hpl]
    exact qv4 p (qt l) (by rw [← hp])
   rw [Ju] at h
   by_cases h0 : qt l = []
   ·rw [if_pos h0] at h
    cases h
    rw [h0, List.length_nil, Nat.sub_zero, List.take_length] at hv
    exact ⟨⟨⟨by show l.length ≤ 65536; exact hl, by show 0 ≤ 65536; omega, hv⟩, .inl ⟨rfl, rfl, rfl⟩⟩, by rw [List.length_singleton]; omega⟩
   rw [if_neg h0] at h
   have hn := qh8 (qt l)
   by_cases h2 : (j6 (qt l)).2 = 0
   ·rw [if_pos h2] at h; cases h
   rw [if_neg h2] at h
   have hpos := qi7 (qt l) h2
   cases h3 : Ju S f ((qt l).drop (j6 (qt l)).1) with
   | error e => rw [h3] at h; cases h
   | ok m' =>
     rw [h3] at h
     cases h
     have hd : ((qt l).drop (j6 (qt l)).1).length = (qt l).length - (j6 (qt l)).1 := List.length_drop
     obtain ⟨g1, g2⟩ := qdx S f _ m' h3 (by omega) (by omega)
     refine ⟨⟨⟨?_, ?_, hv⟩, .inr ⟨?_, h2, ?_, ?_, g1⟩⟩, by rw [List.length_cons]; omega⟩
     ·rw [qcc, List.length_take]; omega
     ·rw [qcc, List.length_take]; omega
     ·show (j6 (qt l)).2 ≠ 4
      rcases qy4 (qt l) with e | e | e | e <;> rw [e] <;> decide
     ·show (j6 (qt l)).2 = Qs (L (ofB ((qt l).take (j6 (qt l)).1)))
      rw [qcx]
      exact (quw (qt l) h2).symm
     intro e
     have e := congrArg ByteArray.size e
     rw [qcc, List.length_take] at e
     have : (⟨#[]⟩ : BA).size = 0 := rfl
     omega
theorem qa8 (s : BA) : (∃ m, Tk.resT s = (m, 0, 0) ∧ Good m ∧ m.length ≤ 65537 ∧ Ju s.size (s.size + 1) (L s) = .ok m ∧ s.size ≤ 65536) ∨ ((Tk.resT s).2.1 ≠ 0 ∧ (Tk.resT s).1 = []) := by
 unfold Tk.resT
 by_cases h : 65536 < s.size
 ·rw [if_pos h]; exact .inr ⟨by simp, rfl⟩
 rw [if_neg h]
 cases e : Ju s.size (s.size + 1) (L s) with
 | error e => exact .inr ⟨by simp [endT], rfl⟩
 | ok m =>
   have hl := Jv s
   obtain ⟨h1, h2⟩ := qdx _ _ _ _ e (by omega) (by omega)
   exact .inl ⟨m, by simp [endT], h1, by omega, rfl, by omega⟩
def W0 (B : List Token → Rs Node) (t : List Token) : Rs Node :=
 bR (B t) fun n t => match t with
  | [] => .error []
  | x :: r => if decide (x.Kind = 4) = true then (if decide (x.Lead = ⟨#[]⟩) = true then .ok (n, x :: r) else .error (x :: r)) else .error (x :: r)
def qln (c : Cat) (m : List Token) : Rs Node := S (mu c m.length) c m
def q16 (m : List Token) : Rs Node := qln (.file []) m
def qjx (m : List Token) : Rs Node := W0 (qln (.bin 1)) m
def qoe (m : List Token) : Rs Node := W0 (qln .stmt) m
def Wq (c : List Token → Rs Node) (s : BA) : Node × Int × Int := if (Tk.resT s).2.1 = 0 then finV (c (Tk.resT s).1) else (zN, (Tk.resT s).2.1, (Tk.resT s).2.2)
theorem qnr {B : List Token → Rs Node} {m : List Token} (h : Q m (fun n r => wfB n = true) (B m)) : Q m (fun n r => wfB n = true) (W0 B m) := by
 unfold W0
 refine h.bind fun n r s o p => ?_
 cases r with
 | nil => exact o.elim
 | cons x r =>
   dsimp only
   split
   ·split
    ·exact Q.ok o p
    exact ⟨List.suffix_refl _, o⟩
   exact ⟨List.suffix_refl _, o⟩
theorem qgm {c : Cat} {m : List Token} (hg : Good m) (hp : pre c m.length) : Q m (fun n r => wfB n = true) (qln c m) := (S_ok _ c m hg hp).mono fun _ _ _ p => p.1
theorem qwc {m : List Token} (h : m.length ≤ 65537) : pre (.file []) m.length := ⟨by omega, by simp only [List.length_nil]; omega, by simp only [List.length_nil]; omega, y5, km⟩
theorem qms (m : List Token) : (⟨m, 0⟩ : Reader) = rd m m := by unfold rd; rw [Nat.sub_self]; rfl
theorem qi0 {m : List Token} {y : Rs Node} (h : Q m (fun n r => wfB n = true) y) {x : Option (Except Int (Node × Reader))} (hx : x = some (cvN m y)) {c : Except Int (Node × Reader) → Option (Node × Int × Int)} (hc : ∀ e, c (.error e) = some (zN, 1, e))
 (hk : ∀ v, c (.ok v) = kt v.1 >>= fun c => if (decide (c = (3 : Int))) = true then some (Node.mk 0 ⟨#[]⟩ [] [], 3, 0) else some (v.1, 0, 0)) : (x >>= c) = some (finV y) := by
 subst hx
 cases y with
 | error u => exact hc _
 | ok y =>
   show c (.ok (y.1, rd m y.2)) = some (limV y.1)
   rw [hk]
   unfold kt limV
   rw [if_pos h.2.2, bs]
   by_cases e : checkErr y.1 = 3
   ·rw [if_pos (decide_eq_true e), if_pos e]
   rw [if_neg (by rw [decide_eq_true_eq]; exact e), if_neg e]
theorem not0 {a : Int} (h : a ≠ 0) : (!decide (a = 0)) = true := by rw [decide_eq_false h]; rfl
theorem q1l (s : BA) : Z4 s = some (Wq q16 s) := by
 unfold Z4 Yq Wq
 rw [b3, qkc, bs]
 rcases qa8 s with ⟨m, h, hg, hl, _⟩ | ⟨h, _⟩
 ·rw [h]
  rw [if_neg (by simp), if_pos rfl]
  have hp := qwc hl
  refine qi0 (m := m) (qgm hg hp) ?_ (fun _ => rfl) (fun _ => rfl)
  show Wg ⟨m, 0⟩ = _
  rw [qms]
  unfold Wg Qa
  exact qtr (qtt (by omega) _ (.file []) m (Nat.le_refl _) (List.suffix_refl _) hg hp)
 rw [if_pos (not0 h), if_neg h]
theorem qp5 {m : List Token} {B : List Token → Rs Node} (h : Q m (fun n r => wfB n = true) (B m)) {x : Option (Except Int (Node × Reader))} (hx : x = some (cvN m (B m))) {c : Except Int (Node × Reader) → Option (Except Int (Node × Reader))} (hc : ∀ e, c (.error e) = some (.error e))
 (hk : ∀ v, c (.ok v) = zd v.2 >>= fun x2 => if (!decide (x2.Kind = (4 : Int))) = true then zw v.2 >>= fun x5 => (match x5 with | .error ee => some (.error ee) | .ok x5 => some (.ok (v.1, v.2))) else
     zd v.2 >>= fun x3 => if (!decide (x3.Lead = (⟨#[]⟩ : BA))) = true then zw v.2 >>= fun x4 => (match x4 with | .error ee => some (.error ee) | .ok x4 => some (.ok (v.1, v.2))) else some (.ok (v.1, v.2))) :
 (x >>= c) = some (cvN m (W0 B m)) := by
 subst hx
 unfold W0
 cases e : B m with
 | error u => exact hc _
 | ok y =>
   rw [e] at h
   obtain ⟨s, o, p⟩ := h
   show c (.ok (y.1, rd m y.2)) = _
   rw [hk, bR_k]
   obtain ⟨n, r⟩ := y
   cases r with
   | nil => exact o.elim
   | cons x r =>
     simp only at s o p ⊢
     rw [W4 s, bs, bs, qks s]
     by_cases h4 : x.Kind = 4
     ·rw [decide_eq_true h4, if_neg (by decide), if_pos rfl]
      by_cases h5 : x.Lead = ⟨#[]⟩
      ·rw [decide_eq_true h5, if_neg (by decide), if_pos rfl]
      rw [decide_eq_false h5, if_pos (by decide), if_neg (by decide)]; rfl
     rw [decide_eq_false h4, if_pos (by decide), if_neg (by decide)]; rfl
theorem qro (s : BA) : Qn s = some (Wq qjx s) := by
 unfold Qn ub Yr Wq
 rw [b3, b3, qkc, bs]
 rcases qa8 s with ⟨m, h, hg, hl, _⟩ | ⟨h, _⟩
 ·rw [h]
  rw [if_neg (by simp), if_pos rfl]
  have hp : pre (.bin 1) m.length := ⟨by omega, by decide, by decide⟩
  refine qi0 (m := m) (qnr (qgm hg hp)) ?_ (fun _ => rfl) (fun _ => rfl)
  show Wh ⟨m, 0⟩ = _
  rw [qms]
  unfold Wh Z5
  refine qp5 (qgm hg hp) (qtr (qtt (by omega) _ (.bin 1) m (Nat.le_refl _) (List.suffix_refl _) hg hp)) (fun _ => rfl) (fun _ => rfl)
 rw [if_pos (not0 h), if_neg h]
theorem qx1 (s : BA) : Zb s = some (Wq qoe s) := by
 unfold Zb ua Yp Wq
 rw [b3, b3, qkc, bs]
 rcases qa8 s with ⟨m, h, hg, hl, _⟩ | ⟨h, _⟩
 ·rw [h]
  rw [if_neg (by simp), if_pos rfl]
  have hp : pre .stmt m.length := by show m.length ≤ 70000; omega
  refine qi0 (m := m) (qnr (qgm hg hp)) ?_ (fun _ => rfl) (fun _ => rfl)
  show We ⟨m, 0⟩ = _
  rw [qms]
  unfold We Z3
  refine qp5 (qgm hg hp) (qtr (qtt (by omega) _ .stmt m (Nat.le_refl _) (List.suffix_refl _) hg hp)) (fun _ => rfl) (fun _ => rfl)
 rw [if_pos (not0 h), if_neg h]
mutual
theorem qjz : ∀ n : Node, wfB n = true → wh n n = some true
 | .mk k t g l, h => by
   rw [wfB] at h
   simp only [Bool.and_eq_true, decide_eq_true_eq] at h
   exact qrd h.1.1.1.2 h.1.1.1.1 (ql2 l h.2)
theorem ql2 : ∀ l : List Node, wfBL l = true → ∀ m ∈ l, wh m m = some true
 | [], _, m, hm => by cases hm
 | n :: l, h, m, hm => by
   rw [wfBL, Bool.and_eq_true] at h
   rcases List.mem_cons.1 hm with e | hm
   ·rw [e]; exact qjz n h.1
   exact ql2 l h.2 m hm
end
theorem qzt (m : List Token) (hg : Good m) (hl : m.length ≤ 65537) : Q m (fun n r => wfB n = true) (qjx m) := qnr (qgm hg ⟨by omega, by decide, by decide⟩)
theorem qns : Js = some true := by
 unfold Js
 simp only [qro, qx1, q1l]
 kernel_rfl
end Ps
end Go.Proofs.YtigmilhpeodhbaaDoorW.Ex.Gr
