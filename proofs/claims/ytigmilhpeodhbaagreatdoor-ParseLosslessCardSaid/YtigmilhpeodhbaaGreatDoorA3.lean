/- What File, Expr and Stmt return, of the program and of the reference. Conditions: those in each theorem. -/
import Derived.Test.YtigmilhpeodhbaaGreatDoorA2
import Derived.Test.YtigmilhpeodhbaaGreatDoorKq
import Derived.KernelRfl
namespace Go.Proofs.YtigmilhpeodhbaaGreatDoorW.Ex.Gr
open Go Go.Proofs.YtigmilhpeodhbaaGreatDoorW.Ex Go.Proofs.YtigmilhpeodhbaaGreatDoorW.Plain
set_option linter.all false
set_option maxRecDepth 100000
namespace Ps
open Tk
theorem qzk (s : BA) (h : zk (L s) = []) : trivValid s = true := by
 unfold trivValid
 rw [show (0 : Int) = ((0 : Nat) : Int) from rfl, qm4 (Nat.zero_le _)]
 refine decide_eq_true ?_
 unfold ws
 rw [List.drop_zero, show s.data.toList = L s from rfl, h]; rfl
theorem q2n (l : List UInt8) : (yy l).2 = 0 ∨ (yy l).2 = 1 ∨ (yy l).2 = 2 ∨ (yy l).2 = 3 := by
 cases l with
 | nil => exact .inl rfl
 | cons c l =>
   unfold yy
   repeat' split
   all_goals simp
theorem qf8 (S : Nat) : ∀ (f : Nat) (l : List UInt8) (m : List Token), W3 S f l = .ok m → l.length < f → l.length ≤ 65536 → Good m ∧ m.length ≤ l.length + 1
 | 0, l, m, _, h, _ => absurd h (Nat.not_lt_zero _)
 | f + 1, l, m, h, hf, hl => by
   have hr := qeh l
   obtain ⟨p, hp⟩ := qha l
   have hpl : p = l.take (l.length - (zk l).length) := by
    have hlen := congrArg List.length hp
    rw [List.length_append] at hlen
    have : l.length - (zk l).length = p.length := by omega
    rw [this]
    conv => rhs; rw [hp]
    rw [List.take_left']; rfl
   have hv : trivValid (ofB (l.take (l.length - (zk l).length))) = true := by
    refine qzk _ ?_
    rw [qcx, ← hpl]
    exact qzw p (zk l) (by rw [← hp])
   rw [W3] at h
   by_cases h0 : zk l = []
   ·rw [if_pos h0] at h
    cases h
    rw [h0, List.length_nil, Nat.sub_zero, List.take_length] at hv
    exact ⟨⟨⟨by show l.length ≤ 65536; exact hl, by show 0 ≤ 65536; omega, hv⟩, .inl ⟨rfl, rfl, rfl⟩⟩, by rw [List.length_singleton]; omega⟩
   ·rw [if_neg h0] at h
    have hn := qkq (zk l)
    by_cases h2 : (yy (zk l)).2 = 0
    ·rw [if_pos h2] at h; cases h
    ·rw [if_neg h2] at h
     have hpos := ql7 (zk l) h2
     cases h3 : W3 S f ((zk l).drop (yy (zk l)).1) with
     | error e => rw [h3] at h; cases h
     | ok m' =>
       rw [h3] at h
       cases h
       have hd : ((zk l).drop (yy (zk l)).1).length = (zk l).length - (yy (zk l)).1 := List.length_drop
       obtain ⟨g1, g2⟩ := qf8 S f _ m' h3 (by omega) (by omega)
       refine ⟨⟨⟨?_, ?_, hv⟩, .inr ⟨?_, h2, ?_, ?_, g1⟩⟩, by rw [List.length_cons]; omega⟩
       ·rw [qel, List.length_take]; omega
       ·rw [qel, List.length_take]; omega
       ·show (yy (zk l)).2 ≠ 4
        rcases q2n (zk l) with e | e | e | e <;> rw [e] <;> decide
       ·show (yy (zk l)).2 = qml (L (ofB ((zk l).take (yy (zk l)).1)))
        rw [qcx]
        exact (qyo (zk l) h2).symm
       ·intro e
        have e := congrArg ByteArray.size e
        rw [qel, List.length_take] at e
        have : (⟨#[]⟩ : BA).size = 0 := rfl
        omega
/-- Tokens, or an error. -/
theorem qdb (s : BA) : (∃ m, Tk.resT s = (m, 0, 0) ∧ Good m ∧ m.length ≤ 65537 ∧ W3 s.size (s.size + 1) (L s) = .ok m ∧ s.size ≤ 65536) ∨ ((Tk.resT s).2.1 ≠ 0 ∧ (Tk.resT s).1 = []) := by
 unfold Tk.resT
 by_cases h : 65536 < s.size
 ·rw [if_pos h]; exact .inr ⟨by simp, rfl⟩
 ·rw [if_neg h]
  cases e : W3 s.size (s.size + 1) (L s) with
  | error e => exact .inr ⟨by simp [endT], rfl⟩
  | ok m =>
    have hl := J4 s
    obtain ⟨h1, h2⟩ := qf8 _ _ _ _ e (by omega) (by omega)
    exact .inl ⟨m, by simp [endT], h1, by omega, rfl, by omega⟩
/-- A part alone, without trivia behind it. -/
def qe1 (B : List Token → Rs Node) (t : List Token) : Rs Node :=
 bR (B t) fun n t => match t with
  | [] => .error []
  | x :: r => if decide (x.Kind = 4) = true then (if decide (x.Lead = ⟨#[]⟩) = true then .ok (n, x :: r) else .error (x :: r)) else .error (x :: r)
def qly (c : Cat) (m : List Token) : Rs Node := S (mu c m.length) c m
def qm0 (m : List Token) : Rs Node := qly (.file []) m
def qpt (m : List Token) : Rs Node := qe1 (qly (.bin 1)) m
def qoy (m : List Token) : Rs Node := qe1 (qly .stmt) m
def Ku (c : List Token → Rs Node) (s : BA) : Node × Int × Int := if (Tk.resT s).2.1 = 0 then finV (c (Tk.resT s).1) else (zN, (Tk.resT s).2.1, (Tk.resT s).2.2)
theorem qkw {B : List Token → Rs Node} {m : List Token} (h : Q m (fun n r => wfB n = true) (B m)) : Q m (fun n r => wfB n = true) (qe1 B m) := by
 unfold qe1
 refine h.bind fun n r s o p => ?_
 cases r with
 | nil => exact o.elim
 | cons x r =>
   dsimp only
   split
   ·split
    ·exact Q.ok o p
    ·exact ⟨List.suffix_refl _, o⟩
   ·exact ⟨List.suffix_refl _, o⟩
theorem qe3 {c : Cat} {m : List Token} (hg : Good m) (hp : pre c m.length) : Q m (fun n r => wfB n = true) (qly c m) := (S_ok _ c m hg hp).mono fun _ _ _ p => p.1
theorem qsq {m : List Token} (h : m.length ≤ 65537) : pre (.file []) m.length := ⟨by omega, by simp only [List.length_nil]; omega, by simp only [List.length_nil]; omega, ky, wc⟩
theorem qqk (m : List Token) : (⟨m, 0⟩ : Reader) = rd m m := by unfold rd; rw [Nat.sub_self]; rfl
/-- What read returns of a reader's result. -/
theorem qlt {m : List Token} {y : Rs Node} (h : Q m (fun n r => wfB n = true) y) {x : Option (Except Int (Node × Reader))} (hx : x = some (cvN m y)) {c : Except Int (Node × Reader) → Option (Node × Int × Int)} (hc : ∀ e, c (.error e) = some (zN, 1, e))
 (hk : ∀ v, c (.ok v) = yp v.1 >>= fun c => if (decide (c = (3 : Int))) = true then some (Node.mk 0 ⟨#[]⟩ [] [], 3, 0) else some (v.1, 0, 0)) : (x >>= c) = some (finV y) := by
 subst hx
 cases y with
 | error u => exact hc _
 | ok y =>
   show c (.ok (y.1, rd m y.2)) = some (limV y.1)
   rw [hk]
   unfold yp limV
   rw [if_pos h.2.2, bs]
   by_cases e : checkErr y.1 = 3
   ·rw [if_pos (decide_eq_true e), if_pos e]
   ·rw [if_neg (by rw [decide_eq_true_eq]; exact e), if_neg e]
theorem not0 {a : Int} (h : a ≠ 0) : (!decide (a = 0)) = true := by rw [decide_eq_false h]; rfl
theorem q1q (s : BA) : Zy s = some (Ku qm0 s) := by
 unfold Zy Ko Ku
 rw [b3, qnj, bs]
 rcases qdb s with ⟨m, h, hg, hl, _⟩ | ⟨h, _⟩
 ·rw [h]
  rw [if_neg (by simp), if_pos rfl]
  have hp := qsq hl
  refine qlt (m := m) (qe3 hg hp) ?_ (fun _ => rfl) (fun _ => rfl)
  show qa9 ⟨m, 0⟩ = _
  rw [qqk]
  unfold qa9 Qr
  exact qxm (qxo (by omega) _ (.file []) m (Nat.le_refl _) (List.suffix_refl _) hg hp)
 ·rw [if_pos (not0 h), if_neg h]
theorem qtu {m : List Token} {B : List Token → Rs Node} (h : Q m (fun n r => wfB n = true) (B m)) {x : Option (Except Int (Node × Reader))} (hx : x = some (cvN m (B m))) {c : Except Int (Node × Reader) → Option (Except Int (Node × Reader))} (hc : ∀ e, c (.error e) = some (.error e))
 (hk : ∀ v, c (.ok v) = zn v.2 >>= fun x2 => if (!decide (x2.Kind = (4 : Int))) = true then ja v.2 >>= fun x5 => (match x5 with | .error ee => some (.error ee) | .ok x5 => some (.ok (v.1, v.2))) else
     zn v.2 >>= fun x3 => if (!decide (x3.Lead = (⟨#[]⟩ : BA))) = true then ja v.2 >>= fun x4 => (match x4 with | .error ee => some (.error ee) | .ok x4 => some (.ok (v.1, v.2))) else some (.ok (v.1, v.2))) :
 (x >>= c) = some (cvN m (qe1 B m)) := by
 subst hx
 unfold qe1
 cases e : B m with
 | error u => exact hc _
 | ok y =>
   rw [e] at h
   obtain ⟨s, o, p⟩ := h
   show c (.ok (y.1, rd m y.2)) = _
   rw [hk, bR_k]
   obtain ⟨n, r⟩ := y
   cases r with
   | nil => exact o.elim
   | cons x r =>
     simp only at s o p ⊢
     rw [qby s, bs, bs, qn6 s]
     by_cases h4 : x.Kind = 4
     ·rw [decide_eq_true h4, if_neg (by decide), if_pos rfl]
      by_cases h5 : x.Lead = ⟨#[]⟩
      ·rw [decide_eq_true h5, if_neg (by decide), if_pos rfl]
      ·rw [decide_eq_false h5, if_pos (by decide), if_neg (by decide)]; rfl
     ·rw [decide_eq_false h4, if_pos (by decide), if_neg (by decide)]; rfl
theorem q1r (s : BA) : Zz s = some (Ku qpt s) := by
 unfold Zz uv Kp Ku
 rw [b3, b3, qnj, bs]
 rcases qdb s with ⟨m, h, hg, hl, _⟩ | ⟨h, _⟩
 ·rw [h]
  rw [if_neg (by simp), if_pos rfl]
  have hp : pre (.bin 1) m.length := ⟨by omega, by decide, by decide⟩
  refine qlt (m := m) (qkw (qe3 hg hp)) ?_ (fun _ => rfl) (fun _ => rfl)
  show qba ⟨m, 0⟩ = _
  rw [qqk]
  unfold qba J2
  refine qtu (qe3 hg hp) (qxm (qxo (by omega) _ (.bin 1) m (Nat.le_refl _) (List.suffix_refl _) hg hp)) (fun _ => rfl) (fun _ => rfl)
 ·rw [if_pos (not0 h), if_neg h]
theorem q1p (s : BA) : Zx s = some (Ku qoy s) := by
 unfold Zx uu Kn Ku
 rw [b3, b3, qnj, bs]
 rcases qdb s with ⟨m, h, hg, hl, _⟩ | ⟨h, _⟩
 ·rw [h]
  rw [if_neg (by simp), if_pos rfl]
  have hp : pre .stmt m.length := by show m.length ≤ 70000; omega
  refine qlt (m := m) (qkw (qe3 hg hp)) ?_ (fun _ => rfl) (fun _ => rfl)
  show qa8 ⟨m, 0⟩ = _
  rw [qqk]
  unfold qa8 J1
  refine qtu (qe3 hg hp) (qxm (qxo (by omega) _ .stmt m (Nat.le_refl _) (List.suffix_refl _) hg hp)) (fun _ => rfl) (fun _ => rfl)
 ·rw [if_pos (not0 h), if_neg h]
theorem q3e (m : List Token) (hg : Good m) (hl : m.length ≤ 65537) : Q m (fun n r => wfB n = true) (qm0 m) := qe3 hg (qsq hl)
theorem q3f (m : List Token) (hg : Good m) (hl : m.length ≤ 65537) : Q m (fun n r => wfB n = true) (qpt m) := qkw (qe3 hg ⟨by omega, by decide, by decide⟩)
theorem q3d (m : List Token) (hg : Good m) (hl : m.length ≤ 65537) : Q m (fun n r => wfB n = true) (qoy m) := qkw (qe3 hg (by show m.length ≤ 70000; omega))
theorem qxi : K8 = some true := by
 unfold K8
 simp only [q1r, q1p, q1q]
 kernel_rfl
end Ps
end Go.Proofs.YtigmilhpeodhbaaGreatDoorW.Ex.Gr
