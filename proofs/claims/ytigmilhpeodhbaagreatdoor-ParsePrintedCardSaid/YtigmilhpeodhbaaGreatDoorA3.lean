/- What File, Expr and Stmt return, of the program and of the reference. Conditions: those in each theorem. -/
import Derived.Test.YtigmilhpeodhbaaGreatDoorA2
import Derived.Test.YtigmilhpeodhbaaGreatDoorKq
import Derived.KernelRfl
namespace Go.Proofs.YtigmilhpeodhbaaGreatDoorW.Ex.Gr
open Go Go.Proofs.YtigmilhpeodhbaaGreatDoorW.Ex Go.Proofs.YtigmilhpeodhbaaGreatDoorW.Plain
set_option linter.all false
set_option maxRecDepth 100000
namespace Ps
open Tk
theorem q11 (s : BA) (h : q9 (L s) = []) : trivValid s = true := by
 unfold trivValid
 rw [show (0 : Int) = ((0 : Nat) : Int) from rfl, qf6 (Nat.zero_le _)]
 refine decide_eq_true ?_
 unfold wu
 rw [List.drop_zero, show s.data.toList = L s from rfl, h]; rfl
theorem q5r (l : List UInt8) : (kw l).2 = 0 ∨ (kw l).2 = 1 ∨ (kw l).2 = 2 ∨ (kw l).2 = 3 := by
 cases l with
 | nil => exact .inl rfl
 | cons c l =>
   unfold kw
   repeat' split
   all_goals simp
theorem qd7 (S : Nat) : ∀ (f : Nat) (l : List UInt8) (m : List Token), Wu S f l = .ok m → l.length < f → l.length ≤ 65536 → Good m ∧ m.length ≤ l.length + 1
 | 0, l, m, _, h, _ => absurd h (Nat.not_lt_zero _)
 | f + 1, l, m, h, hf, hl => by
   have hr := qfn l
   obtain ⟨p, hp⟩ := qng l
   have hpl : p = l.take (l.length - (q9 l).length) := by
    have hlen := congrArg List.length hp
    rw [List.length_append] at hlen
    have : l.length - (q9 l).length = p.length := by omega
    rw [this]
    conv => rhs; rw [hp]
    rw [List.take_left']; rfl
   have hv : trivValid (ofB (l.take (l.length - (q9 l).length))) = true := by
    refine q11 _ ?_
    rw [qly, ← hpl]
    exact q2h p (q9 l) (by rw [← hp])
   rw [Wu] at h
   by_cases h0 : q9 l = []
   ·rw [if_pos h0] at h
    cases h
    rw [h0, List.length_nil, Nat.sub_zero, List.take_length] at hv
    exact ⟨⟨⟨by show l.length ≤ 65536; exact hl, by show 0 ≤ 65536; omega, hv⟩, .inl ⟨rfl, rfl, rfl⟩⟩, by rw [List.length_singleton]; omega⟩
   rw [if_neg h0] at h
   have hn := qsf (q9 l)
   by_cases h2 : (kw (q9 l)).2 = 0
   ·rw [if_pos h2] at h; cases h
   rw [if_neg h2] at h
   have hpos := quv (q9 l) h2
   cases h3 : Wu S f ((q9 l).drop (kw (q9 l)).1) with
   | error e => rw [h3] at h; cases h
   | ok m' =>
     rw [h3] at h
     cases h
     have hd : ((q9 l).drop (kw (q9 l)).1).length = (q9 l).length - (kw (q9 l)).1 := List.length_drop
     obtain ⟨g1, g2⟩ := qd7 S f _ m' h3 (by omega) (by omega)
     refine ⟨⟨⟨?_, ?_, hv⟩, .inr ⟨?_, h2, ?_, ?_, g1⟩⟩, by rw [List.length_cons]; omega⟩
     ·rw [qc2, List.length_take]; omega
     ·rw [qc2, List.length_take]; omega
     ·show (kw (q9 l)).2 ≠ 4
      rcases q5r (q9 l) with e | e | e | e <;> rw [e] <;> decide
     ·show (kw (q9 l)).2 = Qz (L (ofB ((q9 l).take (kw (q9 l)).1)))
      rw [qly]
      exact (q00 (q9 l) h2).symm
     intro e
     have e := congrArg ByteArray.size e
     rw [qc2, List.length_take] at e
     have : (⟨#[]⟩ : BA).size = 0 := rfl
     omega
theorem qhs (s : BA) : (∃ m, Tk.resT s = (m, 0, 0) ∧ Good m ∧ m.length ≤ 65537 ∧ Wu s.size (s.size + 1) (L s) = .ok m ∧ s.size ≤ 65536) ∨ ((Tk.resT s).2.1 ≠ 0 ∧ (Tk.resT s).1 = []) := by
 unfold Tk.resT
 by_cases h : 65536 < s.size
 ·rw [if_pos h]; exact .inr ⟨by simp, rfl⟩
 rw [if_neg h]
 cases e : Wu s.size (s.size + 1) (L s) with
 | error e => exact .inr ⟨by simp [endT], rfl⟩
 | ok m =>
   have hl := Yh s
   obtain ⟨h1, h2⟩ := qd7 _ _ _ _ e (by omega) (by omega)
   exact .inl ⟨m, by simp [endT], h1, by omega, rfl, by omega⟩
def qcq (B : List Token → Rs Node) (t : List Token) : Rs Node :=
 bR (B t) fun n t => match t with
  | [] => .error []
  | x :: r => if decide (x.Kind = 4) = true then (if decide (x.Lead = ⟨#[]⟩) = true then .ok (n, x :: r) else .error (x :: r)) else .error (x :: r)
def qns (c : Cat) (m : List Token) : Rs Node := S (mu c m.length) c m
def qvn (m : List Token) : Rs Node := qns (.file []) m
def qze (m : List Token) : Rs Node := qcq (qns (.bin 1)) m
def qyd (m : List Token) : Rs Node := qcq (qns .stmt) m
def qfs (c : List Token → Rs Node) (s : BA) : Node × Int × Int := if (Tk.resT s).2.1 = 0 then finV (c (Tk.resT s).1) else (zN, (Tk.resT s).2.1, (Tk.resT s).2.2)
theorem qzt {B : List Token → Rs Node} {m : List Token} (h : Q m (fun n r => wfB n = true) (B m)) : Q m (fun n r => wfB n = true) (qcq B m) := by
 unfold qcq
 refine h.bind fun n r s o p => ?_
 cases r with
 | nil => exact o.elim
 | cons x r =>
   dsimp only
   split
   ·split
    ·exact Q.ok o p
    exact ⟨List.suffix_refl _, o⟩
   exact ⟨List.suffix_refl _, o⟩
theorem qo2 {c : Cat} {m : List Token} (hg : Good m) (hp : pre c m.length) : Q m (fun n r => wfB n = true) (qns c m) := (S_ok _ c m hg hp).mono fun _ _ _ p => p.1
theorem q2q {m : List Token} (h : m.length ≤ 65537) : pre (.file []) m.length := ⟨by omega, by simp only [List.length_nil]; omega, by simp only [List.length_nil]; omega, wj, wt⟩
theorem qr4 (m : List Token) : (⟨m, 0⟩ : Reader) = rd m m := by unfold rd; rw [Nat.sub_self]; rfl
theorem qnm {m : List Token} {y : Rs Node} (h : Q m (fun n r => wfB n = true) y) {x : Option (Except Int (Node × Reader))} (hx : x = some (cvN m y)) {c : Except Int (Node × Reader) → Option (Node × Int × Int)} (hc : ∀ e, c (.error e) = some (zN, 1, e))
 (hk : ∀ v, c (.ok v) = yw v.1 >>= fun c => if (decide (c = (3 : Int))) = true then some (Node.mk 0 ⟨#[]⟩ [] [], 3, 0) else some (v.1, 0, 0)) : (x >>= c) = some (finV y) := by
 subst hx
 cases y with
 | error u => exact hc _
 | ok y =>
   show c (.ok (y.1, rd m y.2)) = some (limV y.1)
   rw [hk]
   unfold yw limV
   rw [if_pos h.2.2, bs]
   by_cases e : checkErr y.1 = 3
   ·rw [if_pos (decide_eq_true e), if_pos e]
   rw [if_neg (by rw [decide_eq_true_eq]; exact e), if_neg e]
theorem not0 {a : Int} (h : a ≠ 0) : (!decide (a = 0)) = true := by rw [decide_eq_false h]; rfl
theorem q4h (s : BA) : Jr s = some (qfs qvn s) := by
 unfold Jr Wo qfs
 rw [b3, qo4, bs]
 rcases qhs s with ⟨m, h, hg, hl, _⟩ | ⟨h, _⟩
 ·rw [h]
  rw [if_neg (by simp), if_pos rfl]
  have hp := q2q hl
  refine qnm (m := m) (qo2 hg hp) ?_ (fun _ => rfl) (fun _ => rfl)
  show qb8 ⟨m, 0⟩ = _
  rw [qr4]
  unfold qb8 Zg
  exact qzz (qz1 (by omega) _ (.file []) m (Nat.le_refl _) (List.suffix_refl _) hg hp)
 rw [if_pos (not0 h), if_neg h]
theorem qv4 {m : List Token} {B : List Token → Rs Node} (h : Q m (fun n r => wfB n = true) (B m)) {x : Option (Except Int (Node × Reader))} (hx : x = some (cvN m (B m))) {c : Except Int (Node × Reader) → Option (Except Int (Node × Reader))} (hc : ∀ e, c (.error e) = some (.error e))
 (hk : ∀ v, c (.ok v) = zn v.2 >>= fun x2 => if (!decide (x2.Kind = (4 : Int))) = true then jc v.2 >>= fun x5 => (match x5 with | .error ee => some (.error ee) | .ok x5 => some (.ok (v.1, v.2))) else
     zn v.2 >>= fun x3 => if (!decide (x3.Lead = (⟨#[]⟩ : BA))) = true then jc v.2 >>= fun x4 => (match x4 with | .error ee => some (.error ee) | .ok x4 => some (.ok (v.1, v.2))) else some (.ok (v.1, v.2))) :
 (x >>= c) = some (cvN m (qcq B m)) := by
 subst hx
 unfold qcq
 cases e : B m with
 | error u => exact hc _
 | ok y =>
   rw [e] at h
   obtain ⟨s, o, p⟩ := h
   show c (.ok (y.1, rd m y.2)) = _
   rw [hk, bR_k]
   obtain ⟨n, r⟩ := y
   cases r with
   | nil => exact o.elim
   | cons x r =>
     simp only at s o p ⊢
     rw [qcw s, bs, bs, qpr s]
     by_cases h4 : x.Kind = 4
     ·rw [decide_eq_true h4, if_neg (by decide), if_pos rfl]
      by_cases h5 : x.Lead = ⟨#[]⟩
      ·rw [decide_eq_true h5, if_neg (by decide), if_pos rfl]
      rw [decide_eq_false h5, if_pos (by decide), if_neg (by decide)]; rfl
     rw [decide_eq_false h4, if_pos (by decide), if_neg (by decide)]; rfl
theorem q4i (s : BA) : Js s = some (qfs qze s) := by
 unfold Js vo Wp qfs
 rw [b3, b3, qo4, bs]
 rcases qhs s with ⟨m, h, hg, hl, _⟩ | ⟨h, _⟩
 ·rw [h]
  rw [if_neg (by simp), if_pos rfl]
  have hp : pre (.bin 1) m.length := ⟨by omega, by decide, by decide⟩
  refine qnm (m := m) (qzt (qo2 hg hp)) ?_ (fun _ => rfl) (fun _ => rfl)
  show qb9 ⟨m, 0⟩ = _
  rw [qr4]
  unfold qb9 Yt
  refine qv4 (qo2 hg hp) (qzz (qz1 (by omega) _ (.bin 1) m (Nat.le_refl _) (List.suffix_refl _) hg hp)) (fun _ => rfl) (fun _ => rfl)
 rw [if_pos (not0 h), if_neg h]
theorem q4f (s : BA) : Jq s = some (qfs qyd s) := by
 unfold Jq vn Wn qfs
 rw [b3, b3, qo4, bs]
 rcases qhs s with ⟨m, h, hg, hl, _⟩ | ⟨h, _⟩
 ·rw [h]
  rw [if_neg (by simp), if_pos rfl]
  have hp : pre .stmt m.length := by show m.length ≤ 70000; omega
  refine qnm (m := m) (qzt (qo2 hg hp)) ?_ (fun _ => rfl) (fun _ => rfl)
  show qb7 ⟨m, 0⟩ = _
  rw [qr4]
  unfold qb7 Ys
  refine qv4 (qo2 hg hp) (qzz (qz1 (by omega) _ .stmt m (Nat.le_refl _) (List.suffix_refl _) hg hp)) (fun _ => rfl) (fun _ => rfl)
 rw [if_pos (not0 h), if_neg h]
theorem qjn : Jv = some true := by
 unfold Jv
 simp only [q4i, q4f, q4h]
 kernel_rfl
end Ps
end Go.Proofs.YtigmilhpeodhbaaGreatDoorW.Ex.Gr
