/- What File, Expr and Stmt return, of the program and of the reference. Conditions: those in each theorem. -/
import Derived.Test.YtigmilhpeodhbaaGreatDoorA2
import Derived.Test.YtigmilhpeodhbaaGreatDoorKq
import Derived.KernelRfl
namespace Go.Proofs.YtigmilhpeodhbaaGreatDoorW.Ex.Gr
open Go Go.Proofs.YtigmilhpeodhbaaGreatDoorW.Ex Go.Proofs.YtigmilhpeodhbaaGreatDoorW.Plain
set_option linter.all false
set_option maxRecDepth 100000
namespace Ps
open Tk
theorem qz8 (s : BA) (h : jc (L s) = []) : Zd s = true := by
 unfold Zd
 rw [show (0 : Int) = ((0 : Nat) : Int) from rfl, qjt (Nat.zero_le _)]
 refine decide_eq_true ?_
 unfold y6
 rw [List.drop_zero, show s.data.toList = L s from rfl, h]; rfl
theorem q27 (l : List UInt8) : (kh l).2 = 0 ∨ (kh l).2 = 1 ∨ (kh l).2 = 2 ∨ (kh l).2 = 3 := by
 cases l with
 | nil => exact .inl rfl
 | cons c l =>
   unfold kh
   repeat' split
   all_goals simp
theorem qm5 (S : Nat) : ∀ (f : Nat) (l : List UInt8) (m : List Token), qf7 S f l = .ok m → l.length < f → l.length ≤ 65536 → Good m ∧ m.length ≤ l.length + 1
 | 0, l, m, _, h, _ => absurd h (Nat.not_lt_zero _)
 | f + 1, l, m, h, hf, hl => by
   have hr := qlg l
   obtain ⟨p, hp⟩ := qng l
   have hpl : p = l.take (l.length - (jc l).length) := by
    have hlen := congrArg List.length hp
    rw [List.length_append] at hlen
    have : l.length - (jc l).length = p.length := by omega
    rw [this]
    conv => rhs; rw [hp]
    rw [List.take_left']; rfl
   have hv : Zd (ofB (l.take (l.length - (jc l).length))) = true := by
    refine qz8 _ ?_
    rw [qu1, ← hpl]
    exact q0n p (jc l) (by rw [← hp])
   rw [qf7] at h
   by_cases h0 : jc l = []
   ·rw [if_pos h0] at h
    cases h
    rw [h0, List.length_nil, Nat.sub_zero, List.take_length] at hv
    exact ⟨⟨⟨by show l.length ≤ 65536; exact hl, by show 0 ≤ 65536; omega, hv⟩, .inl ⟨rfl, rfl, rfl⟩⟩, by rw [List.length_singleton]; omega⟩
   ·rw [if_neg h0] at h
    have hn := qmj (jc l)
    by_cases h2 : (kh (jc l)).2 = 0
    ·rw [if_pos h2] at h; cases h
    ·rw [if_neg h2] at h
     have hpos := qnu (jc l) h2
     cases h3 : qf7 S f ((jc l).drop (kh (jc l)).1) with
     | error e => rw [h3] at h; cases h
     | ok m' =>
       rw [h3] at h
       cases h
       have hd : ((jc l).drop (kh (jc l)).1).length = (jc l).length - (kh (jc l)).1 := List.length_drop
       obtain ⟨g1, g2⟩ := qm5 S f _ m' h3 (by omega) (by omega)
       refine ⟨⟨⟨?_, ?_, hv⟩, .inr ⟨?_, h2, ?_, ?_, g1⟩⟩, by rw [List.length_cons]; omega⟩
       ·rw [qdy, List.length_take]; omega
       ·rw [qdy, List.length_take]; omega
       ·show (kh (jc l)).2 ≠ 4
        rcases q27 (jc l) with e | e | e | e <;> rw [e] <;> decide
       ·show (kh (jc l)).2 = qgh (L (ofB ((jc l).take (kh (jc l)).1)))
        rw [qu1]
        exact (qze (jc l) h2).symm
       ·intro e
        have e := congrArg ByteArray.size e
        rw [qdy, List.length_take] at e
        have : (⟨#[]⟩ : BA).size = 0 := rfl
        omega
/-- Tokens, or an error. -/
theorem K4 (s : BA) : (∃ m, Tk.resT s = (m, 0, 0) ∧ Good m ∧ m.length ≤ 65537 ∧ qf7 s.size (s.size + 1) (L s) = .ok m ∧ s.size ≤ 65536) ∨ ((Tk.resT s).2.1 ≠ 0 ∧ (Tk.resT s).1 = []) := by
 unfold Tk.resT
 by_cases h : 65536 < s.size
 ·rw [if_pos h]; exact .inr ⟨by simp, rfl⟩
 ·rw [if_neg h]
  cases e : qf7 s.size (s.size + 1) (L s) with
  | error e => exact .inr ⟨by simp [endT], rfl⟩
  | ok m =>
    have hl := qgf s
    obtain ⟨h1, h2⟩ := qm5 _ _ _ _ e (by omega) (by omega)
    exact .inl ⟨m, by simp [endT], h1, by omega, rfl, by omega⟩
/-- A part alone, without trivia behind it. -/
def qgs (B : List Token → Rs Node) (t : List Token) : Rs Node :=
 bR (B t) fun n t => match t with
  | [] => .error []
  | x :: r => if decide (x.Kind = 4) = true then (if decide (x.Lead = ⟨#[]⟩) = true then .ok (n, x :: r) else .error (x :: r)) else .error (x :: r)
def qlh (c : Cat) (m : List Token) : Rs Node := S (mu c m.length) c m
def q1t (m : List Token) : Rs Node := qlh (.file []) m
def q1u (m : List Token) : Rs Node := qgs (qlh (.bin 1)) m
def q0c (m : List Token) : Rs Node := qgs (qlh .stmt) m
def qc7 (c : List Token → Rs Node) (s : BA) : Node × Int × Int := if (Tk.resT s).2.1 = 0 then finV (c (Tk.resT s).1) else (zN, (Tk.resT s).2.1, (Tk.resT s).2.2)
theorem qmp {B : List Token → Rs Node} {m : List Token} (h : Q m (fun n r => wfB n = true) (B m)) : Q m (fun n r => wfB n = true) (qgs B m) := by
 unfold qgs
 refine h.bind fun n r s o p => ?_
 cases r with
 | nil => exact o.elim
 | cons x r =>
   dsimp only
   split
   ·split
    ·exact Q.ok o p
    ·exact ⟨List.suffix_refl _, o⟩
   ·exact ⟨List.suffix_refl _, o⟩
theorem qdm {c : Cat} {m : List Token} (hg : Good m) (hp : pre c m.length) : Q m (fun n r => wfB n = true) (qlh c m) := (S_ok _ c m hg hp).mono fun _ _ _ p => p.1
theorem qno {m : List Token} (h : m.length ≤ 65537) : pre (.file []) m.length := ⟨by omega, by simp only [List.length_nil]; omega, by simp only [List.length_nil]; omega, ym, y4⟩
theorem qri (m : List Token) : (⟨m, 0⟩ : Reader) = rd m m := by unfold rd; rw [Nat.sub_self]; rfl
/-- What read returns of a reader's result. -/
theorem qnk {m : List Token} {y : Rs Node} (h : Q m (fun n r => wfB n = true) y) {x : Option (Except Int (Node × Reader))} (hx : x = some (cvN m y)) {c : Except Int (Node × Reader) → Option (Node × Int × Int)} (hc : ∀ e, c (.error e) = some (zN, 1, e))
 (hk : ∀ v, c (.ok v) = w8 v.1 >>= fun c => if (decide (c = (3 : Int))) = true then some (Node.mk 0 ⟨#[]⟩ [] [], 3, 0) else some (v.1, 0, 0)) : (x >>= c) = some (finV y) := by
 subst hx
 cases y with
 | error u => exact hc _
 | ok y =>
   show c (.ok (y.1, rd m y.2)) = some (limV y.1)
   rw [hk]
   unfold w8 limV
   rw [if_pos h.2.2, bs]
   by_cases e : Zg y.1 = 3
   ·rw [if_pos (decide_eq_true e), if_pos e]
   ·rw [if_neg (by rw [decide_eq_true_eq]; exact e), if_neg e]
theorem not0 {a : Int} (h : a ≠ 0) : (!decide (a = 0)) = true := by rw [decide_eq_false h]; rfl
theorem q2g (s : BA) : J8 s = some (qc7 q1t s) := by
 unfold J8 qaa qc7
 rw [b3, qot, bs]
 rcases K4 s with ⟨m, h, hg, hl, _⟩ | ⟨h, _⟩
 ·rw [h]
  rw [if_neg (by simp), if_pos rfl]
  have hp := qno hl
  refine qnk (m := m) (qdm hg hp) ?_ (fun _ => rfl) (fun _ => rfl)
  show qcx ⟨m, 0⟩ = _
  rw [qri]
  unfold qcx Zs
  exact qyc (qye (by omega) _ (.file []) m (Nat.le_refl _) (List.suffix_refl _) hg hp)
 ·rw [if_pos (not0 h), if_neg h]
theorem quk {m : List Token} {B : List Token → Rs Node} (h : Q m (fun n r => wfB n = true) (B m)) {x : Option (Except Int (Node × Reader))} (hx : x = some (cvN m (B m))) {c : Except Int (Node × Reader) → Option (Except Int (Node × Reader))} (hc : ∀ e, c (.error e) = some (.error e))
 (hk : ∀ v, c (.ok v) = zy v.2 >>= fun x2 => if (!decide (x2.Kind = (4 : Int))) = true then jt v.2 >>= fun x5 => (match x5 with | .error ee => some (.error ee) | .ok x5 => some (.ok (v.1, v.2))) else
     zy v.2 >>= fun x3 => if (!decide (x3.Lead = (⟨#[]⟩ : BA))) = true then jt v.2 >>= fun x4 => (match x4 with | .error ee => some (.error ee) | .ok x4 => some (.ok (v.1, v.2))) else some (.ok (v.1, v.2))) :
 (x >>= c) = some (cvN m (qgs B m)) := by
 subst hx
 unfold qgs
 cases e : B m with
 | error u => exact hc _
 | ok y =>
   rw [e] at h
   obtain ⟨s, o, p⟩ := h
   show c (.ok (y.1, rd m y.2)) = _
   rw [hk, bR_k]
   obtain ⟨n, r⟩ := y
   cases r with
   | nil => exact o.elim
   | cons x r =>
     simp only at s o p ⊢
     rw [qdt s, bs, bs, qpd s]
     by_cases h4 : x.Kind = 4
     ·rw [decide_eq_true h4, if_neg (by decide), if_pos rfl]
      by_cases h5 : x.Lead = ⟨#[]⟩
      ·rw [decide_eq_true h5, if_neg (by decide), if_pos rfl]
      ·rw [decide_eq_false h5, if_pos (by decide), if_neg (by decide)]; rfl
     ·rw [decide_eq_false h4, if_pos (by decide), if_neg (by decide)]; rfl
theorem q2h (s : BA) : J9 s = some (qc7 q1u s) := by
 unfold J9 vf qab qc7
 rw [b3, b3, qot, bs]
 rcases K4 s with ⟨m, h, hg, hl, _⟩ | ⟨h, _⟩
 ·rw [h]
  rw [if_neg (by simp), if_pos rfl]
  have hp : pre (.bin 1) m.length := ⟨by omega, by decide, by decide⟩
  refine qnk (m := m) (qmp (qdm hg hp)) ?_ (fun _ => rfl) (fun _ => rfl)
  show qcy ⟨m, 0⟩ = _
  rw [qri]
  unfold qcy Kd
  refine quk (qdm hg hp) (qyc (qye (by omega) _ (.bin 1) m (Nat.le_refl _) (List.suffix_refl _) hg hp)) (fun _ => rfl) (fun _ => rfl)
 ·rw [if_pos (not0 h), if_neg h]
theorem q2f (s : BA) : J7 s = some (qc7 q0c s) := by
 unfold J7 ve W9 qc7
 rw [b3, b3, qot, bs]
 rcases K4 s with ⟨m, h, hg, hl, _⟩ | ⟨h, _⟩
 ·rw [h]
  rw [if_neg (by simp), if_pos rfl]
  have hp : pre .stmt m.length := by show m.length ≤ 70000; omega
  refine qnk (m := m) (qmp (qdm hg hp)) ?_ (fun _ => rfl) (fun _ => rfl)
  show qcw ⟨m, 0⟩ = _
  rw [qri]
  unfold qcw Kc
  refine quk (qdm hg hp) (qyc (qye (by omega) _ .stmt m (Nat.le_refl _) (List.suffix_refl _) hg hp)) (fun _ => rfl) (fun _ => rfl)
 ·rw [if_pos (not0 h), if_neg h]
theorem qop (s : BA) : Y1 s = some (Tk.resT s) := by
 unfold Y1
 rw [qup, b3]
 by_cases h : 65536 < s.size
 ·rw [if_pos (decide_eq_true (by omega))]
  unfold Tk.resT
  rw [if_pos h]
 ·rw [if_neg (by rw [decide_eq_true_eq]; omega)]
theorem q40 (s : BA) : qeo s = some (qc7 q1t s) := by
 unfold qeo qc7
 rw [qop, bs]
 rcases K4 s with ⟨m, h, hg, hl, _⟩ | ⟨h, _⟩
 ·rw [h]
  rw [if_neg (by simp), if_pos rfl]
  have := q2a (tk := m) (by omega) _ [] m (Nat.le_refl _) (List.suffix_refl _) hg (qno hl)
  unfold idx at this
  rw [Nat.sub_self] at this
  exact this
 ·rw [if_pos (not0 h), if_neg h]
theorem qx4 {m : List Token} {B : List Token → Rs Node} (h : Q m (fun n r => wfB n = true) (B m)) {x : Option (Node × Int × Bool)} (hx : x = some (cr m (B m))) :
 (x >>= fun x2 => if (!x2.2.2) = true then
   ix m x2.2.1 >>= fun x8 => some ((Node.mk 0 (⟨#[]⟩) ([] : LB) ([] : LN)), (1 : Int), x8.At)
 else
  ix m x2.2.1 >>= fun x3 =>
  if (!decide (x3.Kind = (4 : Int))) = true then
   ix m x2.2.1 >>= fun x7 => some ((Node.mk 0 (⟨#[]⟩) ([] : LB) ([] : LN)), (1 : Int), x7.At)
  else
   ix m x2.2.1 >>= fun x4 =>
   if (!decide (x4.Lead = (⟨#[]⟩ : BA))) = true then
    ix m x2.2.1 >>= fun x5 => some ((Node.mk 0 (⟨#[]⟩) ([] : LB) ([] : LN)), (1 : Int), x5.At)
   else
    Z4 x2.1 >>= fun x6 => some (x6.1, x6.2.1, x6.2.2)) = some (finV (qgs B m)) := by
 subst hx
 unfold qgs
 cases e : B m with
 | error u =>
   rw [e] at h
   exact i_at h.1 h.2
 | ok y =>
   rw [e] at h
   obtain ⟨s, o, p⟩ := h
   obtain ⟨n, r⟩ := y
   cases r with
   | nil => exact o.elim
   | cons x r =>
     simp only at s o p
     rw [bs, bR_k]
     simp only [Bool.not_true, Bool.false_eq_true, if_false]
     rw [i_ix s]
     simp only [bs, b3]
     rw [q39 p]
     by_cases h4 : x.Kind = 4
     ·rw [decide_eq_true h4, if_neg (by decide), if_pos rfl]
      by_cases h5 : x.Lead = ⟨#[]⟩
      ·rw [decide_eq_true h5, if_neg (by decide), if_pos rfl]; rfl
      ·rw [decide_eq_false h5, if_pos (by decide), if_neg (by decide)]; rfl
     ·rw [decide_eq_false h4, if_pos (by decide), if_neg (by decide)]; rfl
theorem idx0 (m : List Token) : (0 : Int) = idx m m := by unfold idx; rw [Nat.sub_self]; rfl
theorem q41 (s : BA) : qep s = some (qc7 q1u s) := by
 unfold qep qc7
 rw [qop, bs]
 rcases K4 s with ⟨m, h, hg, hl, _⟩ | ⟨h, _⟩
 ·rw [h]
  rw [if_neg (by simp), if_pos rfl]
  have hp : pre (.bin 1) m.length := ⟨by omega, by decide, by decide⟩
  have e1 : j5 m (idx m m) 1 = some (cr m (qlh (.bin 1) m)) := qqz (tk := m) (by omega) _ (.bin 1) m (Nat.le_refl _) (List.suffix_refl _) hg hp
  rw [← idx0] at e1
  exact qx4 (B := qlh (.bin 1)) (qdm hg hp) e1
 ·rw [if_pos (not0 h), if_neg h]
theorem q4z (s : BA) : qen s = some (qc7 q0c s) := by
 unfold qen qc7
 rw [qop, bs]
 rcases K4 s with ⟨m, h, hg, hl, _⟩ | ⟨h, _⟩
 ·rw [h]
  rw [if_neg (by simp), if_pos rfl]
  have hp : pre .stmt m.length := by show m.length ≤ 70000; omega
  have e1 : w5 m (idx m m) = some (cr m (qlh .stmt m)) := qqz (tk := m) (by omega) _ .stmt m (Nat.le_refl _) (List.suffix_refl _) hg hp
  rw [← idx0] at e1
  exact qx4 (B := qlh .stmt) (qdm hg hp) e1
 ·rw [if_pos (not0 h), if_neg h]
mutual
theorem qt2 : ∀ n : Node, wfB n = true → uv n n = some true
 | .mk k t g l, h => by
   rw [wfB] at h
   simp only [Bool.and_eq_true, decide_eq_true_eq] at h
   exact qwc h.1.1.1.2 h.1.1.1.1 (qqp l h.2)
theorem qqp : ∀ l : List Node, wfBL l = true → ∀ m ∈ l, uv m m = some true
 | [], _, m, hm => by cases hm
 | n :: l, h, m, hm => by
   rw [wfBL, Bool.and_eq_true] at h
   rcases List.mem_cons.1 hm with e | hm
   ·rw [e]; exact qt2 n h.1
   ·exact qqp l h.2 m hm
end
theorem q4t {m : List Token} {y : Rs Node} (h : Q m (fun n r => wfB n = true) y) : wfB (finV y).1 = true := by
 cases y with
 | error u => rfl
 | ok y =>
   show wfB (limV y.1).1 = true
   unfold limV
   split
   ·rfl
   ·exact h.2.2
theorem qrh {c : List Token → Rs Node} (h : ∀ m, Good m → m.length ≤ 65537 → Q m (fun n r => wfB n = true) (c m)) (s : BA) : wfB (qc7 c s).1 = true := by
 unfold qc7
 rcases K4 s with ⟨m, e, hg, hl, _⟩ | ⟨e, _⟩
 ·rw [e, if_pos rfl]; exact q4t (h m hg hl)
 ·rw [if_neg e]; rfl
theorem q3t (m : List Token) (hg : Good m) (hl : m.length ≤ 65537) : Q m (fun n r => wfB n = true) (q1t m) := qdm hg (qno hl)
theorem q3u (m : List Token) (hg : Good m) (hl : m.length ≤ 65537) : Q m (fun n r => wfB n = true) (q1u m) := qmp (qdm hg ⟨by omega, by decide, by decide⟩)
theorem q3s (m : List Token) (hg : Good m) (hl : m.length ≤ 65537) : Q m (fun n r => wfB n = true) (q0c m) := qmp (qdm hg (by show m.length ≤ 70000; omega))
theorem q3x : Qw = some true := by
 unfold Qw
 simp only [q2h, q2f, q2g]
 kernel_rfl
theorem qv4 {a : BA} {N : Int} {V : Node × Int × Int} (h : wfB V.1 = true) : (if (decide (N < (a.size : Int))) = true then
 Qw >>= fun x1 => some x1
 else
  some V >>= fun x2 =>
  some V >>= fun x3 =>
  Qw >>= fun x4 =>
  if x4 = true then
   if (decide (x2.2.1 = x3.2.1)) = true then
    if (decide (x2.2.2 = x3.2.2)) = true then
     uv x2.1 x3.1 >>= fun x5 =>
     some x5
    else
     some false
   else
    some false
  else
   some false) = some true := by
 rw [q3x]
 simp only [bs]
 rw [qt2 _ h, bs]
 split
 ·rfl
 ·simp
theorem L9_Files (a : BA) : K1 a = some true := by
 unfold K1
 rw [q2g, q40]
 exact qv4 (qrh q3t a)
theorem L9_Exprs (a : BA) : K2 a = some true := by
 unfold K2
 rw [q2h, q41]
 exact qv4 (qrh q3u a)
theorem L9_Stmts (a : BA) : Kz a = some true := by
 unfold Kz
 rw [q2f, q4z]
 exact qv4 (qrh q3s a)
end Ps
end Go.Proofs.YtigmilhpeodhbaaGreatDoorW.Ex.Gr
