/- The walk of print's methods along the steps of a node (instance T). Conditions: those in each theorem. -/
import Derived.Test.YtigmilhpeodhbaaGreatDoorKe
namespace Go.Proofs.YtigmilhpeodhbaaGreatDoorW.Ex.Gr
open Go Go.Proofs.YtigmilhpeodhbaaGreatDoorW.Ex
set_option linter.all false
set_option maxRecDepth 100000
def qm5 (s : (BA × List UInt8)) (g w : BA) : Option (BA × List UInt8) := qfq g w s.1 s.2
def ql6 (s : (BA × List UInt8)) (n : Node) (l : BA) (v : Int) : Option (Node × (BA × List UInt8)) := qaf s.1 s.2 n l v
def ownT (n : Node) : (BA × List UInt8) → List BA → BA → BA → Option ((BA × List UInt8) × List BA) := ownG qm5 n
def kidT (n : Node) : (BA × List UInt8) → List Node → BA → Int → Option ((BA × List UInt8) × List Node) := kidG ql6 n
theorem qen (sa : BA) (sb : List UInt8) (n : Node) (k : Int) (t : BA) (g : List BA) (ks : List Node) (v : Int) (c w : BA) : yr sa sb n k t g ks v c w = ownT n (sa, sb) g c w >>= fun x => some (x.1.1, x.1.2, x.2) := by
 rw [yr.eq_def, ownT, ownG]
 rcases qpn n.gaps g.length c with ⟨x, e1, e2⟩ | ⟨e1, e3, e2⟩
 ·have h : g.length < n.gaps.length := by
   rcases Nat.lt_or_ge g.length n.gaps.length with h | h
   ·exact h
   ·rw [List.drop_of_length_le h] at e1; cases e1
  have hx : n.gaps[g.length]? = some x := by
   rw [List.drop_eq_getElem_cons h] at e1
   rw [List.getElem?_eq_getElem h]; simp only [List.cons.injEq] at e1; rw [e1.1]
  rw [e2, if_pos (by rw [List.length_map]; exact decide_eq_true (by omega)), qq4, hx, bs, K7.eq_def]
  simp only [qm5, ba, bs]
 ·have h : ¬ g.length < n.gaps.length := by
   intro h
   rw [List.drop_eq_getElem_cons h] at e1; cases e1
  rw [e2, if_neg (by rw [List.length_map, decide_eq_true_eq]; omega), K7.eq_def]
  simp only [qm5, ba, bs]
theorem qes (sa : BA) (sb : List UInt8) (n : Node) (k : Int) (t : BA) (g : List BA) (ks : List Node) (v : Int) (l : BA) : wz sa sb n k t g ks v l = kidT n (sa, sb) ks l v >>= fun x => some (x.1.1, x.1.2, x.2) := by
 rw [wz.eq_def, kidT, kidG]
 simp only [ql6, qa, ba, bs]
theorem qer {n : Node} {s : (BA × List UInt8)} {ks : List Node} {l : BA} {v : Int} {x : (BA × List UInt8) × List Node} (h : kidT n s ks l v = some x) : x.2.length = ks.length + 1 := q0n h
abbrev runT (n : Node) := run (ownT n) (kidT n)
theorem qut (n : Node) (k : Int) (t : BA) (v : Int) : ∀ (r : Nat) (b : Bool) (sa : BA) (sb : List UInt8) (g : List BA) (ks : List Node), n.kids.length - ks.length = r →
 Zb b n k t g ks v sa sb = runT n (Qc v b r) (sa, sb) g ks >>= fun x => some (x.1.1, x.1.2, x.2.1, x.2.2)
 | 0, b, sa, sb, g, ks, h => by
   rw [Zb.eq_def]
   simp only [qa]
   rw [if_neg (by rw [List.length_map, decide_eq_true_eq]; omega), qen]
   cases b <;> simp only [runT, Qc, run, ba, bs]
 | r + 1, true, sa, sb, g, ks, h => by
   rw [Zb.eq_def]
   simp only [qa]
   rw [if_pos (by rw [List.length_map]; exact decide_eq_true (by omega)), if_pos trivial, qes]
   simp only [runT, Qc, run, ba, bs]
   refine Jf fun x hx => ?_
   have := qer hx
   rw [Ys.eq_def]
   simp only [qa]
   exact qut n k t v r false x.1.1 x.1.2 g x.2 (by omega)
 | r + 1, false, sa, sb, g, ks, h => by
   rw [Zb.eq_def]
   simp only [qa]
   rw [if_pos (by rw [List.length_map]; exact decide_eq_true (by omega)), if_neg (by decide), qen]
   simp only [runT, Qc, run, ba, bs]
   refine Jf fun y hy => ?_
   rw [qes]
   simp only [ba, bs]
   refine Jf fun x hx => ?_
   have := qer hx
   rw [Ys.eq_def]
   simp only [qa]
   exact qut n k t v r false x.1.1 x.1.2 y.2 x.2 (by omega)
theorem q3v (n : Node) (k : Int) (t : BA) (v : Int) (g : List BA) : ∀ (l : List Node) (sa : BA) (sb : List UInt8) (ks : List Node),
 w8 l n k t g ks v sa sb = runT n (allS sp v l.length) (sa, sb) g ks >>= fun x => some (x.1.1, x.1.2, x.2.1, x.2.2)
 | [], sa, sb, ks => by rw [w8.eq_def]; rfl
 | m :: l, sa, sb, ks => by
   rw [w8.eq_def]
   simp only [qa, List.length_cons]
   rw [qes]
   simp only [runT, allS, run, ba, bs]
   refine Jf fun x hx => ?_
   exact q3v n k t v g l x.1.1 x.1.2 x.2
theorem q1j (n : Node) (k : Int) (t : BA) (v : Int) (h0 : 0 ≤ v) (h1 : v ≤ 100000) (f : Nat) : ∀ (r : Nat) (sa : BA) (sb : List UInt8) (g : List BA) (ks : List Node), n.kids.length - ks.length = r →
 Z1 (f : Int) n k t g ks (v + 1) sa sb = runT n (qd4 v f n.kids.length r) (sa, sb) g ks >>= fun x => some (x.1.1, x.1.2, x.2.1, x.2.2, v)
 | 0, sa, sb, g, ks, h => by
   rw [Z1.eq_def]
   simp only [qa]
   rw [if_neg (by rw [List.length_map, decide_eq_true_eq]; omega), wr (by omega) (by omega), show v + 1 - 1 = v by omega, List.length_map]
   by_cases c : f < n.kids.length
   ·rw [if_pos (decide_eq_true (by omega)), qwm v h0 (by omega), bs, qen, qd4, q1k, if_pos c]
    simp only [runT, allS, List.nil_append, run, ba, bs]
   ·rw [if_neg (by rw [decide_eq_true_eq]; omega), qen, qd4, q1k, if_neg c]
    simp only [runT, allS, List.nil_append, run, ba, bs]
 | r + 1, sa, sb, g, ks, h => by
   rw [Z1.eq_def]
   simp only [qa]
   rw [if_pos (by rw [List.length_map]; exact decide_eq_true (by omega)), qwm (v + 1) (by omega) (by omega), bs, qes]
   simp only [runT, qd4, allS, List.cons_append, run, ba, bs]
   refine Jf fun x hx => ?_
   have := qer hx
   exact q1j n k t v h0 h1 f r x.1.1 x.1.2 g x.2 (by omega)
theorem qu6 (n : Node) (k : Int) (t : BA) (v : Int) (g : List BA) : ∀ (l : List Node) (j : Nat) (t1 l1 : BA) (sa : BA) (sb : List UInt8) (ks : List Node), l1 = (if 0 < j then ⟨#[10, 10]⟩ else t1) → (l ≠ [] → 0 < n.kids.length) →
 Q3 l j t1 n k t g ks v sa sb = runT n (Kw v l1 l.length ++ [.own (qjw t1 n.kids.length) e0]) (sa, sb) g ks >>= fun x => some (x.1.1, x.1.2, x.2.1, x.2.2, v)
 | [], j, t1, l1, sa, sb, ks, h, hn => by
   rw [Q3.eq_def]
   simp only [qa]
   by_cases c : 0 < n.kids.length
   ·rw [if_pos (by rw [List.length_map]; exact decide_eq_true (by omega)), J3.eq_def, qen, qjw, if_pos c]
    simp only [runT, Kw, List.length_nil, List.nil_append, run, ba, bs]
   ·rw [if_neg (by rw [List.length_map, decide_eq_true_eq]; omega), J3.eq_def, qen, qjw, if_neg c]
    simp only [runT, Kw, List.length_nil, List.nil_append, run, ba, bs]
 | m :: l, j, t1, l1, sa, sb, ks, h, hn => by
   have hp := hn (by simp)
   have fe : ∀ a b : BA, qjw a n.kids.length = qjw b n.kids.length := fun a b => by rw [qjw, qjw, if_pos hp, if_pos hp]
   rw [Q3.eq_def]
   simp only [qa, List.length_cons]
   by_cases c : 0 < j
   ·rw [if_pos c] at h
    rw [if_pos (decide_eq_true (by omega)), Z0.eq_def]
    simp only [qa]
    rw [qes, ← h, Kw, List.cons_append, runT, run]
    simp only [ba, bs]
    refine Jf fun x hx => ?_
    rw [fe t1 l1]
    exact qu6 n k t v g l (j + 1) l1 ⟨#[10, 10]⟩ x.1.1 x.1.2 x.2 (by rw [if_pos (by omega)]) (fun _ => hp)
   ·rw [if_neg c] at h
    rw [if_neg (by rw [decide_eq_true_eq]; omega), Z0.eq_def]
    simp only [qa]
    rw [qes, ← h, Kw, List.cons_append, runT, run]
    simp only [ba, bs]
    refine Jf fun x hx => ?_
    rw [h]
    exact qu6 n k t v g l (j + 1) t1 ⟨#[10, 10]⟩ x.1.1 x.1.2 x.2 (by rw [if_pos (by omega)]) (fun _ => hp)
theorem qqi (n : Node) (k : Int) (t : BA) (v : Int) (sa : BA) (sb : List UInt8) (g : List BA) (ks : List Node) : qae sa sb n k t g ks v = runT n (Qc v true (n.kids.length - ks.length)) (sa, sb) g ks >>= fun x => some (x.1.1, x.1.2, x.2.1, x.2.2) := by
 rw [qae.eq_def]; exact qut n k t v _ true sa sb g ks rfl
theorem qwi (sa : BA) (sb : List UInt8) (n : Node) (k : Int) (t : BA) (g : List BA) (ks : List Node) (v : Int) (l w : BA) : Wm sa sb n k t g ks v l w = runT n (qep w n.text l v) (sa, sb) g ks >>= fun x => some (x.1.1, x.1.2, x.2.1, x.2.2) := by
 rw [Wm.eq_def]
 simp only [qa, qen, qes, runT, qep, run, ba, bs]
theorem qw9 (sa : BA) (sb : List UInt8) (n : Node) (k : Int) (t : BA) (g : List BA) (ks : List Node) (v : Int) (h0 : 0 ≤ v) (h1 : v ≤ 100000) (f : Nat) : qbk sa sb n k t g ks v (f : Int) = runT n (qd4 v f n.kids.length (n.kids.length - ks.length)) (sa, sb) g ks >>= fun x => some (x.1.1, x.1.2, x.2.1, x.2.2, v) := by
 rw [qbk.eq_def]
 simp only [qa]
 rw [wr (by omega) (by omega)]
 exact q1j n k t v h0 h1 f _ sa sb g ks rfl
theorem q4p (sa : BA) (sb : List UInt8) (n : Node) (k : Int) (t : BA) (v : Int) (l : BA) (hg : yb n.kind = 3) : Jc sa sb n k t [] [] v l = runT n (stepsOf 0 n.kind n.text n.kids.length l v) (sa, sb) [] [] >>= fun x => some (x.1.1, x.1.2, x.2.1, x.2.2) := by
 rw [Jc.eq_def]
 simp only [qa]
 generalize hk : n.kind = kd at hg ⊢
 have : kd = 17 ∨ kd = 18 ∨ kd = 19 ∨ kd = 20 ∨ kd = 21 ∨ kd = 22 ∨ kd = 23 ∨ kd = 24 ∨ kd = 25 ∨ kd = 26 := by
  unfold yb at hg; split at hg <;> (try split at hg) <;> (try split at hg) <;> omega
 rcases this with rfl | rfl | rfl | rfl | rfl | rfl | rfl | rfl | rfl | rfl <;> simp only [stepsOf, Int.reduceEq, decide_false, decide_true, ite_true, ite_false, Bool.false_eq_true, reduceCtorEq, qio, qip] <;>
  simp only [qen, qes, qqi, runT, run, ba, bs, List.length_nil, Nat.sub_zero]
 refine Jf fun x hx => ?_
 have := qer hx
 rw [List.length_nil] at this
 simp only [qen, qes, qqi, runT, run, ba, bs, this]
theorem q31 (sa : BA) (sb : List UInt8) (n : Node) (k : Int) (t : BA) (v : Int) (l : BA) (hg : yb n.kind = 2) : Jz sa sb n k t [] [] v l = runT n (stepsOf 0 n.kind n.text n.kids.length l v) (sa, sb) [] [] >>= fun x => some (x.1.1, x.1.2, x.2.1, x.2.2) := by
 rw [Jz.eq_def]
 simp only [qa]
 generalize hk : n.kind = kd at hg ⊢
 have : kd = 10 ∨ kd = 11 ∨ kd = 12 ∨ kd = 13 ∨ kd = 15 ∨ kd = 16 := by
  unfold yb at hg; split at hg <;> (try split at hg) <;> (try split at hg) <;> omega
 rcases this with rfl | rfl | rfl | rfl | rfl | rfl <;> simp only [stepsOf, Int.reduceEq, decide_false, decide_true, ite_true, ite_false, Bool.false_eq_true, reduceCtorEq, qio, qip] <;>
  (try rw [ub.eq_def]) <;>
  simp only [qa, qen, qes, q3v, qwi, runT, run, ba, bs, List.length_nil, Nat.sub_zero]
theorem q2d (sa : BA) (sb : List UInt8) (n : Node) (k : Int) (t : BA) (v : Int) (l : BA) (hk : known n.kind = true) (h0 : 0 ≤ v) (h1 : v ≤ 100000) (hg3 : yb n.kind ≠ 3) (hg2 : yb n.kind ≠ 2) : qc0 sa sb n k t [] [] v l = runT n (stepsOf 0 n.kind n.text n.kids.length l v) (sa, sb) [] [] >>= fun x => some (x.1.1, x.1.2, x.2.1, x.2.2, v) := by
 rw [qc0.eq_def]
 simp only [qa]
 have hb : ∀ (sa : BA) (sb : List UInt8) (g : List BA) (ks : List Node) (f : Int), f = 0 ∨ f = 1 → qbk sa sb n k t g ks v f = runT n (qd4 v f.toNat n.kids.length (n.kids.length - ks.length)) (sa, sb) g ks >>= fun x => some (x.1.1, x.1.2, x.2.1, x.2.2, v) := by
  intro sa sb  g ks f hf
  rcases hf with rfl | rfl
  ·exact qw9 sa sb n k t g ks v h0 h1 0
  ·exact qw9 sa sb n k t g ks v h0 h1 1
 generalize hkd : n.kind = kd at hk hg3 hg2 ⊢
 have : kd = 1 ∨ kd = 2 ∨ kd = 3 ∨ kd = 4 ∨ kd = 5 ∨ kd = 6 ∨ kd = 7 ∨ kd = 8 ∨ kd = 9 ∨ kd = 14 := by
  unfold known at hk; unfold yb at hg3 hg2
  simp only [Bool.and_eq_true, decide_eq_true_eq] at hk
  split at hg3 <;> (try split at hg3) <;> (try split at hg3) <;> omega
 rcases this with rfl | rfl | rfl | rfl | rfl | rfl | rfl | rfl | rfl | rfl <;> simp only [stepsOf, Int.reduceEq, decide_false, decide_true, ite_true, ite_false, Bool.false_eq_true, reduceCtorEq, qio, qip] <;>
  simp only [qen, qes, qqi, qwi, runT, run, ba, bs, List.length_nil, Nat.sub_zero]
 ·rw [qu6 n k t v [] n.kids 0 l l sa sb [] (by rfl) (fun h => List.length_pos_iff.2 h)]
 ·refine Jf fun x hx => ?_
  rw [hb _ _ _ _ _ (.inl rfl)]
  simp only [ba, bs]; rfl
 ·refine Jf fun x hx => ?_
  refine Jf fun x hx => ?_
  rw [Int.add_zero]
  refine Jf fun x hx => ?_
  have := qer hx
  rw [List.length_nil] at this
  refine Jf fun x hx => ?_
  rw [hb _ _ _ _ _ (.inr rfl), this]
  simp only [ba, bs]; rfl
 ·by_cases c : n.text = e0
  ·rw [if_pos c, if_neg (by rw [decide_eq_true c]; decide)]; rfl
  ·rw [if_neg c, if_pos (by rw [decide_eq_false c]; rfl)]
   simp only [run, ba, bs]
 ·by_cases c : n.kids.length = 0
  ·rw [if_pos c, if_neg (by rw [List.length_map, decide_eq_true_eq]; omega)]; rfl
  ·rw [if_neg c, if_pos (by rw [List.length_map]; exact decide_eq_true (by omega))]
   simp only [run, ba, bs]
/-- The walk of a node. -/
theorem q3z (n : Node) (s : (BA × List UInt8)) (l : BA) (v : Int) (hk : known n.kind = true) (h0 : 0 ≤ v) (h1 : v ≤ 100000) :
 ql6 s n l v = run (ownG qm5 n) (kidG ql6 n) (stepsOf 0 n.kind n.text n.kids.length l v) s [] [] >>= fun x => some (Node.mk n.kind n.text x.2.1 x.2.2, x.1) := by
 rw [ql6, qaf.eq_def]
 simp only [qa, q0x hk, bs]
 by_cases c3 : yb n.kind = 3
 ·rw [if_pos (decide_eq_true c3), q4p _ _ _ _ _ _ _ c3]
  simp only [Jq.eq_def, ba, bs]; rfl
 ·rw [if_neg (by rw [decide_eq_true_eq]; exact c3)]
  by_cases c2 : yb n.kind = 2
  ·rw [if_pos (decide_eq_true c2), q31 _ _ _ _ _ _ _ c2]
   simp only [Jq.eq_def, Y0.eq_def, ba, bs]; rfl
  ·rw [if_neg (by rw [decide_eq_true_eq]; exact c2), q2d _ _ _ _ _ _ _ hk h0 h1 c3 c2]
   simp only [Jq.eq_def, Y0.eq_def, ba, bs]; rfl
end Go.Proofs.YtigmilhpeodhbaaGreatDoorW.Ex.Gr
