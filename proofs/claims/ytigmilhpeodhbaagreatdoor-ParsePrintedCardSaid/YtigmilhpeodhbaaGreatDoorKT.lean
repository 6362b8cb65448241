/- The walk of print's methods along the steps of a node (instance T). Conditions: those in each theorem. -/
import Derived.Test.YtigmilhpeodhbaaGreatDoorKe
namespace Go.Proofs.YtigmilhpeodhbaaGreatDoorW.Ex.Gr
open Go Go.Proofs.YtigmilhpeodhbaaGreatDoorW.Ex
set_option linter.all false
set_option maxRecDepth 100000
def qoq (s : (BA × List UInt8)) (g w : BA) : Option (BA × List UInt8) := qg2 g w s.1 s.2
def qnz (s : (BA × List UInt8)) (n : Node) (l : BA) (v : Int) : Option (Node × (BA × List UInt8)) := qbb s.1 s.2 n l v
def ownT (n : Node) : (BA × List UInt8) → List BA → BA → BA → Option ((BA × List UInt8) × List BA) := ownG qoq n
def kidT (n : Node) : (BA × List UInt8) → List Node → BA → Int → Option ((BA × List UInt8) × List Node) := kidG qnz n
theorem qft (sa : BA) (sb : List UInt8) (n : Node) (k : Int) (t : BA) (g : List BA) (ks : List Node) (v : Int) (c w : BA) : yy sa sb n k t g ks v c w = ownT n (sa, sb) g c w >>= fun x => some (x.1.1, x.1.2, x.2) := by
 rw [yy.eq_def, ownT, ownG]
 rcases qq5 n.gaps g.length c with ⟨x, e1, e2⟩ | ⟨e1, e3, e2⟩
 ·have h : g.length < n.gaps.length := by
   rcases Nat.lt_or_ge g.length n.gaps.length with h | h
   ·exact h
   rw [List.drop_of_length_le h] at e1; cases e1
  have hx : n.gaps[g.length]? = some x := by
   rw [List.drop_eq_getElem_cons h] at e1
   rw [List.getElem?_eq_getElem h]; simp only [List.cons.injEq] at e1; rw [e1.1]
  rw [e2, if_pos (by rw [List.length_map]; exact decide_eq_true (by omega)), qsp, hx, bs, W5.eq_def]
  simp only [qoq, ba, bs]
 have h : ¬ g.length < n.gaps.length := by
  intro h
  rw [List.drop_eq_getElem_cons h] at e1; cases e1
 rw [e2, if_neg (by rw [List.length_map, decide_eq_true_eq]; omega), W5.eq_def]
 simp only [qoq, ba, bs]
theorem qf0 (sa : BA) (sb : List UInt8) (n : Node) (k : Int) (t : BA) (g : List BA) (ks : List Node) (v : Int) (l : BA) : ur sa sb n k t g ks v l = kidT n (sa, sb) ks l v >>= fun x => some (x.1.1, x.1.2, x.2) := by
 rw [ur.eq_def, kidT, kidG]
 simp only [qnz, qa, ba, bs]
theorem qfz {n : Node} {s : (BA × List UInt8)} {ks : List Node} {l : BA} {v : Int} {x : (BA × List UInt8) × List Node} (h : kidT n s ks l v = some x) : x.2.length = ks.length + 1 := q3b h
abbrev runT (n : Node) := run (ownT n) (kidT n)
theorem qwz (n : Node) (k : Int) (t : BA) (v : Int) : ∀ (r : Nat) (b : Bool) (sa : BA) (sb : List UInt8) (g : List BA) (ks : List Node), n.kids.length - ks.length = r →
 Z4 b n k t g ks v sa sb = runT n (kh v b r) (sa, sb) g ks >>= fun x => some (x.1.1, x.1.2, x.2.1, x.2.2)
 | 0, b, sa, sb, g, ks, h => by
   rw [Z4.eq_def]
   simp only [qa]
   rw [if_neg (by rw [List.length_map, decide_eq_true_eq]; omega), qft]
   cases b <;> simp only [runT, kh, run, ba, bs]
 | r + 1, true, sa, sb, g, ks, h => by
   rw [Z4.eq_def]
   simp only [qa]
   rw [if_pos (by rw [List.length_map]; exact decide_eq_true (by omega)), if_pos trivial, qf0]
   simp only [runT, kh, run, ba, bs]
   refine J8 fun x hx => ?_
   have := qfz hx
   rw [Kj.eq_def]
   simp only [qa]
   exact qwz n k t v r false x.1.1 x.1.2 g x.2 (by omega)
 | r + 1, false, sa, sb, g, ks, h => by
   rw [Z4.eq_def]
   simp only [qa]
   rw [if_pos (by rw [List.length_map]; exact decide_eq_true (by omega)), if_neg (by decide), qft]
   simp only [runT, kh, run, ba, bs]
   refine J8 fun y hy => ?_
   rw [qf0]
   simp only [ba, bs]
   refine J8 fun x hx => ?_
   have := qfz hx
   rw [Kj.eq_def]
   simp only [qa]
   exact qwz n k t v r false x.1.1 x.1.2 y.2 x.2 (by omega)
theorem q63 (n : Node) (k : Int) (t : BA) (v : Int) (g : List BA) : ∀ (l : List Node) (sa : BA) (sb : List UInt8) (ks : List Node),
 uv l n k t g ks v sa sb = runT n (allS sp v l.length) (sa, sb) g ks >>= fun x => some (x.1.1, x.1.2, x.2.1, x.2.2)
 | [], sa, sb, ks => by rw [uv.eq_def]; rfl
 | m :: l, sa, sb, ks => by
   rw [uv.eq_def]
   simp only [qa, List.length_cons]
   rw [qf0]
   simp only [runT, allS, run, ba, bs]
   refine J8 fun x hx => ?_
   exact q63 n k t v g l x.1.1 x.1.2 x.2
theorem q35 (n : Node) (k : Int) (t : BA) (v : Int) (h0 : 0 ≤ v) (h1 : v ≤ 100000) (f : Nat) : ∀ (r : Nat) (sa : BA) (sb : List UInt8) (g : List BA) (ks : List Node), n.kids.length - ks.length = r →
 Ju (f : Int) n k t g ks (v + 1) sa sb = runT n (qay v f n.kids.length r) (sa, sb) g ks >>= fun x => some (x.1.1, x.1.2, x.2.1, x.2.2, v)
 | 0, sa, sb, g, ks, h => by
   rw [Ju.eq_def]
   simp only [qa]
   rw [if_neg (by rw [List.length_map, decide_eq_true_eq]; omega), wh (by omega) (by omega), show v + 1 - 1 = v by omega, List.length_map]
   by_cases c : f < n.kids.length
   ·rw [if_pos (decide_eq_true (by omega)), qy0 v h0 (by omega), bs, qft, qay, qoy, if_pos c]
    simp only [runT, allS, List.nil_append, run, ba, bs]
   rw [if_neg (by rw [decide_eq_true_eq]; omega), qft, qay, qoy, if_neg c]
   simp only [runT, allS, List.nil_append, run, ba, bs]
 | r + 1, sa, sb, g, ks, h => by
   rw [Ju.eq_def]
   simp only [qa]
   rw [if_pos (by rw [List.length_map]; exact decide_eq_true (by omega)), qy0 (v + 1) (by omega) (by omega), bs, qf0]
   simp only [runT, qay, allS, List.cons_append, run, ba, bs]
   refine J8 fun x hx => ?_
   have := qfz hx
   exact q35 n k t v h0 h1 f r x.1.1 x.1.2 g x.2 (by omega)
theorem qxe (n : Node) (k : Int) (t : BA) (v : Int) (g : List BA) : ∀ (l : List Node) (j : Nat) (t1 l1 : BA) (sa : BA) (sb : List UInt8) (ks : List Node), l1 = (if 0 < j then ⟨#[10, 10]⟩ else t1) → (l ≠ [] → 0 < n.kids.length) →
 Zu l j t1 n k t g ks v sa sb = runT n (Q5 v l1 l.length ++ [.own (qae t1 n.kids.length) e0]) (sa, sb) g ks >>= fun x => some (x.1.1, x.1.2, x.2.1, x.2.2, v)
 | [], j, t1, l1, sa, sb, ks, h, hn => by
   rw [Zu.eq_def]
   simp only [qa]
   by_cases c : 0 < n.kids.length
   ·rw [if_pos (by rw [List.length_map]; exact decide_eq_true (by omega)), Yu.eq_def, qft, qae, if_pos c]
    simp only [runT, Q5, List.length_nil, List.nil_append, run, ba, bs]
   rw [if_neg (by rw [List.length_map, decide_eq_true_eq]; omega), Yu.eq_def, qft, qae, if_neg c]
   simp only [runT, Q5, List.length_nil, List.nil_append, run, ba, bs]
 | m :: l, j, t1, l1, sa, sb, ks, h, hn => by
   have hp := hn (by simp)
   have fe : ∀ a b : BA, qae a n.kids.length = qae b n.kids.length := fun a b => by rw [qae, qae, if_pos hp, if_pos hp]
   rw [Zu.eq_def]
   simp only [qa, List.length_cons]
   by_cases c : 0 < j
   ·rw [if_pos c] at h
    rw [if_pos (decide_eq_true (by omega)), Jt.eq_def]
    simp only [qa]
    rw [qf0, ← h, Q5, List.cons_append, runT, run]
    simp only [ba, bs]
    refine J8 fun x hx => ?_
    rw [fe t1 l1]
    exact qxe n k t v g l (j + 1) l1 ⟨#[10, 10]⟩ x.1.1 x.1.2 x.2 (by rw [if_pos (by omega)]) (fun _ => hp)
   rw [if_neg c] at h
   rw [if_neg (by rw [decide_eq_true_eq]; omega), Jt.eq_def]
   simp only [qa]
   rw [qf0, ← h, Q5, List.cons_append, runT, run]
   simp only [ba, bs]
   refine J8 fun x hx => ?_
   rw [h]
   exact qxe n k t v g l (j + 1) t1 ⟨#[10, 10]⟩ x.1.1 x.1.2 x.2 (by rw [if_pos (by omega)]) (fun _ => hp)
theorem qr2 (n : Node) (k : Int) (t : BA) (v : Int) (sa : BA) (sb : List UInt8) (g : List BA) (ks : List Node) : qba sa sb n k t g ks v = runT n (kh v true (n.kids.length - ks.length)) (sa, sb) g ks >>= fun x => some (x.1.1, x.1.2, x.2.1, x.2.2) := by
 rw [qba.eq_def]; exact qwz n k t v _ true sa sb g ks rfl
theorem qyx (sa : BA) (sb : List UInt8) (n : Node) (k : Int) (t : BA) (g : List BA) (ks : List Node) (v : Int) (l w : BA) : qag sa sb n k t g ks v l w = runT n (qak w n.text l v) (sa, sb) g ks >>= fun x => some (x.1.1, x.1.2, x.2.1, x.2.2) := by
 rw [qag.eq_def]
 simp only [qa, qft, qf0, runT, qak, run, ba, bs]
theorem qzk (sa : BA) (sb : List UInt8) (n : Node) (k : Int) (t : BA) (g : List BA) (ks : List Node) (v : Int) (h0 : 0 ≤ v) (h1 : v ≤ 100000) (f : Nat) : qcm sa sb n k t g ks v (f : Int) = runT n (qay v f n.kids.length (n.kids.length - ks.length)) (sa, sb) g ks >>= fun x => some (x.1.1, x.1.2, x.2.1, x.2.2, v) := by
 rw [qcm.eq_def]
 simp only [qa]
 rw [wh (by omega) (by omega)]
 exact q35 n k t v h0 h1 f _ sa sb g ks rfl
theorem q7x (sa : BA) (sb : List UInt8) (n : Node) (k : Int) (t : BA) (v : Int) (l : BA) (hg : zv n.kind = 3) : J5 sa sb n k t [] [] v l = runT n (stepsOf 0 n.kind n.text n.kids.length l v) (sa, sb) [] [] >>= fun x => some (x.1.1, x.1.2, x.2.1, x.2.2) := by
 rw [J5.eq_def]
 simp only [qa]
 generalize hk : n.kind = kd at hg ⊢
 have : kd = 17 ∨ kd = 18 ∨ kd = 19 ∨ kd = 20 ∨ kd = 21 ∨ kd = 22 ∨ kd = 23 ∨ kd = 24 ∨ kd = 25 ∨ kd = 26 := by
  unfold zv at hg; split at hg <;> (try split at hg) <;> (try split at hg) <;> omega
 rcases this with rfl | rfl | rfl | rfl | rfl | rfl | rfl | rfl | rfl | rfl <;> simp only [stepsOf, Int.reduceEq, decide_false, decide_true, ite_true, ite_false, Bool.false_eq_true, reduceCtorEq, Kd, Ke] <;>
  simp only [qft, qf0, qr2, runT, run, ba, bs, List.length_nil, Nat.sub_zero]
 refine J8 fun x hx => ?_
 have := qfz hx
 rw [List.length_nil] at this
 simp only [qft, qf0, qr2, runT, run, ba, bs, this]
theorem q7a (sa : BA) (sb : List UInt8) (n : Node) (k : Int) (t : BA) (v : Int) (l : BA) (hg : zv n.kind = 2) : Yq sa sb n k t [] [] v l = runT n (stepsOf 0 n.kind n.text n.kids.length l v) (sa, sb) [] [] >>= fun x => some (x.1.1, x.1.2, x.2.1, x.2.2) := by
 rw [Yq.eq_def]
 simp only [qa]
 generalize hk : n.kind = kd at hg ⊢
 have : kd = 10 ∨ kd = 11 ∨ kd = 12 ∨ kd = 13 ∨ kd = 15 ∨ kd = 16 := by
  unfold zv at hg; split at hg <;> (try split at hg) <;> (try split at hg) <;> omega
 rcases this with rfl | rfl | rfl | rfl | rfl | rfl <;> simp only [stepsOf, Int.reduceEq, decide_false, decide_true, ite_true, ite_false, Bool.false_eq_true, reduceCtorEq, Kd, Ke] <;>
  (try rw [uz.eq_def]) <;>
  simp only [qa, qft, qf0, q63, qyx, runT, run, ba, bs, List.length_nil, Nat.sub_zero]
theorem q5k (sa : BA) (sb : List UInt8) (n : Node) (k : Int) (t : BA) (v : Int) (l : BA) (hk : known n.kind = true) (h0 : 0 ≤ v) (h1 : v ≤ 100000) (hg3 : zv n.kind ≠ 3) (hg2 : zv n.kind ≠ 2) : qd1 sa sb n k t [] [] v l = runT n (stepsOf 0 n.kind n.text n.kids.length l v) (sa, sb) [] [] >>= fun x => some (x.1.1, x.1.2, x.2.1, x.2.2, v) := by
 rw [qd1.eq_def]
 simp only [qa]
 have hb : ∀ (sa : BA) (sb : List UInt8) (g : List BA) (ks : List Node) (f : Int), f = 0 ∨ f = 1 → qcm sa sb n k t g ks v f = runT n (qay v f.toNat n.kids.length (n.kids.length - ks.length)) (sa, sb) g ks >>= fun x => some (x.1.1, x.1.2, x.2.1, x.2.2, v) := by
  intro sa sb  g ks f hf
  rcases hf with rfl | rfl
  ·exact qzk sa sb n k t g ks v h0 h1 0
  exact qzk sa sb n k t g ks v h0 h1 1
 generalize hkd : n.kind = kd at hk hg3 hg2 ⊢
 have : kd = 1 ∨ kd = 2 ∨ kd = 3 ∨ kd = 4 ∨ kd = 5 ∨ kd = 6 ∨ kd = 7 ∨ kd = 8 ∨ kd = 9 ∨ kd = 14 := by
  unfold known at hk; unfold zv at hg3 hg2
  simp only [Bool.and_eq_true, decide_eq_true_eq] at hk
  split at hg3 <;> (try split at hg3) <;> (try split at hg3) <;> omega
 rcases this with rfl | rfl | rfl | rfl | rfl | rfl | rfl | rfl | rfl | rfl <;> simp only [stepsOf, Int.reduceEq, decide_false, decide_true, ite_true, ite_false, Bool.false_eq_true, reduceCtorEq, Kd, Ke] <;>
  simp only [qft, qf0, qr2, qyx, runT, run, ba, bs, List.length_nil, Nat.sub_zero]
 ·rw [qxe n k t v [] n.kids 0 l l sa sb [] (by rfl) (fun h => List.length_pos_iff.2 h)]
 ·refine J8 fun x hx => ?_
  rw [hb _ _ _ _ _ (.inl rfl)]
  simp only [ba, bs]; rfl
 ·refine J8 fun x hx => ?_
  refine J8 fun x hx => ?_
  rw [Int.add_zero]
  refine J8 fun x hx => ?_
  have := qfz hx
  rw [List.length_nil] at this
  refine J8 fun x hx => ?_
  rw [hb _ _ _ _ _ (.inr rfl), this]
  simp only [ba, bs]; rfl
 ·by_cases c : n.text = e0
  ·rw [if_pos c, if_neg (by rw [decide_eq_true c]; decide)]; rfl
  rw [if_neg c, if_pos (by rw [decide_eq_false c]; rfl)]
  simp only [run, ba, bs]
 by_cases c : n.kids.length = 0
 ·rw [if_pos c, if_neg (by rw [List.length_map, decide_eq_true_eq]; omega)]; rfl
 rw [if_neg c, if_pos (by rw [List.length_map]; exact decide_eq_true (by omega))]
 simp only [run, ba, bs]
theorem q68 (n : Node) (s : (BA × List UInt8)) (l : BA) (v : Int) (hk : known n.kind = true) (h0 : 0 ≤ v) (h1 : v ≤ 100000) :
 qnz s n l v = run (ownG qoq n) (kidG qnz n) (stepsOf 0 n.kind n.text n.kids.length l v) s [] [] >>= fun x => some (Node.mk n.kind n.text x.2.1 x.2.2, x.1) := by
 rw [qnz, qbb.eq_def]
 simp only [qa, qvd hk, bs]
 by_cases c3 : zv n.kind = 3
 ·rw [if_pos (decide_eq_true c3), q7x _ _ _ _ _ _ _ c3]
  simp only [Yk.eq_def, ba, bs]; rfl
 rw [if_neg (by rw [decide_eq_true_eq]; exact c3)]
 by_cases c2 : zv n.kind = 2
 ·rw [if_pos (decide_eq_true c2), q7a _ _ _ _ _ _ _ c2]
  simp only [Yk.eq_def, Ks.eq_def, ba, bs]; rfl
 rw [if_neg (by rw [decide_eq_true_eq]; exact c2), q5k _ _ _ _ _ _ _ hk h0 h1 c3 c2]
 simp only [Yk.eq_def, Ks.eq_def, ba, bs]; rfl
end Go.Proofs.YtigmilhpeodhbaaGreatDoorW.Ex.Gr
