/- The walk of print's methods along the steps of a node (instance T). Conditions: those in each theorem. -/
import Derived.Test.YtimcdpioclioiaaGreatDoorHW
namespace Go.Proofs.YtimcdpioclioiaaGreatDoorW.Ex.Gr
open Go Go.Proofs.YtimcdpioclioiaaGreatDoorW.Ex
set_option linter.all false
set_option maxRecDepth 100000
def emitT (s : (BA × List UInt8)) (g w : BA) : Option (BA × List UInt8) := F_emitT g w s.1 s.2
def nodeT (s : (BA × List UInt8)) (n : Node) (l : BA) (v : Int) : Option (Node × (BA × List UInt8)) := F_nodeT s.1 s.2 n l v
def ownT (n : Node) : (BA × List UInt8) → List BA → BA → BA → Option ((BA × List UInt8) × List BA) := ownG emitT n
def kidT (n : Node) : (BA × List UInt8) → List Node → BA → Int → Option ((BA × List UInt8) × List Node) := kidG nodeT n
theorem Jp (sa : BA) (sb : List UInt8) (n : Node) (k : Int) (t : BA) (g : List BA) (ks : List Node) (v : Int) (c w : BA) : F_ownT sa sb n k t g ks v c w = ownT n (sa, sb) g c w >>= fun x => some (x.1.1, x.1.2, x.2) := by
 rw [F_ownT.eq_def, ownT, ownG]
 rcases Yt n.gaps g.length c with ⟨x, e1, e2⟩ | ⟨e1, e3, e2⟩
 ·have h : g.length < n.gaps.length := by
   rcases Nat.lt_or_ge g.length n.gaps.length with h | h
   ·exact h
   ·rw [List.drop_of_length_le h] at e1; cases e1
  have hx : n.gaps[g.length]? = some x := by
   rw [List.drop_eq_getElem_cons h] at e1
   rw [List.getElem?_eq_getElem h]; simp only [List.cons.injEq] at e1; rw [e1.1]
  rw [e2, if_pos (by rw [List.length_map]; exact decide_eq_true (by omega)), J0, hx, bs, F_ownT_t22.eq_def]
  simp only [emitT, ba, bs]
 ·have h : ¬ g.length < n.gaps.length := by
   intro h
   rw [List.drop_eq_getElem_cons h] at e1; cases e1
  rw [e2, if_neg (by rw [List.length_map, decide_eq_true_eq]; omega), F_ownT_t22.eq_def]
  simp only [emitT, ba, bs]
theorem Jy (sa : BA) (sb : List UInt8) (n : Node) (k : Int) (t : BA) (g : List BA) (ks : List Node) (v : Int) (l : BA) : F_kidT sa sb n k t g ks v l = kidT n (sa, sb) ks l v >>= fun x => some (x.1.1, x.1.2, x.2) := by
 rw [F_kidT.eq_def, kidT, kidG]
 simp only [nodeT, qa, ba, bs]
theorem Jv {n : Node} {s : (BA × List UInt8)} {ks : List Node} {l : BA} {v : Int} {x : (BA × List UInt8) × List Node} (h : kidT n s ks l v = some x) : x.2.length = ks.length + 1 := kidG_len h
abbrev runT (n : Node) := run (ownT n) (kidT n)
theorem rest_T (n : Node) (k : Int) (t : BA) (v : Int) : ∀ (r : Nat) (b : Bool) (sa : BA) (sb : List UInt8) (g : List BA) (ks : List Node), n.kids.length - ks.length = r →
 F_restT_l0 b n k t g ks v sa sb = runT n (jf v b r) (sa, sb) g ks >>= fun x => some (x.1.1, x.1.2, x.2.1, x.2.2)
 | 0, b, sa, sb, g, ks, h => by
   rw [F_restT_l0.eq_def]
   simp only [qa]
   rw [if_neg (by rw [List.length_map, decide_eq_true_eq]; omega), Jp]
   cases b <;> simp only [runT, jf, run, ba, bs]
 | r + 1, true, sa, sb, g, ks, h => by
   rw [F_restT_l0.eq_def]
   simp only [qa]
   rw [if_pos (by rw [List.length_map]; exact decide_eq_true (by omega)), if_pos trivial, Jy]
   simp only [runT, jf, run, ba, bs]
   refine jd fun x hx => ?_
   have := Jv hx
   rw [F_restT_b1.eq_def]
   simp only [qa]
   exact rest_T n k t v r false x.1.1 x.1.2 g x.2 (by omega)
 | r + 1, false, sa, sb, g, ks, h => by
   rw [F_restT_l0.eq_def]
   simp only [qa]
   rw [if_pos (by rw [List.length_map]; exact decide_eq_true (by omega)), if_neg (by decide), Jp]
   simp only [runT, jf, run, ba, bs]
   refine jd fun y hy => ?_
   rw [Jy]
   simp only [ba, bs]
   refine jd fun x hx => ?_
   have := Jv hx
   rw [F_restT_b1.eq_def]
   simp only [qa]
   exact rest_T n k t v r false x.1.1 x.1.2 y.2 x.2 (by omega)
theorem all_T (n : Node) (k : Int) (t : BA) (v : Int) (g : List BA) : ∀ (l : List Node) (sa : BA) (sb : List UInt8) (ks : List Node),
 F_statementT_l0 l n k t g ks v sa sb = runT n (allS sp v l.length) (sa, sb) g ks >>= fun x => some (x.1.1, x.1.2, x.2.1, x.2.2)
 | [], sa, sb, ks => by rw [F_statementT_l0.eq_def]; rfl
 | m :: l, sa, sb, ks => by
   rw [F_statementT_l0.eq_def]
   simp only [qa, List.length_cons]
   rw [Jy]
   simp only [runT, allS, run, ba, bs]
   refine jd fun x hx => ?_
   exact all_T n k t v g l x.1.1 x.1.2 x.2
theorem body_T (n : Node) (k : Int) (t : BA) (v : Int) (h0 : 0 ≤ v) (h1 : v ≤ 100000) (f : Nat) : ∀ (r : Nat) (sa : BA) (sb : List UInt8) (g : List BA) (ks : List Node), n.kids.length - ks.length = r →
 F_bodyT_l0 (f : Int) n k t g ks (v + 1) sa sb = runT n (ke v f n.kids.length r) (sa, sb) g ks >>= fun x => some (x.1.1, x.1.2, x.2.1, x.2.2, v)
 | 0, sa, sb, g, ks, h => by
   rw [F_bodyT_l0.eq_def]
   simp only [qa]
   rw [if_neg (by rw [List.length_map, decide_eq_true_eq]; omega), zr (by omega) (by omega), show v + 1 - 1 = v by omega, List.length_map]
   by_cases c : f < n.kids.length
   ·rw [if_pos (decide_eq_true (by omega)), Ys v h0 (by omega), bs, Jp, ke, Za, if_pos c]
    simp only [runT, allS, List.nil_append, run, ba, bs]
   ·rw [if_neg (by rw [decide_eq_true_eq]; omega), Jp, ke, Za, if_neg c]
    simp only [runT, allS, List.nil_append, run, ba, bs]
 | r + 1, sa, sb, g, ks, h => by
   rw [F_bodyT_l0.eq_def]
   simp only [qa]
   rw [if_pos (by rw [List.length_map]; exact decide_eq_true (by omega)), Ys (v + 1) (by omega) (by omega), bs, Jy]
   simp only [runT, ke, allS, List.cons_append, run, ba, bs]
   refine jd fun x hx => ?_
   have := Jv hx
   exact body_T n k t v h0 h1 f r x.1.1 x.1.2 g x.2 (by omega)
theorem file_T (n : Node) (k : Int) (t : BA) (v : Int) (g : List BA) : ∀ (l : List Node) (j : Nat) (t1 l1 : BA) (sa : BA) (sb : List UInt8) (ks : List Node), l1 = (if 0 < j then ⟨#[10, 10]⟩ else t1) → (l ≠ [] → 0 < n.kids.length) →
 F_otherT_l0 l j t1 n k t g ks v sa sb = runT n (yj v l1 l.length ++ [.own (yt t1 n.kids.length) e0]) (sa, sb) g ks >>= fun x => some (x.1.1, x.1.2, x.2.1, x.2.2, v)
 | [], j, t1, l1, sa, sb, ks, h, hn => by
   rw [F_otherT_l0.eq_def]
   simp only [qa]
   by_cases c : 0 < n.kids.length
   ·rw [if_pos (by rw [List.length_map]; exact decide_eq_true (by omega)), F_otherT_t33.eq_def, Jp, yt, if_pos c]
    simp only [runT, yj, List.length_nil, List.nil_append, run, ba, bs]
   ·rw [if_neg (by rw [List.length_map, decide_eq_true_eq]; omega), F_otherT_t33.eq_def, Jp, yt, if_neg c]
    simp only [runT, yj, List.length_nil, List.nil_append, run, ba, bs]
 | m :: l, j, t1, l1, sa, sb, ks, h, hn => by
   have hp := hn (by simp)
   have fe : ∀ a b : BA, yt a n.kids.length = yt b n.kids.length := fun a b => by rw [yt, yt, if_pos hp, if_pos hp]
   rw [F_otherT_l0.eq_def]
   simp only [qa, List.length_cons]
   by_cases c : 0 < j
   ·rw [if_pos c] at h
    rw [if_pos (decide_eq_true (by omega)), F_otherT_t22.eq_def]
    simp only [qa]
    rw [Jy, ← h, yj, List.cons_append, runT, run]
    simp only [ba, bs]
    refine jd fun x hx => ?_
    rw [fe t1 l1]
    exact file_T n k t v g l (j + 1) l1 ⟨#[10, 10]⟩ x.1.1 x.1.2 x.2 (by rw [if_pos (by omega)]) (fun _ => hp)
   ·rw [if_neg c] at h
    rw [if_neg (by rw [decide_eq_true_eq]; omega), F_otherT_t22.eq_def]
    simp only [qa]
    rw [Jy, ← h, yj, List.cons_append, runT, run]
    simp only [ba, bs]
    refine jd fun x hx => ?_
    rw [h]
    exact file_T n k t v g l (j + 1) t1 ⟨#[10, 10]⟩ x.1.1 x.1.2 x.2 (by rw [if_pos (by omega)]) (fun _ => hp)
theorem rest0_T (n : Node) (k : Int) (t : BA) (v : Int) (sa : BA) (sb : List UInt8) (g : List BA) (ks : List Node) : F_restT sa sb n k t g ks v = runT n (jf v true (n.kids.length - ks.length)) (sa, sb) g ks >>= fun x => some (x.1.1, x.1.2, x.2.1, x.2.2) := by
 rw [F_restT.eq_def]; exact rest_T n k t v _ true sa sb g ks rfl
theorem named_T (sa : BA) (sb : List UInt8) (n : Node) (k : Int) (t : BA) (g : List BA) (ks : List Node) (v : Int) (l w : BA) : F_namedT sa sb n k t g ks v l w = runT n (wl w n.text l v) (sa, sb) g ks >>= fun x => some (x.1.1, x.1.2, x.2.1, x.2.2) := by
 rw [F_namedT.eq_def]
 simp only [qa, Jp, Jy, runT, wl, run, ba, bs]
theorem body0_T (sa : BA) (sb : List UInt8) (n : Node) (k : Int) (t : BA) (g : List BA) (ks : List Node) (v : Int) (h0 : 0 ≤ v) (h1 : v ≤ 100000) (f : Nat) : F_bodyT sa sb n k t g ks v (f : Int) = runT n (ke v f n.kids.length (n.kids.length - ks.length)) (sa, sb) g ks >>= fun x => some (x.1.1, x.1.2, x.2.1, x.2.2, v) := by
 rw [F_bodyT.eq_def]
 simp only [qa]
 rw [zr (by omega) (by omega)]
 exact body_T n k t v h0 h1 f _ sa sb g ks rfl
theorem expr_T (sa : BA) (sb : List UInt8) (n : Node) (k : Int) (t : BA) (v : Int) (l : BA) (hg : jm n.kind = 3) : F_expressionT sa sb n k t [] [] v l = runT n (stepsOf 0 n.kind n.text n.kids.length l v) (sa, sb) [] [] >>= fun x => some (x.1.1, x.1.2, x.2.1, x.2.2) := by
 rw [F_expressionT.eq_def]
 simp only [qa]
 generalize hk : n.kind = kd at hg ⊢
 have : kd = 17 ∨ kd = 18 ∨ kd = 19 ∨ kd = 20 ∨ kd = 21 ∨ kd = 22 ∨ kd = 23 ∨ kd = 24 ∨ kd = 25 ∨ kd = 26 := by
  unfold jm at hg; split at hg <;> (try split at hg) <;> (try split at hg) <;> omega
 rcases this with rfl | rfl | rfl | rfl | rfl | rfl | rfl | rfl | rfl | rfl <;> simp only [stepsOf, Int.reduceEq, decide_false, decide_true, ite_true, ite_false, Bool.false_eq_true, reduceCtorEq, yh, yq] <;>
  simp only [Jp, Jy, rest0_T, runT, run, ba, bs, List.length_nil, Nat.sub_zero]
 refine jd fun x hx => ?_
 have := Jv hx
 rw [List.length_nil] at this
 simp only [Jp, Jy, rest0_T, runT, run, ba, bs, this]
theorem stmt_T (sa : BA) (sb : List UInt8) (n : Node) (k : Int) (t : BA) (v : Int) (l : BA) (hg : jm n.kind = 2) : F_statementT sa sb n k t [] [] v l = runT n (stepsOf 0 n.kind n.text n.kids.length l v) (sa, sb) [] [] >>= fun x => some (x.1.1, x.1.2, x.2.1, x.2.2) := by
 rw [F_statementT.eq_def]
 simp only [qa]
 generalize hk : n.kind = kd at hg ⊢
 have : kd = 10 ∨ kd = 11 ∨ kd = 12 ∨ kd = 13 ∨ kd = 15 ∨ kd = 16 := by
  unfold jm at hg; split at hg <;> (try split at hg) <;> (try split at hg) <;> omega
 rcases this with rfl | rfl | rfl | rfl | rfl | rfl <;> simp only [stepsOf, Int.reduceEq, decide_false, decide_true, ite_true, ite_false, Bool.false_eq_true, reduceCtorEq, yh, yq] <;>
  (try rw [F_statementT_t53.eq_def]) <;>
  simp only [qa, Jp, Jy, all_T, named_T, runT, run, ba, bs, List.length_nil, Nat.sub_zero]
theorem other_T (sa : BA) (sb : List UInt8) (n : Node) (k : Int) (t : BA) (v : Int) (l : BA) (hk : known n.kind = true) (h0 : 0 ≤ v) (h1 : v ≤ 100000) (hg3 : jm n.kind ≠ 3) (hg2 : jm n.kind ≠ 2) : F_otherT sa sb n k t [] [] v l = runT n (stepsOf 0 n.kind n.text n.kids.length l v) (sa, sb) [] [] >>= fun x => some (x.1.1, x.1.2, x.2.1, x.2.2, v) := by
 rw [F_otherT.eq_def]
 simp only [qa]
 have hb : ∀ (sa : BA) (sb : List UInt8) (g : List BA) (ks : List Node) (f : Int), f = 0 ∨ f = 1 → F_bodyT sa sb n k t g ks v f = runT n (ke v f.toNat n.kids.length (n.kids.length - ks.length)) (sa, sb) g ks >>= fun x => some (x.1.1, x.1.2, x.2.1, x.2.2, v) := by
  intro sa sb  g ks f hf
  rcases hf with rfl | rfl
  ·exact body0_T sa sb n k t g ks v h0 h1 0
  ·exact body0_T sa sb n k t g ks v h0 h1 1
 generalize hkd : n.kind = kd at hk hg3 hg2 ⊢
 have : kd = 1 ∨ kd = 2 ∨ kd = 3 ∨ kd = 4 ∨ kd = 5 ∨ kd = 6 ∨ kd = 7 ∨ kd = 8 ∨ kd = 9 ∨ kd = 14 := by
  unfold known at hk; unfold jm at hg3 hg2
  simp only [Bool.and_eq_true, decide_eq_true_eq] at hk
  split at hg3 <;> (try split at hg3) <;> (try split at hg3) <;> omega
 rcases this with rfl | rfl | rfl | rfl | rfl | rfl | rfl | rfl | rfl | rfl <;> simp only [stepsOf, Int.reduceEq, decide_false, decide_true, ite_true, ite_false, Bool.false_eq_true, reduceCtorEq, yh, yq] <;>
  simp only [Jp, Jy, rest0_T, named_T, runT, run, ba, bs, List.length_nil, Nat.sub_zero]
 ·rw [file_T n k t v [] n.kids 0 l l sa sb [] (by rfl) (fun h => List.length_pos_iff.2 h)]
 ·refine jd fun x hx => ?_
  rw [hb _ _ _ _ _ (.inl rfl)]
  simp only [ba, bs]; rfl
 ·refine jd fun x hx => ?_
  refine jd fun x hx => ?_
  rw [Int.add_zero]
  refine jd fun x hx => ?_
  have := Jv hx
  rw [List.length_nil] at this
  refine jd fun x hx => ?_
  rw [hb _ _ _ _ _ (.inr rfl), this]
  simp only [ba, bs]; rfl
 ·by_cases c : n.text = e0
  ·rw [if_pos c, if_neg (by rw [decide_eq_true c]; decide)]; rfl
  ·rw [if_neg c, if_pos (by rw [decide_eq_false c]; rfl)]
   simp only [run, ba, bs]
 ·by_cases c : n.kids.length = 0
  ·rw [if_pos c, if_neg (by rw [List.length_map, decide_eq_true_eq]; omega)]; rfl
  ·rw [if_neg c, if_pos (by rw [List.length_map]; exact decide_eq_true (by omega))]
   simp only [run, ba, bs]
/-- The walk of a node. -/
theorem walk_T (n : Node) (s : (BA × List UInt8)) (l : BA) (v : Int) (hk : known n.kind = true) (h0 : 0 ≤ v) (h1 : v ≤ 100000) :
 nodeT s n l v = run (ownG emitT n) (kidG nodeT n) (stepsOf 0 n.kind n.text n.kids.length l v) s [] [] >>= fun x => some (Node.mk n.kind n.text x.2.1 x.2.2, x.1) := by
 rw [nodeT, F_nodeT.eq_def]
 simp only [qa, group_eq hk, bs]
 by_cases c3 : jm n.kind = 3
 ·rw [if_pos (decide_eq_true c3), expr_T _ _ _ _ _ _ _ c3]
  simp only [F_nodeT_t23.eq_def, ba, bs]; rfl
 ·rw [if_neg (by rw [decide_eq_true_eq]; exact c3)]
  by_cases c2 : jm n.kind = 2
  ·rw [if_pos (decide_eq_true c2), stmt_T _ _ _ _ _ _ _ c2]
   simp only [F_nodeT_t23.eq_def, F_nodeT_t30.eq_def, ba, bs]; rfl
  ·rw [if_neg (by rw [decide_eq_true_eq]; exact c2), other_T _ _ _ _ _ _ _ hk h0 h1 c3 c2]
   simp only [F_nodeT_t23.eq_def, F_nodeT_t30.eq_def, ba, bs]; rfl
end Go.Proofs.YtimcdpioclioiaaGreatDoorW.Ex.Gr
