/- The walk of print's methods along the steps of a node (instance L). Conditions: those in each theorem. -/
import Derived.Test.YtimcdpioclioiaaGreatDoorHT
namespace Go.Proofs.YtimcdpioclioiaaGreatDoorW.Ex.Gr
open Go Go.Proofs.YtimcdpioclioiaaGreatDoorW.Ex
set_option linter.all false
set_option maxRecDepth 100000
def emitL (s : Unit) (g w : BA) : Option Unit := F_print_Layout_1 g w
def nodeL (s : Unit) (n : Node) (l : BA) (v : Int) : Option (Node × Unit) := F_nodeL n l v >>= fun x => some (x, ())
def ownL (n : Node) : Unit → List BA → BA → BA → Option (Unit × List BA) := ownG emitL n
def kidL (n : Node) : Unit → List Node → BA → Int → Option (Unit × List Node) := kidG nodeL n
theorem Jq (n : Node) (k : Int) (t : BA) (g : List BA) (ks : List Node) (v : Int) (c w : BA) : F_ownL  n k t g ks v c w = ownL n () g c w >>= fun x => some x.2 := by
 rw [F_ownL.eq_def, ownL, ownG]
 rcases Yt n.gaps g.length c with ⟨x, e1, e2⟩ | ⟨e1, e3, e2⟩
 ·have h : g.length < n.gaps.length := by
   rcases Nat.lt_or_ge g.length n.gaps.length with h | h
   ·exact h
   ·rw [List.drop_of_length_le h] at e1; cases e1
  have hx : n.gaps[g.length]? = some x := by
   rw [List.drop_eq_getElem_cons h] at e1
   rw [List.getElem?_eq_getElem h]; simp only [List.cons.injEq] at e1; rw [e1.1]
  rw [e2, if_pos (by rw [List.length_map]; exact decide_eq_true (by omega)), J0, hx, bs, F_ownL_t22.eq_def]
  simp only [emitL, ba, bs]
 ·have h : ¬ g.length < n.gaps.length := by
   intro h
   rw [List.drop_eq_getElem_cons h] at e1; cases e1
  rw [e2, if_neg (by rw [List.length_map, decide_eq_true_eq]; omega), F_ownL_t22.eq_def]
  simp only [emitL, ba, bs]
theorem Jz (n : Node) (k : Int) (t : BA) (g : List BA) (ks : List Node) (v : Int) (l : BA) : F_kidL  n k t g ks v l = kidL n () ks l v >>= fun x => some x.2 := by
 rw [F_kidL.eq_def, kidL, kidG]
 simp only [nodeL, qa, ba, bs]
theorem Jw {n : Node} {s : Unit} {ks : List Node} {l : BA} {v : Int} {x : Unit × List Node} (h : kidL n s ks l v = some x) : x.2.length = ks.length + 1 := kidG_len h
abbrev runL (n : Node) := run (ownL n) (kidL n)
theorem rest_L (n : Node) (k : Int) (t : BA) (v : Int) : ∀ (r : Nat) (b : Bool) (g : List BA) (ks : List Node), n.kids.length - ks.length = r →
 F_restL_l0 b n k t g ks v  = runL n (jf v b r) () g ks >>= fun x => some (x.2.1, x.2.2)
 | 0, b, g, ks, h => by
   rw [F_restL_l0.eq_def]
   simp only [qa]
   rw [if_neg (by rw [List.length_map, decide_eq_true_eq]; omega), Jq]
   cases b <;> simp only [runL, jf, run, ba, bs]
 | r + 1, true, g, ks, h => by
   rw [F_restL_l0.eq_def]
   simp only [qa]
   rw [if_pos (by rw [List.length_map]; exact decide_eq_true (by omega)), if_pos trivial, Jz]
   simp only [runL, jf, run, ba, bs]
   refine jd fun x hx => ?_
   have := Jw hx
   rw [F_restL_b1.eq_def]
   simp only [qa]
   exact rest_L n k t v r false g x.2 (by omega)
 | r + 1, false, g, ks, h => by
   rw [F_restL_l0.eq_def]
   simp only [qa]
   rw [if_pos (by rw [List.length_map]; exact decide_eq_true (by omega)), if_neg (by decide), Jq]
   simp only [runL, jf, run, ba, bs]
   refine jd fun y hy => ?_
   rw [Jz]
   simp only [ba, bs]
   refine jd fun x hx => ?_
   have := Jw hx
   rw [F_restL_b1.eq_def]
   simp only [qa]
   exact rest_L n k t v r false y.2 x.2 (by omega)
theorem all_L (n : Node) (k : Int) (t : BA) (v : Int) (g : List BA) : ∀ (l : List Node) (ks : List Node),
 F_statementL_l0 l n k t g ks v  = runL n (allS sp v l.length) () g ks >>= fun x => some (x.2.1, x.2.2)
 | [], ks => by rw [F_statementL_l0.eq_def]; rfl
 | m :: l, ks => by
   rw [F_statementL_l0.eq_def]
   simp only [qa, List.length_cons]
   rw [Jz]
   simp only [runL, allS, run, ba, bs]
   refine jd fun x hx => ?_
   exact all_L n k t v g l x.2
theorem body_L (n : Node) (k : Int) (t : BA) (v : Int) (h0 : 0 ≤ v) (h1 : v ≤ 100000) (f : Nat) : ∀ (r : Nat) (g : List BA) (ks : List Node), n.kids.length - ks.length = r →
 F_bodyL_l0 (f : Int) n k t g ks (v + 1)  = runL n (ke v f n.kids.length r) () g ks >>= fun x => some (x.2.1, x.2.2, v)
 | 0, g, ks, h => by
   rw [F_bodyL_l0.eq_def]
   simp only [qa]
   rw [if_neg (by rw [List.length_map, decide_eq_true_eq]; omega), zr (by omega) (by omega), show v + 1 - 1 = v by omega, List.length_map]
   by_cases c : f < n.kids.length
   ·rw [if_pos (decide_eq_true (by omega)), Ys v h0 (by omega), bs, Jq, ke, Za, if_pos c]
    simp only [runL, allS, List.nil_append, run, ba, bs]
   ·rw [if_neg (by rw [decide_eq_true_eq]; omega), Jq, ke, Za, if_neg c]
    simp only [runL, allS, List.nil_append, run, ba, bs]
 | r + 1, g, ks, h => by
   rw [F_bodyL_l0.eq_def]
   simp only [qa]
   rw [if_pos (by rw [List.length_map]; exact decide_eq_true (by omega)), Ys (v + 1) (by omega) (by omega), bs, Jz]
   simp only [runL, ke, allS, List.cons_append, run, ba, bs]
   refine jd fun x hx => ?_
   have := Jw hx
   exact body_L n k t v h0 h1 f r g x.2 (by omega)
theorem file_L (n : Node) (k : Int) (t : BA) (v : Int) (g : List BA) : ∀ (l : List Node) (j : Nat) (t1 l1 : BA) (ks : List Node), l1 = (if 0 < j then ⟨#[10, 10]⟩ else t1) → (l ≠ [] → 0 < n.kids.length) →
 F_otherL_l0 l j t1 n k t g ks v  = runL n (yj v l1 l.length ++ [.own (yt t1 n.kids.length) e0]) () g ks >>= fun x => some (x.2.1, x.2.2, v)
 | [], j, t1, l1, ks, h, hn => by
   rw [F_otherL_l0.eq_def]
   simp only [qa]
   by_cases c : 0 < n.kids.length
   ·rw [if_pos (by rw [List.length_map]; exact decide_eq_true (by omega)), F_otherL_t33.eq_def, Jq, yt, if_pos c]
    simp only [runL, yj, List.length_nil, List.nil_append, run, ba, bs]
   ·rw [if_neg (by rw [List.length_map, decide_eq_true_eq]; omega), F_otherL_t33.eq_def, Jq, yt, if_neg c]
    simp only [runL, yj, List.length_nil, List.nil_append, run, ba, bs]
 | m :: l, j, t1, l1, ks, h, hn => by
   have hp := hn (by simp)
   have fe : ∀ a b : BA, yt a n.kids.length = yt b n.kids.length := fun a b => by rw [yt, yt, if_pos hp, if_pos hp]
   rw [F_otherL_l0.eq_def]
   simp only [qa, List.length_cons]
   by_cases c : 0 < j
   ·rw [if_pos c] at h
    rw [if_pos (decide_eq_true (by omega)), F_otherL_t22.eq_def]
    simp only [qa]
    rw [Jz, ← h, yj, List.cons_append, runL, run]
    simp only [ba, bs]
    refine jd fun x hx => ?_
    rw [fe t1 l1]
    exact file_L n k t v g l (j + 1) l1 ⟨#[10, 10]⟩ x.2 (by rw [if_pos (by omega)]) (fun _ => hp)
   ·rw [if_neg c] at h
    rw [if_neg (by rw [decide_eq_true_eq]; omega), F_otherL_t22.eq_def]
    simp only [qa]
    rw [Jz, ← h, yj, List.cons_append, runL, run]
    simp only [ba, bs]
    refine jd fun x hx => ?_
    rw [h]
    exact file_L n k t v g l (j + 1) t1 ⟨#[10, 10]⟩ x.2 (by rw [if_pos (by omega)]) (fun _ => hp)
theorem rest0_L (n : Node) (k : Int) (t : BA) (v : Int) (g : List BA) (ks : List Node) : F_restL  n k t g ks v = runL n (jf v true (n.kids.length - ks.length)) () g ks >>= fun x => some (x.2.1, x.2.2) := by
 rw [F_restL.eq_def]; exact rest_L n k t v _ true  g ks rfl
theorem named_L (n : Node) (k : Int) (t : BA) (g : List BA) (ks : List Node) (v : Int) (l w : BA) : F_namedL  n k t g ks v l w = runL n (wl w n.text l v) () g ks >>= fun x => some (x.2.1, x.2.2) := by
 rw [F_namedL.eq_def]
 simp only [qa, Jq, Jz, runL, wl, run, ba, bs]
theorem body0_L (n : Node) (k : Int) (t : BA) (g : List BA) (ks : List Node) (v : Int) (h0 : 0 ≤ v) (h1 : v ≤ 100000) (f : Nat) : F_bodyL  n k t g ks v (f : Int) = runL n (ke v f n.kids.length (n.kids.length - ks.length)) () g ks >>= fun x => some (x.2.1, x.2.2, v) := by
 rw [F_bodyL.eq_def]
 simp only [qa]
 rw [zr (by omega) (by omega)]
 exact body_L n k t v h0 h1 f _  g ks rfl
theorem expr_L (n : Node) (k : Int) (t : BA) (v : Int) (l : BA) (hg : jm n.kind = 3) : F_expressionL  n k t [] [] v l = runL n (stepsOf 0 n.kind n.text n.kids.length l v) () [] [] >>= fun x => some (x.2.1, x.2.2) := by
 rw [F_expressionL.eq_def]
 simp only [qa]
 generalize hk : n.kind = kd at hg ⊢
 have : kd = 17 ∨ kd = 18 ∨ kd = 19 ∨ kd = 20 ∨ kd = 21 ∨ kd = 22 ∨ kd = 23 ∨ kd = 24 ∨ kd = 25 ∨ kd = 26 := by
  unfold jm at hg; split at hg <;> (try split at hg) <;> (try split at hg) <;> omega
 rcases this with rfl | rfl | rfl | rfl | rfl | rfl | rfl | rfl | rfl | rfl <;> simp only [stepsOf, Int.reduceEq, decide_false, decide_true, ite_true, ite_false, Bool.false_eq_true, reduceCtorEq, yh, yq] <;>
  simp only [Jq, Jz, rest0_L, runL, run, ba, bs, List.length_nil, Nat.sub_zero]
 refine jd fun x hx => ?_
 have := Jw hx
 rw [List.length_nil] at this
 simp only [Jq, Jz, rest0_L, runL, run, ba, bs, this]
theorem stmt_L (n : Node) (k : Int) (t : BA) (v : Int) (l : BA) (hg : jm n.kind = 2) : F_statementL  n k t [] [] v l = runL n (stepsOf 0 n.kind n.text n.kids.length l v) () [] [] >>= fun x => some (x.2.1, x.2.2) := by
 rw [F_statementL.eq_def]
 simp only [qa]
 generalize hk : n.kind = kd at hg ⊢
 have : kd = 10 ∨ kd = 11 ∨ kd = 12 ∨ kd = 13 ∨ kd = 15 ∨ kd = 16 := by
  unfold jm at hg; split at hg <;> (try split at hg) <;> (try split at hg) <;> omega
 rcases this with rfl | rfl | rfl | rfl | rfl | rfl <;> simp only [stepsOf, Int.reduceEq, decide_false, decide_true, ite_true, ite_false, Bool.false_eq_true, reduceCtorEq, yh, yq] <;>
  (try rw [F_statementL_t53.eq_def]) <;>
  simp only [qa, Jq, Jz, all_L, named_L, runL, run, ba, bs, List.length_nil, Nat.sub_zero]
theorem other_L (n : Node) (k : Int) (t : BA) (v : Int) (l : BA) (hk : known n.kind = true) (h0 : 0 ≤ v) (h1 : v ≤ 100000) (hg3 : jm n.kind ≠ 3) (hg2 : jm n.kind ≠ 2) : F_otherL  n k t [] [] v l = runL n (stepsOf 0 n.kind n.text n.kids.length l v) () [] [] >>= fun x => some (x.2.1, x.2.2, v) := by
 rw [F_otherL.eq_def]
 simp only [qa]
 have hb : ∀ (g : List BA) (ks : List Node) (f : Int), f = 0 ∨ f = 1 → F_bodyL  n k t g ks v f = runL n (ke v f.toNat n.kids.length (n.kids.length - ks.length)) () g ks >>= fun x => some (x.2.1, x.2.2, v) := by
  intro  g ks f hf
  rcases hf with rfl | rfl
  ·exact body0_L  n k t g ks v h0 h1 0
  ·exact body0_L  n k t g ks v h0 h1 1
 generalize hkd : n.kind = kd at hk hg3 hg2 ⊢
 have : kd = 1 ∨ kd = 2 ∨ kd = 3 ∨ kd = 4 ∨ kd = 5 ∨ kd = 6 ∨ kd = 7 ∨ kd = 8 ∨ kd = 9 ∨ kd = 14 := by
  unfold known at hk; unfold jm at hg3 hg2
  simp only [Bool.and_eq_true, decide_eq_true_eq] at hk
  split at hg3 <;> (try split at hg3) <;> (try split at hg3) <;> omega
 rcases this with rfl | rfl | rfl | rfl | rfl | rfl | rfl | rfl | rfl | rfl <;> simp only [stepsOf, Int.reduceEq, decide_false, decide_true, ite_true, ite_false, Bool.false_eq_true, reduceCtorEq, yh, yq] <;>
  simp only [Jq, Jz, rest0_L, named_L, runL, run, ba, bs, List.length_nil, Nat.sub_zero]
 ·rw [file_L n k t v [] n.kids 0 l l [] (by rfl) (fun h => List.length_pos_iff.2 h)]
 ·refine jd fun x hx => ?_
  rw [hb _ _ _ (.inl rfl)]
  simp only [ba, bs]; rfl
 ·refine jd fun x hx => ?_
  refine jd fun x hx => ?_
  rw [Int.add_zero]
  refine jd fun x hx => ?_
  have := Jw hx
  rw [List.length_nil] at this
  refine jd fun x hx => ?_
  rw [hb _ _ _ (.inr rfl), this]
  simp only [ba, bs]; rfl
 ·by_cases c : n.text = e0
  ·rw [if_pos c, if_neg (by rw [decide_eq_true c]; decide)]; rfl
  ·rw [if_neg c, if_pos (by rw [decide_eq_false c]; rfl)]
   simp only [run, ba, bs]
 ·by_cases c : n.kids.length = 0
  ·rw [if_pos c, if_neg (by rw [List.length_map, decide_eq_true_eq]; omega)]; rfl
  ·rw [if_neg c, if_pos (by rw [List.length_map]; exact decide_eq_true (by omega))]
   simp only [run, ba, bs]
/-- The walk of a node. -/
theorem walk_L (n : Node) (s : Unit) (l : BA) (v : Int) (hk : known n.kind = true) (h0 : 0 ≤ v) (h1 : v ≤ 100000) :
 nodeL s n l v = run (ownG emitL n) (kidG nodeL n) (stepsOf 0 n.kind n.text n.kids.length l v) s [] [] >>= fun x => some (Node.mk n.kind n.text x.2.1 x.2.2, x.1) := by
 rw [nodeL, F_nodeL.eq_def]
 simp only [qa, group_eq hk, bs]
 by_cases c3 : jm n.kind = 3
 ·rw [if_pos (decide_eq_true c3), expr_L _ _ _ _ _ c3]
  simp only [F_nodeL_t23.eq_def, ba, bs]; rfl
 ·rw [if_neg (by rw [decide_eq_true_eq]; exact c3)]
  by_cases c2 : jm n.kind = 2
  ·rw [if_pos (decide_eq_true c2), stmt_L _ _ _ _ _ c2]
   simp only [F_nodeL_t23.eq_def, F_nodeL_t30.eq_def, ba, bs]; rfl
  ·rw [if_neg (by rw [decide_eq_true_eq]; exact c2), other_L _ _ _ _ _ hk h0 h1 c3 c2]
   simp only [F_nodeL_t23.eq_def, F_nodeL_t30.eq_def, ba, bs]; rfl
end Go.Proofs.YtimcdpioclioiaaGreatDoorW.Ex.Gr
