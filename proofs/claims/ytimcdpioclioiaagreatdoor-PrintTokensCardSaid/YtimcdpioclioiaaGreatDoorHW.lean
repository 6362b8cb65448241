/- Lines and groups of kinds, as print uses them. Conditions: those in each theorem. The walk of print's methods along the steps of a node (instance W). Conditions: those in each theorem. -/
import Derived.Test.YtimcdpioclioiaaGreatDoorXTb
import Derived.Test.YtimcdpioclioiaaGreatDoorYa
namespace Go.Proofs.YtimcdpioclioiaaGreatDoorW.Ex.Gr
open Go Go.Proofs.YtimcdpioclioiaaGreatDoorW.Ex
set_option linter.all false
set_option maxRecDepth 100000
theorem repeatL_one (c : UInt8) : ∀ n : Nat, Lib.repeatL [c] n = List.replicate n c
 | 0 => rfl
 | n + 1 => by rw [Lib.repeatL, repeatL_one c n]; rfl
theorem cat_ok {a b : BA} (h : a.size + b.size ≤ 1000000000000) : cat a b = some (a ++ b) := by unfold cat; rw [if_pos (by omega)]
theorem mkBA_append (a b : List UInt8) : ((⟨a.toArray⟩ : BA) ++ (⟨b.toArray⟩ : BA)) = ⟨(a ++ b).toArray⟩ := by
 apply ByteArray.ext
 rw [ByteArray.data_append, List.append_toArray]
theorem Ys (v : Int) (h0 : 0 ≤ v) (h1 : v ≤ 1000000) : F_print_line v = some (lineP v) := by
 have e : F_strings_Repeat (⟨#[9]⟩ : BA) v = some (⟨(List.replicate v.toNat 9).toArray⟩ : BA) := by
  unfold F_strings_Repeat
  rw [if_pos ⟨h0, by omega, by show (1 : Nat) * v.toNat ≤ _; omega⟩]
  rw [show (⟨#[9]⟩ : BA).data.toList = [9] from rfl, repeatL_one]
 rw [F_print_line.eq_def, e, bs, cat_ok, bs]
 ·exact congrArg some (mkBA_append [10] (List.replicate v.toNat 9))
 ·show (1 : Nat) + (List.replicate v.toNat 9).toArray.size ≤ _
  rw [List.size_toArray, List.length_replicate]; omega
theorem group_eq {k : Int} (h : known k = true) : F_grammar_Group k = some (jm k) := by
 unfold known at h
 simp only [Bool.and_eq_true, decide_eq_true_eq] at h
 have : k = 1 ∨ k = 2 ∨ k = 3 ∨ k = 4 ∨ k = 5 ∨ k = 6 ∨ k = 7 ∨ k = 8 ∨ k = 9 ∨ k = 10 ∨ k = 11 ∨ k = 12 ∨ k = 13 ∨ k = 14 ∨ k = 15 ∨ k = 16 ∨ k = 17 ∨ k = 18 ∨ k = 19 ∨ k = 20 ∨ k = 21 ∨ k = 22 ∨ k = 23 ∨ k = 24 ∨ k = 25 ∨ k = 26 := by omega
 rcases this with rfl | rfl | rfl | rfl | rfl | rfl | rfl | rfl | rfl | rfl | rfl | rfl | rfl | rfl | rfl | rfl | rfl | rfl | rfl | rfl | rfl | rfl | rfl | rfl | rfl | rfl <;> rfl
end Go.Proofs.YtimcdpioclioiaaGreatDoorW.Ex.Gr

namespace Go.Proofs.YtimcdpioclioiaaGreatDoorW.Ex.Gr
open Go Go.Proofs.YtimcdpioclioiaaGreatDoorW.Ex
set_option linter.all false
set_option maxRecDepth 100000
def emitW (s : List BA) (g w : BA) : Option (List BA) := F_emitW g w s
def nodeW (s : List BA) (n : Node) (l : BA) (v : Int) : Option (Node × List BA) := F_nodeW s n l v
def ownW (n : Node) : List BA → List BA → BA → BA → Option (List BA × List BA) := ownG emitW n
def kidW (n : Node) : List BA → List Node → BA → Int → Option (List BA × List Node) := kidG nodeW n
theorem Jo (s : List BA) (n : Node) (k : Int) (t : BA) (g : List BA) (ks : List Node) (v : Int) (c w : BA) : F_ownW s n k t g ks v c w = ownW n s g c w >>= fun x => some (x.1, x.2) := by
 rw [F_ownW.eq_def, ownW, ownG]
 rcases Yt n.gaps g.length c with ⟨x, e1, e2⟩ | ⟨e1, e3, e2⟩
 ·have h : g.length < n.gaps.length := by
   rcases Nat.lt_or_ge g.length n.gaps.length with h | h
   ·exact h
   ·rw [List.drop_of_length_le h] at e1; cases e1
  have hx : n.gaps[g.length]? = some x := by
   rw [List.drop_eq_getElem_cons h] at e1
   rw [List.getElem?_eq_getElem h]; simp only [List.cons.injEq] at e1; rw [e1.1]
  rw [e2, if_pos (by rw [List.length_map]; exact decide_eq_true (by omega)), J0, hx, bs, F_ownW_t22.eq_def]
  simp only [emitW, ba, bs]
 ·have h : ¬ g.length < n.gaps.length := by
   intro h
   rw [List.drop_eq_getElem_cons h] at e1; cases e1
  rw [e2, if_neg (by rw [List.length_map, decide_eq_true_eq]; omega), F_ownW_t22.eq_def]
  simp only [emitW, ba, bs]
theorem Jx (s : List BA) (n : Node) (k : Int) (t : BA) (g : List BA) (ks : List Node) (v : Int) (l : BA) : F_kidW s n k t g ks v l = kidW n s ks l v >>= fun x => some (x.1, x.2) := by
 rw [F_kidW.eq_def, kidW, kidG]
 simp only [nodeW, qa, ba, bs]
theorem Ju {n : Node} {s : List BA} {ks : List Node} {l : BA} {v : Int} {x : List BA × List Node} (h : kidW n s ks l v = some x) : x.2.length = ks.length + 1 := kidG_len h
abbrev runW (n : Node) := run (ownW n) (kidW n)
theorem rest_W (n : Node) (k : Int) (t : BA) (v : Int) : ∀ (r : Nat) (b : Bool) (s : List BA) (g : List BA) (ks : List Node), n.kids.length - ks.length = r →
 F_restW_l0 b n k t g ks v s = runW n (jf v b r) s g ks >>= fun x => some (x.1, x.2.1, x.2.2)
 | 0, b, s, g, ks, h => by
   rw [F_restW_l0.eq_def]
   simp only [qa]
   rw [if_neg (by rw [List.length_map, decide_eq_true_eq]; omega), Jo]
   cases b <;> simp only [runW, jf, run, ba, bs]
 | r + 1, true, s, g, ks, h => by
   rw [F_restW_l0.eq_def]
   simp only [qa]
   rw [if_pos (by rw [List.length_map]; exact decide_eq_true (by omega)), if_pos trivial, Jx]
   simp only [runW, jf, run, ba, bs]
   refine jd fun x hx => ?_
   have := Ju hx
   rw [F_restW_b1.eq_def]
   simp only [qa]
   exact rest_W n k t v r false x.1 g x.2 (by omega)
 | r + 1, false, s, g, ks, h => by
   rw [F_restW_l0.eq_def]
   simp only [qa]
   rw [if_pos (by rw [List.length_map]; exact decide_eq_true (by omega)), if_neg (by decide), Jo]
   simp only [runW, jf, run, ba, bs]
   refine jd fun y hy => ?_
   rw [Jx]
   simp only [ba, bs]
   refine jd fun x hx => ?_
   have := Ju hx
   rw [F_restW_b1.eq_def]
   simp only [qa]
   exact rest_W n k t v r false x.1 y.2 x.2 (by omega)
theorem all_W (n : Node) (k : Int) (t : BA) (v : Int) (g : List BA) : ∀ (l : List Node) (s : List BA) (ks : List Node),
 F_statementW_l0 l n k t g ks v s = runW n (allS sp v l.length) s g ks >>= fun x => some (x.1, x.2.1, x.2.2)
 | [], s, ks => by rw [F_statementW_l0.eq_def]; rfl
 | m :: l, s, ks => by
   rw [F_statementW_l0.eq_def]
   simp only [qa, List.length_cons]
   rw [Jx]
   simp only [runW, allS, run, ba, bs]
   refine jd fun x hx => ?_
   exact all_W n k t v g l x.1 x.2
theorem body_W (n : Node) (k : Int) (t : BA) (v : Int) (h0 : 0 ≤ v) (h1 : v ≤ 100000) (f : Nat) : ∀ (r : Nat) (s : List BA) (g : List BA) (ks : List Node), n.kids.length - ks.length = r →
 F_bodyW_l0 (f : Int) n k t g ks (v + 1) s = runW n (ke v f n.kids.length r) s g ks >>= fun x => some (x.1, x.2.1, x.2.2, v)
 | 0, s, g, ks, h => by
   rw [F_bodyW_l0.eq_def]
   simp only [qa]
   rw [if_neg (by rw [List.length_map, decide_eq_true_eq]; omega), zr (by omega) (by omega), show v + 1 - 1 = v by omega, List.length_map]
   by_cases c : f < n.kids.length
   ·rw [if_pos (decide_eq_true (by omega)), Ys v h0 (by omega), bs, Jo, ke, Za, if_pos c]
    simp only [runW, allS, List.nil_append, run, ba, bs]
   ·rw [if_neg (by rw [decide_eq_true_eq]; omega), Jo, ke, Za, if_neg c]
    simp only [runW, allS, List.nil_append, run, ba, bs]
 | r + 1, s, g, ks, h => by
   rw [F_bodyW_l0.eq_def]
   simp only [qa]
   rw [if_pos (by rw [List.length_map]; exact decide_eq_true (by omega)), Ys (v + 1) (by omega) (by omega), bs, Jx]
   simp only [runW, ke, allS, List.cons_append, run, ba, bs]
   refine jd fun x hx => ?_
   have := Ju hx
   exact body_W n k t v h0 h1 f r x.1 g x.2 (by omega)
theorem file_W (n : Node) (k : Int) (t : BA) (v : Int) (g : List BA) : ∀ (l : List Node) (j : Nat) (t1 l1 : BA) (s : List BA) (ks : List Node), l1 = (if 0 < j then ⟨#[10, 10]⟩ else t1) → (l ≠ [] → 0 < n.kids.length) →
 F_otherW_l0 l j t1 n k t g ks v s = runW n (yj v l1 l.length ++ [.own (yt t1 n.kids.length) e0]) s g ks >>= fun x => some (x.1, x.2.1, x.2.2, v)
 | [], j, t1, l1, s, ks, h, hn => by
   rw [F_otherW_l0.eq_def]
   simp only [qa]
   by_cases c : 0 < n.kids.length
   ·rw [if_pos (by rw [List.length_map]; exact decide_eq_true (by omega)), F_otherW_t33.eq_def, Jo, yt, if_pos c]
    simp only [runW, yj, List.length_nil, List.nil_append, run, ba, bs]
   ·rw [if_neg (by rw [List.length_map, decide_eq_true_eq]; omega), F_otherW_t33.eq_def, Jo, yt, if_neg c]
    simp only [runW, yj, List.length_nil, List.nil_append, run, ba, bs]
 | m :: l, j, t1, l1, s, ks, h, hn => by
   have hp := hn (by simp)
   have fe : ∀ a b : BA, yt a n.kids.length = yt b n.kids.length := fun a b => by rw [yt, yt, if_pos hp, if_pos hp]
   rw [F_otherW_l0.eq_def]
   simp only [qa, List.length_cons]
   by_cases c : 0 < j
   ·rw [if_pos c] at h
    rw [if_pos (decide_eq_true (by omega)), F_otherW_t22.eq_def]
    simp only [qa]
    rw [Jx, ← h, yj, List.cons_append, runW, run]
    simp only [ba, bs]
    refine jd fun x hx => ?_
    rw [fe t1 l1]
    exact file_W n k t v g l (j + 1) l1 ⟨#[10, 10]⟩ x.1 x.2 (by rw [if_pos (by omega)]) (fun _ => hp)
   ·rw [if_neg c] at h
    rw [if_neg (by rw [decide_eq_true_eq]; omega), F_otherW_t22.eq_def]
    simp only [qa]
    rw [Jx, ← h, yj, List.cons_append, runW, run]
    simp only [ba, bs]
    refine jd fun x hx => ?_
    rw [h]
    exact file_W n k t v g l (j + 1) t1 ⟨#[10, 10]⟩ x.1 x.2 (by rw [if_pos (by omega)]) (fun _ => hp)
theorem rest0_W (n : Node) (k : Int) (t : BA) (v : Int) (s : List BA) (g : List BA) (ks : List Node) : F_restW s n k t g ks v = runW n (jf v true (n.kids.length - ks.length)) s g ks >>= fun x => some (x.1, x.2.1, x.2.2) := by
 rw [F_restW.eq_def]; exact rest_W n k t v _ true s g ks rfl
theorem named_W (s : List BA) (n : Node) (k : Int) (t : BA) (g : List BA) (ks : List Node) (v : Int) (l w : BA) : F_namedW s n k t g ks v l w = runW n (wl w n.text l v) s g ks >>= fun x => some (x.1, x.2.1, x.2.2) := by
 rw [F_namedW.eq_def]
 simp only [qa, Jo, Jx, runW, wl, run, ba, bs]
theorem body0_W (s : List BA) (n : Node) (k : Int) (t : BA) (g : List BA) (ks : List Node) (v : Int) (h0 : 0 ≤ v) (h1 : v ≤ 100000) (f : Nat) : F_bodyW s n k t g ks v (f : Int) = runW n (ke v f n.kids.length (n.kids.length - ks.length)) s g ks >>= fun x => some (x.1, x.2.1, x.2.2, v) := by
 rw [F_bodyW.eq_def]
 simp only [qa]
 rw [zr (by omega) (by omega)]
 exact body_W n k t v h0 h1 f _ s g ks rfl
theorem expr_W (s : List BA) (n : Node) (k : Int) (t : BA) (v : Int) (l : BA) (hg : jm n.kind = 3) : F_expressionW s n k t [] [] v l = runW n (stepsOf 0 n.kind n.text n.kids.length l v) s [] [] >>= fun x => some (x.1, x.2.1, x.2.2) := by
 rw [F_expressionW.eq_def]
 simp only [qa]
 generalize hk : n.kind = kd at hg ⊢
 have : kd = 17 ∨ kd = 18 ∨ kd = 19 ∨ kd = 20 ∨ kd = 21 ∨ kd = 22 ∨ kd = 23 ∨ kd = 24 ∨ kd = 25 ∨ kd = 26 := by
  unfold jm at hg; split at hg <;> (try split at hg) <;> (try split at hg) <;> omega
 rcases this with rfl | rfl | rfl | rfl | rfl | rfl | rfl | rfl | rfl | rfl <;> simp only [stepsOf, Int.reduceEq, decide_false, decide_true, ite_true, ite_false, Bool.false_eq_true, reduceCtorEq, yh, yq] <;>
  simp only [Jo, Jx, rest0_W, runW, run, ba, bs, List.length_nil, Nat.sub_zero]
 refine jd fun x hx => ?_
 have := Ju hx
 rw [List.length_nil] at this
 simp only [Jo, Jx, rest0_W, runW, run, ba, bs, this]
theorem stmt_W (s : List BA) (n : Node) (k : Int) (t : BA) (v : Int) (l : BA) (hg : jm n.kind = 2) : F_statementW s n k t [] [] v l = runW n (stepsOf 0 n.kind n.text n.kids.length l v) s [] [] >>= fun x => some (x.1, x.2.1, x.2.2) := by
 rw [F_statementW.eq_def]
 simp only [qa]
 generalize hk : n.kind = kd at hg ⊢
 have : kd = 10 ∨ kd = 11 ∨ kd = 12 ∨ kd = 13 ∨ kd = 15 ∨ kd = 16 := by
  unfold jm at hg; split at hg <;> (try split at hg) <;> (try split at hg) <;> omega
 rcases this with rfl | rfl | rfl | rfl | rfl | rfl <;> simp only [stepsOf, Int.reduceEq, decide_false, decide_true, ite_true, ite_false, Bool.false_eq_true, reduceCtorEq, yh, yq] <;>
  (try rw [F_statementW_t53.eq_def]) <;>
  simp only [qa, Jo, Jx, all_W, named_W, runW, run, ba, bs, List.length_nil, Nat.sub_zero]
theorem other_W (s : List BA) (n : Node) (k : Int) (t : BA) (v : Int) (l : BA) (hk : known n.kind = true) (h0 : 0 ≤ v) (h1 : v ≤ 100000) (hg3 : jm n.kind ≠ 3) (hg2 : jm n.kind ≠ 2) : F_otherW s n k t [] [] v l = runW n (stepsOf 0 n.kind n.text n.kids.length l v) s [] [] >>= fun x => some (x.1, x.2.1, x.2.2, v) := by
 rw [F_otherW.eq_def]
 simp only [qa]
 have hb : ∀ (s : List BA) (g : List BA) (ks : List Node) (f : Int), f = 0 ∨ f = 1 → F_bodyW s n k t g ks v f = runW n (ke v f.toNat n.kids.length (n.kids.length - ks.length)) s g ks >>= fun x => some (x.1, x.2.1, x.2.2, v) := by
  intro s  g ks f hf
  rcases hf with rfl | rfl
  ·exact body0_W s n k t g ks v h0 h1 0
  ·exact body0_W s n k t g ks v h0 h1 1
 generalize hkd : n.kind = kd at hk hg3 hg2 ⊢
 have : kd = 1 ∨ kd = 2 ∨ kd = 3 ∨ kd = 4 ∨ kd = 5 ∨ kd = 6 ∨ kd = 7 ∨ kd = 8 ∨ kd = 9 ∨ kd = 14 := by
  unfold known at hk; unfold jm at hg3 hg2
  simp only [Bool.and_eq_true, decide_eq_true_eq] at hk
  split at hg3 <;> (try split at hg3) <;> (try split at hg3) <;> omega
 rcases this with rfl | rfl | rfl | rfl | rfl | rfl | rfl | rfl | rfl | rfl <;> simp only [stepsOf, Int.reduceEq, decide_false, decide_true, ite_true, ite_false, Bool.false_eq_true, reduceCtorEq, yh, yq] <;>
  simp only [Jo, Jx, rest0_W, named_W, runW, run, ba, bs, List.length_nil, Nat.sub_zero]
 ·rw [file_W n k t v [] n.kids 0 l l s [] (by rfl) (fun h => List.length_pos_iff.2 h)]
 ·refine jd fun x hx => ?_
  rw [hb _ _ _ _ (.inl rfl)]
  simp only [ba, bs]; rfl
 ·refine jd fun x hx => ?_
  refine jd fun x hx => ?_
  rw [Int.add_zero]
  refine jd fun x hx => ?_
  have := Ju hx
  rw [List.length_nil] at this
  refine jd fun x hx => ?_
  rw [hb _ _ _ _ (.inr rfl), this]
  simp only [ba, bs]; rfl
 ·by_cases c : n.text = e0
  ·rw [if_pos c, if_neg (by rw [decide_eq_true c]; decide)]; rfl
  ·rw [if_neg c, if_pos (by rw [decide_eq_false c]; rfl)]
   simp only [run, ba, bs]
 ·by_cases c : n.kids.length = 0
  ·rw [if_pos c, if_neg (by rw [List.length_map, decide_eq_true_eq]; omega)]; rfl
  ·rw [if_neg c, if_pos (by rw [List.length_map]; exact decide_eq_true (by omega))]
   simp only [run, ba, bs]
/-- The walk of a node. -/
theorem walk_W (n : Node) (s : List BA) (l : BA) (v : Int) (hk : known n.kind = true) (h0 : 0 ≤ v) (h1 : v ≤ 100000) :
 nodeW s n l v = run (ownG emitW n) (kidG nodeW n) (stepsOf 0 n.kind n.text n.kids.length l v) s [] [] >>= fun x => some (Node.mk n.kind n.text x.2.1 x.2.2, x.1) := by
 rw [nodeW, F_nodeW.eq_def]
 simp only [qa, group_eq hk, bs]
 by_cases c3 : jm n.kind = 3
 ·rw [if_pos (decide_eq_true c3), expr_W _ _ _ _ _ _ c3]
  simp only [F_nodeW_t23.eq_def, ba, bs]; rfl
 ·rw [if_neg (by rw [decide_eq_true_eq]; exact c3)]
  by_cases c2 : jm n.kind = 2
  ·rw [if_pos (decide_eq_true c2), stmt_W _ _ _ _ _ _ c2]
   simp only [F_nodeW_t23.eq_def, F_nodeW_t30.eq_def, ba, bs]; rfl
  ·rw [if_neg (by rw [decide_eq_true_eq]; exact c2), other_W _ _ _ _ _ _ hk h0 h1 c3 c2]
   simp only [F_nodeW_t23.eq_def, F_nodeW_t30.eq_def, ba, bs]; rfl
end Go.Proofs.YtimcdpioclioiaaGreatDoorW.Ex.Gr
