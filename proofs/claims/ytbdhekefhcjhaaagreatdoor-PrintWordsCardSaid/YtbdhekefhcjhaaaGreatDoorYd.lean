/- The reference's words, order, gaps, leads and levels of a node in closed form. Conditions: those in each theorem. -/
import Derived.Test.YtbdhekefhcjhaaaGreatDoorYc
namespace Go.Proofs.YtbdhekefhcjhaaaGreatDoorW.Ex.Gr
open Go Go.Proofs.YtbdhekefhcjhaaaGreatDoorW.Ex
set_option linter.all false
set_option maxRecDepth 100000
@[reducible] def stN (n : Node) (l : BA) (v : Int) : List Step := stepsOf 1 n.kind n.text n.kids.length l v
theorem own_R {n : Node} (l : BA) (v : Int) (h : known n.kind = true) (hk : nkOk n.kind n.kids.length) (hn : n.kids.length ≤ 50000) : F_R8_Own n = some (wordsS (stN n l v)) := by
 rw [F_R8_Own.eq_def, stN]
 simp only [List.length_map]
 generalize n.kind = k at h hk ⊢
 rcases kinds h with rfl | rfl | rfl | rfl | rfl | rfl | rfl | rfl | rfl | rfl | rfl | rfl | rfl | rfl | rfl | rfl | rfl | rfl | rfl | rfl | rfl | rfl | rfl | rfl | rfl | rfl
 all_goals simp only [nkOk, Int.reduceEq, ite_false, ite_true, or_self, or_false, false_or, or_true, true_or, decide_false, decide_true, Bool.false_eq_true, reduceCtorEq, stepsOf, jq, own_file, Z1, wordsS, List.nil_append, wv, kl] at hk ⊢
 all_goals (try (rw [j4 (by simp) (by decide)]; rfl))
 ·rw [j4 (by simp) (by decide), bs, lists_eq v _ _ (by omega) (by omega) (by simp)]
  simp
 ·by_cases c : n.text = e0
  ·rw [if_pos (decide_eq_true c), if_pos c]; rfl
  ·rw [if_neg (by rw [decide_eq_true_eq]; exact c), if_neg c, j4 (by simp) (by decide)]; rfl
 ·by_cases c : n.kids.length = 0
  ·rw [if_pos (decide_eq_true (by omega)), if_pos c]; rfl
  ·rw [if_neg (by rw [decide_eq_true_eq]; omega), if_neg c, j4 (by simp) (by decide)]; rfl
 ·rw [j4 (by simp) (by decide), bs, lists_eq v _ _ (by omega) (by omega) (by simp)]
  simp
 ·rw [j4 (by simp) (by decide), bs, zq (by omega) (by omega), lists_eq v _ _ (by omega) (by omega) (by simp)]
  rw [show ((n.kids.length : Int) - 1).toNat = n.kids.length - 1 by omega]
  simp
theorem order_R {n : Node} (l : BA) (v : Int) (h : known n.kind = true) (hk : nkOk n.kind n.kids.length) (hn : n.kids.length ≤ 50000) : F_R8_Order n = some (ordS (stN n l v) 0) := by
 rw [F_R8_Order.eq_def, stN]
 simp only [List.length_map]
 generalize n.kind = k at h hk ⊢
 rcases kinds h with rfl | rfl | rfl | rfl | rfl | rfl | rfl | rfl | rfl | rfl | rfl | rfl | rfl | rfl | rfl | rfl | rfl | rfl | rfl | rfl | rfl | rfl | rfl | rfl | rfl | rfl
 all_goals simp only [nkOk, Int.reduceEq, ite_false, ite_true, or_self, or_false, false_or, or_true, true_or, decide_false, decide_true, Bool.false_eq_true, reduceCtorEq, stepsOf, uv, ordS, List.nil_append, wv, kl, nk_file, nk_all, F_R8_Order_t14.eq_def, b1, List.length_map, Int.zero_add] at hk ⊢
 all_goals (try (rw [j4 (by simp) (by decide)]; rfl))
 all_goals (try simp only [hk])
 ·rw [Qv l v _ _ _ (by omega) (by omega) (by omega) (by simp), bs, j4 (by simp [ju, ve, Z1, nk_all]; omega) (by decide), ord_file v _ l l, show ((n.kids.length : Int) - 0).toNat = n.kids.length by omega]; rfl
 ·rw [j4 (by simp) (by decide), bs, commas_eq v _ _ _ (by omega) (by omega) (by omega) (by simp), show ((n.kids.length : Int) - 0).toNat = n.kids.length by omega]; rfl
 ·rw [j4 (by simp) (by decide), bs, Qv (lineP (v + 1)) (v + 1) _ _ _ (by omega) (by omega) (by omega) (by simp), bs, j4 (by simp [ju, ve, Z1, nk_all]; omega) (by decide), show ((n.kids.length : Int) - 0).toNat = n.kids.length by omega, List.append_assoc]; rfl
 ·rw [j4 (by simp) (by decide), bs, Qv (lineP (v + 1)) (v + 1) _ _ _ (by omega) (by omega) (by omega) (by simp), bs, j4 (by simp [ju, ve, Z1, nk_all]; omega) (by decide), show ((n.kids.length : Int) - 1).toNat = n.kids.length - 1 by omega, List.append_assoc]; rfl
 ·by_cases c : n.text = e0
  ·rw [if_pos (decide_eq_true c), if_pos c]; rfl
  ·rw [if_neg (by rw [decide_eq_true_eq]; exact c), if_neg c, j4 (by simp) (by decide)]; rfl
 ·rw [j4 (by simp) (by decide), bs, Qv sp v _ _ _ (by omega) (by omega) (by omega) (by simp), bs]; rfl
 ·rw [j4 (by simp) (by decide), bs, Qv sp v _ _ _ (by omega) (by omega) (by omega) (by simp), show ((3 : Nat) : Int) - 0 = 3 from rfl]; rfl
 ·by_cases c : n.kids.length = 0
  ·rw [if_pos (decide_eq_true (by omega)), if_pos c]; rfl
  ·rw [if_neg (by rw [decide_eq_true_eq]; omega), if_neg c, j4 (by simp) (by decide)]; rfl
 ·rw [j4 (by simp) (by decide), bs, Qv sp v _ _ _ (by omega) (by omega) (by omega) (by simp)]; rfl
 ·rw [Qv sp v _ _ _ (by omega) (by omega) (by omega) (by simp), bs]; rfl
 ·rw [j4 (by simp) (by decide), bs, j4 (by simp) (by decide), bs, commas_eq v _ _ _ (by omega) (by omega) (by omega) (by simp), show ((n.kids.length : Int) - 0).toNat = n.kids.length by omega]; rfl
 ·rw [j4 (by simp) (by decide), bs, commas_eq v _ _ _ (by omega) (by omega) (by omega) (by simp), show ((n.kids.length : Int) - 1).toNat = n.kids.length - 1 by omega]; rfl
 ·rw [j4 (by simp) (by decide), bs, Qv e0 v _ _ _ (by omega) (by omega) (by omega) (by simp), bs]; rfl
theorem gap_R {n : Node} (l : BA) (v : Int) (h : known n.kind = true) (hk : nkOk n.kind n.kids.length) (h0 : 0 ≤ v) (h1 : v ≤ 100000) (i : Nat) (c : BA) (hc : (jj (stN n l v))[i]? = some c) : F_R8_gap n (i : Int) l v = some c := by
 rw [F_R8_gap.eq_def, rline_eq v h0 (by omega)]
 rw [stN] at hc
 simp only [List.length_map, bs]
 generalize n.kind = k at h hk hc ⊢
 rcases kinds h with rfl | rfl | rfl | rfl | rfl | rfl | rfl | rfl | rfl | rfl | rfl | rfl | rfl | rfl | rfl | rfl | rfl | rfl | rfl | rfl | rfl | rfl | rfl | rfl | rfl | rfl
 all_goals simp only [nkOk, Int.reduceEq, ite_false, ite_true, or_self, or_false, false_or, or_true, true_or, decide_false, decide_true, Bool.false_eq_true, reduceCtorEq, stepsOf, Z9, canon_file, canon_all, jj, List.nil_append, wv, kl] at hk hc ⊢
 case' inr.inr.inr.inr.inr.inr.inr.inl => by_cases c : n.text = e0 <;> simp only [c, ite_true, ite_false, jj] at hc
 case' inr.inr.inr.inr.inr.inr.inr.inr.inr.inr.inr.inr.inr.inl => by_cases c : n.kids.length = 0 <;> simp only [c, ite_true, ite_false, jj] at hc
 all_goals (rcases i with _ | _ | _ | _ | i)
 all_goals (try (simp at hc; done))
 all_goals (try (simp at hc; subst hc; rfl))
 all_goals (try (simp at hc; subst hc; simp; done))
 all_goals (try (simp at hc; simp [hc.symm, ky, Zu]; done))
 all_goals (try (simp at hc; simp [hc.symm, ky, Zu]; split <;> rfl))
 all_goals (try (simp only [List.getElem?_cons_succ] at hc; have := Ja v _ _ _ c hc; subst this; simp; done))
 all_goals (try (simp only [List.getElem?_cons_succ] at hc; have := Ja v _ _ _ c hc; subst this; rw [if_neg (by rw [decide_eq_true_eq]; omega)]; done))
 have q : c = Zu v 1 n.kids.length := by simpa using hc.symm
 rw [q, Zu]
 by_cases c1 : 1 < n.kids.length
 ·have c2 : (1 : Int) < (n.kids.length : Int) := by omega
  simp [c1, c2]
 ·have c2 : ¬ (1 : Int) < (n.kids.length : Int) := by omega
  simp [c1, c2]
theorem kid_R {n : Node} (l : BA) (v : Int) (h : known n.kind = true) (hk : nkOk n.kind n.kids.length) (h0 : 0 ≤ v) (h1 : v ≤ 100000) (i : Nat) (x : BA × Int) (hc : (jb (stN n l v))[i]? = some x) : F_R8_kid n (i : Int) l v = some x.1 ∧ F_R8_inner n v = some x.2 := by
 rw [F_R8_kid.eq_def, F_R8_inner.eq_def, zq (by omega) (by omega), rline_eq (v + 1) (by omega) (by omega)]
 rw [stN] at hc
 simp only [bs]
 generalize n.kind = k at h hk hc ⊢
 rcases kinds h with rfl | rfl | rfl | rfl | rfl | rfl | rfl | rfl | rfl | rfl | rfl | rfl | rfl | rfl | rfl | rfl | rfl | rfl | rfl | rfl | rfl | rfl | rfl | rfl | rfl | rfl
 all_goals simp only [nkOk, Int.reduceEq, ite_false, ite_true, or_self, or_false, false_or, or_true, true_or, decide_false, decide_true, Bool.false_eq_true, reduceCtorEq, stepsOf, Qg, jb, List.nil_append, List.append_nil, wv, kl] at hk hc ⊢
 case' inr.inr.inr.inr.inr.inr.inr.inl => by_cases c : n.text = e0 <;> simp only [c, ite_true, ite_false, jb] at hc
 case' inr.inr.inr.inr.inr.inr.inr.inr.inr.inr.inr.inr.inr.inl => by_cases c : n.kids.length = 0 <;> simp only [c, ite_true, ite_false, jb] at hc
 all_goals (rcases i with _ | _ | _ | i)
 all_goals (try (simp at hc; done))
 all_goals (try (simp at hc; subst hc; exact ⟨rfl, rfl⟩))
 all_goals (try (simp at hc; subst hc; simp; done))
 all_goals (try (have e := Yx v _ _ _ x hc; subst e; simp; done))
 all_goals (try (have e := Zk v _ _ x hc; subst e; simp; done))
 all_goals (try (have e := J7 _ _ _ _ x hc; subst e; simp; done))
 all_goals (try (simp only [List.getElem?_cons_succ] at hc; have e := Zk v _ _ x hc; subst e; simp; done))
 all_goals (try (simp only [List.getElem?_cons_succ] at hc; have e := J7 _ _ _ _ x hc; subst e; simp; done))
 all_goals (try (have e := Yx v _ _ _ x hc; subst e; rw [if_neg (by rw [decide_eq_true_eq]; omega)]; (try rw [if_neg (by rw [decide_eq_true_eq]; omega)]); simp; done))
 all_goals (try (have e := Zk v _ _ x hc; subst e; rw [if_neg (by rw [decide_eq_true_eq]; omega)]; (try rw [if_neg (by rw [decide_eq_true_eq]; omega)]); simp; done))
 all_goals (try (simp only [List.getElem?_cons_succ] at hc; have e := Zk v _ _ x hc; subst e; rw [if_neg (by rw [decide_eq_true_eq]; omega)]; (try rw [if_neg (by rw [decide_eq_true_eq]; omega)]); simp; done))
 all_goals (try (simp only [List.getElem?_cons_succ] at hc; have e := J7 _ _ _ _ x hc; subst e; rw [if_neg (by rw [decide_eq_true_eq]; omega)]; (try rw [if_neg (by rw [decide_eq_true_eq]; omega)]); simp; done))
end Go.Proofs.YtbdhekefhcjhaaaGreatDoorW.Ex.Gr
