/- Canonical gaps are qaz; trees without gaps. Conditions: those in each theorem. The source of a tree is read as its words: the plain law. Conditions: those in each theorem. -/
import Derived.Test.YtigmilhpeodhbaaGreatDoorKg
import Derived.Test.YtigmilhpeodhbaaGreatDoorKt
namespace Go.Proofs.YtigmilhpeodhbaaGreatDoorW.Ex.Gr
open Go Go.Proofs.YtigmilhpeodhbaaGreatDoorW.Ex Go.Proofs.YtigmilhpeodhbaaGreatDoorW.Plain Tk
set_option linter.all false
set_option maxRecDepth 100000
theorem qni : ∀ (l : List UInt8), (∀ c ∈ l, c = 32 ∨ c = 9 ∨ c = 10) → Q2 l.length l = []
 | [], _ => rfl
 | c :: l, h => by
   rw [List.length_cons, Q2]
   have e : wo (c :: l) = some l := by
    show (if c = 32 ∨ c = 9 ∨ c = 10 then some l else _) = _
    rw [if_pos (h c (List.mem_cons_self ..))]
   rw [e]
   exact qni l (fun x hx => h x (List.mem_cons_of_mem _ hx))
def qaz (s : BA) : Prop := ∀ c ∈ L s, c = 32 ∨ c = 9 ∨ c = 10
theorem qlg (s : BA) (h : qaz s) : trivValid s = true := by
 unfold trivValid
 rw [show (0 : Int) = ((0 : Nat) : Int) from rfl, qf6 (Nat.zero_le _)]
 refine decide_eq_true ?_
 unfold wu q9
 rw [List.drop_zero, qni _ h]; rfl
def okC : Step → Prop
 | .own c _ => qaz c
 | .kid l _ => qaz l
theorem b_e0 : qaz e0 := fun c h => by cases h
theorem b_sp : qaz sp := fun c h => .inl (List.mem_singleton.1 (show c ∈ [32] from h))
theorem b_nl : qaz ⟨#[10]⟩ := fun c h => .inr (.inr (List.mem_singleton.1 (show c ∈ [10] from h)))
theorem b_nn : qaz ⟨#[10, 10]⟩ := fun c h => by
 have h : c ∈ [10, 10] := h
 simp at h; exact .inr (.inr h)
theorem q39 (v : Int) : qaz (qi0 v) := fun c h => by
 have h : c ∈ 10 :: List.replicate v.toNat 9 := h
 rcases List.mem_cons.1 h with h | h
 ·exact .inr (.inr h)
 exact .inr (.inl (List.eq_of_mem_replicate h))
theorem qs8 (v : Int) : ∀ (r : Nat) (b : Bool), ∀ s ∈ kh v b r, okC s
 | 0, true, s, h => by rw [kh, List.mem_singleton] at h; subst h; exact b_e0
 | 0, false, s, h => by rw [kh, List.mem_singleton] at h; subst h; exact b_e0
 | r + 1, true, s, h => by
   rw [kh] at h
   rcases List.mem_cons.1 h with rfl | h
   ·exact b_e0
   exact qs8 v r false s h
 | r + 1, false, s, h => by
   rw [kh] at h
   rcases List.mem_cons.1 h with rfl | h
   ·exact b_e0
   rcases List.mem_cons.1 h with rfl | h
   ·exact b_sp
   exact qs8 v r false s h
theorem qxm {l : BA} (hl : qaz l) (v : Int) : ∀ (r : Nat), ∀ s ∈ allS l v r, okC s
 | 0, s, h => by cases h
 | r + 1, s, h => by
   rw [allS] at h
   rcases List.mem_cons.1 h with rfl | h
   ·exact hl
   exact qxm hl v r s h
theorem qzm (v : Int) : ∀ (r : Nat) {l : BA} (hl : qaz l), ∀ s ∈ Q5 v l r, okC s
 | 0, l, hl, s, h => by cases h
 | r + 1, l, hl, s, h => by
   rw [Q5] at h
   rcases List.mem_cons.1 h with rfl | h
   ·exact hl
   exact qzm v r b_nn s h
theorem qv0 {d k : Int} {t : BA} {nk : Nat} {l : BA} {v : Int} (hk : known k = true) (hl : qaz l) : ∀ s ∈ stepsOf d k t nk l v, okC s := by
 have hfe : qaz (qae l nk) := by unfold qae; split; exact b_nl; exact hl
 have hbe : ∀ f, qaz (qoy v f nk) := by intro f; unfold qoy; split; exact q39 v; exact b_e0
 intro s hs
 rcases kinds hk with rfl | rfl | rfl | rfl | rfl | rfl | rfl | rfl | rfl | rfl | rfl | rfl | rfl | rfl | rfl | rfl | rfl | rfl | rfl | rfl | rfl | rfl | rfl | rfl | rfl | rfl
 case' inr.inr.inr.inr.inr.inr.inr.inl => by_cases c : t = e0 <;> simp [stepsOf, c] at hs
 case' inr.inr.inr.inr.inr.inr.inr.inr.inr.inr.inr.inr.inr.inl => by_cases c : nk = 0 <;> simp [stepsOf, c] at hs
 all_goals try simp only [stepsOf, Int.reduceEq, ite_false, ite_true, List.mem_append, List.mem_cons, List.not_mem_nil, or_false, false_or, qak, qay] at hs
 all_goals (repeat' (refine Or.elim hs (fun hs => ?_) (fun hs => ?_)))
 all_goals first
  | (subst hs; exact hl)
  | (subst hs; exact b_e0)
  | (subst hs; exact b_sp)
  | (subst hs; exact hfe)
  | (subst hs; exact hbe _)
  | exact qs8 _ _ _ s hs
  | exact qxm b_sp _ _ s hs
  | exact qxm (q39 _) _ _ s hs
  | exact qzm _ _ hl s hs
end Go.Proofs.YtigmilhpeodhbaaGreatDoorW.Ex.Gr

namespace Go.Proofs.YtigmilhpeodhbaaGreatDoorW.Ex.Gr
open Go Go.Proofs.YtigmilhpeodhbaaGreatDoorW.Ex Go.Proofs.YtigmilhpeodhbaaGreatDoorW.Plain Tk
set_option linter.all false
set_option maxRecDepth 100000
theorem que : ∀ (l r q : List UInt8), y3 l = some q → y3 (l ++ r) = some (q ++ r)
 | [], r, q, h => by cases h
 | c :: l, r, q, h => by
   have e : ∀ l, y3 (c :: l) = if c = 10 then some l else y3 l := fun _ => rfl
   rw [e] at h
   rw [List.cons_append, e]
   by_cases hc : c = 10
   ·rw [if_pos hc] at h ⊢; cases h; rfl
   rw [if_neg hc] at h ⊢; exact que l r q h
theorem q0n {l q : List UInt8} (r : List UInt8) (h : wo l = some q) : wo (l ++ r) = some (q ++ r) := by
 cases l with
 | nil => cases h
 | cons c l =>
   rw [ub] at h
   rw [List.cons_append, ub]
   by_cases hb : c = 32 ∨ c = 9 ∨ c = 10
   ·rw [if_pos hb] at h ⊢; cases h; rfl
   rw [if_neg hb] at h ⊢
   by_cases hc : c = 47 ∧ l.head? = some 47
   ·rw [if_pos hc] at h
    have : c = 47 ∧ (l ++ r).head? = some 47 := ⟨hc.1, by cases l with
     | nil => simp at hc
     | cons d l => simpa using hc.2⟩
    rw [if_pos this]; exact que l r q h
   rw [if_neg hc] at h; cases h
theorem qqp (p r : List UInt8) (h : q9 p = []) : q9 (p ++ r) = q9 r := by
 have key : ∀ (j : Nat) (p : List UInt8), p.length ≤ j → q9 p = [] → q9 (p ++ r) = q9 r := by
  intro j
  induction j with
  | zero =>
    intro p hj _
    obtain rfl : p = [] := List.length_eq_zero_iff.1 (by omega)
    rfl
  | succ j ih =>
    intro p hj h
    cases hs : wo p with
    | none =>
      rw [Yz _ hs] at h
      rw [h]; rfl
    | some q =>
      rw [Zx _ _ hs] at h
      rw [Zx _ _ (q0n r hs)]
      exact ih q (by have := Kk _ _ hs; omega) h
 exact key p.length p (Nat.le_refl _) h
theorem qd6 (s : BA) (h : trivValid s = true) : q9 (L s) = [] := by
 unfold trivValid at h
 rw [show (0 : Int) = ((0 : Nat) : Int) from rfl, qf6 (Nat.zero_le _)] at h
 have h := of_decide_eq_true h
 unfold wu at h
 rw [List.drop_zero] at h
 have h2 := qfn (L s)
 rw [Yh] at h2
 have : (q9 (L s)).length = 0 := by
  have h : ((s.size - (q9 s.data.toList).length : Nat) : Int) = (s.size : Int) := h
  have h3 : (q9 (L s)).length ≤ s.size := h2
  show (q9 s.data.toList).length = 0
  have h4 : (q9 s.data.toList).length ≤ s.size := h3
  by_cases z : s.size = 0
  ·omega
  omega
 exact List.length_eq_zero_iff.1 this
theorem qka : ∀ (l : List UInt8) (i : Nat), Q4 i l = true → Tk.runL l = l.length
 | [], i, h => rfl
 | c :: l, i, h => by
   unfold Q4 at h
   simp only [Bool.and_eq_true, Bool.or_eq_true] at h
   have hw : letC c = true := by
    unfold letC
    rcases h.1 with a | a
    ·rw [a]; simp
    rw [a.2]; rfl
   rw [Tk.runL, if_pos hw, qka l (i + 1) h.2]; rfl
theorem quy {l : List UInt8} (h : vc l = true) : Qz l ≠ 0 := by
 unfold vc at h
 simp only [Bool.and_eq_true, decide_eq_true_eq] at h
 obtain ⟨⟨⟨h0, h1⟩, _⟩, h3⟩ := h
 have hr := qka l 0 h3
 cases l with
 | nil => cases h0
 | cons c l =>
   unfold Q4 at h3
   simp only [Bool.and_eq_true, Bool.or_eq_true, bne_self_eq_false, Bool.false_and, Bool.false_eq_true, or_false] at h3
   have hl : Z7 c.toNat = true := h3.1
   have hd : digC c = false := by
    unfold digC u6
    unfold Z7 at hl
    have := of_decide_eq_true hl
    exact decide_eq_false (by omega)
   have hw : letC c = true := by unfold letC; rw [hl]; simp
   have hn := qei l hw hd
   rw [hr, if_pos h1] at hn
   unfold Qz
   rw [hn, if_pos rfl]; show (1 : Int) ≠ 0; decide
theorem qj1 : ∀ (l : List UInt8) (n v : Int), jo n l = some v → Tk.runL l = l.length
 | [], n, v, h => rfl
 | c :: l, n, v, h => by
   unfold jo at h
   split at h
   ·rename_i hd
    have hw : letC c = true := by unfold letC; rw [hd]; rfl
    rw [Tk.runL, if_pos hw, qj1 l _ v h]; rfl
   cases h
theorem q5v {l : List UInt8} (h : wc l = true) : Qz l ≠ 0 := by
 have h' := h
 unfold wc at h
 simp only [Bool.and_eq_true, decide_eq_true_eq] at h
 obtain ⟨⟨⟨h0, h1⟩, _⟩, h3⟩ := h
 cases hv : jo 0 l with
 | none => rw [hv] at h3; cases h3
 | some v =>
   have hr := qj1 l 0 v hv
   cases l with
   | nil => cases h0
   | cons c l =>
     unfold jo at hv
     have hd : digC c = true := by
      unfold digC
      cases hq : u6 c.toNat with
      | true => rfl
      | false => rw [hq] at hv; cases hv
     have hn := qej l hd
     rw [hr, List.take_of_length_le (Nat.le_refl _), if_pos h'] at hn
     unfold Qz
     rw [hn, if_pos rfl]; show (2 : Int) ≠ 0; decide
def okW (w : BA) : Prop := Qz (L w) ≠ 0
theorem okw (l : Array UInt8) (h : decide (Qz l.toList ≠ 0) = true) : okW ⟨l⟩ := by
 show Qz l.toList ≠ 0
 exact of_decide_eq_true h
theorem qsa (v : Int) : ∀ (r : Nat) (b : Bool), ∀ w ∈ wordsS (kh v b r), okW w
 | 0, true, w, h => by rw [kh, wordsS, wordsS, List.mem_singleton] at h; subst h; exact okw _ (by decide)
 | 0, false, w, h => by rw [kh, wordsS, wordsS, List.mem_singleton] at h; subst h; exact okw _ (by decide)
 | r + 1, true, w, h => by rw [kh, wordsS] at h; exact qsa v r false w h
 | r + 1, false, w, h => by
   rw [kh, wordsS, wordsS] at h
   rcases List.mem_cons.1 h with rfl | h
   ·exact okw _ (by decide)
   exact qsa v r false w h
theorem qfx {v : BA} {l : List BA} (h : memB v l = true) : v ∈ l := by
 unfold memB at h
 obtain ⟨w, hw, e⟩ := List.any_eq_true.1 h
 rw [of_decide_eq_true e]; exact hw
theorem q1r {n : Node} (hk : known n.kind = true) (h2 : spelledOk n = true) (h4 : calledOk n = true) (h1 : n.kind ≠ 1) (l : BA) (v : Int) : ∀ w ∈ wordsS (stepsOf 0 n.kind n.text n.kids.length l v), okW w := by
 unfold spelledOk at h2
 unfold calledOk at h4
 generalize n.kind = k at hk h1 h2 h4 ⊢
 generalize n.text = t at h2 h4 ⊢
 intro w hw
 rcases kinds hk with rfl | rfl | rfl | rfl | rfl | rfl | rfl | rfl | rfl | rfl | rfl | rfl | rfl | rfl | rfl | rfl | rfl | rfl | rfl | rfl | rfl | rfl | rfl | rfl | rfl | rfl
 ·exact absurd rfl h1
 all_goals simp only [z7, shapes, Int.reduceToNat, List.getD_cons_succ, List.getD_cons_zero, Int.reduceEq, ite_true, ite_false, if_true, if_false] at h2 h4
 case' inr.inr.inr.inr.inr.inr.inr.inl => by_cases c : t = e0 <;> simp only [stepsOf, Int.reduceEq, c, ite_true, ite_false, if_true, if_false, wordsS, List.mem_cons, List.not_mem_nil, or_false] at hw
 case' inr.inr.inr.inr.inr.inr.inr.inr.inr.inr.inr.inr.inr.inl => by_cases c : n.kids.length = 0 <;> simp only [stepsOf, Int.reduceEq, c, ite_true, ite_false, if_true, if_false, wordsS, List.mem_cons, List.not_mem_nil, or_false] at hw
 all_goals try simp only [stepsOf, Int.reduceEq, ite_false, ite_true, qbf, qc5, qmh, wordsS, List.mem_append, List.mem_cons, List.not_mem_nil, or_false, false_or, qak, qay, List.nil_append] at hw
 all_goals (repeat' (refine Or.elim hw (fun hw => ?_) (fun hw => ?_)))
 all_goals first
  | (subst hw; exact okw _ (by decide))
  | (subst hw; exact quy h4)
  | (subst hw; exact q5v h4)
  | exact qsa _ _ _ w hw
  | (subst hw
     have hm := qfx h2
     simp only [List.mem_cons, List.not_mem_nil, or_false] at hm
     repeat' (refine Or.elim hm (fun hm => ?_) (fun hm => ?_))
     all_goals (subst hm; exact okw _ (by decide)))
  | (subst hw
     simp only [Bool.or_eq_true, decide_eq_true_eq] at h4
     exact quy (h4.resolve_left c))
theorem q02 (k : Int) (i : Nat) (hk : known k = true) : fits k i 1 = false := by
 cases hf : fits k i 1 with
 | false => rfl
 | true =>
   exfalso
   unfold fits at hf
   simp only [Bool.and_eq_true] at hf
   have h := hf.2
   unfold Zy at h
   rcases kinds hk with rfl | rfl | rfl | rfl | rfl | rfl | rfl | rfl | rfl | rfl | rfl | rfl | rfl | rfl | rfl | rfl | rfl | rfl | rfl | rfl | rfl | rfl | rfl | rfl | rfl | rfl
   all_goals simp only [z7, shapes, Int.reduceToNat, Int.toNat_natCast, List.getD_cons_succ, List.getD_cons_zero, List.length_cons, List.length_nil] at h
   all_goals (rcases i with _ | _ | _ | i)
   all_goals (revert h; simp [zv])
   all_goals (have z0 : ¬ ((i : Int) + 1 + 1 + 1 < 0) := by omega)
   all_goals (have z1 : ¬ ((i : Int) + 1 + 1 + 1 < 1) := by omega)
   all_goals (have z2 : ¬ ((i : Int) + 1 + 1 + 1 < 2) := by omega)
   all_goals (have z3 : ¬ ((i : Int) + 1 + 1 + 1 < 3) := by omega)
   all_goals simp [z0, z1, z2, z3]
def good : List Tok → Prop
 | [] => True
 | (g, w) :: T => q9 (L g) = [] ∧ ((okW w ∧ good T) ∨ (w = e0 ∧ T = []))
def qhd (x : Tok) : Prop := q9 (L x.1) = [] ∧ okW x.2
theorem qsu : ∀ (T : List Tok), (∀ x ∈ T, qhd x) → good T
 | [], _ => trivial
 | (g, w) :: T, h => ⟨(h _ (List.mem_cons_self ..)).1, .inl ⟨(h _ (List.mem_cons_self ..)).2, qsu T (fun x hx => h x (List.mem_cons_of_mem _ hx))⟩⟩
theorem qda : ∀ (T : List Tok) (g : BA), (∀ x ∈ T, qhd x) → q9 (L g) = [] → good (T ++ [(g, e0)])
 | [], g, _, hg => ⟨hg, .inr ⟨rfl, rfl⟩⟩
 | (a, w) :: T, g, h, hg => ⟨(h _ (List.mem_cons_self ..)).1, .inl ⟨(h _ (List.mem_cons_self ..)).2, qda T g (fun x hx => h x (List.mem_cons_of_mem _ hx)) hg⟩⟩
theorem Wy : ∀ (S : List Step) (g : List BA) (ks : List (BA → Int → List Tok)), (∀ s ∈ S, okC s) → (∀ w ∈ wordsS S, okW w) → (∀ x ∈ g, trivValid x = true) →
 (∀ (f : BA → Int → List Tok), f ∈ ks → ∀ l v, Step.kid l v ∈ S → ∀ x ∈ f l v, qhd x) → ∀ x ∈ ke S g ks, qhd x
 | [], g, ks, h, hw, hg, hk, x, hx => by rw [ke] at hx; cases hx
 | .own c w :: r, [], ks, h, hw, hg, hk, x, hx => by
   rw [ke] at hx
   have a := h _ (List.mem_cons_self ..)
   rw [wordsS] at hw
   rcases List.mem_cons.1 hx with rfl | hx
   ·exact ⟨qd6 _ (qlg _ a), hw _ (List.mem_cons_self ..)⟩
   exact Wy r [] ks (fun s hs => h s (List.mem_cons_of_mem _ hs)) (fun w hx => hw w (List.mem_cons_of_mem _ hx)) hg (fun f hf l v hs => hk f hf l v (List.mem_cons_of_mem _ hs)) x hx
 | .own c w :: r, y :: g, ks, h, hw, hg, hk, x, hx => by
   rw [ke] at hx
   rw [wordsS] at hw
   rcases List.mem_cons.1 hx with rfl | hx
   ·exact ⟨qd6 _ (hg _ (List.mem_cons_self ..)), hw _ (List.mem_cons_self ..)⟩
   exact Wy r g ks (fun s hs => h s (List.mem_cons_of_mem _ hs)) (fun w hx => hw w (List.mem_cons_of_mem _ hx)) (fun x hx => hg x (List.mem_cons_of_mem _ hx)) (fun f hf l v hs => hk f hf l v (List.mem_cons_of_mem _ hs)) x hx
 | .kid l v :: r, g, [], h, hw, hg, hk, x, hx => by
   rw [ke] at hx
   rw [wordsS] at hw
   exact Wy r g [] (fun s hs => h s (List.mem_cons_of_mem _ hs)) hw hg (fun f hf => by cases hf) x hx
 | .kid l v :: r, g, f :: ks, h, hw, hg, hk, x, hx => by
   rw [ke] at hx
   rw [wordsS] at hw
   rcases List.mem_append.1 hx with hx | hx
   ·exact hk f (List.mem_cons_self ..) l v (List.mem_cons_self ..) x hx
   exact Wy r g ks (fun s hs => h s (List.mem_cons_of_mem _ hs)) hw hg (fun f hf l v hs => hk f (List.mem_cons_of_mem _ hf) l v (List.mem_cons_of_mem _ hs)) x hx
theorem qzp {α : Type} (p : α → Bool) : ∀ (l : List α) (i : Nat), Qb (fun _ g => p g) i l = true → ∀ x ∈ l, p x = true
 | [], i, h, x, hx => by cases hx
 | a :: l, i, h, x, hx => by
   have h : (p a && Qb (fun _ g => p g) (i + 1) l) = true := h
   simp only [Bool.and_eq_true] at h
   rcases List.mem_cons.1 hx with rfl | hx
   ·exact h.1
   exact qzp p l (i + 1) h.2 x hx
theorem qny {n : Node} (hc : checkErr n = 0) : spelledOk n = true ∧ calledOk n = true ∧ ∀ x ∈ n.gaps, trivValid x = true := by
 obtain ⟨_, _, _, h3⟩ := qbr hc
 obtain ⟨h4, _⟩ := qjc h3
 obtain ⟨k0, k1, k2, k3, k4, k5⟩ := qml h4
 refine ⟨k2, k4, ?_⟩
 unfold qeq at k5
 simp only [Bool.or_eq_true, Bool.and_eq_true, decide_eq_true_eq] at k5
 rcases k5 with h | h
 ·rw [h]; intro x hx; cases hx
 exact qzp trivValid n.gaps 0 h.1
theorem qu6 {n m : Node} (hc : checkErr n = 0) (hm : m ∈ n.kids) : m.kind ≠ 1 := by
 obtain ⟨i, hi⟩ := List.getElem?_of_mem hm
 have h := ((parts n hc).2.2 i m hi).2
 intro e
 rw [e, q02 _ _ (wn hc).kn] at h; cases h
theorem qj2 : ∀ (j : Nat) (n : Node), wl n ≤ j → checkErr n = 0 → n.kind ≠ 1 → ∀ (l : BA) (v : Int), qaz l → ∀ x ∈ toks 0 n l v, qhd x
 | 0, n, h, _, _, _, _, _ => by have := J1 n; omega
 | j + 1, n, h, hc, h1, l, v, hl => by
   have w := wn hc
   have e := Yg n
   obtain ⟨f2, f4, fg⟩ := qny hc
   have hb := qv0 (d := 0) (t := n.text) (nk := n.kids.length) (v := v) w.kn hl
   rw [qd8]
   refine Wy _ _ _ hb (q1r w.kn f2 f4 h1 l v) fg (fun f hf l' v' hs x hx => ?_)
   obtain ⟨m, hm, rfl⟩ := qgp 0 _ f hf
   have := qac hm
   exact qj2 j m (by omega) (w.kids m hm) (qu6 hc hm) l' v' (hb _ hs) x hx
theorem qhl : ∀ (S : List Step) (c : BA) (g : List BA) (ks : List (BA → Int → List Tok)), wordsS S = [] → ∃ T, ke (S ++ [.own c e0]) g ks = T ++ [(g.headD c, e0)] ∧ T = ke S g ks
 | [], c, [], ks, h => ⟨[], rfl, rfl⟩
 | [], c, x :: g, ks, h => ⟨[], rfl, rfl⟩
 | .own a w :: S, c, g, ks, h => by rw [wordsS] at h; cases h
 | .kid l v :: S, c, g, [], h => by
   obtain ⟨T, e, e2⟩ := qhl S c g [] (by rw [wordsS] at h; exact h)
   refine ⟨T, ?_, ?_⟩
   ·rw [List.cons_append, ke, e]
   rw [ke, e2]
 | .kid l v :: S, c, g, k :: ks, h => by
   obtain ⟨T, e, e2⟩ := qhl S c g ks (by rw [wordsS] at h; exact h)
   refine ⟨k l v ++ T, ?_, ?_⟩
   ·rw [List.cons_append, ke, e, List.append_assoc]
   rw [ke, e2]
theorem qt8 (n : Node) (hc : checkErr n = 0) (l : BA) (v : Int) (hl : qaz l) : good (toks 0 n l v) ∧ (n.kind ≠ 1 → ∀ x ∈ toks 0 n l v, qhd x) ∧ (n.kind = 1 → ∃ T g, toks 0 n l v = T ++ [(g, e0)] ∧ ∀ x ∈ T, qhd x) := by
 by_cases h1 : n.kind = 1
 ·have w := wn hc
  obtain ⟨f2, f4, fg⟩ := qny hc
  have hb := qv0 (d := 0) (t := n.text) (nk := n.kids.length) (v := v) w.kn hl
  have hs : stepsOf 0 n.kind n.text n.kids.length l v = Q5 v l n.kids.length ++ [.own (qae l n.kids.length) e0] := by rw [h1]; rfl
  obtain ⟨T, e, e2⟩ := qhl (Q5 v l n.kids.length) (qae l n.kids.length) n.gaps (ve 0 n.kids) (qc5 v _ l)
  have ht : toks 0 n l v = T ++ [(n.gaps.headD (qae l n.kids.length), e0)] := by rw [qd8, hs, e]
  have hT : ∀ x ∈ T, qhd x := by
   rw [e2]
   rw [hs] at hb
   refine Wy _ _ _ (fun s hs => hb s (List.mem_append_left _ hs)) (fun w hw => by rw [qc5] at hw; cases hw) fg (fun f hf l' v' hs' x hx => ?_)
   obtain ⟨m, hm, rfl⟩ := qgp 0 _ f hf
   exact qj2 (wl m) m (Nat.le_refl _) (w.kids m hm) (qu6 hc hm) l' v' (hb _ (List.mem_append_left _ hs')) x hx
  have hg : q9 (L (n.gaps.headD (qae l n.kids.length))) = [] := by
   cases hgs : n.gaps with
   | nil => rw [hs] at hb; exact qd6 _ (qlg _ (hb (.own (qae l n.kids.length) e0) (by simp)))
   | cons y g => exact qd6 _ (fg y (by rw [hgs]; simp))
  exact ⟨by rw [ht]; exact qda T _ hT hg, fun q => absurd h1 q, fun _ => ⟨T, _, ht, hT⟩⟩
 have := qj2 (wl n) n (Nat.le_refl _) hc h1 l v hl
 exact ⟨qsu _ this, fun _ => this, fun q => absurd q h1⟩
def sepL (last g w : List UInt8) : List UInt8 := if qm8 last g w = true then [32] else []
def sfx : BA → List Tok → List UInt8
 | _, [] => []
 | last, (g, w) :: T => sepL (L last) (L g) (L w) ++ (L g ++ (L w ++ sfx w T))
theorem qye : ∀ (T : List Tok) (s : List UInt8) (last : BA), (srcL T s last).1 = s ++ sfx last T
 | [], s, last => by rw [srcL, sfx, List.append_nil]
 | (g, w) :: T, s, last => by rw [srcL, qye T, outL, sfx, sepL, List.append_assoc, List.append_assoc, List.append_assoc]
theorem qrh (w : BA) (hw : okW w) : ∀ (T : List Tok), good T → qps (L w) (sfx w T)
 | [], _ => qri _
 | (g, w') :: T, h => by
   obtain ⟨hg, h2⟩ := h
   rw [sfx, sepL]
   cases hs : qm8 (L w) (L g) (L w') with
   | true => rw [if_pos rfl]; exact qv1 _ _
   | false =>
     rw [if_neg (by decide), List.nil_append]
     unfold qm8 at hs
     cases hG : L g with
     | nil =>
       rw [hG, if_pos rfl] at hs
       rw [List.nil_append]
       rcases h2 with ⟨h3, h4⟩ | ⟨rfl, rfl⟩
       ·have ha := q4b hw h3 hs
        intro c hc
        refine ha c ?_
        have hne := (Tk.kind_cases h3).1
        cases hq : L w' with
        | nil => exact absurd hq hne
        | cons d r => rw [hq] at hc; simpa using hc
       rw [show sfx e0 [] = [] from rfl]; exact qri _
     | cons d r =>
       rw [hG, if_neg (by simp)] at hs
       intro c hc
       rw [List.cons_append] at hc
       simp only [List.head?_cons, Option.some.injEq] at hc
       subst hc
       -- the first byte of trivia
       have hd : d = 32 ∨ d = 9 ∨ d = 10 ∨ d = 47 := by
        cases hq : wo (L g) with
        | none => rw [Yz _ hq, hG] at hg; cases hg
        | some q =>
          rw [hG, ub] at hq
          by_cases hb : d = 32 ∨ d = 9 ∨ d = 10
          ·rcases hb with hb | hb | hb
           ·exact .inl hb
           ·exact .inr (.inl hb)
           exact .inr (.inr (.inl hb))
          rw [if_neg hb] at hq
          by_cases h47 : d = 47 ∧ r.head? = some 47
          ·exact .inr (.inr (.inr h47.1))
          rw [if_neg h47] at hq; cases hq
       have hlet : letC d = false := by rcases hd with rfl | rfl | rfl | rfl <;> decide
       have h61 : d ≠ 61 := by rcases hd with rfl | rfl | rfl | rfl <;> decide
       refine ⟨fun q => ?_, fun q => h61 q.2, fun q => ?_⟩
       ·have q2 := q.2
        rw [hlet] at q2; cases q2
       rw [q.1, q.2] at hs
       simp at hs
def txt : List Tok → List BA
 | [] => [e0]
 | (_, w) :: T => if w = e0 then [e0] else w :: txt T
theorem qum (S : Nat) : ∀ (T : List Tok) (last : BA) (f : Nat), good T → (sfx last T).length < f → ∃ m, Wu S f (sfx last T) = .ok m ∧ m.map (·.Text) = txt T
 | [], last, 0, h, hf => by omega
 | [], last, f + 1, h, hf => ⟨_, by rw [sfx, Wu, if_pos (show q9 [] = [] from rfl)], rfl⟩
 | (g, w) :: T, last, 0, h, hf => by omega
 | (g, w) :: T, last, f + 1, h, hf => by
   obtain ⟨hg, h2⟩ := h
   have h1 : q9 (sfx last ((g, w) :: T)) = q9 (L w ++ sfx w T) := by
    rw [sfx]
    have : q9 (L g ++ (L w ++ sfx w T)) = q9 (L w ++ sfx w T) := qqp _ _ hg
    unfold sepL
    split
    ·rw [List.singleton_append, qnh, this]
    rw [List.nil_append, this]
   rcases h2 with ⟨h3, h4⟩ | ⟨rfl, rfl⟩
   ·have ha := qrh w h3 T h4
    have hne := (Tk.kind_cases h3).1
    have hw : w ≠ e0 := fun e => hne (by rw [e])
    rw [quk h3 ha] at h1
    have hn := quw h3 ha
    have hlen : (sfx w T).length < f := by
     rw [sfx, List.length_append, List.length_append, List.length_append] at hf
     have : 0 < (L w).length := List.length_pos_iff.2 hne
     omega
    obtain ⟨m, hm, ht⟩ := qum S T w f h4 hlen
    rw [Wu, h1, if_neg (by simp [hne]), hn, if_neg (by exact h3)]
    simp only
    rw [show (L w ++ sfx w T).drop (L w).length = sfx w T from List.drop_left, hm]
    refine ⟨_, rfl, ?_⟩
    rw [List.map_cons, ht, txt, if_neg hw]
    simp only [List.take_left]
    rw [qys]
   have h5 : q9 (sfx last [(g, e0)]) = [] := h1
   rw [Wu, if_pos h5]
   exact ⟨_, rfl, rfl⟩
theorem qx9 : ∀ (T : List Tok) (g : BA), (∀ x ∈ T, qhd x) → txt (T ++ [(g, e0)]) = (T ++ [(g, e0)]).map (·.2)
 | [], g, _ => by rw [List.nil_append, txt, if_pos rfl]; rfl
 | (a, w) :: T, g, h => by
   have hw : w ≠ e0 := fun e => (Tk.kind_cases (h _ (List.mem_cons_self ..)).2).1 (by show L w = []; rw [e])
   rw [List.cons_append, txt, if_neg hw, qx9 T g (fun x hx => h x (List.mem_cons_of_mem _ hx))]; rfl
end Go.Proofs.YtigmilhpeodhbaaGreatDoorW.Ex.Gr
