/- Small trees; the tokens of a small tree are small; what the functions of print and of the reference return. Conditions: those in each theorem. -/
import Derived.Test.YtigmilhpeodhbaaGreatDoorKT
import Derived.Test.YtigmilhpeodhbaaGreatDoorKe
import Derived.Test.YtigmilhpeodhbaaGreatDoorKq
import Derived.Test.YtigmilhpeodhbaaGreatDoorYb
namespace Go.Proofs.YtigmilhpeodhbaaGreatDoorW.Ex.Gr
open Go Go.Proofs.YtigmilhpeodhbaaGreatDoorW.Ex Tk
set_option linter.all false
set_option maxRecDepth 100000
def Left (n : Nat) (k r : Int) : Prop := r = -1 ∨ (0 ≤ r ∧ r = k - n)
mutual
theorem qrl : ∀ (n : Node) (k d : Int), k ≤ 1000000 → -1000000 ≤ k → d ≤ 1000000 → -1000000 ≤ d → ∃ r, Kt n k d = some r ∧ Left (wl n) k r
 | .mk kd t g l, k, d, h1, h2, h3, h4 => by
   rw [Kt.eq_def]
   simp only [qa]
   by_cases c1 : k < 1
   ·rw [decide_eq_true c1, Kd]; exact ⟨_, rfl, .inl rfl⟩
   rw [decide_eq_false c1, Ke]
   by_cases c2 : d < 1
   ·rw [decide_eq_true c2, Kd]; exact ⟨_, rfl, .inl rfl⟩
   rw [decide_eq_false c2, Ke]
   by_cases c3 : k < (((Node.mk kd t g l).kids.map Node.cells).length : Int)
   ·rw [decide_eq_true c3, Kd]; exact ⟨_, rfl, .inl rfl⟩
   rw [decide_eq_false c3, Ke, wh (by omega) (by omega)]
   rw [List.length_map] at c3
   have c3' : (l.length : Int) ≤ 1000000 := by
    have : ((Node.mk kd t g l).kids).length = l.length := rfl
    omega
   obtain ⟨r, e, hr⟩ := qjo l [] (.mk kd t g l) d (k - 1) rfl (by omega) (by omega) (by omega) (by omega) c3'
   rw [show ((0 : Int)) = (([] : List Node).length : Int) from rfl, e]
   refine ⟨r, rfl, ?_⟩
   unfold Left at hr ⊢
   rw [wl]; omega
theorem qjo : ∀ (l pre : List Node) (n : Node) (d k : Int), n.kids = pre ++ l → 0 ≤ k → k ≤ 1000000 → d ≤ 1000000 → 1 ≤ d → (n.kids.length : Int) ≤ 1000000 → ∃ r, Qx d k (pre.length : Int) n = some r ∧ Left (vt l) k r
 | [], pre, n, d, k, hk, h0, h1, _, _, _ => by
   rw [Qx.eq_def, qmo hk, Ke]
   exact ⟨k, rfl, .inr ⟨h0, by simp [vt]⟩⟩
 | m :: l, pre, n, d, k, hk, h0, h1, h2, h3, hb => by
   have hb2 := hb
   rw [hk, List.length_append] at hb2
   obtain ⟨r, e, hr⟩ := qrl m k (d - 1) (by omega) (by omega) (by omega) (by omega)
   rw [Qx.eq_def]
   simp only [qa]
   rw [qmn hk, Kd, qn9 hk, bs, wh (by omega) (by omega), e, bs]
   by_cases c : r < 0
   ·rw [decide_eq_true c, Kd]; exact ⟨_, rfl, .inl rfl⟩
   rw [decide_eq_false c, Ke, qim (by omega) m]
   have hr2 : 0 ≤ r ∧ r = k - wl m := by unfold Left at hr; omega
   obtain ⟨r', e', hr'⟩ := qjo l (pre ++ [m]) n d r (qfw hk) (by omega) (by omega) h2 h3 hb
   rw [e']
   refine ⟨r', rfl, ?_⟩
   unfold Left at hr' ⊢
   rw [vt]; omega
end
mutual
def bdN : Node → Prop
 | .mk _ t g l => t.size ≤ 4000 ∧ g.length ≤ 4000 ∧ (∀ x ∈ g, x.size ≤ 4000) ∧ bdL l
def bdL : List Node → Prop
 | [] => True
 | n :: l => bdN n ∧ bdL l
end
theorem q62 (n : Node) : bdN n = (n.text.size ≤ 4000 ∧ n.gaps.length ≤ 4000 ∧ (∀ x ∈ n.gaps, x.size ≤ 4000) ∧ bdL n.kids) := by cases n; rw [bdN]; rfl
theorem qzl : ∀ {l : List Node} {m : Node}, bdL l → m ∈ l → bdN m
 | a :: l, m, h, hm => by
   rw [bdL] at h
   rcases List.mem_cons.1 hm with rfl | hm
   ·exact h.1
   exact qzl h.2 hm
theorem qac {l : List Node} {m : Node} (h : m ∈ l) : wl m ≤ vt l := by
 obtain ⟨a, b, e⟩ := List.append_of_mem h
 rw [e, W7, vt]; omega
mutual
theorem q38 : ∀ n : Node, bdN n → wl n ≤ 100000 → wfB n = true
 | .mk k t g l, h, hs => by
   rw [bdN] at h
   rw [wl] at hs
   have hl := qea l
   rw [wfB, decide_eq_true (show l.length ≤ 9223372036854775807 by omega), decide_eq_true (show g.length ≤ 9223372036854775807 by omega), decide_eq_true (show t.size ≤ 9223372036854775807 by omega), q37 l h.2.2.2 (by omega)]
   simp only [Bool.true_and, Bool.and_true, List.all_eq_true, decide_eq_true_eq]
   intro x hx
   have := h.2.2.1 x hx
   omega
theorem q37 : ∀ l : List Node, bdL l → vt l ≤ 100000 → wfBL l = true
 | [], _, _ => by rw [wfBL]
 | n :: l, h, hs => by
   rw [bdL] at h
   rw [vt] at hs
   rw [wfBL, q38 n h.1 (by omega), q37 l h.2 (by omega)]; rfl
end
theorem qt2 : ∀ (l pre : List Node) (n : Node) (k : Int), n.kids = pre ++ l → n.kids.length ≤ 100000 → 0 ≤ k → k ≤ 4000 → (∀ m ∈ l, ∀ k : Int, 0 ≤ k → k ≤ 4000 → ∃ r, Z5 m k = some r ∧ r ≤ k ∧ (0 ≤ r → bdN m)) →
 ∃ r, Qd k (pre.length : Int) n = some r ∧ r ≤ k ∧ (0 ≤ r → bdL l)
 | [], pre, n, k, h, hn, h0, h1, ih => by
   rw [Qd.eq_def, qmo h, Ke]
   exact ⟨k, rfl, Int.le_refl _, fun _ => by rw [bdL]; trivial⟩
 | m :: l, pre, n, k, h, hn, h0, h1, ih => by
   have hl := qw7 h
   obtain ⟨r, e, hr, hb⟩ := ih m (List.mem_cons_self ..) k h0 h1
   rw [Qd.eq_def]
   simp only [qa]
   rw [qmn h, Kd, qn9 h, bs, e, bs]
   by_cases c : r < 0
   ·rw [decide_eq_true c, Kd]; exact ⟨_, rfl, by omega, fun q => by omega⟩
   rw [decide_eq_false c, Ke, qim (by omega) m]
   obtain ⟨r', e', hr', hb'⟩ := qt2 l (pre ++ [m]) n r (qfw h) hn (by omega) (by omega) (fun m hm => ih m (List.mem_cons_of_mem _ hm))
   exact ⟨r', e', by omega, fun q => by rw [bdL]; exact ⟨hb (by omega), hb' q⟩⟩
theorem qt3 : ∀ (l pre : List BA) (n : Node) (k : Int), n.gaps = pre ++ l → n.gaps.length ≤ 4000 → n.kids.length ≤ 100000 → 0 ≤ k → k ≤ 4000 → (∀ m ∈ n.kids, ∀ k : Int, 0 ≤ k → k ≤ 4000 → ∃ r, Z5 m k = some r ∧ r ≤ k ∧ (0 ≤ r → bdN m)) →
 ∃ r, Qe k (pre.length : Int) n = some r ∧ r ≤ k ∧ (0 ≤ r → (∀ x ∈ l, x.size ≤ 4000) ∧ bdL n.kids)
 | [], pre, n, k, h, hn, hk, h0, h1, ih => by
   obtain ⟨r, e, hr, hb⟩ := qt2 n.kids [] n k rfl hk h0 h1 ih
   rw [Qe.eq_def]
   simp only [qa]
   rw [qmo h, Ke]
   exact ⟨r, e, hr, fun q => ⟨fun x hx => (by cases hx), hb q⟩⟩
 | m :: l, pre, n, k, h, hn, hk, h0, h1, ih => by
   have hl := qw7 h
   rw [Qe.eq_def]
   simp only [qa]
   rw [qmn h, Kd, qn9 h, bs]
   by_cases c : k ≤ (m.size : Int)
   ·rw [decide_eq_true c, Kd]; exact ⟨_, rfl, by omega, fun q => by omega⟩
   rw [decide_eq_false c, Ke, bs, qim (by omega) m, show IntKind.i64.wrap (k - (m.size : Int)) = k - m.size from wh (by omega) (by omega), wh (by omega) (by omega)]
   obtain ⟨r', e', hr', hb'⟩ := qt3 l (pre ++ [m]) n (k - m.size - 1) (qfw h) hn hk (by omega) (by omega) ih
   refine ⟨r', e', by omega, fun q => ⟨fun x hx => ?_, (hb' q).2⟩⟩
   rcases List.mem_cons.1 hx with rfl | hx
   ·omega
   exact (hb' q).1 x hx
theorem qt4 : ∀ (j : Nat) (n : Node), wl n ≤ j → wl n ≤ 100000 → ∀ k : Int, 0 ≤ k → k ≤ 4000 → ∃ r, Z5 n k = some r ∧ r ≤ k ∧ (0 ≤ r → bdN n)
 | 0, n, h, _, _, _, _ => by have := J1 n; omega
 | j + 1, n, h, hs, k, h0, h1 => by
   have e := Yg n
   have hl := qea n.kids
   rw [Z5.eq_def]
   simp only [qa]
   by_cases c : k < (n.text.size : Int)
   ·rw [decide_eq_true c, Kd]; exact ⟨_, rfl, by omega, fun q => by omega⟩
   rw [decide_eq_false c, Ke]
   by_cases c2 : k < ((n.gaps.map sc).length : Int)
   ·rw [decide_eq_true c2, Kd]; exact ⟨_, rfl, by omega, fun q => by omega⟩
   rw [decide_eq_false c2, Ke, wh (by omega) (by omega)]
   rw [List.length_map] at c2
   obtain ⟨r, e1, hr, hb⟩ := qt3 n.gaps [] n (k - n.text.size) rfl (by omega) (by omega) (by omega) (by omega) (fun m hm => by
    have := qac hm
    exact qt4 j m (by omega) (by omega))
   refine ⟨r, e1, by omega, fun q => ?_⟩
   rw [q62]
   exact ⟨by omega, by omega, (hb q).1, (hb q).2⟩
def okS : Step → Prop
 | .own c w => c.size ≤ 4000 ∧ w.size ≤ 4000
 | .kid l _ => l.size ≤ 4000
theorem qsb (v : Int) : ∀ (r : Nat) (b : Bool), ∀ s ∈ kh v b r, okS s
 | 0, true, s, h => by rw [kh, List.mem_singleton] at h; subst h; exact ⟨by decide, by decide⟩
 | 0, false, s, h => by rw [kh, List.mem_singleton] at h; subst h; exact ⟨by decide, by decide⟩
 | r + 1, true, s, h => by
   rw [kh] at h
   rcases List.mem_cons.1 h with rfl | h
   ·show (e0 : BA).size ≤ 4000; decide
   exact qsb v r false s h
 | r + 1, false, s, h => by
   rw [kh] at h
   rcases List.mem_cons.1 h with rfl | h
   ·exact ⟨by decide, by decide⟩
   rcases List.mem_cons.1 h with rfl | h
   ·show (sp : BA).size ≤ 4000; decide
   exact qsb v r false s h
theorem qw4 {l : BA} (hl : l.size ≤ 4000) (v : Int) : ∀ (r : Nat), ∀ s ∈ allS l v r, okS s
 | 0, s, h => by cases h
 | r + 1, s, h => by
   rw [allS] at h
   rcases List.mem_cons.1 h with rfl | h
   ·exact hl
   exact qw4 hl v r s h
theorem qyq (v : Int) : ∀ (r : Nat) {l : BA} (hl : l.size ≤ 4000), ∀ s ∈ Q5 v l r, okS s
 | 0, l, hl, s, h => by cases h
 | r + 1, l, hl, s, h => by
   rw [Q5] at h
   rcases List.mem_cons.1 h with rfl | h
   ·exact hl
   exact qyq v r (by decide) s h
theorem qqx (v : Int) : (qi0 v).size = v.toNat + 1 := by
 show (10 :: List.replicate v.toNat 9).toArray.size = _
 rw [List.size_toArray, List.length_cons, List.length_replicate]
theorem q2y {d k : Int} {t : BA} {nk : Nat} {l : BA} {v : Int} (hk : known k = true) (ht : t.size ≤ 4000) (hl : l.size ≤ 4000) (hv : v ≤ 2000) : ∀ s ∈ stepsOf d k t nk l v, okS s := by
 have h0 : (e0 : BA).size ≤ 4000 := by decide
 have h1 : (sp : BA).size ≤ 4000 := by decide
 have hL : (qi0 v).size ≤ 4000 := by rw [qqx]; omega
 have hL1 : (qi0 (v + 1)).size ≤ 4000 := by rw [qqx]; omega
 have hfe : (qae l nk).size ≤ 4000 := by unfold qae; split; decide; exact hl
 have hbe : ∀ f, (qoy v f nk).size ≤ 4000 := by intro f; unfold qoy; split; exact hL; decide
 intro s hs
 rcases kinds hk with rfl | rfl | rfl | rfl | rfl | rfl | rfl | rfl | rfl | rfl | rfl | rfl | rfl | rfl | rfl | rfl | rfl | rfl | rfl | rfl | rfl | rfl | rfl | rfl | rfl | rfl
 case' inr.inr.inr.inr.inr.inr.inr.inl => by_cases c : t = e0 <;> simp [stepsOf, c] at hs
 case' inr.inr.inr.inr.inr.inr.inr.inr.inr.inr.inr.inr.inr.inl => by_cases c : nk = 0 <;> simp [stepsOf, c] at hs
 all_goals try simp only [stepsOf, Int.reduceEq, ite_false, ite_true, List.mem_append, List.mem_cons, List.not_mem_nil, or_false, false_or, qak, qay] at hs
 all_goals (repeat' (refine Or.elim hs (fun hs => ?_) (fun hs => ?_)))
 all_goals first
  | (subst hs; exact hl)
  | (subst hs; exact h0)
  | (subst hs; exact h1)
  | (subst hs; exact ⟨hl, by decide⟩)
  | (subst hs; exact ⟨h0, by decide⟩)
  | (subst hs; exact ⟨h1, by decide⟩)
  | (subst hs; exact ⟨hfe, by decide⟩)
  | (subst hs; exact ⟨hbe _, by decide⟩)
  | (subst hs; exact ⟨hl, ht⟩)
  | (subst hs; exact ⟨h0, ht⟩)
  | (subst hs; exact ⟨h1, ht⟩)
  | exact qsb _ _ _ s hs
  | exact qw4 h1 _ _ s hs
  | exact qw4 hL1 _ _ s hs
  | exact qyq _ _ hl s hs
def okT (x : Tok) : Prop := x.1.size ≤ 4000 ∧ x.2.size ≤ 4000
theorem qfm : ∀ (S : List Step) (g : List BA) (ks : List (BA → Int → List Tok)) (N : Nat), (∀ s ∈ S, okS s) → (∀ x ∈ g, x.size ≤ 4000) → (∀ f ∈ ks, ∃ b : Nat, True) →
 (∀ (f : BA → Int → List Tok), f ∈ ks → ∀ l v, Step.kid l v ∈ S → ∀ x ∈ f l v, okT x) → ∀ x ∈ ke S g ks, okT x
 | [], g, ks, N, h, hg, _, hk, x, hx => by rw [ke] at hx; cases hx
 | .own c w :: r, [], ks, N, h, hg, h3, hk, x, hx => by
   rw [ke] at hx
   have a := h _ (List.mem_cons_self ..)
   rcases List.mem_cons.1 hx with rfl | hx
   ·exact a
   exact qfm r [] ks N (fun s hs => h s (List.mem_cons_of_mem _ hs)) hg h3 (fun f hf l v hs => hk f hf l v (List.mem_cons_of_mem _ hs)) x hx
 | .own c w :: r, y :: g, ks, N, h, hg, h3, hk, x, hx => by
   rw [ke] at hx
   have a := h _ (List.mem_cons_self ..)
   rcases List.mem_cons.1 hx with rfl | hx
   ·exact ⟨hg y (List.mem_cons_self ..), a.2⟩
   exact qfm r g ks N (fun s hs => h s (List.mem_cons_of_mem _ hs)) (fun x hx => hg x (List.mem_cons_of_mem _ hx)) h3 (fun f hf l v hs => hk f hf l v (List.mem_cons_of_mem _ hs)) x hx
 | .kid l v :: r, g, [], N, h, hg, h3, hk, x, hx => by
   rw [ke] at hx
   exact qfm r g [] N (fun s hs => h s (List.mem_cons_of_mem _ hs)) hg h3 (fun f hf => by cases hf) x hx
 | .kid l v :: r, g, f :: ks, N, h, hg, h3, hk, x, hx => by
   rw [ke] at hx
   rcases List.mem_append.1 hx with hx | hx
   ·exact hk f (List.mem_cons_self ..) l v (List.mem_cons_self ..) x hx
   exact qfm r g ks N (fun s hs => h s (List.mem_cons_of_mem _ hs)) hg (fun f hf => h3 f (List.mem_cons_of_mem _ hf)) (fun f hf l v hs => hk f (List.mem_cons_of_mem _ hf) l v (List.mem_cons_of_mem _ hs)) x hx
theorem qgp (d : Int) : ∀ (l : List Node) (f : BA → Int → List Tok), f ∈ ve d l → ∃ m ∈ l, f = toks d m
 | [], f, h => by rw [ve] at h; cases h
 | n :: l, f, h => by
   rw [ve] at h
   rcases List.mem_cons.1 h with h | h
   ·exact ⟨n, List.mem_cons_self .., h⟩
   obtain ⟨m, hm, e⟩ := qgp d l f h
   exact ⟨m, List.mem_cons_of_mem _ hm, e⟩
theorem qyb (d : Int) (hd : d = 0 ∨ d = 1) : ∀ (j : Nat) (n : Node), wl n ≤ j → checkErr n = 0 → bdN n → ∀ (l : BA) (v : Int), l.size ≤ 4000 → v + wl n ≤ 2000 → ∀ x ∈ toks d n l v, okT x
 | 0, n, h, _, _, _, _, _, _ => by have := J1 n; omega
 | j + 1, n, h, hc, hb, l, v, hl, hv => by
   have w := wn hc
   have e := Yg n
   rw [q62] at hb
   rw [qd8]
   have hok := q2y (d := d) (nk := n.kids.length) w.kn (show n.text.size ≤ 4000 by omega) hl (show v ≤ 2000 by omega)
   refine qfm _ _ _ 0 hok (fun x hx => by have := hb.2.2.1 x hx; omega) (fun f hf => ⟨0, trivial⟩) (fun f hf l' v' hst x hx => ?_)
   obtain ⟨m, hm, rfl⟩ := qgp d _ f hf
   have hs := qac hm
   obtain ⟨q1, q2⟩ := qqy d hd w.kn hst
   exact qyb d hd j m (by omega) (w.kids m hm) (qzl hb.2.2.2 hm) l' v' (hok _ hst) (by omega) x hx
theorem qc1 : ∀ (S : List Step) (g : List BA) (ks : List (BA → Int → List Tok)) (b : List Nat), b.length = ks.length → (∀ (i : Nat) (f : BA → Int → List Tok) (n : Nat) (l : BA) (v : Int), ks[i]? = some f → b[i]? = some n → (f l v).length ≤ n) → (ke S g ks).length ≤ (wordsS S).length + b.sum
 | [], g, ks, b, _, _ => by rw [ke]; simp
 | .own c w :: r, [], ks, b, h, hk => by
   rw [ke, wordsS, List.length_cons, List.length_cons]
   have := qc1 r [] ks b h hk
   omega
 | .own c w :: r, y :: g, ks, b, h, hk => by
   rw [ke, wordsS, List.length_cons, List.length_cons]
   have := qc1 r g ks b h hk
   omega
 | .kid l v :: r, g, [], b, h, hk => by rw [ke, wordsS]; exact qc1 r g [] b h hk
 | .kid l v :: r, g, f :: ks, [], h, hk => by simp at h
 | .kid l v :: r, g, f :: ks, n :: b, h, hk => by
   rw [ke, wordsS, List.length_append, List.sum_cons]
   have h1 := hk 0 f n l v rfl rfl
   have h2 := qc1 r g ks b (by simpa using h) (fun i f n l v h1 h2 => hk (i + 1) f n l v (by simpa using h1) (by simpa using h2))
   omega
theorem q80 (l : List Node) : (l.map (fun m => 300 * wl m)).sum = 300 * vt l := by
 induction l with
 | nil => rfl
 | cons a l ih => rw [List.map_cons, List.sum_cons, ih, vt]; omega
theorem qqh (d : Int) : ∀ (l : List Node) (i : Nat) (f : BA → Int → List Tok), (ve d l)[i]? = some f → ∃ m, l[i]? = some m ∧ f = toks d m
 | [], i, f, h => by rw [ve] at h; simp at h
 | n :: l, 0, f, h => by rw [ve] at h; simp only [List.getElem?_cons_zero, Option.some.injEq] at h; exact ⟨n, rfl, h.symm⟩
 | n :: l, i + 1, f, h => by rw [ve] at h; exact qqh d l i f (by simpa using h)
theorem qt7 (d : Int) : ∀ (j : Nat) (n : Node), wl n ≤ j → checkErr n = 0 → ∀ (l : BA) (v : Int), (toks d n l v).length ≤ 300 * wl n
 | 0, n, h, _, _, _ => by have := J1 n; omega
 | j + 1, n, h, hc, l, v => by
   have w := wn hc
   have e := Yg n
   have hle := w.le
   have ho := q2w d l v w.kn w.nk
   rw [qd8]
   have := qc1 (stepsOf d n.kind n.text n.kids.length l v) n.gaps (ve d n.kids) (n.kids.map (fun m => 300 * wl m)) (by rw [List.length_map, qqg]) (fun i f k l v h1 h2 => by
    obtain ⟨m, hm, rfl⟩ := qqh d _ i f h1
    rw [List.getElem?_map, hm] at h2
    simp only [Option.map_some, Option.some.injEq] at h2
    have hs := qac (List.mem_of_getElem? hm)
    rw [← h2]
    exact qt7 d j m (by omega) (w.kids m (List.mem_of_getElem? hm)) l v)
   rw [q80] at this
   omega
def srcL : List Tok → List UInt8 → BA → List UInt8 × BA
 | [], s, last => (s, last)
 | (g, w) :: T, s, last => srcL T (outL s (L last) (L g) (L w)) w
theorem q5j (s last g w : List UInt8) : (outL s last g w).length ≤ s.length + g.length + w.length + 1 := by
 unfold outL
 rw [List.length_append, List.length_append, List.length_append]
 split <;> simp <;> omega
theorem qzf : ∀ (T : List Tok) (s : List UInt8) (last : BA), (∀ x ∈ T, okT x) → last.size ≤ 4000 → s.length + 8001 * T.length ≤ 1000000000 → Jo qoq (last, s) T = some ((srcL T s last).2, (srcL T s last).1)
 | [], s, last, _, _, _ => rfl
 | (g, w) :: T, s, last, h, hl, hb => by
   rw [List.length_cons] at hb
   have a := h _ (List.mem_cons_self ..)
   have a1 : g.size ≤ 4000 := a.1
   have a2 : w.size ≤ 4000 := a.2
   have ho := q5j s (L last) (L g) (L w)
   rw [Yh, Yh] at ho
   rw [Jo, qoq, q7z g w last s (by omega) (by omega), bs, srcL]
   exact qzf T _ w (fun x hx => h x (List.mem_cons_of_mem _ hx)) a2 (by omega)
theorem q1x {σ : Type} (emit : σ → BA → BA → Option σ) (node : σ → Node → BA → Int → Option (Node × σ))
 (hnode : ∀ (n : Node) (s : σ) (l : BA) (v : Int), known n.kind = true → 0 ≤ v → v ≤ 100000 → node s n l v = run (ownG emit n) (kidG node n) (stepsOf 0 n.kind n.text n.kids.length l v) s [] [] >>= fun x => some (Node.mk n.kind n.text x.2.1 x.2.2, x.1))
 (n : Node) (hc : checkErr n = 0) (hs : wl n ≤ 90000) (s : σ) (l : BA) : node s n l 0 = Jo emit s (toks 0 n l 0) >>= fun s => some (layN 0 n l 0, s) := by
 refine qyt emit node (fun n => checkErr n = 0) (fun n h m hm => (wn h).kids m hm) (fun n h l v => ?_) (fun n h l l' v v' hst => qqy 0 (.inl rfl) (wn h).kn hst) (fun n s l v h h0 h1 => hnode n s l v (wn h).kn h0 h1) (wl n) n (Nat.le_refl _) hc s l 0 (Int.le_refl _) (by omega)
 have w := wn h
 have e := q84 0 n.text l v w.kn w.nk
 have o := q2w 0 l v w.kn w.nk
 have p := qkf (stepsOf 0 n.kind n.text n.kids.length l v)
 have hle := w.le
 exact ⟨by omega, by omega, by omega⟩
theorem qzi {n : Node} (h : wfB n = true) : yw n = some (checkErr n) ∧ qpq n = some (checkErr n) := by
 unfold yw qpq
 rw [if_pos h]; exact ⟨rfl, rfl⟩
theorem qmk {a b : Int} : ((!decide (a = b)) = true) = ¬ a = b := by simp
def q14 (n : Node) : BA × Int := if checkErr n = 0 then (if 65536 < (srcL (toks 0 n e0 0) [] e0).1.length then (e0, 3) else (ofB (srcL (toks 0 n e0 0) [] e0).1, 0)) else (e0, checkErr n)
theorem q8k (n : Node) (hs : wl n ≤ 300) (hb : bdN n) : Wm n = some (q14 n) := by
 rw [Wm.eq_def, (qzi (q38 n hb (by omega))).1, bs, q14]
 by_cases c : checkErr n = 0
 ·have a := q1x qoq qnz q68 n c (by omega) (e0, []) e0
  have hl := qt7 0 (wl n) n (Nat.le_refl _) c e0 0
  rw [qzf _ _ _ (qyb 0 (.inl rfl) (wl n) n (Nat.le_refl _) c hb e0 0 (by decide) (by omega)) (by decide) (by rw [List.length_nil]; omega), bs] at a
  rw [if_neg (by rw [qmk]; exact fun q => q c), if_pos c]
  unfold qnz at a
  rw [show qbb (⟨#[]⟩ : ByteArray) ([] : List UInt8) n (⟨#[]⟩ : ByteArray) (0 : Int) = _ from a, bs]
  unfold Jj Zc
  simp only [bs]
  by_cases q : 65536 < (srcL (toks 0 n e0 0) [] e0).1.length
  ·rw [if_pos q]
   rw [if_pos (decide_eq_true (by omega))]
  rw [if_neg q]
  rw [if_neg (by rw [decide_eq_true_eq]; omega)]; rfl
 rw [if_pos (by rw [qmk]; exact c), if_neg c]
end Go.Proofs.YtigmilhpeodhbaaGreatDoorW.Ex.Gr
