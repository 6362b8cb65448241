/- Small trees; the tokens of a small tree are small; what the functions of print and of the reference return. Conditions: those in each theorem. -/
import Derived.Test.YtimcdpioclioiaaGreatDoorHL
import Derived.Test.YtimcdpioclioiaaGreatDoorHe
import Derived.Test.YtimcdpioclioiaaGreatDoorYb
namespace Go.Proofs.YtimcdpioclioiaaGreatDoorW.Ex.Gr
open Go Go.Proofs.YtimcdpioclioiaaGreatDoorW.Ex Tk
set_option linter.all false
set_option maxRecDepth 100000
theorem ix_pre {α : Type} (pre : List α) (m : α) (l : List α) : ix (pre ++ m :: l) (pre.length : Int) = some m := by
 rw [J0, List.getElem?_append_right (Nat.le_refl _), Nat.sub_self]; rfl
theorem ix_mid {α : Type} {L pre l : List α} {m : α} (h : L = pre ++ m :: l) : ix L (pre.length : Int) = some m := by rw [h, ix_pre]
theorem len_mid {α β : Type} {C : α → β} {L pre l : List α} {m : α} (h : L = pre ++ m :: l) : decide ((pre.length : Int) < ((L.map C).length : Int)) = true := by
 rw [List.length_map, h, List.length_append, List.length_cons]; exact decide_eq_true (by omega)
theorem len_end {α β : Type} {C : α → β} {L pre : List α} (h : L = pre ++ []) : decide ((pre.length : Int) < ((L.map C).length : Int)) = false := by
 rw [List.length_map, h, List.length_append, List.length_nil]; exact decide_eq_false (by omega)
theorem Ja {α : Type} {pre : List α} (h : pre.length < 9223372036854775807) (m : α) : IntKind.i64.wrap ((pre.length : Int) + 1) = ((pre ++ [m]).length : Int) := by
 rw [List.length_append, List.length_singleton]; exact zr (by omega) (by omega)
theorem Js {α : Type} {L pre l : List α} {m : α} (h : L = pre ++ m :: l) : L = (pre ++ [m]) ++ l := by rw [h, List.append_assoc]; rfl
theorem len_lt {α : Type} {L pre l : List α} {m : α} (h : L = pre ++ m :: l) : pre.length < L.length := by rw [h, List.length_append, List.length_cons]; omega
def Left (n : Nat) (k r : Int) : Prop := r = -1 ∨ (0 ≤ r ∧ r = k - n)
mutual
theorem P_R6_left : ∀ (n : Node) (k d : Int), k ≤ 1000000 → -1000000 ≤ k → d ≤ 1000000 → -1000000 ≤ d → ∃ r, F_R6_left n k d = some r ∧ Left (jl n) k r
 | .mk kd t g l, k, d, h1, h2, h3, h4 => by
   rw [F_R6_left.eq_def]
   simp only [qa]
   by_cases c1 : k < 1
   ·rw [decide_eq_true c1, yh]; exact ⟨_, rfl, .inl rfl⟩
   ·rw [decide_eq_false c1, yq]
    by_cases c2 : d < 1
    ·rw [decide_eq_true c2, yh]; exact ⟨_, rfl, .inl rfl⟩
    ·rw [decide_eq_false c2, yq]
     by_cases c3 : k < (((Node.mk kd t g l).kids.map Node.cells).length : Int)
     ·rw [decide_eq_true c3, yh]; exact ⟨_, rfl, .inl rfl⟩
     ·rw [decide_eq_false c3, yq, zr (by omega) (by omega)]
      rw [List.length_map] at c3
      have c3' : (l.length : Int) ≤ 1000000 := by
       have : ((Node.mk kd t g l).kids).length = l.length := rfl
       omega
      obtain ⟨r, e, hr⟩ := P_R6_left_l0 l [] (.mk kd t g l) d (k - 1) rfl (by omega) (by omega) (by omega) (by omega) c3'
      rw [show ((0 : Int)) = (([] : List Node).length : Int) from rfl, e]
      refine ⟨r, rfl, ?_⟩
      unfold Left at hr ⊢
      rw [jl]; omega
theorem P_R6_left_l0 : ∀ (l pre : List Node) (n : Node) (d k : Int), n.kids = pre ++ l → 0 ≤ k → k ≤ 1000000 → d ≤ 1000000 → 1 ≤ d → (n.kids.length : Int) ≤ 1000000 → ∃ r, F_R6_left_l0 d k (pre.length : Int) n = some r ∧ Left (ya l) k r
 | [], pre, n, d, k, hk, h0, h1, _, _, _ => by
   rw [F_R6_left_l0.eq_def, len_end hk, yq]
   exact ⟨k, rfl, .inr ⟨h0, by simp [ya]⟩⟩
 | m :: l, pre, n, d, k, hk, h0, h1, h2, h3, hb => by
   have hb2 := hb
   rw [hk, List.length_append] at hb2
   obtain ⟨r, e, hr⟩ := P_R6_left m k (d - 1) (by omega) (by omega) (by omega) (by omega)
   rw [F_R6_left_l0.eq_def]
   simp only [qa]
   rw [len_mid hk, yh, ix_mid hk, bs, zr (by omega) (by omega), e, bs]
   by_cases c : r < 0
   ·rw [decide_eq_true c, yh]; exact ⟨_, rfl, .inl rfl⟩
   ·rw [decide_eq_false c, yq, Ja (by omega) m]
    have hr2 : 0 ≤ r ∧ r = k - jl m := by unfold Left at hr; omega
    obtain ⟨r', e', hr'⟩ := P_R6_left_l0 l (pre ++ [m]) n d r (Js hk) (by omega) (by omega) h2 h3 hb
    rw [e']
    refine ⟨r', rfl, ?_⟩
    unfold Left at hr' ⊢
    rw [ya]; omega
end
mutual
/-- Texts and gaps are short. -/
def bdN : Node → Prop
 | .mk _ t g l => t.size ≤ 3000 ∧ g.length ≤ 3000 ∧ (∀ x ∈ g, x.size ≤ 3000) ∧ bdL l
def bdL : List Node → Prop
 | [] => True
 | n :: l => bdN n ∧ bdL l
end
theorem bd_eq (n : Node) : bdN n = (n.text.size ≤ 3000 ∧ n.gaps.length ≤ 3000 ∧ (∀ x ∈ n.gaps, x.size ≤ 3000) ∧ bdL n.kids) := by cases n; rw [bdN]; rfl
theorem bdL_mem : ∀ {l : List Node} {m : Node}, bdL l → m ∈ l → bdN m
 | a :: l, m, h, hm => by
   rw [bdL] at h
   rcases List.mem_cons.1 hm with rfl | hm
   ·exact h.1
   ·exact bdL_mem h.2 hm
theorem Qw {l : List Node} {m : Node} (h : m ∈ l) : jl m ≤ ya l := by
 obtain ⟨a, b, e⟩ := List.append_of_mem h
 rw [e, Qm, ya]; omega
mutual
theorem bd_wf : ∀ n : Node, bdN n → jl n ≤ 100000 → wfB n = true
 | .mk k t g l, h, hs => by
   rw [bdN] at h
   rw [jl] at hs
   have hl := Zj l
   rw [wfB, decide_eq_true (show l.length ≤ 9223372036854775807 by omega), decide_eq_true (show g.length ≤ 9223372036854775807 by omega), decide_eq_true (show t.size ≤ 9223372036854775807 by omega), bd_wfL l h.2.2.2 (by omega)]
   simp only [Bool.true_and, Bool.and_true, List.all_eq_true, decide_eq_true_eq]
   intro x hx
   have := h.2.2.1 x hx
   omega
theorem bd_wfL : ∀ l : List Node, bdL l → ya l ≤ 100000 → wfBL l = true
 | [], _, _ => by rw [wfBL]
 | n :: l, h, hs => by
   rw [bdL] at h
   rw [ya] at hs
   rw [wfBL, bd_wf n h.1 (by omega), bd_wfL l h.2 (by omega)]; rfl
end
def okS : Step → Prop
 | .own c w => c.size ≤ 3000 ∧ w.size ≤ 3000
 | .kid l _ => l.size ≤ 3000
theorem ok_rest (v : Int) : ∀ (r : Nat) (b : Bool), ∀ s ∈ jf v b r, okS s
 | 0, true, s, h => by rw [jf, List.mem_singleton] at h; subst h; exact ⟨by decide, by decide⟩
 | 0, false, s, h => by rw [jf, List.mem_singleton] at h; subst h; exact ⟨by decide, by decide⟩
 | r + 1, true, s, h => by
   rw [jf] at h
   rcases List.mem_cons.1 h with rfl | h
   ·show (e0 : BA).size ≤ 3000; decide
   ·exact ok_rest v r false s h
 | r + 1, false, s, h => by
   rw [jf] at h
   rcases List.mem_cons.1 h with rfl | h
   ·exact ⟨by decide, by decide⟩
   ·rcases List.mem_cons.1 h with rfl | h
    ·show (sp : BA).size ≤ 3000; decide
    ·exact ok_rest v r false s h
theorem ok_all {l : BA} (hl : l.size ≤ 3000) (v : Int) : ∀ (r : Nat), ∀ s ∈ allS l v r, okS s
 | 0, s, h => by cases h
 | r + 1, s, h => by
   rw [allS] at h
   rcases List.mem_cons.1 h with rfl | h
   ·exact hl
   ·exact ok_all hl v r s h
theorem ok_file (v : Int) : ∀ (r : Nat) {l : BA} (hl : l.size ≤ 3000), ∀ s ∈ yj v l r, okS s
 | 0, l, hl, s, h => by cases h
 | r + 1, l, hl, s, h => by
   rw [yj] at h
   rcases List.mem_cons.1 h with rfl | h
   ·exact hl
   ·exact ok_file v r (by decide) s h
theorem Yr (v : Int) : (lineP v).size = v.toNat + 1 := by
 show (10 :: List.replicate v.toNat 9).toArray.size = _
 rw [List.size_toArray, List.length_cons, List.length_replicate]
theorem ok_steps {d k : Int} {t : BA} {nk : Nat} {l : BA} {v : Int} (hk : known k = true) (ht : t.size ≤ 3000) (hl : l.size ≤ 3000) (hv : v ≤ 2000) : ∀ s ∈ stepsOf d k t nk l v, okS s := by
 have h0 : (e0 : BA).size ≤ 3000 := by decide
 have h1 : (sp : BA).size ≤ 3000 := by decide
 have hL : (lineP v).size ≤ 3000 := by rw [Yr]; omega
 have hL1 : (lineP (v + 1)).size ≤ 3000 := by rw [Yr]; omega
 have hfe : (yt l nk).size ≤ 3000 := by unfold yt; split; decide; exact hl
 have hbe : ∀ f, (Za v f nk).size ≤ 3000 := by intro f; unfold Za; split; exact hL; decide
 intro s hs
 rcases kinds hk with rfl | rfl | rfl | rfl | rfl | rfl | rfl | rfl | rfl | rfl | rfl | rfl | rfl | rfl | rfl | rfl | rfl | rfl | rfl | rfl | rfl | rfl | rfl | rfl | rfl | rfl
 case' inr.inr.inr.inr.inr.inr.inr.inl => by_cases c : t = e0 <;> simp [stepsOf, c] at hs
 case' inr.inr.inr.inr.inr.inr.inr.inr.inr.inr.inr.inr.inr.inl => by_cases c : nk = 0 <;> simp [stepsOf, c] at hs
 all_goals try simp only [stepsOf, Int.reduceEq, ite_false, ite_true, List.mem_append, List.mem_cons, List.not_mem_nil, or_false, false_or, wl, ke] at hs
 all_goals (repeat' (refine Or.elim hs (fun hs => ?_) (fun hs => ?_)))
 all_goals first
  | (subst hs; exact hl)
  | (subst hs; exact h0)
  | (subst hs; exact h1)
  | (subst hs; exact ⟨hl, by decide⟩)
  | (subst hs; exact ⟨h0, by decide⟩)
  | (subst hs; exact ⟨h1, by decide⟩)
  | (subst hs; exact ⟨hfe, by decide⟩)
  | (subst hs; exact ⟨hbe _, by decide⟩)
  | (subst hs; exact ⟨hl, ht⟩)
  | (subst hs; exact ⟨h0, ht⟩)
  | (subst hs; exact ⟨h1, ht⟩)
  | exact ok_rest _ _ _ s hs
  | exact ok_all h1 _ _ s hs
  | exact ok_all hL1 _ _ s hs
  | exact ok_file _ _ hl s hs
def okT (x : Tok) : Prop := x.1.size ≤ 3000 ∧ x.2.size ≤ 3000
theorem Jg : ∀ (S : List Step) (g : List BA) (ks : List (BA → Int → List Tok)) (N : Nat), (∀ s ∈ S, okS s) → (∀ x ∈ g, x.size ≤ 3000) → (∀ f ∈ ks, ∃ b : Nat, True) →
 (∀ (f : BA → Int → List Tok), f ∈ ks → ∀ l v, Step.kid l v ∈ S → ∀ x ∈ f l v, okT x) → ∀ x ∈ jj S g ks, okT x
 | [], g, ks, N, h, hg, _, hk, x, hx => by rw [jj] at hx; cases hx
 | .own c w :: r, [], ks, N, h, hg, h3, hk, x, hx => by
   rw [jj] at hx
   have a := h _ (List.mem_cons_self ..)
   rcases List.mem_cons.1 hx with rfl | hx
   ·exact a
   ·exact Jg r [] ks N (fun s hs => h s (List.mem_cons_of_mem _ hs)) hg h3 (fun f hf l v hs => hk f hf l v (List.mem_cons_of_mem _ hs)) x hx
 | .own c w :: r, y :: g, ks, N, h, hg, h3, hk, x, hx => by
   rw [jj] at hx
   have a := h _ (List.mem_cons_self ..)
   rcases List.mem_cons.1 hx with rfl | hx
   ·exact ⟨hg y (List.mem_cons_self ..), a.2⟩
   ·exact Jg r g ks N (fun s hs => h s (List.mem_cons_of_mem _ hs)) (fun x hx => hg x (List.mem_cons_of_mem _ hx)) h3 (fun f hf l v hs => hk f hf l v (List.mem_cons_of_mem _ hs)) x hx
 | .kid l v :: r, g, [], N, h, hg, h3, hk, x, hx => by
   rw [jj] at hx
   exact Jg r g [] N (fun s hs => h s (List.mem_cons_of_mem _ hs)) hg h3 (fun f hf => by cases hf) x hx
 | .kid l v :: r, g, f :: ks, N, h, hg, h3, hk, x, hx => by
   rw [jj] at hx
   rcases List.mem_append.1 hx with hx | hx
   ·exact hk f (List.mem_cons_self ..) l v (List.mem_cons_self ..) x hx
   ·exact Jg r g ks N (fun s hs => h s (List.mem_cons_of_mem _ hs)) hg (fun f hf => h3 f (List.mem_cons_of_mem _ hf)) (fun f hf l v hs => hk f (List.mem_cons_of_mem _ hf) l v (List.mem_cons_of_mem _ hs)) x hx
theorem Yl (d : Int) : ∀ (l : List Node) (f : BA → Int → List Tok), f ∈ kj d l → ∃ m ∈ l, f = toks d m
 | [], f, h => by rw [kj] at h; cases h
 | n :: l, f, h => by
   rw [kj] at h
   rcases List.mem_cons.1 h with h | h
   ·exact ⟨n, List.mem_cons_self .., h⟩
   ·obtain ⟨m, hm, e⟩ := Yl d l f h
    exact ⟨m, List.mem_cons_of_mem _ hm, e⟩
theorem toks_ok (d : Int) (hd : d = 0 ∨ d = 1) : ∀ (j : Nat) (n : Node), jl n ≤ j → checkErr n = 0 → bdN n → ∀ (l : BA) (v : Int), l.size ≤ 3000 → v + jl n ≤ 2000 → ∀ x ∈ toks d n l v, okT x
 | 0, n, h, _, _, _, _, _, _ => by have := wr n; omega
 | j + 1, n, h, hc, hb, l, v, hl, hv => by
   have w := wn hc
   have e := vd n
   rw [bd_eq] at hb
   rw [Qf]
   have hok := ok_steps (d := d) (nk := n.kids.length) w.kn (show n.text.size ≤ 3000 by omega) hl (show v ≤ 2000 by omega)
   refine Jg _ _ _ 0 hok (fun x hx => by have := hb.2.2.1 x hx; omega) (fun f hf => ⟨0, trivial⟩) (fun f hf l' v' hst x hx => ?_)
   obtain ⟨m, hm, rfl⟩ := Yl d _ f hf
   have hs := Qw hm
   obtain ⟨q1, q2⟩ := lev_steps d hd w.kn hst
   exact toks_ok d hd j m (by omega) (w.kids m hm) (bdL_mem hb.2.2.2 hm) l' v' (hok _ hst) (by omega) x hx
theorem Qv : ∀ (S : List Step) (g : List BA) (ks : List (BA → Int → List Tok)) (b : List Nat), b.length = ks.length → (∀ (i : Nat) (f : BA → Int → List Tok) (n : Nat) (l : BA) (v : Int), ks[i]? = some f → b[i]? = some n → (f l v).length ≤ n) → (jj S g ks).length ≤ (wordsS S).length + b.sum
 | [], g, ks, b, _, _ => by rw [jj]; simp
 | .own c w :: r, [], ks, b, h, hk => by
   rw [jj, wordsS, List.length_cons, List.length_cons]
   have := Qv r [] ks b h hk
   omega
 | .own c w :: r, y :: g, ks, b, h, hk => by
   rw [jj, wordsS, List.length_cons, List.length_cons]
   have := Qv r g ks b h hk
   omega
 | .kid l v :: r, g, [], b, h, hk => by rw [jj, wordsS]; exact Qv r g [] b h hk
 | .kid l v :: r, g, f :: ks, [], h, hk => by simp at h
 | .kid l v :: r, g, f :: ks, n :: b, h, hk => by
   rw [jj, wordsS, List.length_append, List.sum_cons]
   have h1 := hk 0 f n l v rfl rfl
   have h2 := Qv r g ks b (by simpa using h) (fun i f n l v h1 h2 => hk (i + 1) f n l v (by simpa using h1) (by simpa using h2))
   omega
theorem sumNL (l : List Node) : (l.map (fun m => 300 * jl m)).sum = 300 * ya l := by
 induction l with
 | nil => rfl
 | cons a l ih => rw [List.map_cons, List.sum_cons, ih, ya]; omega
theorem toksL_get (d : Int) : ∀ (l : List Node) (i : Nat) (f : BA → Int → List Tok), (kj d l)[i]? = some f → ∃ m, l[i]? = some m ∧ f = toks d m
 | [], i, f, h => by rw [kj] at h; simp at h
 | n :: l, 0, f, h => by rw [kj] at h; simp only [List.getElem?_cons_zero, Option.some.injEq] at h; exact ⟨n, rfl, h.symm⟩
 | n :: l, i + 1, f, h => by rw [kj] at h; exact toksL_get d l i f (by simpa using h)
theorem Jh (d : Int) : ∀ (j : Nat) (n : Node), jl n ≤ j → checkErr n = 0 → ∀ (l : BA) (v : Int), (toks d n l v).length ≤ 300 * jl n
 | 0, n, h, _, _, _ => by have := wr n; omega
 | j + 1, n, h, hc, l, v => by
   have w := wn hc
   have e := vd n
   have hle := w.le
   have ho := own_le d l v w.kn w.nk
   rw [Qf]
   have := Qv (stepsOf d n.kind n.text n.kids.length l v) n.gaps (kj d n.kids) (n.kids.map (fun m => 300 * jl m)) (by rw [List.length_map, toksL_len]) (fun i f k l v h1 h2 => by
    obtain ⟨m, hm, rfl⟩ := toksL_get d _ i f h1
    rw [List.getElem?_map, hm] at h2
    simp only [Option.map_some, Option.some.injEq] at h2
    have hs := Qw (List.mem_of_getElem? hm)
    rw [← h2]
    exact Jh d j m (by omega) (w.kids m (List.mem_of_getElem? hm)) l v)
   rw [sumNL] at this
   omega
theorem emit_W : ∀ (T : List Tok) (out : List BA), out.length + T.length ≤ 1000000000 → yl emitW out T = some (out ++ T.map (·.2))
 | [], out, h => by rw [yl, List.map_nil, List.append_nil]
 | (g, w) :: T, out, h => by
   rw [List.length_cons] at h
   rw [yl, emitW, F_emitW.eq_def, b1, app_ok (by simp only [List.length_singleton]; omega) (by decide), bs, emit_W T _ (by rw [List.length_append, List.length_singleton]; omega), List.append_assoc]; rfl
/-- The source behind a source, and the last word. -/
def srcL : List Tok → List UInt8 → BA → List UInt8 × BA
 | [], s, last => (s, last)
 | (g, w) :: T, s, last => srcL T (outL s (L last) (L g) (L w)) w
theorem out_len (s last g w : List UInt8) : (outL s last g w).length ≤ s.length + g.length + w.length + 1 := by
 unfold outL
 rw [List.length_append, List.length_append, List.length_append]
 split <;> simp <;> omega
theorem emit_T2 : ∀ (T : List Tok) (s : List UInt8) (last : BA), (∀ x ∈ T, okT x) → last.size ≤ 3000 → s.length + 8001 * T.length ≤ 1000000000 → yl emitT (last, s) T = some ((srcL T s last).2, (srcL T s last).1)
 | [], s, last, _, _, _ => rfl
 | (g, w) :: T, s, last, h, hl, hb => by
   rw [List.length_cons] at hb
   have a := h _ (List.mem_cons_self ..)
   have a1 : g.size ≤ 3000 := a.1
   have a2 : w.size ≤ 3000 := a.2
   have ho := out_len s (L last) (L g) (L w)
   rw [vj, vj] at ho
   rw [yl, emitT, emit_T g w last s (by omega) (by omega), bs, srcL]
   exact emit_T2 T _ w (fun x hx => h x (List.mem_cons_of_mem _ hx)) a2 (by omega)
theorem emit_L : ∀ (T : List Tok) (s : Unit), yl emitL s T = some ()
 | [], s => rfl
 | (g, w) :: T, s => by rw [yl, emitL, F_print_Layout_1.eq_def, bs]; exact emit_L T ()
theorem walk_all {σ : Type} (emit : σ → BA → BA → Option σ) (node : σ → Node → BA → Int → Option (Node × σ))
 (hnode : ∀ (n : Node) (s : σ) (l : BA) (v : Int), known n.kind = true → 0 ≤ v → v ≤ 100000 → node s n l v = run (ownG emit n) (kidG node n) (stepsOf 0 n.kind n.text n.kids.length l v) s [] [] >>= fun x => some (Node.mk n.kind n.text x.2.1 x.2.2, x.1))
 (n : Node) (hc : checkErr n = 0) (hs : jl n ≤ 90000) (s : σ) (l : BA) : node s n l 0 = yl emit s (toks 0 n l 0) >>= fun s => some (layN 0 n l 0, s) := by
 refine node_eq emit node (fun n => checkErr n = 0) (fun n h m hm => (wn h).kids m hm) (fun n h l v => ?_) (fun n h l l' v v' hst => lev_steps 0 (.inl rfl) (wn h).kn hst) (fun n s l v h h0 h1 => hnode n s l v (wn h).kn h0 h1) (jl n) n (Nat.le_refl _) hc s l 0 (Int.le_refl _) (by omega)
 have w := wn h
 have e := nk_eq 0 n.text l v w.kn w.nk
 have o := own_le 0 l v w.kn w.nk
 have p := len_steps (stepsOf 0 n.kind n.text n.kids.length l v)
 have hle := w.le
 exact ⟨by omega, by omega, by omega⟩
def Y4 (n : Node) : List BA × Int := if checkErr n = 0 then ((toks 0 n e0 0).map (·.2), 0) else ([], checkErr n)
theorem Yw {n : Node} (h : wfB n = true) : F_grammar_Check n = some (checkErr n) ∧ F_R7_Check n = some (checkErr n) := by
 unfold F_grammar_Check F_R7_Check
 rw [if_pos h]; exact ⟨rfl, rfl⟩
theorem w5 {a b : Int} : ((!decide (a = b)) = true) = ¬ a = b := by simp
theorem P_Words (n : Node) (hs : jl n ≤ 300) (hw : wfB n = true) : F_print_Words n = some (Y4 n) := by
 rw [F_print_Words.eq_def, (Yw hw).1, bs, Y4]
 by_cases c : checkErr n = 0
 ·have a := walk_all emitW nodeW walk_W n c (by omega) [] e0
  have hl := Jh 0 (jl n) n (Nat.le_refl _) c e0 0
  rw [emit_W _ _ (by rw [List.length_nil]; omega), bs] at a
  rw [if_neg (by rw [w5]; exact fun q => q c), if_pos c]
  unfold nodeW at a
  rw [a]; rfl
 ·rw [if_pos (by rw [w5]; exact c), if_neg c]
def Ji (n : Node) : BA × Int := if checkErr n = 0 then (if 65536 < (srcL (toks 0 n e0 0) [] e0).1.length then (e0, 3) else (ofB (srcL (toks 0 n e0 0) [] e0).1, 0)) else (e0, checkErr n)
theorem P_Text (n : Node) (hs : jl n ≤ 300) (hb : bdN n) : F_print_Text n = some (Ji n) := by
 rw [F_print_Text.eq_def, (Yw (bd_wf n hb (by omega))).1, bs, Ji]
 by_cases c : checkErr n = 0
 ·have a := walk_all emitT nodeT walk_T n c (by omega) (e0, []) e0
  have hl := Jh 0 (jl n) n (Nat.le_refl _) c e0 0
  rw [emit_T2 _ _ _ (toks_ok 0 (.inl rfl) (jl n) n (Nat.le_refl _) c hb e0 0 (by decide) (by omega)) (by decide) (by rw [List.length_nil]; omega), bs] at a
  rw [if_neg (by rw [w5]; exact fun q => q c), if_pos c]
  unfold nodeT at a
  rw [show F_nodeT (⟨#[]⟩ : ByteArray) ([] : List UInt8) n (⟨#[]⟩ : ByteArray) (0 : Int) = _ from a, bs]
  unfold F_strings_Builder_Lens1 F_strings_Builder_Strings1
  simp only [bs]
  by_cases q : 65536 < (srcL (toks 0 n e0 0) [] e0).1.length
  ·rw [if_pos q]
   rw [if_pos (decide_eq_true (by omega))]
  ·rw [if_neg q]
   rw [if_neg (by rw [decide_eq_true_eq]; omega)]; rfl
 ·rw [if_pos (by rw [w5]; exact c), if_neg c]
mutual
def kv : Node → Node
 | .mk k t _ l => .mk k t [] (kg l)
def kg : List Node → List Node
 | [] => []
 | n :: l => kv n :: kg l
end
theorem bare_eq (n : Node) : kv n = .mk n.kind n.text [] (kg n.kids) := by cases n; rw [kv]; rfl
mutual
theorem Yy : ∀ n : Node, jl (kv n) = jl n
 | .mk k t g l => by rw [kv, jl, jl, bareL_size l]
theorem bareL_size : ∀ l : List Node, ya (kg l) = ya l
 | [] => rfl
 | n :: l => by rw [kg, ya, ya, Yy n, bareL_size l]
end
mutual
theorem bare_bd : ∀ n : Node, bdN n → bdN (kv n)
 | .mk k t g l, h => by
   rw [bdN] at h
   rw [kv, bdN]
   exact ⟨h.1, Nat.zero_le _, fun x hx => (by cases hx), bareL_bd l h.2.2.2⟩
theorem bareL_bd : ∀ l : List Node, bdL l → bdL (kg l)
 | [], _ => by rw [kg, bdL]; trivial
 | n :: l, h => by rw [bdL] at h; rw [kg, bdL]; exact ⟨bare_bd n h.1, bareL_bd l h.2⟩
end
mutual
theorem P_Bare : ∀ n : Node, jl n ≤ 100000 → F_tree_Bare n = some (kv n)
 | .mk k t g l, h => by
   rw [jl] at h
   rw [F_tree_Bare.eq_def, kv]
   have hl := Zj l
   exact P_Bare_l0 l k t [] [] (by omega) (by rw [List.length_nil]; omega)
theorem P_Bare_l0 : ∀ (l : List Node) (k : Int) (t : BA) (g : List BA) (out : List Node), ya l ≤ 100000 → out.length + l.length ≤ 100000 → F_tree_Bare_l0 l k t g out = some (.mk k t g (out ++ kg l))
 | [], k, t, g, out, _, _ => by rw [F_tree_Bare_l0.eq_def, kg, List.append_nil]
 | m :: l, k, t, g, out, h, h2 => by
   rw [ya] at h
   rw [List.length_cons] at h2
   rw [F_tree_Bare_l0.eq_def]
   simp only [qa]
   rw [P_Bare m (by omega), bs, app_ok (by simp only [List.length_singleton]; omega) (by decide), bs, P_Bare_l0 l k t g _ (by omega) (by rw [List.length_append, List.length_singleton]; omega), List.append_assoc, kg]; rfl
end
def Kc (n : Node) : BA × Int := if checkErr n = 0 then Ji (kv n) else (e0, checkErr n)
theorem P_Plain (n : Node) (hs : jl n ≤ 300) (hb : bdN n) : F_print_Plain n = some (Kc n) := by
 rw [F_print_Plain.eq_def, (Yw (bd_wf n hb (by omega))).1, bs, Kc]
 by_cases c : checkErr n = 0
 ·rw [if_neg (by rw [w5]; exact fun q => q c), if_pos c, P_Bare n (by omega), bs, P_Text (kv n) (by rw [Yy]; exact hs) (bare_bd n hb)]; rfl
 ·rw [if_pos (by rw [w5]; exact c), if_neg c]
@[reducible] def zeroN : Node := .mk 0 ⟨#[]⟩ [] []
def layV (n : Node) : Node × Int := if checkErr n = 0 then (layN 0 n e0 0, 0) else (zeroN, checkErr n)
theorem P_Layout (n : Node) (hs : jl n ≤ 300) (hw : wfB n = true) : F_print_Layout n = some (layV n) := by
 rw [F_print_Layout.eq_def, (Yw hw).1, bs, layV]
 by_cases c : checkErr n = 0
 ·have a := walk_all emitL nodeL walk_L n c (by omega) () e0
  rw [emit_L, bs] at a
  rw [if_neg (by rw [w5]; exact fun q => q c), if_pos c]
  unfold nodeL at a
  cases q : F_nodeL n e0 0 with
  | none => rw [q] at a; cases a
  | some x =>
    rw [q, bs] at a
    cases a; rfl
 ·rw [if_pos (by rw [w5]; exact c), if_neg c]
end Go.Proofs.YtimcdpioclioiaaGreatDoorW.Ex.Gr
