/- The laws PrintLayout and PrintNumbers on the printed functions. No conditions beside those in each theorem. -/
import Derived.Test.YtbdhekefhcjhaaaDoorDh
namespace Go.Proofs.YtbdhekefhcjhaaaDoorW.Ex.Gr
open Go Go.Proofs.YtbdhekefhcjhaaaDoorW.Ex Go.Proofs.YtbdhekefhcjhaaaDoorW.Plain Tk
set_option linter.all false
set_option maxRecDepth 100000
theorem rest_blank : ∀ (l : List UInt8), (∀ c ∈ l, c = 32 ∨ c = 9 ∨ c = 10) → wh l.length l = []
 | [], _ => rfl
 | c :: l, h => by
   rw [List.length_cons, wh]
   have e : yj (c :: l) = some l := by
    show (if c = 32 ∨ c = 9 ∨ c = 10 then some l else _) = _
    rw [if_pos (h c (List.mem_cons_self ..))]
   rw [e]
   exact rest_blank l (fun x hx => h x (List.mem_cons_of_mem _ hx))
def vz (s : BA) : Prop := ∀ c ∈ L s, c = 32 ∨ c = 9 ∨ c = 10
theorem valid_blank (s : BA) (h : vz s) : yy s = true := by
 unfold yy
 rw [show (0 : Int) = ((0 : Nat) : Int) from rfl, endAt_in (Nat.zero_le _)]
 refine decide_eq_true ?_
 unfold z1 vm
 rw [List.drop_zero, rest_blank _ h]; rfl
def okC : Step → Prop
 | .own c _ => vz c
 | .kid l _ => vz l
theorem b_e0 : vz e0 := fun c h => by cases h
theorem b_sp : vz sp := fun c h => .inl (List.mem_singleton.1 (show c ∈ [32] from h))
theorem b_nl : vz ⟨#[10]⟩ := fun c h => .inr (.inr (List.mem_singleton.1 (show c ∈ [10] from h)))
theorem b_nn : vz ⟨#[10, 10]⟩ := fun c h => by
 have h : c ∈ [10, 10] := h
 simp at h; exact .inr (.inr h)
theorem b_line (v : Int) : vz (lineP v) := fun c h => by
 have h : c ∈ 10 :: List.replicate v.toNat 9 := h
 rcases List.mem_cons.1 h with h | h
 ·exact .inr (.inr h)
 ·exact .inr (.inl (List.eq_of_mem_replicate h))
theorem bc_rest (v : Int) : ∀ (r : Nat) (b : Bool), ∀ s ∈ js v b r, okC s
 | 0, true, s, h => by rw [js, List.mem_singleton] at h; subst h; exact b_e0
 | 0, false, s, h => by rw [js, List.mem_singleton] at h; subst h; exact b_e0
 | r + 1, true, s, h => by
   rw [js] at h
   rcases List.mem_cons.1 h with rfl | h
   ·exact b_e0
   ·exact bc_rest v r false s h
 | r + 1, false, s, h => by
   rw [js] at h
   rcases List.mem_cons.1 h with rfl | h
   ·exact b_e0
   ·rcases List.mem_cons.1 h with rfl | h
    ·exact b_sp
    ·exact bc_rest v r false s h
theorem bc_all {l : BA} (hl : vz l) (v : Int) : ∀ (r : Nat), ∀ s ∈ allS l v r, okC s
 | 0, s, h => by cases h
 | r + 1, s, h => by
   rw [allS] at h
   rcases List.mem_cons.1 h with rfl | h
   ·exact hl
   ·exact bc_all hl v r s h
theorem bc_file (v : Int) : ∀ (r : Nat) {l : BA} (hl : vz l), ∀ s ∈ y4 v l r, okC s
 | 0, l, hl, s, h => by cases h
 | r + 1, l, hl, s, h => by
   rw [y4] at h
   rcases List.mem_cons.1 h with rfl | h
   ·exact hl
   ·exact bc_file v r b_nn s h
theorem bc_steps {d k : Int} {t : BA} {nk : Nat} {l : BA} {v : Int} (hk : known k = true) (hl : vz l) : ∀ s ∈ stepsOf d k t nk l v, okC s := by
 have hfe : vz (kl l nk) := by unfold kl; split; exact b_nl; exact hl
 have hbe : ∀ f, vz (Jx v f nk) := by intro f; unfold Jx; split; exact b_line v; exact b_e0
 intro s hs
 rcases kinds hk with rfl | rfl | rfl | rfl | rfl | rfl | rfl | rfl | rfl | rfl | rfl | rfl | rfl | rfl | rfl | rfl | rfl | rfl | rfl | rfl | rfl | rfl | rfl | rfl | rfl | rfl
 case' inr.inr.inr.inr.inr.inr.inr.inl => by_cases c : t = e0 <;> simp [stepsOf, c] at hs
 case' inr.inr.inr.inr.inr.inr.inr.inr.inr.inr.inr.inr.inr.inl => by_cases c : nk = 0 <;> simp [stepsOf, c] at hs
 all_goals try simp only [stepsOf, Int.reduceEq, ite_false, ite_true, List.mem_append, List.mem_cons, List.not_mem_nil, or_false, false_or, ug, km] at hs
 all_goals (repeat' (refine Or.elim hs (fun hs => ?_) (fun hs => ?_)))
 all_goals first
  | (subst hs; exact hl)
  | (subst hs; exact b_e0)
  | (subst hs; exact b_sp)
  | (subst hs; exact hfe)
  | (subst hs; exact hbe _)
  | exact bc_rest _ _ _ s hs
  | exact bc_all b_sp _ _ s hs
  | exact bc_all (b_line _) _ _ s hs
  | exact bc_file _ _ hl s hs
theorem Zm : ∀ (S : List Step) (c : BA), c ∈ ym S → ∃ w, Step.own c w ∈ S
 | [], c, h => by rw [ym] at h; cases h
 | .own a w :: S, c, h => by
   rw [ym] at h
   rcases List.mem_cons.1 h with rfl | h
   ·exact ⟨w, List.mem_cons_self ..⟩
   ·obtain ⟨w', hw⟩ := Zm S c h
    exact ⟨w', List.mem_cons_of_mem _ hw⟩
 | .kid a b :: S, c, h => by
   rw [ym] at h
   obtain ⟨w', hw⟩ := Zm S c h
   exact ⟨w', List.mem_cons_of_mem _ hw⟩
theorem Kr (d : Int) : ∀ (S : List Step) (ks : List Node) (x : Node), x ∈ layW S (layL d ks) → ∃ m ∈ ks, ∃ l v, Step.kid l v ∈ S ∧ x = layN d m l v
 | [], ks, x, h => by rw [layW] at h; cases h
 | .own c w :: S, ks, x, h => by
   rw [layW] at h
   obtain ⟨m, hm, l, v, hs, e⟩ := Kr d S ks x h
   exact ⟨m, hm, l, v, List.mem_cons_of_mem _ hs, e⟩
 | .kid l v :: S, [], x, h => by rw [layL, layW] at h; cases h
 | .kid l v :: S, m :: ks, x, h => by
   rw [layL, layW] at h
   rcases List.mem_cons.1 h with h | h
   ·exact ⟨m, List.mem_cons_self .., l, v, List.mem_cons_self .., h⟩
   ·obtain ⟨m', hm, l', v', hs, q⟩ := Kr d S ks x h
    exact ⟨m', List.mem_cons_of_mem _ hm, l', v', List.mem_cons_of_mem _ hs, q⟩
theorem all_from {α : Type} (p : α → Bool) : ∀ (l : List α) (i : Nat), (∀ x ∈ l, p x = true) → jw (fun _ g => p g) i l = true
 | [], i, h => rfl
 | a :: l, i, h => by
   show (p a && jw _ (i + 1) l) = true
   rw [h a (List.mem_cons_self ..), all_from p l (i + 1) (fun x hx => h x (List.mem_cons_of_mem _ hx))]; rfl
theorem like_gaps {n n' : Node} (hk : n'.kind = n.kind) (ht : n'.text = n.text) (hg : w4 n' = true) (hl : LikeL n.kids n'.kids) : Like n n' := by
 have len := hl.len
 have hz : ∀ d, size? n' d = size? n d := by
  intro d
  cases d with
  | zero => rw [vj, vj]
  | succ d => rw [w6, w6, hk, len, hl.size]
 refine ⟨hk, ht, hz, fun h => ?_⟩
 obtain ⟨h1, h2⟩ := K1 h
 obtain ⟨k0, k1, k2, k3, k4, k5⟩ := node_ok h1
 have b1 : w0 n' = true := by unfold w0 wo at k1 ⊢; rw [hk, len, hl.fits]; exact k1
 have b3 : yk n' = true := by
  unfold yk kid at k3 ⊢
  have : level n' = level n := by unfold level; rw [hk, ht]
  rw [hl.lev, hl.lev, hk, this]; exact k3
 have b2 : kc n' = true := by unfold kc at k2 ⊢; rw [hk, ht]; exact k2
 have b4 : y5 n' = true := by unfold y5 at k4 ⊢; rw [hk, ht]; exact k4
 have e : z2 n' = 0 := by
  have a2 : jz n' = true := by
   have b0 : known n'.kind = true := by rw [hk]; exact k0
   simp [jz, b0, b1, b2, b3]
  simp [z2, a2, b4, hg]
 rw [j4, e, if_pos rfl]
 rw [j4, h1, if_pos rfl] at h
 exact hl.first h
theorem likeL_lay : ∀ (S : List Step) (ks : List Node), nkS S = ks.length → (∀ m ∈ ks, ∀ l v, Step.kid l v ∈ S → Like m (layN 0 m l v)) → LikeL ks (layW S (layL 0 ks))
 | [], [], h, hk => by rw [layW]; exact .nil
 | [], m :: ks, h, hk => by rw [nkS] at h; simp at h
 | .own c w :: S, ks, h, hk => by rw [layW]; exact likeL_lay S ks (by rw [nkS] at h; exact h) (fun m hm l v hs => hk m hm l v (List.mem_cons_of_mem _ hs))
 | .kid l v :: S, [], h, hk => by rw [nkS] at h; simp at h
 | .kid l v :: S, m :: ks, h, hk => by
   rw [layL, layW]
   exact .cons (hk m (List.mem_cons_self ..) l v (List.mem_cons_self ..)) (likeL_lay S ks (by rw [nkS] at h; simpa using h) (fun m hm l v hs => hk m (List.mem_cons_of_mem _ hm) l v (List.mem_cons_of_mem _ hs)))
theorem own_same {n n' : Node} (hk : n'.kind = n.kind) (ht : n'.text = n.text) (hl : n'.kids.length = n.kids.length) : own n' = own n := by unfold own; rw [hk, ht, hl]
theorem vw {n : Node} (w : WN n) (l : BA) (v : Int) : (layN 0 n l v).kids.length = n.kids.length ∧ nkS (stepsOf 0 n.kind n.text n.kids.length l v) = n.kids.length := by
 have hk := nk_eq 0 n.text l v w.kn w.nk
 have hw := Kq (stepsOf 0 n.kind n.text n.kids.length l v) (layL 0 n.kids) (by rw [Ks]; exact hk.symm)
 rw [yn]
 exact ⟨hw.trans hk, hk⟩
theorem lay_gaps {n : Node} (w : WN n) (l : BA) (v : Int) : ((layN 0 n l v).gaps.length : Int) = own n := by
 rw [own_eq 0 l v w.kn w.nk (by have := w.le; omega), yn, ← wz]; rfl
theorem lay_like : ∀ (j : Nat) (n : Node), zw n ≤ j → checkErr n = 0 → ∀ l v, vz l → Like n (layN 0 n l v)
 | 0, n, h, _, _, _, _ => by have := yb n; omega
 | j + 1, n, h, hc, l, v, hl => by
   have w := wn hc
   have e := ye n
   obtain ⟨q1, q2⟩ := vw w l v
   have hb := bc_steps (d := 0) (t := n.text) (nk := n.kids.length) (v := v) w.kn hl
   refine like_gaps (by rw [yn]; rfl) (by rw [yn]; rfl) ?_ ?_
   ·unfold w4
    rw [own_same (n := n) (by rw [yn]; rfl) (by rw [yn]; rfl) q1, decide_eq_true (lay_gaps w l v)]
    have : uq (layN 0 n l v) = true := by
     unfold uq
     refine all_from yy _ 0 (fun x hx => valid_blank x ?_)
     rw [yn] at hx
     obtain ⟨y, hy⟩ := Zm _ x hx
     exact hb _ hy
    rw [this]; simp
   ·rw [yn]
    refine likeL_lay _ _ q2 (fun m hm l' v' hs => ?_)
    have := ke hm
    exact lay_like j m (by omega) (w.kids m hm) l' v' (hb _ hs)
mutual
theorem bare_like : ∀ n : Node, Like n (u7 n)
 | .mk k t g l => by
   rw [u7]
   exact like_node rfl rfl (.inr rfl) (bareL_like l)
theorem bareL_like : ∀ l : List Node, LikeL l (wq l)
 | [] => by rw [wq]; exact .nil
 | n :: l => by rw [wq]; exact .cons (bare_like n) (bareL_like l)
end
theorem bdL_of : ∀ (l : List Node), (∀ x ∈ l, bdN x) → bdL l
 | [], _ => by rw [bdL]; trivial
 | n :: l, h => by rw [bdL]; exact ⟨h n (List.mem_cons_self ..), bdL_of l (fun x hx => h x (List.mem_cons_of_mem _ hx))⟩
theorem lay_bd : ∀ (j : Nat) (n : Node), zw n ≤ j → checkErr n = 0 → bdN n → ∀ (l : BA) (v : Int), l.size ≤ 3000 → v + zw n ≤ 2000 → bdN (layN 0 n l v)
 | 0, n, h, _, _, _, _, _, _ => by have := yb n; omega
 | j + 1, n, h, hc, hb, l, v, hl, hv => by
   have w := wn hc
   have e := ye n
   have hle := w.le
   have ho := own_le 0 l v w.kn w.nk
   have hs := wz (stepsOf 0 n.kind n.text n.kids.length l v)
   rw [bd_eq] at hb
   have hok := ok_steps (d := 0) (nk := n.kids.length) w.kn (show n.text.size ≤ 3000 from hb.1) hl (show v ≤ 2000 by omega)
   rw [bd_eq, yn]
   refine ⟨hb.1, ?_, fun x hx => ?_, bdL_of _ (fun x hx => ?_)⟩
   ·show (ym _).length ≤ _; omega
   ·obtain ⟨y, hy⟩ := Zm _ x hx
    exact (hok _ hy).1
   ·obtain ⟨m, hm, l', v', hs, rfl⟩ := Kr 0 _ _ x hx
    have := ke hm
    obtain ⟨q1, q2⟩ := lev_steps 0 (.inl rfl) w.kn hs
    exact lay_bd j m (by omega) (w.kids m hm) (bdL_mem hb.2.2.2 hm) l' v' (hok _ hs) (by omega)
theorem layW_size : ∀ (S : List Step) (ks : List Node), nkS S = ks.length → (∀ m ∈ ks, ∀ l v, zw (layN 0 m l v) = zw m) → jg (layW S (layL 0 ks)) = jg ks
 | [], [], h, hk => by rw [layW]
 | [], m :: ks, h, hk => by rw [nkS] at h; simp at h
 | .own c w :: S, ks, h, hk => by rw [layW]; exact layW_size S ks (by rw [nkS] at h; exact h) hk
 | .kid l v :: S, [], h, hk => by rw [nkS] at h; simp at h
 | .kid l v :: S, m :: ks, h, hk => by
   rw [layL, layW, jg, jg, hk m (List.mem_cons_self ..), layW_size S ks (by rw [nkS] at h; simpa using h) (fun m hm => hk m (List.mem_cons_of_mem _ hm))]
theorem lay_size : ∀ (j : Nat) (n : Node), zw n ≤ j → checkErr n = 0 → ∀ l v, zw (layN 0 n l v) = zw n
 | 0, n, h, _, _, _ => by have := yb n; omega
 | j + 1, n, h, hc, l, v => by
   have w := wn hc
   have e := ye n
   obtain ⟨q1, q2⟩ := vw w l v
   rw [ye (layN 0 n l v), e, yn]
   show jg (layW _ _) + 1 = _
   rw [layW_size _ _ q2 (fun m hm l' v' => by have := ke hm; exact lay_size j m (by omega) (w.kids m hm) l' v')]
theorem layW_lay : ∀ (S : List Step) (ks : List Node), (∀ m ∈ ks, ∀ l v, layN 0 (layN 0 m l v) l v = layN 0 m l v) → layW S (layL 0 (layW S (layL 0 ks))) = layW S (layL 0 ks)
 | [], ks, hk => by rw [layW, layW]
 | .own c w :: S, ks, hk => by rw [layW, layW]; exact layW_lay S ks hk
 | .kid l v :: S, [], hk => by rw [layL, layW, layL, layW]
 | .kid l v :: S, m :: ks, hk => by
   rw [layL, layW, layL, layW, hk m (List.mem_cons_self ..), layW_lay S ks (fun m hm => hk m (List.mem_cons_of_mem _ hm))]
theorem lay_lay : ∀ (j : Nat) (n : Node), zw n ≤ j → checkErr n = 0 → ∀ l v, layN 0 (layN 0 n l v) l v = layN 0 n l v
 | 0, n, h, _, _, _ => by have := yb n; omega
 | j + 1, n, h, hc, l, v => by
   have w := wn hc
   have e := ye n
   obtain ⟨q1, q2⟩ := vw w l v
   rw [yn 0 (layN 0 n l v), q1]
   rw [yn 0 n]
   show Node.mk n.kind n.text (ym (stepsOf 0 n.kind n.text n.kids.length l v)) (layW (stepsOf 0 n.kind n.text n.kids.length l v) (layL 0 (layW (stepsOf 0 n.kind n.text n.kids.length l v) (layL 0 n.kids)))) = _
   rw [layW_lay _ _ (fun m hm l' v' => by have := ke hm; exact lay_lay j m (by omega) (w.kids m hm) l' v')]
theorem weave_lay : ∀ (S : List Step) (ks : List Node), nkS S = ks.length → (∀ m ∈ ks, ∀ l v, toks 0 (layN 0 m l v) l v = toks 0 (u7 m) l v) → j8 S (ym S) (ka 0 (layW S (layL 0 ks))) = j8 S [] (ka 0 (wq ks))
 | [], ks, h, hk => by rw [j8, j8]
 | .own c w :: S, ks, h, hk => by rw [ym, layW, j8, j8, weave_lay S ks (by rw [nkS] at h; exact h) hk]
 | .kid l v :: S, [], h, hk => by rw [nkS] at h; simp at h
 | .kid l v :: S, m :: ks, h, hk => by
   rw [ym, layL, layW, ka, j8, wq, ka, j8, hk m (List.mem_cons_self ..), weave_lay S ks (by rw [nkS] at h; simpa using h) (fun m hm => hk m (List.mem_cons_of_mem _ hm))]
theorem bareL_len : ∀ l : List Node, (wq l).length = l.length
 | [] => by rw [wq]
 | n :: l => by rw [wq, List.length_cons, List.length_cons, bareL_len l]
theorem toks_lay : ∀ (j : Nat) (n : Node), zw n ≤ j → checkErr n = 0 → ∀ l v, toks 0 (layN 0 n l v) l v = toks 0 (u7 n) l v
 | 0, n, h, _, _, _ => by have := yb n; omega
 | j + 1, n, h, hc, l, v => by
   have w := wn hc
   have e := ye n
   obtain ⟨q1, q2⟩ := vw w l v
   rw [J7 0 (layN 0 n l v), q1, yn 0 n, bare_eq, J7]
   show j8 (stepsOf 0 n.kind n.text n.kids.length l v) (ym _) (ka 0 (layW _ _)) = j8 (stepsOf 0 n.kind n.text (wq n.kids).length l v) [] (ka 0 (wq n.kids))
   rw [bareL_len]
   exact weave_lay _ _ q2 (fun m hm l' v' => by have := ke hm; exact toks_lay j m (by omega) (w.kids m hm) l' v')
theorem same_l0 (a n : Node) (hl : a.kids.length = n.kids.length) (hn : a.kids.length ≤ 1000000) (ih : ∀ (i : Nat) (m m' : Node), a.kids[i]? = some m → n.kids[i]? = some m' → F_R6_Same m m' = some true) : ∀ (l pre : List Node), a.kids = pre ++ l → F_R6_Same_l0 (pre.length : Int) a n = some true
 | [], pre, h => by rw [F_R6_Same_l0.eq_def, vf h, yf]
 | m :: l, pre, h => by
   have hlt := Jl h
   have h1 : a.kids[pre.length]? = some m := by rw [← Yw]; exact Qj h
   have h2 : n.kids[pre.length]? = some n.kids[pre.length] := List.getElem?_eq_getElem (by omega)
   rw [F_R6_Same_l0.eq_def]
   simp only [qa]
   rw [ve h, ju, Qj h, bs, Yw, h2, bs, ih _ _ _ h1 h2, bs, nff, uc (by omega) m]
   exact same_l0 a n hl hn ih l (pre ++ [m]) (uh h)
theorem same_lay : ∀ (j : Nat) (n : Node), zw n ≤ j → checkErr n = 0 → ∀ l v, F_R6_Same (layN 0 n l v) n = some true
 | 0, n, h, _, _, _ => by have := yb n; omega
 | j + 1, n, h, hc, l, v => by
   have w := wn hc
   have e := ye n
   have hle := w.le
   obtain ⟨q1, q2⟩ := vw w l v
   have hkind : (layN 0 n l v).kind = n.kind := by rw [yn]; rfl
   have htext : (layN 0 n l v).text = n.text := by rw [yn]; rfl
   rw [F_R6_Same.eq_def, decide_eq_true hkind, nff, decide_eq_true htext, nff, List.length_map, List.length_map, q1, decide_eq_true rfl, nff]
   refine same_l0 _ n q1 (by omega) (fun i m m' h1 h2 => ?_) (layN 0 n l v).kids [] rfl
   have hlt : i < n.kids.length := (List.getElem?_eq_some_iff.1 h2).1
   have hlt2 : i < (je (stepsOf 0 n.kind n.text n.kids.length l v)).length := by rw [len_leads]; omega
   have ha := List.getElem?_eq_getElem hlt2
   have hf : (layL 0 n.kids)[i]? = some (layN 0 m') := by
    have := congrArg List.head? (layL_at 0 _ _ _ h2)
    rwa [List.head?_drop, List.head?_cons] at this
   have hw := layW_cons _ i _ _ (layL 0 n.kids) ha (by rw [Ks]; exact q2.symm) hf
   rw [yn] at h1
   have := h1.symm.trans hw
   cases this
   have hm := List.mem_of_getElem? h2
   have := ke hm
   exact same_lay j m' (by omega) (w.kids m' hm) _ _
theorem L8_Layout (n : Node) : F_L8_PrintLayout n = some true := by
 obtain ⟨b, e, hb⟩ := P_small n
 rw [F_L8_PrintLayout.eq_def, e, bs]
 cases b with
 | false => rw [ntt, Yh]; rfl
 | true =>
   obtain ⟨h1, h2⟩ := hb rfl
   have hw := bd_wf n h2 (by omega)
   rw [nff, (Zl hw).2, bs]
   by_cases c : checkErr n = 0
   ·rw [if_neg (by rw [ww]; exact fun q => q c)]
    have hz := lay_size (zw n) n (Nat.le_refl _) c e0 0
    have hbd := lay_bd (zw n) n (Nat.le_refl _) c h2 e0 0 (by decide) (by omega)
    have hwf := bd_wf _ hbd (by omega)
    have hc := like_check (lay_like (zw n) n (Nat.le_refl _) c e0 0 b_e0) c
    have hcb := like_check (bare_like n) c
    have l1 : F_print_Layout n = some (layN 0 n e0 0, 0) := by rw [P_Layout n (by omega) hw, layV, if_pos c]
    have l2 : F_print_Layout (layN 0 n e0 0) = some (layN 0 n e0 0, 0) := by rw [P_Layout _ (by omega) hwf, layV, if_pos hc, lay_lay (zw n) n (Nat.le_refl _) c]
    have l3 : F_print_Text (layN 0 n e0 0) = some (Jc (u7 n)) := by
     rw [P_Text _ (by omega) hbd, Jc, Jc, if_pos hc, if_pos hcb, toks_lay (zw n) n (Nat.le_refl _) c]
    have l4 : F_print_Plain n = some (Jc (u7 n)) := by rw [P_Plain n (by omega) h2, plainV, if_pos c]
    rw [l1, bs, decide_eq_true rfl, nff, same_lay (zw n) n (Nat.le_refl _) c, bs, nff, (Zl hwf).2, bs, hc, decide_eq_true rfl, nff, l2, bs, l3, bs, l4, bs, decide_eq_true rfl, ju, equal_lay (zw n) n (Nat.le_refl _) c, bs, ju, decide_eq_true rfl, ju, decide_eq_true rfl, ju, Yh]; rfl
   ·rw [if_pos (by rw [ww]; exact c), Yh]; rfl
mutual
def Qx : Node → List Node
 | .mk k t g l => .mk k t g l :: k7 l
def k7 : List Node → List Node
 | [] => []
 | n :: l => Qx n ++ k7 l
end
theorem Km (n : Node) : Qx n = n :: k7 n.kids := by cases n; rw [Qx]; rfl
mutual
theorem J9 : ∀ n : Node, (Qx n).length = zw n
 | .mk k t g l => by rw [Qx, zw, List.length_cons, listNL_len l]
theorem listNL_len : ∀ l : List Node, (k7 l).length = jg l
 | [] => by rw [k7, jg]; rfl
 | n :: l => by rw [k7, jg, List.length_append, J9 n, listNL_len l]
end
theorem list_l0 (n : Node) (hn : n.kids.length ≤ 1000000) (ih : ∀ m ∈ n.kids, ∀ out : List Node, out.length + zw m ≤ 1000000 → F_R6_lists2 out m = some (out ++ Qx m)) : ∀ (l pre : List Node) (out : List Node), n.kids = pre ++ l → out.length + jg l ≤ 1000000 → F_R6_lists2_l0 out (pre.length : Int) n = some (out ++ k7 l)
 | [], pre, out, h, hb => by rw [F_R6_lists2_l0.eq_def, vf h, yf, k7, List.append_nil]
 | m :: l, pre, out, h, hb => by
   have hl := Jl h
   rw [jg] at hb
   rw [F_R6_lists2_l0.eq_def]
   simp only [qa]
   rw [ve h, ju, Qj h, bs, ih m (by rw [h]; simp) out (by omega), bs, uc (by omega) m, list_l0 n hn ih l (pre ++ [m]) _ (uh h) (by rw [List.length_append, J9]; omega), k7, List.append_assoc]
theorem list_2 : ∀ (j : Nat) (n : Node), zw n ≤ j → ∀ out : List Node, out.length + zw n ≤ 1000000 → F_R6_lists2 out n = some (out ++ Qx n)
 | 0, n, h, _, _ => by have := yb n; omega
 | j + 1, n, h, out, hb => by
   have e := ye n
   have hl := uw n.kids
   rw [F_R6_lists2.eq_def, app_ok (by simp only [List.length_singleton]; omega) (by decide), bs]
   simp only [qa]
   have := list_l0 n (by omega) (fun m hm out hb => by have := ke hm; exact list_2 j m (by omega) out hb) n.kids [] (out ++ [n]) rfl (by rw [List.length_append, List.length_singleton]; omega)
   rw [Km]
   rw [List.append_assoc] at this
   exact this
theorem list_l1 (n : Node) (hn : n.kids.length ≤ 1000000) : ∀ (l pre : List Node) (out : List Node), n.kids = pre ++ l → out.length + jg l ≤ 1000000 → F_R6_lists1_l0 out (pre.length : Int) n = some (out ++ k7 l)
 | [], pre, out, h, hb => by rw [F_R6_lists1_l0.eq_def, vf h, yf, k7, List.append_nil]
 | m :: l, pre, out, h, hb => by
   have hl := Jl h
   rw [jg] at hb
   rw [F_R6_lists1_l0.eq_def]
   simp only [qa]
   rw [ve h, ju, Qj h, bs, list_2 (zw m) m (Nat.le_refl _) out (by omega), bs, uc (by omega) m, list_l1 n hn l (pre ++ [m]) _ (uh h) (by rw [List.length_append, J9]; omega), k7, List.append_assoc]
theorem P_List (n : Node) (h : zw n ≤ 100000) : F_R6_List n = some (Qx n) := by
 have e := ye n
 have hl := uw n.kids
 rw [F_R6_List.eq_def, F_R6_lists1.eq_def, app_ok (by simp) (by decide), bs, b1, Km]
 exact list_l1 n (by omega) n.kids [] [n] rfl (by rw [List.length_singleton]; omega)
def gsum (l : List Node) : Nat := (l.map (fun x => x.gaps.length)).sum
theorem gsum_app (a b : List Node) : gsum (a ++ b) = gsum a + gsum b := by unfold gsum; rw [List.map_append, List.sum_append]
theorem J6 : ∀ (S : List Step) (g : List BA) (ks : List Node), nkS S = ks.length → (∀ m ∈ ks, ∀ l v, gsum (Qx (layN 0 m l v)) = (toks 0 m l v).length) → (j8 S g (ka 0 ks)).length = (wordsS S).length + gsum (k7 (layW S (layL 0 ks)))
 | [], g, ks, h, hk => by rw [j8, layW, k7]; rfl
 | .own c w :: S, [], ks, h, hk => by rw [j8, wordsS, layW, List.length_cons, List.length_cons, J6 S [] ks (by rw [nkS] at h; exact h) hk]; omega
 | .own c w :: S, y :: g, ks, h, hk => by rw [j8, wordsS, layW, List.length_cons, List.length_cons, J6 S g ks (by rw [nkS] at h; exact h) hk]; omega
 | .kid l v :: S, g, [], h, hk => by rw [nkS] at h; simp at h
 | .kid l v :: S, g, m :: ks, h, hk => by
   rw [ka, j8, wordsS, layL, layW, k7, List.length_append, gsum_app, hk m (List.mem_cons_self ..), J6 S g ks (by rw [nkS] at h; simpa using h) (fun m hm => hk m (List.mem_cons_of_mem _ hm))]; omega
theorem lay_sum : ∀ (j : Nat) (n : Node), zw n ≤ j → checkErr n = 0 → ∀ l v, gsum (Qx (layN 0 n l v)) = (toks 0 n l v).length
 | 0, n, h, _, _, _ => by have := yb n; omega
 | j + 1, n, h, hc, l, v => by
   have w := wn hc
   have e := ye n
   obtain ⟨q1, q2⟩ := vw w l v
   rw [J7, J6 _ _ _ q2 (fun m hm l' v' => by have := ke hm; exact lay_sum j m (by omega) (w.kids m hm) l' v'), Km, ← wz]
   show ((layN 0 n l v).gaps.length :: _).sum = _
   rw [List.sum_cons, yn]; rfl
/-- A node whose gaps are as many as its own tokens. -/
def full (x : Node) : Prop := (x.gaps.length : Int) = own x ∧ x.kids.length ≤ 200 ∧ x.gaps.length ≤ 300
theorem fullL : ∀ (l : List Node) (x : Node), x ∈ k7 l → ∃ m ∈ l, x ∈ Qx m
 | [], x, h => by rw [k7] at h; cases h
 | n :: l, x, h => by
   rw [k7] at h
   rcases List.mem_append.1 h with h | h
   ·exact ⟨n, List.mem_cons_self .., h⟩
   ·obtain ⟨m, hm, q⟩ := fullL l x h
    exact ⟨m, List.mem_cons_of_mem _ hm, q⟩
theorem lay_full : ∀ (j : Nat) (n : Node), zw n ≤ j → checkErr n = 0 → ∀ l v, ∀ x ∈ Qx (layN 0 n l v), full x
 | 0, n, h, _, _, _, _, _ => by have := yb n; omega
 | j + 1, n, h, hc, l, v, x, hx => by
   have w := wn hc
   have e := ye n
   have hle := w.le
   have ho := own_le 0 l v w.kn w.nk
   have hs := wz (stepsOf 0 n.kind n.text n.kids.length l v)
   obtain ⟨q1, q2⟩ := vw w l v
   rw [Km] at hx
   rcases List.mem_cons.1 hx with rfl | hx
   ·refine ⟨?_, by rw [q1]; exact hle, ?_⟩
    ·rw [lay_gaps w l v, own_same (n := n) (by rw [yn]; rfl) (by rw [yn]; rfl) q1]
    ·rw [yn]; show (ym _).length ≤ _; omega
   ·obtain ⟨y, hy, hxy⟩ := fullL _ x hx
    rw [yn] at hy
    obtain ⟨m, hm, l', v', _, rfl⟩ := Kr 0 _ _ y hy
    have := ke hm
    exact lay_full j m (by omega) (w.kids m hm) l' v' x hxy
theorem numbers_l0 (ws : List BA) (L : List Node) (hL : L.length ≤ 100000) (hw : ws.length = gsum L) : ∀ (l pre : List Node), L = pre ++ l → (∀ x ∈ l, full x) → gsum pre ≤ 300 * pre.length → F_L8_PrintNumbers_l0 0 ws 0 L (gsum pre : Int) (pre.length : Int) = some true
 | [], pre, h, hf, hg => by
   rw [List.append_nil] at h
   rw [F_L8_PrintNumbers_l0.eq_def, vf (by rw [h, List.append_nil]), yf, decide_eq_true rfl, ju, ju, List.length_map, decide_eq_true (by rw [hw, h]), ju, Yh]; rfl
 | m :: l, pre, h, hf, hg => by
   have hl := Jl h
   obtain ⟨f1, f2, f3⟩ := hf m (List.mem_cons_self ..)
   have ho : F_R7_Own m = some (own m) := by unfold F_R7_Own; rw [if_pos (by omega)]
   have gs : gsum (pre ++ [m]) = gsum pre + m.gaps.length := by rw [gsum_app]; unfold gsum; simp
   rw [F_L8_PrintNumbers_l0.eq_def]
   simp only [qa]
   rw [ve h, ju, Qj h, bs, ho, bs, bs, List.length_map, decide_eq_true f1, nff, uc (by omega) m, zv (by omega) (by omega)]
   have ih := numbers_l0 ws L hL hw l (pre ++ [m]) (uh h) (fun x hx => hf x (List.mem_cons_of_mem _ hx)) (by rw [gs, List.length_append, List.length_singleton]; omega)
   rw [← ih, gs, ← f1]; congr 1
theorem L8_Numbers (n : Node) : F_L8_PrintNumbers n = some true := by
 obtain ⟨b, e, hb⟩ := P_small n
 rw [F_L8_PrintNumbers.eq_def, e, bs]
 cases b with
 | false => rw [ntt, Yh]; rfl
 | true =>
   obtain ⟨h1, h2⟩ := hb rfl
   have hw := bd_wf n h2 (by omega)
   rw [nff, (Zl hw).2, bs]
   by_cases c : checkErr n = 0
   ·rw [if_neg (by rw [ww]; exact fun q => q c)]
    have hz := lay_size (zw n) n (Nat.le_refl _) c e0 0
    have l1 : F_print_Layout n = some (layN 0 n e0 0, 0) := by rw [P_Layout n (by omega) hw, layV, if_pos c]
    have l2 : F_print_Words n = some ((toks 0 n e0 0).map (·.2), 0) := by rw [P_Words n (by omega) hw, wordsV, if_pos c]
    rw [l1, bs, l2, bs, P_List (layN 0 n e0 0) (by omega), bs]
    exact numbers_l0 _ (Qx (layN 0 n e0 0)) (by rw [J9]; omega) (by rw [List.length_map, lay_sum (zw n) n (Nat.le_refl _) c]) _ [] rfl (lay_full (zw n) n (Nat.le_refl _) c e0 0) (Nat.zero_le _)
   ·rw [if_pos (by rw [ww]; exact c), Yh]; rfl
end Go.Proofs.YtbdhekefhcjhaaaDoorW.Ex.Gr
