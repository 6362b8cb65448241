/- What the reference's words, write and lay return. Conditions: those in each theorem. -/
import Derived.Test.YtbdhekefhcjhaaaGreatDoorYd
import Derived.Test.YtbdhekefhcjhaaaGreatDoorYL
namespace Go.Proofs.YtbdhekefhcjhaaaGreatDoorW.Ex.Gr
open Go Go.Proofs.YtbdhekefhcjhaaaGreatDoorW.Ex
set_option linter.all false
set_option maxRecDepth 100000
theorem y4 {n : Node} (w : WN n) (l : BA) (v : Int) : (stN n l v).length ≤ 1000 ∧ (wordsS (stN n l v)).length ≤ 1000 := by
 have h1 := own_le 1 l v w.kn w.nk
 have h2 := nk_eq 1 n.text l v w.kn w.nk
 have h3 := w.le
 have h4 := ve (stN n l v)
 simp only [stN] at h4 ⊢
 omega
/-- The loop of words2 along the steps. -/
theorem words_l02 (n : Node) (l : BA) (v : Int) (w : WN n) (ih : ∀ m ∈ n.kids, ∀ (out : List BA) (l : BA) (v : Int), F_R8_wordss2 m out = je vl out (toks 1 m l v)) :
 ∀ (S pre : List Step) (out : List BA), stN n l v = pre ++ S →
 F_R8_wordss2_l0 out (wordsS (stN n l v)) (ordS (stN n l v) 0) ((wordsS pre).length : Int) (pre.length : Int) n = je vl out (j5 S (n.gaps.drop (wordsS pre).length) ((y9 1 n.kids).drop (nkS pre)))
 | [], pre, out, h => by
   rw [F_R8_wordss2_l0.eq_def, if_neg (by rw [List.length_map, ju, h, List.append_nil, decide_eq_true_eq]; omega), j5, je]
 | .own c x :: S, pre, out, h => by
   have hb := (y4 w l v).1
   have hb2 := (y4 w l v).2
   have e1 : ix (ordS (stN n l v) 0) (pre.length : Int) = some (-1) := by
    rw [h, uv, ordS, kz, List.getElem?_append_right (by rw [ju]; omega), ju, Nat.sub_self]; rfl
   have e2 : ix (wordsS (stN n l v)) ((wordsS pre).length : Int) = some x := by
    rw [h, jq, wordsS, kz, List.getElem?_append_right (by omega), Nat.sub_self]; rfl
   have hl : pre.length < (stN n l v).length := by rw [h, List.length_append, List.length_cons]; omega
   have hl2 : (wordsS pre).length < (wordsS (stN n l v)).length := by rw [h, jq, List.length_append, wordsS, List.length_cons]; omega
   rw [F_R8_wordss2_l0.eq_def, if_pos (by rw [List.length_map, ju]; exact decide_eq_true (by omega)), e1, bs, if_pos (by decide), e2, bs]
   have ih2 := fun out => words_l02 n l v w ih S (pre ++ [.own c x]) out (by rw [h, List.append_assoc]; rfl)
   simp only [List.length_append, List.length_singleton, jq, wordsS, uf, nkS, Nat.add_zero] at ih2
   rcases vg n.gaps (wordsS pre).length c with ⟨y, d1, _⟩ | ⟨d1, d3, _⟩
   ·rw [d1, j5, je, vl, F_emitW.eq_def, b1]
    refine jd fun out' _ => ?_
    rw [F_R8_wordss2_t25.eq_def]
    simp only [qa]
    rw [zq (by omega) (by omega), zq (by omega) (by omega), ← ih2]; rfl
   ·rw [d1, j5, je, vl, F_emitW.eq_def, b1]
    refine jd fun out' _ => ?_
    rw [F_R8_wordss2_t25.eq_def]
    simp only [qa]
    rw [zq (by omega) (by omega), zq (by omega) (by omega), ← d3, ← ih2]; rfl
 | .kid a b :: S, pre, out, h => by
   have hb := (y4 w l v).1
   have hb2 := (y4 w l v).2
   have e1 : ix (ordS (stN n l v) 0) (pre.length : Int) = some ((nkS pre : Nat) : Int) := by
    rw [h, uv, ordS, kz, List.getElem?_append_right (by rw [ju]; omega), ju, Nat.sub_self, List.getElem?_cons_zero, Int.zero_add]
   have hl : pre.length < (stN n l v).length := by rw [h, List.length_append, List.length_cons]; omega
   have hl2 : (wordsS pre).length ≤ (wordsS (stN n l v)).length := by rw [h, jq, List.length_append]; omega
   have hlt : nkS pre < n.kids.length := by
    have := nk_eq 1 n.text l v w.kn w.nk
    rw [← this]; show nkS pre < nkS (stN n l v)
    rw [h, uf, nkS]; omega
   have hm := List.getElem?_eq_getElem hlt
   rw [F_R8_wordss2_l0.eq_def, if_pos (by rw [List.length_map, ju]; exact decide_eq_true (by omega)), e1, bs, if_neg (by rw [decide_eq_true_eq]; omega), bs, kz, hm, bs, Jw 1 _ _ _ hm, j5, vm]
   simp only [qa]
   rw [ih _ (List.getElem_mem hlt) out a b]
   refine jd fun out' _ => ?_
   have ih2 := words_l02 n l v w ih S (pre ++ [.kid a b]) out' (by rw [h, List.append_assoc]; rfl)
   simp only [List.length_append, List.length_singleton, jq, wordsS, uf, nkS, List.append_nil] at ih2
   rw [F_R8_wordss2_t25.eq_def]
   simp only [qa]
   rw [zq (by omega) (by omega), ← ih2]; rfl
/-- The loop of words1 along the steps. -/
theorem words_l01 (n : Node) (l : BA) (v : Int) (w : WN n) (ih : ∀ m ∈ n.kids, ∀ (out : List BA) (l : BA) (v : Int), F_R8_wordss2 m out = je vl out (toks 1 m l v)) :
 ∀ (S pre : List Step) (out : List BA), stN n l v = pre ++ S →
 F_R8_wordss1_l0 out (wordsS (stN n l v)) (ordS (stN n l v) 0) ((wordsS pre).length : Int) (pre.length : Int) n = je vl out (j5 S (n.gaps.drop (wordsS pre).length) ((y9 1 n.kids).drop (nkS pre)))
 | [], pre, out, h => by
   rw [F_R8_wordss1_l0.eq_def, if_neg (by rw [List.length_map, ju, h, List.append_nil, decide_eq_true_eq]; omega), j5, je]
 | .own c x :: S, pre, out, h => by
   have hb := (y4 w l v).1
   have hb2 := (y4 w l v).2
   have e1 : ix (ordS (stN n l v) 0) (pre.length : Int) = some (-1) := by
    rw [h, uv, ordS, kz, List.getElem?_append_right (by rw [ju]; omega), ju, Nat.sub_self]; rfl
   have e2 : ix (wordsS (stN n l v)) ((wordsS pre).length : Int) = some x := by
    rw [h, jq, wordsS, kz, List.getElem?_append_right (by omega), Nat.sub_self]; rfl
   have hl : pre.length < (stN n l v).length := by rw [h, List.length_append, List.length_cons]; omega
   have hl2 : (wordsS pre).length < (wordsS (stN n l v)).length := by rw [h, jq, List.length_append, wordsS, List.length_cons]; omega
   rw [F_R8_wordss1_l0.eq_def, if_pos (by rw [List.length_map, ju]; exact decide_eq_true (by omega)), e1, bs, if_pos (by decide), e2, bs]
   have ih2 := fun out => words_l01 n l v w ih S (pre ++ [.own c x]) out (by rw [h, List.append_assoc]; rfl)
   simp only [List.length_append, List.length_singleton, jq, wordsS, uf, nkS, Nat.add_zero] at ih2
   rcases vg n.gaps (wordsS pre).length c with ⟨y, d1, _⟩ | ⟨d1, d3, _⟩
   ·rw [d1, j5, je, vl, F_emitW.eq_def, b1]
    refine jd fun out' _ => ?_
    rw [F_R8_wordss1_t25.eq_def]
    simp only [qa]
    rw [zq (by omega) (by omega), zq (by omega) (by omega), ← ih2]; rfl
   ·rw [d1, j5, je, vl, F_emitW.eq_def, b1]
    refine jd fun out' _ => ?_
    rw [F_R8_wordss1_t25.eq_def]
    simp only [qa]
    rw [zq (by omega) (by omega), zq (by omega) (by omega), ← d3, ← ih2]; rfl
 | .kid a b :: S, pre, out, h => by
   have hb := (y4 w l v).1
   have hb2 := (y4 w l v).2
   have e1 : ix (ordS (stN n l v) 0) (pre.length : Int) = some ((nkS pre : Nat) : Int) := by
    rw [h, uv, ordS, kz, List.getElem?_append_right (by rw [ju]; omega), ju, Nat.sub_self, List.getElem?_cons_zero, Int.zero_add]
   have hl : pre.length < (stN n l v).length := by rw [h, List.length_append, List.length_cons]; omega
   have hl2 : (wordsS pre).length ≤ (wordsS (stN n l v)).length := by rw [h, jq, List.length_append]; omega
   have hlt : nkS pre < n.kids.length := by
    have := nk_eq 1 n.text l v w.kn w.nk
    rw [← this]; show nkS pre < nkS (stN n l v)
    rw [h, uf, nkS]; omega
   have hm := List.getElem?_eq_getElem hlt
   rw [F_R8_wordss1_l0.eq_def, if_pos (by rw [List.length_map, ju]; exact decide_eq_true (by omega)), e1, bs, if_neg (by rw [decide_eq_true_eq]; omega), bs, kz, hm, bs, Jw 1 _ _ _ hm, j5, vm]
   simp only [qa]
   rw [ih _ (List.getElem_mem hlt) out a b]
   refine jd fun out' _ => ?_
   have ih2 := words_l01 n l v w ih S (pre ++ [.kid a b]) out' (by rw [h, List.append_assoc]; rfl)
   simp only [List.length_append, List.length_singleton, jq, wordsS, uf, nkS, List.append_nil] at ih2
   rw [F_R8_wordss1_t25.eq_def]
   simp only [qa]
   rw [zq (by omega) (by omega), ← ih2]; rfl
theorem words_R : ∀ (k : Nat) (n : Node), jl n ≤ k → checkErr n = 0 → ∀ (out : List BA) (l : BA) (v : Int), F_R8_wordss2 n out = je vl out (toks 1 n l v)
 | 0, n, hk, _, _, _, _ => by have := wl n; omega
 | k + 1, n, hk, hc, out, l, v => by
   have w := wn hc
   have hle := w.le
   have hs := w7 n
   rw [F_R8_wordss2.eq_def]
   simp only [qa]
   rw [own_R l v w.kn w.nk (by omega), bs, order_R l v w.kn w.nk (by omega), bs, vi]
   refine words_l02 n l v w (fun m hm out l v => words_R k m ?_ (w.kids m hm) out l v) (stN n l v) [] out rfl
   obtain ⟨a, b, e⟩ := List.append_of_mem hm
   rw [e, wm, yi] at hs; omega
theorem words_R1 (n : Node) (hc : checkErr n = 0) (out : List BA) (l : BA) (v : Int) : F_R8_wordss1 n out = je vl out (toks 1 n l v) := by
 have w := wn hc
 have hle := w.le
 rw [F_R8_wordss1.eq_def, own_R l v w.kn w.nk (by omega), bs, order_R l v w.kn w.nk (by omega), bs, vi]
 exact words_l01 n l v w (fun m hm out l v => words_R (jl m) m (Nat.le_refl _) (w.kids m hm) out l v) (stN n l v) [] out rfl
def emitR (s : BA × BA) (g w : BA) : Option (BA × BA) := F_R8_put s.1 s.2 g w >>= fun x => some (x, w)
theorem write_l0 (n : Node) (l : BA) (v : Int) (w : WN n) (h0 : 0 ≤ v) (h1 : v ≤ 100000) (ih : ∀ m ∈ n.kids, ∀ (l' : BA) (v' : Int), Step.kid l' v' ∈ stN n l v → ∀ (s : BA × BA), F_R8_write m l' v' s.1 s.2 = je emitR s (toks 1 m l' v')) :
 ∀ (S pre : List Step) (s : BA × BA), stN n l v = pre ++ S →
 F_R8_write_l0 l v s.1 s.2 (wordsS (stN n l v)) (ordS (stN n l v) 0) ((wordsS pre).length : Int) (pre.length : Int) n = je emitR s (j5 S (n.gaps.drop (wordsS pre).length) ((y9 1 n.kids).drop (nkS pre)))
 | [], pre, s, h => by
   rw [F_R8_write_l0.eq_def, if_neg (by rw [List.length_map, ju, h, List.append_nil, decide_eq_true_eq]; omega), j5, je]
 | .own c x :: S, pre, s, h => by
   have hb := (y4 w l v).1
   have hb2 := (y4 w l v).2
   have e1 : ix (ordS (stN n l v) 0) (pre.length : Int) = some (-1) := by
    rw [h, uv, ordS, kz, List.getElem?_append_right (by rw [ju]; omega), ju, Nat.sub_self]; rfl
   have e2 : ix (wordsS (stN n l v)) ((wordsS pre).length : Int) = some x := by
    rw [h, jq, wordsS, kz, List.getElem?_append_right (by omega), Nat.sub_self]; rfl
   have e3 : (jj (stN n l v))[(wordsS pre).length]? = some c := by
    rw [h, Z9, jj, List.getElem?_append_right (by rw [uj]; omega), uj, Nat.sub_self]; rfl
   have hl : pre.length < (stN n l v).length := by rw [h, List.length_append, List.length_cons]; omega
   have hl2 : (wordsS pre).length < (wordsS (stN n l v)).length := by rw [h, jq, List.length_append, wordsS, List.length_cons]; omega
   rw [F_R8_write_l0.eq_def, if_pos (by rw [List.length_map, ju]; exact decide_eq_true (by omega)), e1, bs, if_neg (by decide)]
   simp only [qa]
   rw [gap_R l v w.kn w.nk h0 h1 _ c e3, bs]
   have ih2 := fun s => write_l0 n l v w h0 h1 ih S (pre ++ [.own c x]) s (by rw [h, List.append_assoc]; rfl)
   simp only [List.length_append, List.length_singleton, jq, wordsS, uf, nkS, Nat.add_zero] at ih2
   have hrun : ∀ y : BA, F_R8_write_t69 l v s.1 s.2 (wordsS (stN n l v)) (ordS (stN n l v) 0) ((wordsS pre).length : Int) (pre.length : Int) y n = emitR s y x >>= fun s' => je emitR s' (j5 S (n.gaps.drop ((wordsS pre).length + 1)) ((y9 1 n.kids).drop (nkS pre))) := by
    intro y
    rw [F_R8_write_t69.eq_def]
    simp only [qa]
    rw [e2, bs, emitR, ba]
    refine jd fun z _ => ?_
    rw [bs, bs, F_R8_write_b1.eq_def]
    simp only [qa]
    rw [zq (by omega) (by omega), zq (by omega) (by omega), ← ih2 (z, x)]; rfl
   rcases vg n.gaps (wordsS pre).length c with ⟨y, d1, _⟩ | ⟨d1, d3, _⟩
   ·have hg : (wordsS pre).length < n.gaps.length := by
     rcases Nat.lt_or_ge (wordsS pre).length n.gaps.length with q | q
     ·exact q
     ·rw [List.drop_of_length_le q] at d1; cases d1
    have e4 : ix n.gaps ((wordsS pre).length : Int) = some y := by
     rw [kz]
     have := congrArg List.head? d1
     rwa [List.head?_drop] at this
    rw [if_pos (by rw [List.length_map]; exact decide_eq_true (by omega)), e4, bs, hrun, d1, j5, je]
   ·have hg : n.gaps = [] := by
     rcases w.gaps 1 l v with q | q
     ·exact q
     ·exfalso
      have := congrArg List.length d1
      rw [List.length_drop, q] at this
      simp only [List.length_nil] at this
      simp only [stN] at hl2
      omega
    rw [if_neg (by rw [List.length_map, hg, decide_eq_true_eq]; decide), hrun, d1, j5, je, d3]
 | .kid a b :: S, pre, s, h => by
   have hb := (y4 w l v).1
   have hb2 := (y4 w l v).2
   have e1 : ix (ordS (stN n l v) 0) (pre.length : Int) = some ((nkS pre : Nat) : Int) := by
    rw [h, uv, ordS, kz, List.getElem?_append_right (by rw [ju]; omega), ju, Nat.sub_self, List.getElem?_cons_zero, Int.zero_add]
   have hl : pre.length < (stN n l v).length := by rw [h, List.length_append, List.length_cons]; omega
   have hl2 : (wordsS pre).length ≤ (wordsS (stN n l v)).length := by rw [h, jq, List.length_append]; omega
   have hlt : nkS pre < n.kids.length := by
    have := nk_eq 1 n.text l v w.kn w.nk
    rw [← this]; show nkS pre < nkS (stN n l v)
    rw [h, uf, nkS]; omega
   have hm := List.getElem?_eq_getElem hlt
   have e5 : (jb (stN n l v))[nkS pre]? = some (a, b) := by
    rw [h, Qg, jb, List.getElem?_append_right (by rw [Zj]; omega), Zj, Nat.sub_self]; rfl
   obtain ⟨k1, k2⟩ := kid_R l v w.kn w.nk h0 h1 _ _ e5
   rw [F_R8_write_l0.eq_def, if_pos (by rw [List.length_map, ju]; exact decide_eq_true (by omega)), e1, bs, if_pos (decide_eq_true (by omega)), bs, kz, hm, bs, bs]
   simp only [qa]
   rw [k1, bs, k2, bs, Jw 1 _ _ _ hm, j5, vm, ih _ (List.getElem_mem hlt) a b (by rw [h]; simp) s]
   refine jd fun s' _ => ?_
   have ih2 := write_l0 n l v w h0 h1 ih S (pre ++ [.kid a b]) s' (by rw [h, List.append_assoc]; rfl)
   simp only [List.length_append, List.length_singleton, jq, wordsS, uf, nkS, List.append_nil] at ih2
   rw [F_R8_write_b1.eq_def]
   simp only [qa]
   rw [zq (by omega) (by omega), ← ih2]; rfl
theorem write_R : ∀ (k : Nat) (n : Node), jl n ≤ k → checkErr n = 0 → ∀ (l : BA) (v : Int), 0 ≤ v → v + jl n ≤ 100000 → ∀ s : BA × BA, F_R8_write n l v s.1 s.2 = je emitR s (toks 1 n l v)
 | 0, n, hk, _, _, _, _, _, _ => by have := wl n; omega
 | k + 1, n, hk, hc, l, v, h0, h1, s => by
   have w := wn hc
   have hle := w.le
   have hs := w7 n
   rw [F_R8_write.eq_def]
   simp only [qa]
   rw [own_R l v w.kn w.nk (by omega), bs, order_R l v w.kn w.nk (by omega), bs, vi]
   refine write_l0 n l v w h0 (by omega) (fun m hm l' v' hst s => ?_) (stN n l v) [] s rfl
   obtain ⟨q1, q2⟩ := Yw 1 (.inr rfl) w.kn hst
   obtain ⟨a, b, e⟩ := List.append_of_mem hm
   rw [e, wm, yi] at hs
   exact write_R k m (by omega) (w.kids m hm) l' v' (by omega) (by omega) s
theorem lay_l0 (n : Node) (l : BA) (v : Int) (w : WN n) (h0 : 0 ≤ v) (h1 : v ≤ 100000) (kd : Int) (t : BA) (ks : List Node) :
 ∀ (r : Nat) (g : List BA), r + g.length = (jj (stN n l v)).length → g = (jj (stN n l v)).take g.length →
 F_R8_lay_l0 l v (wordsS (stN n l v)) (g.length : Int) n kd t g ks = F_R8_lay_l1 l v 0 n kd t (jj (stN n l v)) ks
 | 0, g, h, hg => by
   have e := uj (stN n l v)
   rw [F_R8_lay_l0.eq_def, if_neg (by rw [List.length_map, decide_eq_true_eq]; omega)]
   simp only [qa]
   rw [hg, List.take_of_length_le (by omega)]
 | r + 1, g, h, hg => by
   have hb2 := (y4 w l v).2
   have e := uj (stN n l v)
   have hlt : g.length < (jj (stN n l v)).length := by omega
   have hc := List.getElem?_eq_getElem hlt
   rw [F_R8_lay_l0.eq_def, if_pos (by rw [List.length_map]; exact decide_eq_true (by omega))]
   simp only [qa]
   rw [gap_R l v w.kn w.nk h0 h1 _ _ hc, bs, j4 (by simp only [List.length_singleton]; omega) (by decide), bs, zq (by omega) (by omega)]
   have ih := lay_l0 n l v w h0 h1 kd t ks r (g ++ [(jj (stN n l v))[g.length]]) (by rw [List.length_append, List.length_singleton]; omega) (by
    rw [List.length_append, List.length_singleton, List.take_add_one, hc, ← hg]; rfl)
   rw [List.length_append, List.length_singleton] at ih
   exact ih
theorem layW_cons : ∀ (S : List Step) (k : Nat) (a : BA × Int) (f : BA → Int → Node) (fs : List (BA → Int → Node)), (jb S)[k]? = some a → fs.length = nkS S → fs[k]? = some f → (layW S fs)[k]? = some (f a.1 a.2)
 | [], k, a, f, fs, h, _, _ => by simp [jb] at h
 | .own c w :: S, k, a, f, fs, h, h2, h3 => by rw [layW]; exact layW_cons S k a f fs (by rw [jb] at h; exact h) (by rw [nkS] at h2; exact h2) h3
 | .kid l v :: S, k, a, f, [], h, h2, h3 => by rw [nkS] at h2; simp at h2
 | .kid l v :: S, 0, a, f, x :: fs, h, h2, h3 => by
   rw [jb] at h
   simp only [List.getElem?_cons_zero, Option.some.injEq] at h h3
   rw [layW, List.getElem?_cons_zero, h3, ← h]
 | .kid l v :: S, k + 1, a, f, x :: fs, h, h2, h3 => by
   rw [layW, List.getElem?_cons_succ]
   exact layW_cons S k a f fs (by rw [jb] at h; simpa using h) (by rw [nkS] at h2; simpa using h2) (by simpa using h3)
theorem J8 : ∀ (S : List Step) (fs : List (BA → Int → Node)), fs.length = nkS S → (layW S fs).length = nkS S
 | [], fs, h => rfl
 | .own c w :: S, fs, h => by rw [layW, nkS]; exact J8 S fs (by rw [nkS] at h; exact h)
 | .kid l v :: S, [], h => by rw [nkS] at h; simp at h
 | .kid l v :: S, x :: fs, h => by rw [layW, nkS, List.length_cons, J8 S fs (by rw [nkS] at h; simpa using h)]
theorem lay_l1 (n : Node) (l : BA) (v : Int) (w : WN n) (h0 : 0 ≤ v) (h1 : v ≤ 100000) (kd : Int) (t : BA) (g : List BA) (ih : ∀ m ∈ n.kids, ∀ (l' : BA) (v' : Int), (l', v') ∈ jb (stN n l v) → F_R8_lay m l' v' = some (layN 1 m l' v')) :
 ∀ (r : Nat) (ks : List Node), r + ks.length = n.kids.length → ks = (layW (stN n l v) (layL 1 n.kids)).take ks.length →
 F_R8_lay_l1 l v (ks.length : Int) n kd t g ks = some (.mk kd t g (layW (stN n l v) (layL 1 n.kids)))
 | 0, ks, h, hk => by
   have e1 := nk_eq 1 n.text l v w.kn w.nk
   have e2 := J8 (stN n l v) (layL 1 n.kids) (by rw [J9]; exact e1.symm)
   rw [F_R8_lay_l1.eq_def, if_neg (by rw [List.length_map, decide_eq_true_eq]; omega)]
   have : ks = layW (stN n l v) (layL 1 n.kids) := by
    rw [hk, List.take_of_length_le]
    rw [e2]; show nkS (stN n l v) ≤ _
    simp only [stN]; omega
   rw [this]
 | r + 1, ks, h, hk => by
   have hle := w.le
   have e1 := nk_eq 1 n.text l v w.kn w.nk
   have e2 := J8 (stN n l v) (layL 1 n.kids) (by rw [J9]; exact e1.symm)
   have hlt : ks.length < n.kids.length := by omega
   have hm := List.getElem?_eq_getElem hlt
   have hlt2 : ks.length < (jb (stN n l v)).length := by rw [Zj]; simp only [stN]; omega
   have ha := List.getElem?_eq_getElem hlt2
   obtain ⟨k1, k2⟩ := kid_R l v w.kn w.nk h0 h1 _ _ ha
   have hf : (layL 1 n.kids)[ks.length]? = some (layN 1 n.kids[ks.length]) := by
    have := congrArg List.head? (layL_at 1 _ _ _ hm)
    rwa [List.head?_drop, List.head?_cons] at this
   have hw := layW_cons (stN n l v) ks.length _ _ (layL 1 n.kids) ha (by rw [J9]; exact e1.symm) hf
   rw [F_R8_lay_l1.eq_def, if_pos (by rw [List.length_map]; exact decide_eq_true (by omega)), kz, hm, bs]
   simp only [qa]
   rw [k1, bs, k2, bs, ih _ (List.getElem_mem hlt) (jb (stN n l v))[ks.length].1 (jb (stN n l v))[ks.length].2 (List.getElem_mem hlt2), bs, j4 (by simp only [List.length_singleton]; omega) (by decide), bs, zq (by omega) (by omega)]
   have ih2 := lay_l1 n l v w h0 h1 kd t g ih r (ks ++ [layN 1 n.kids[ks.length] (jb (stN n l v))[ks.length].1 (jb (stN n l v))[ks.length].2]) (by rw [List.length_append, List.length_singleton]; omega) (by
    rw [List.length_append, List.length_singleton, List.take_add_one, hw, ← hk]; rfl)
   rw [List.length_append, List.length_singleton] at ih2
   exact ih2
theorem leads_mem {l : BA} {v : Int} : ∀ {S : List Step}, (l, v) ∈ jb S → Step.kid l v ∈ S
 | [], h => by rw [jb] at h; cases h
 | .own c w :: r, h => by rw [jb] at h; exact List.mem_cons_of_mem _ (leads_mem h)
 | .kid a b :: r, h => by
   rw [jb] at h
   rcases List.mem_cons.1 h with h | h
   ·cases h; exact List.mem_cons_self ..
   ·exact List.mem_cons_of_mem _ (leads_mem h)
theorem lay_R : ∀ (k : Nat) (n : Node), jl n ≤ k → checkErr n = 0 → ∀ (l : BA) (v : Int), 0 ≤ v → v + jl n ≤ 100000 → F_R8_lay n l v = some (layN 1 n l v)
 | 0, n, hk, _, _, _, _, _ => by have := wl n; omega
 | k + 1, n, hk, hc, l, v, h0, h1 => by
   have w := wn hc
   have hle := w.le
   have hs := w7 n
   rw [F_R8_lay.eq_def]
   simp only [qa]
   rw [own_R l v w.kn w.nk (by omega), bs]
   have a0 := lay_l0 n l v w h0 (by omega) n.kind n.text [] (jj (stN n l v)).length [] (by simp) (by simp)
   rw [show (0 : Int) = (([] : List BA).length : Int) from rfl, a0]
   have a1 := lay_l1 n l v w h0 (by omega) n.kind n.text (jj (stN n l v)) (fun m hm l' v' hst => by
    obtain ⟨q1, q2⟩ := Yw 1 (.inr rfl) w.kn (leads_mem hst)
    obtain ⟨a, b, e⟩ := List.append_of_mem hm
    rw [e, wm, yi] at hs
    exact lay_R k m (by omega) (w.kids m hm) l' v' (by omega) (by omega)) n.kids.length [] (by simp) (by simp)
   rw [Kh]
   exact a1
end Go.Proofs.YtbdhekefhcjhaaaGreatDoorW.Ex.Gr
