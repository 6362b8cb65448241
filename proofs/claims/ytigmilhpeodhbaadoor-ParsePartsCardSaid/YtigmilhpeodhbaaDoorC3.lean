/- The words of statements, declarations and files are read as the same trees. Conditions: those in each theorem. -/
import Derived.Test.YtigmilhpeodhbaaDoorC2
namespace Go.Proofs.YtigmilhpeodhbaaDoorW.Ex.Gr
open Go Go.Proofs.YtigmilhpeodhbaaDoorW.Ex Go.Proofs.YtigmilhpeodhbaaDoorW.Plain
set_option linter.all false
set_option maxRecDepth 100000
namespace Ps
open Tk
theorem qy1 {A q : List Token} {x : Token} : q.length ≤ (A ++ x :: q).length := by rw [List.length_append, List.length_cons]; omega
def nels (r : List Token) : Prop := ∃ x q, r = x :: q ∧ x.Text ≠ ⟨#[101, 108, 115, 101]⟩
section
variable {t : BA} {g : List BA} {a b c : Node} {ks : List Node}
theorem w10 : wdN (.mk 10 t g [a]) = ⟨#[108, 101, 116]⟩ :: t :: ⟨#[61]⟩ :: (wdN a ++ [⟨#[59]⟩]) := by rw [wdN]; rfl
theorem w11 : wdN (.mk 11 t g [a]) = t :: ⟨#[61]⟩ :: (wdN a ++ [⟨#[59]⟩]) := by rw [wdN]; rfl
theorem w12 : wdN (.mk 12 t g [a]) = ⟨#[114, 101, 116, 117, 114, 110]⟩ :: (wdN a ++ [⟨#[59]⟩]) := by rw [wdN]; rfl
theorem w13 : wdN (.mk 13 t g [a, b, c]) = ⟨#[105, 102]⟩ :: (wdN a ++ (wdN b ++ wdN c)) := by rw [wdN]; show _ :: (wdN a ++ (wdN b ++ (wdN c ++ []))) = _; rw [List.append_nil]
theorem w14 : wdN (.mk 14 t g []) = [] := by rw [wdN]; rfl
theorem w14b : wdN (.mk 14 t g [b]) = ⟨#[101, 108, 115, 101]⟩ :: wdN b := by rw [wdN]; show _ :: (wdN b ++ []) = _; rw [List.append_nil]
theorem w15 : wdN (.mk 15 t g [a, b]) = ⟨#[119, 104, 105, 108, 101]⟩ :: (wdN a ++ wdN b) := by rw [wdN]; show _ :: (wdN a ++ (wdN b ++ [])) = _; rw [List.append_nil]
theorem w16 : wdN (.mk 16 t g [a]) = wdN a ++ [⟨#[59]⟩] := by rw [wdN]; rfl
theorem w6 : wdN (.mk 6 t g ks) = ⟨#[123]⟩ :: (wdA ks ++ [⟨#[125]⟩]) := by rw [wdN]; show _ :: wdS (allS _ _ ks.length ++ _) (wdL ks) = _; rw [qvm]; rfl
theorem w3 : wdN (.mk 3 t g ks) = ⟨#[40]⟩ :: wdR true ks := by rw [wdN]; show _ :: wdS (vn 0 true ks.length) (wdL ks) = _; rw [qeq]
theorem w4 : wdN (.mk 4 t g [a]) = t :: wdN a := by rw [wdN]; show _ :: (wdN a ++ []) = _; rw [List.append_nil]
theorem w2 : wdN (.mk 2 t g [a, b, c]) = ⟨#[102, 110]⟩ :: t :: (wdN a ++ (wdN b ++ wdN c)) := by rw [wdN]; show _ :: _ :: (wdN a ++ (wdN b ++ (wdN c ++ []))) = _; rw [List.append_nil]
theorem w1 : wdN (.mk 1 t g ks) = wdA ks ++ [e0] := by rw [wdN]; show wdS (qah _ _ ks.length ++ _) (wdL ks) = _; rw [qr2]; rfl
end
theorem qpj {k : Int} (h : zy k = 2) : k = 10 ∨ k = 11 ∨ k = 12 ∨ k = 13 ∨ k = 15 ∨ k = 16 := by
 have hk := kinds (qpi h)
 rcases hk with rfl | rfl | rfl | rfl | rfl | rfl | rfl | rfl | rfl | rfl | rfl | rfl | rfl | rfl | rfl | rfl | rfl | rfl | rfl | rfl | rfl | rfl | rfl | rfl | rfl | rfl <;> first | (exact absurd h (by decide)) | simp
section
variable {t : BA} {g : List BA} {ks : List Node}
theorem iE (k : Int) (h : firstErr (.mk k t g ks) = 0) (hk : k = 9 ∨ k = 10 ∨ k = 11 ∨ k = 12 ∨ k = 16) : ∃ a, ks = [a] ∧ firstErr a = 0 ∧ zy a.kind = 3 := by
 rcases hk with rfl | rfl | rfl | rfl | rfl <;> (obtain ⟨a, e, h1, h2⟩ := qs5 h rfl (q := (0, 3)) rfl; exact ⟨a, e, h1, h2.symm⟩)
theorem i13 (h : firstErr (.mk 13 t g ks) = 0) : ∃ a b c, ks = [a, b, c] ∧ firstErr a = 0 ∧ firstErr b = 0 ∧ firstErr c = 0 ∧ zy a.kind = 3 ∧ b.kind = 6 ∧ c.kind = 14 ∧ t = e0 := by
 have w := inn h
 obtain ⟨a, b, c, rfl⟩ := qz2 (show ks.length = 3 from w.nk)
 exact ⟨a, b, c, rfl, w.ks a (List.mem_cons_self ..), w.ks b (List.mem_cons_of_mem _ (List.mem_cons_self ..)), w.ks c (List.mem_cons_of_mem _ (List.mem_cons_of_mem _ (List.mem_cons_self ..))), (Q9 (q := (0, 3)) (w.ft 0 a rfl) rfl).symm, (Q9 (q := (6, 0)) (w.ft 1 b rfl) rfl).symm, (Q9 (q := (14, 0)) (w.ft 2 c rfl) rfl).symm, of_decide_eq_true w.sp⟩
theorem i15 (h : firstErr (.mk 15 t g ks) = 0) : ∃ a b, ks = [a, b] ∧ firstErr a = 0 ∧ firstErr b = 0 ∧ zy a.kind = 3 ∧ b.kind = 6 ∧ t = e0 := by
 have w := inn h
 obtain ⟨a, b, rfl⟩ := two (show ks.length = 2 from w.nk)
 exact ⟨a, b, rfl, w.ks a (List.mem_cons_self ..), w.ks b (List.mem_cons_of_mem _ (List.mem_cons_self ..)), (Q9 (q := (0, 3)) (w.ft 0 a rfl) rfl).symm, (Q9 (q := (6, 0)) (w.ft 1 b rfl) rfl).symm, of_decide_eq_true w.sp⟩
theorem i14 (h : firstErr (.mk 14 t g ks) = 0) : t = e0 ∧ (ks = [] ∨ ∃ b, ks = [b] ∧ firstErr b = 0 ∧ b.kind = 6) := by
 have w := inn h
 refine ⟨of_decide_eq_true w.sp, ?_⟩
 have hl : ks.length ≤ 1 := w.nk
 match ks, hl, w with
 | [], _, _ => exact .inl rfl
 | [b], _, w => exact .inr ⟨b, rfl, w.ks b (List.mem_cons_self ..), (Q9 (q := (6, 0)) (w.ft 0 b rfl) rfl).symm⟩
theorem i6 (h : firstErr (.mk 6 t g ks) = 0) : (∀ m ∈ ks, firstErr m = 0 ∧ zy m.kind = 2) ∧ t = e0 :=
 ⟨fun m hm => ⟨(qcl h rfl (q := (0, 2)) rfl m hm).1, (qcl h rfl (q := (0, 2)) rfl m hm).2.symm⟩, of_decide_eq_true (inn h).sp⟩
theorem i3 (h : firstErr (.mk 3 t g ks) = 0) : (∀ m ∈ ks, firstErr m = 0 ∧ m.kind = 4) ∧ t = e0 :=
 ⟨fun m hm => ⟨(qcl h rfl (q := (4, 0)) rfl m hm).1, (qcl h rfl (q := (4, 0)) rfl m hm).2.symm⟩, of_decide_eq_true (inn h).sp⟩
theorem i1 (h : firstErr (.mk 1 t g ks) = 0) : (∀ m ∈ ks, firstErr m = 0 ∧ zy m.kind = 1) ∧ t = e0 :=
 ⟨fun m hm => ⟨(qcl h rfl (q := (0, 1)) rfl m hm).1, (qcl h rfl (q := (0, 1)) rfl m hm).2.symm⟩, of_decide_eq_true (inn h).sp⟩
theorem i4 (h : firstErr (.mk 4 t g ks) = 0) : ∃ t2 g2, ks = [.mk 5 t2 g2 []] ∧ u1 t.data.toList = true ∧ u1 t2.data.toList = true := by
 obtain ⟨a, e, h1, h2⟩ := qs5 h rfl (q := (5, 0)) rfl
 obtain ⟨k, t2, g2, l⟩ := a
 have hk : k = 5 := h2.symm
 subst hk
 have := Wy h1 rfl
 subst this
 exact ⟨t2, g2, e, (inn h).ca, (inn h1).ca⟩
theorem i2 (h : firstErr (.mk 2 t g ks) = 0) : ∃ p t2 g2 c, ks = [p, .mk 5 t2 g2 [], c] ∧ firstErr p = 0 ∧ firstErr c = 0 ∧ p.kind = 3 ∧ c.kind = 6 ∧ u1 t2.data.toList = true ∧ u1 t.data.toList = true := by
 have w := inn h
 obtain ⟨a, b, c, rfl⟩ := qz2 (show ks.length = 3 from w.nk)
 have hb := w.ks b (List.mem_cons_of_mem _ (List.mem_cons_self ..))
 have kb : b.kind = 5 := (Q9 (q := (5, 0)) (w.ft 1 b rfl) rfl).symm
 obtain ⟨k, t2, g2, l⟩ := b
 have hk : k = 5 := kb
 subst hk
 have := Wy hb rfl
 subst this
 exact ⟨a, t2, g2, c, rfl, w.ks a (List.mem_cons_self ..), w.ks c (List.mem_cons_of_mem _ (List.mem_cons_of_mem _ (List.mem_cons_self ..))), (Q9 (q := (3, 0)) (w.ft 0 a rfl) rfl).symm, (Q9 (q := (6, 0)) (w.ft 2 c rfl) rfl).symm, (inn hb).ca, w.ca⟩
end
theorem qx0 {n : Node} (hf : firstErr n = 0) (hg : zy n.kind = 2) : ∃ w l, wdN n = w :: l ∧ w ≠ ⟨#[101, 108, 115, 101]⟩ ∧ w ≠ ⟨#[125]⟩ := by
 obtain ⟨k, t, g, ks⟩ := n
 rcases qpj hg with hk | hk | hk | hk | hk | hk <;> (have hk : k = _ := hk; subst hk)
 ·obtain ⟨a, rfl, _⟩ := iE 10 hf (by simp); exact ⟨_, _, w10, by decide, by decide⟩
 ·obtain ⟨a, rfl, _⟩ := iE 11 hf (by simp)
  have h := qch (w := t) (inn hf).ca
  exact ⟨_, _, w11, h.2.2.2.2.2.1, h.2.2.2.2.2.2⟩
 ·obtain ⟨a, rfl, _⟩ := iE 12 hf (by simp); exact ⟨_, _, w12, by decide, by decide⟩
 ·obtain ⟨a, b, c, rfl, _⟩ := i13 hf; exact ⟨_, _, w13, by decide, by decide⟩
 ·obtain ⟨a, b, rfl, _⟩ := i15 hf; exact ⟨_, _, w15, by decide, by decide⟩
 obtain ⟨a, rfl, ha, ga⟩ := iE 16 hf (by simp)
 obtain ⟨q1, w, l, q2, _⟩ := qf0 (Zv a) a (Nat.le_refl _) ha ga
 have h := q1 w (by rw [q2]; exact List.mem_cons_self ..)
 exact ⟨w, _, by rw [w16, q2]; rfl, h.2.2.2.2.2.1, h.2.2.2.2.2.2⟩
def SP (n : Node) (T : List Token) : Prop := ∃ n', sameN n' n ∧ ∀ r, nels r → Ck .stmt (T ++ r) n' r
def BP (n : Node) (T : List Token) : Prop := ∃ n', sameN n' n ∧ ∀ r, Ck .blk (T ++ r) n' r
theorem qtu : ∀ (ks : List Node) (T : List Token), (∀ m ∈ ks, firstErr m = 0 ∧ zy m.kind = 2) → (∀ m ∈ ks, ∀ U, U.map (·.Text) = wdN m → Ty U → SP m U) → T.map (·.Text) = wdA ks → Ty T →
 ∃ ks', Qk ks' ks ∧ ∀ (g : List BA) (ls : List Node) (y : Token) (r : List Token), y.Text = ⟨#[125]⟩ → Ck (.blkL g ls) (T ++ y :: r) (.mk 6 ⟨#[]⟩ (g ++ [y.Lead]) (ls ++ ks')) r
 | [], T, _, _, h, _ => by
   rw [Jp h]
   exact ⟨[], kw, fun g ls y r hy => by rw [List.append_nil]; exact qyd hy⟩
 | m :: ks, T, h1, ih, h, ty => by
   rw [wdA] at h
   obtain ⟨U, T', rfl, hU, hT⟩ := J3 h
   have hm := h1 m (List.mem_cons_self ..)
   obtain ⟨m', hs, c⟩ := ih m (List.mem_cons_self ..) U hU ty.app.1
   obtain ⟨ks', hs', hk⟩ := qtu ks T' (fun m hm => h1 m (List.mem_cons_of_mem _ hm)) (fun m hm => ih m (List.mem_cons_of_mem _ hm)) hT ty.app.2
   obtain ⟨w, l, e, hw1, hw2⟩ := qx0 hm.1 hm.2
   refine ⟨m' :: ks', ym hs hs', fun g ls y r hy => ?_⟩
   have hn : nels (T' ++ y :: r) := by
    cases ks with
    | nil => rw [Jp hT]; exact ⟨y, r, rfl, by rw [hy]; decide⟩
    | cons m2 ks =>
      have hm2 := h1 m2 (List.mem_cons_of_mem _ (List.mem_cons_self ..))
      obtain ⟨w2, l2, e2, hw3, _⟩ := qx0 hm2.1 hm2.2
      rw [wdA, e2] at hT
      obtain ⟨x, T2, rfl, hx, _⟩ := jx hT
      exact ⟨x, _, rfl, by rw [hx]; exact hw3⟩
   have hb := c (T' ++ y :: r) hn
   have hk' := hk g (ls ++ [m']) y r hy
   rw [List.append_assoc] at hk'
   rw [e] at hU
   obtain ⟨x, U', rfl, hx, _⟩ := jx hU
   rw [List.append_assoc]
   exact qu9 (by rw [hx]; exact hw2) hb qcj hk'
theorem C_sb : ∀ (j : Nat) (n : Node), Zv n ≤ j → firstErr n = 0 → ∀ T, T.map (·.Text) = wdN n → Ty T → (zy n.kind = 2 → SP n T) ∧ (n.kind = 6 → BP n T)
 | 0, n, h, _, _, _, _ => by have := W9 n; omega
 | j + 1, n, h, hf, T, hT, ty => by
   have hs := qaa n
   have ih : ∀ m ∈ n.kids, firstErr m = 0 → ∀ T, T.map (·.Text) = wdN m → Ty T → (zy m.kind = 2 → SP m T) ∧ (m.kind = 6 → BP m T) := fun m hm => C_sb j m (by have := qcd hm; omega)
   have blk : ∀ m ∈ n.kids, firstErr m = 0 → m.kind = 6 → ∀ T, T.map (·.Text) = wdN m → Ty T → BP m T ∧ ∀ r v, 1 ≤ v → stop v (T ++ r) := fun m hm hf hk T hT ty => by
    refine ⟨(ih m hm hf T hT ty).2 hk, fun r v hv => ?_⟩
    obtain ⟨k, t, g, ks⟩ := m
    have hk : k = 6 := hk
    subst hk
    rw [w6] at hT
    obtain ⟨x, T', rfl, hx, _⟩ := jx hT
    exact ⟨x, _, rfl, by rw [hx, show jh ⟨#[123]⟩ = 0 from by decide]; omega, by rw [hx]; decide, by rw [hx]; decide⟩
   have exp : ∀ a : Node, firstErr a = 0 → zy a.kind = 3 → ∀ U, U.map (·.Text) = wdN a → Ty U → ∃ a', sameN a' a ∧ ∀ r, stop 1 r → Ck (.bin 1) (U ++ r) a' r := fun a ha ga U hU tU => by
    obtain ⟨a', c⟩ := qrv (Zv a) a (Nat.le_refl _) ha ga U hU tU
    exact ⟨a', c.same, fun r hr => c.bin 1 r (by decide) (by decide) (qfe ha ga) hr⟩
   have semi : ∀ (u : Token) (r : List Token), u.Text = ⟨#[59]⟩ → stop 1 (u :: r) := fun u r hu => ⟨u, r, rfl, by rw [hu]; decide, by rw [hu]; decide, by rw [hu]; decide⟩
   obtain ⟨k, t, g, ks⟩ := n
   refine ⟨fun hg => ?_, fun hk => ?_⟩
   ·rcases qpj hg with hk | hk | hk | hk | hk | hk <;> (have hk : k = _ := hk; subst hk)
    ·obtain ⟨a, rfl, ha, ga⟩ := iE 10 hf (by simp)
     rw [w10] at hT
     obtain ⟨x, T', rfl, hx, hT⟩ := jx hT
     obtain ⟨y, T', rfl, hy, hT⟩ := jx hT
     obtain ⟨z, T', rfl, hz, hT⟩ := jx hT
     obtain ⟨U, T', rfl, hU, hT⟩ := J3 hT
     obtain ⟨u, T', rfl, hu, hT⟩ := jx hT
     rw [Jp hT] at ty ⊢
     obtain ⟨k1, n1⟩ := ty.tail.name (by rw [hy]; exact (inn hf).ca)
     obtain ⟨a', hsa, ca⟩ := exp a ha ga U hU ty.tail.tail.tail.app.1
     refine ⟨_, u0 (k := 10) (g := [x.Lead, y.Lead, z.Lead, u.Lead]) rfl hy (ym hsa kw), fun r _ => ?_⟩
     have hb := ca (u :: r) (semi u r hu)
     have := q2s hx k1 n1 hz hb hu
     rw [List.cons_append, List.cons_append, List.cons_append, List.append_assoc]
     exact this
    ·obtain ⟨a, rfl, ha, ga⟩ := iE 11 hf (by simp)
     rw [w11] at hT
     obtain ⟨y, T', rfl, hy, hT⟩ := jx hT
     obtain ⟨z, T', rfl, hz, hT⟩ := jx hT
     obtain ⟨U, T', rfl, hU, hT⟩ := J3 hT
     obtain ⟨u, T', rfl, hu, hT⟩ := jx hT
     rw [Jp hT] at ty ⊢
     obtain ⟨k1, n1⟩ := ty.name (by rw [hy]; exact (inn hf).ca)
     obtain ⟨a', hsa, ca⟩ := exp a ha ga U hU ty.tail.tail.app.1
     refine ⟨_, u0 (k := 11) (g := [y.Lead, z.Lead, u.Lead]) rfl hy (ym hsa kw), fun r _ => ?_⟩
     have hb := ca (u :: r) (semi u r hu)
     have := q2o k1 n1 hz hb hu
     rw [List.cons_append, List.cons_append, List.append_assoc]
     exact this
    ·obtain ⟨a, rfl, ha, ga⟩ := iE 12 hf (by simp)
     rw [w12] at hT
     obtain ⟨x, T', rfl, hx, hT⟩ := jx hT
     obtain ⟨U, T', rfl, hU, hT⟩ := J3 hT
     obtain ⟨u, T', rfl, hu, hT⟩ := jx hT
     rw [Jp hT] at ty ⊢
     obtain ⟨a', hsa, ca⟩ := exp a ha ga U hU ty.tail.app.1
     have ht : t = e0 := of_decide_eq_true (inn hf).sp
     refine ⟨_, u0 (k := 12) (g := [x.Lead, u.Lead]) rfl ht.symm (ym hsa kw), fun r _ => ?_⟩
     have hb := ca (u :: r) (semi u r hu)
     have := q2p hx hb hu
     rw [List.cons_append, List.append_assoc]
     exact this
    ·obtain ⟨a, b, c, rfl, ha, hb, hc, ga, kb, kc, ht⟩ := i13 hf
     rw [w13] at hT
     obtain ⟨x, T', rfl, hx, hT⟩ := jx hT
     obtain ⟨U, T', rfl, hU, hT⟩ := J3 hT
     obtain ⟨W, T', rfl, hW, hT⟩ := J3 hT
     obtain ⟨a', hsa, ca⟩ := exp a ha ga U hU ty.tail.app.1
     obtain ⟨⟨b', hsb, cb⟩, hst⟩ := blk b (List.mem_cons_of_mem _ (List.mem_cons_self ..)) hb kb W hW ty.tail.app.2.app.1
     obtain ⟨k, t3, g3, l3⟩ := c
     have kc : k = 14 := kc
     subst kc
     obtain ⟨ht3, h3⟩ := i14 hc
     rcases h3 with rfl | ⟨d, rfl, hd, kd⟩
     ·rw [w14] at hT
      rw [Jp hT] at ty ⊢
      refine ⟨_, u0 (k := 13) (g := [x.Lead]) rfl ht.symm (ym hsa (ym hsb (ym (u0 (k := 14) (g := []) rfl ht3.symm kw) kw))), fun r hr => ?_⟩
      obtain ⟨y, q, rfl, hy⟩ := hr
      rw [List.append_nil, List.cons_append, List.append_assoc]
      exact q2v hx (ca _ (hst _ 1 (Int.le_refl _))) qcj (cb (y :: q)) hy
     rw [w14b] at hT
     obtain ⟨y, Z, rfl, hy, hZ⟩ := jx hT
     have td := ty.tail.app.2.app.2.tail
     have ihd : BP d Z := (C_sb j d (by
      have e1 := qcd (l := [a, b, Node.mk 14 t3 g3 [d]]) (m := Node.mk 14 t3 g3 [d]) (by simp)
      have e2 : Zv d ≤ Zv (Node.mk 14 t3 g3 [d]) := by rw [Zv, Z7, Z7]; omega
      have e3 : Zv (Node.mk 13 t g [a, b, Node.mk 14 t3 g3 [d]]) = Z7 [a, b, Node.mk 14 t3 g3 [d]] + 1 := hs
      omega) hd Z hZ td).2 kd
     obtain ⟨d', hsd, cd⟩ := ihd
     refine ⟨_, u0 (k := 13) (g := [x.Lead]) rfl ht.symm (ym hsa (ym hsb (ym (u0 (k := 14) (g := [y.Lead]) rfl ht3.symm (ym hsd kw)) kw))), fun r hr => ?_⟩
     have hcb := cb (y :: (Z ++ r))
     rw [List.cons_append, List.append_assoc, List.append_assoc]
     exact q2u hx (ca _ (hst _ 1 (Int.le_refl _))) qcj hcb qy1 hy (cd r)
    ·obtain ⟨a, b, rfl, ha, hb, ga, kb, ht⟩ := i15 hf
     rw [w15] at hT
     obtain ⟨x, T', rfl, hx, hT⟩ := jx hT
     obtain ⟨U, W, rfl, hU, hW⟩ := J3 hT
     obtain ⟨a', hsa, ca⟩ := exp a ha ga U hU ty.tail.app.1
     obtain ⟨⟨b', hsb, cb⟩, hst⟩ := blk b (List.mem_cons_of_mem _ (List.mem_cons_self ..)) hb kb W hW ty.tail.app.2
     refine ⟨_, u0 (k := 15) (g := [x.Lead]) rfl ht.symm (ym hsa (ym hsb kw)), fun r _ => ?_⟩
     rw [List.cons_append, List.append_assoc]
     exact qzy hx (ca _ (hst _ 1 (Int.le_refl _))) qcj (cb r)
    obtain ⟨a, rfl, ha, ga⟩ := iE 16 hf (by simp)
    rw [w16] at hT
    obtain ⟨U, T', rfl, hU, hT⟩ := J3 hT
    obtain ⟨u, T', rfl, hu, hT⟩ := jx hT
    rw [Jp hT] at ty ⊢
    obtain ⟨a', hsa, ca⟩ := exp a ha ga U hU ty.app.1
    have ht : t = e0 := of_decide_eq_true (inn hf).sp
    obtain ⟨q1, w, l, q2, _⟩ := qf0 (Zv a) a (Nat.le_refl _) ha ga
    refine ⟨_, u0 (k := 16) (g := [u.Lead]) rfl ht.symm (ym hsa kw), fun r _ => ?_⟩
    have hb := ca (u :: r) (semi u r hu)
    have hall : ∀ x ∈ U, okE x.Text := fun x hx => q1 _ (by rw [← hU]; exact List.mem_map_of_mem hx)
    rw [q2] at hU
    obtain ⟨x, U', rfl, hx, hU'⟩ := jx hU
    have hx' := hall x (List.mem_cons_self ..)
    rw [List.append_assoc]
    cases U' with
    | nil => exact C_do hx' (by rw [hu]; decide) hb hu
    | cons y U' => exact C_do hx' (hall y (List.mem_cons_of_mem _ (List.mem_cons_self ..))).2.2.2.2.1 hb hu
   have hk : k = 6 := hk
   subst hk
   obtain ⟨h1, ht⟩ := i6 hf
   rw [w6] at hT
   obtain ⟨x, T', rfl, hx, hT⟩ := jx hT
   obtain ⟨U, T', rfl, hU, hT⟩ := J3 hT
   obtain ⟨y, T', rfl, hy, hT⟩ := jx hT
   rw [Jp hT] at ty ⊢
   obtain ⟨ks', hsk, hk⟩ := qtu ks U h1 (fun m hm V hV tV => (ih m hm (h1 m hm).1 V hV tV).1 (h1 m hm).2) hU ty.tail.app.1
   refine ⟨_, u0 (g := [x.Lead] ++ [y.Lead]) (l := [] ++ ks') rfl ht.symm hsk, fun r => ?_⟩
   rw [List.cons_append, List.append_assoc]
   exact q2x hx (hk [x.Lead] [] y r hy)
end Ps
end Go.Proofs.YtigmilhpeodhbaaDoorW.Ex.Gr
