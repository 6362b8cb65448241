/- A symbolic executor for the machine's code, part W: slices that the call makes: append, loops whose first round differs, and slices of the call's own that are handed on or returned. General over the program; no conditions beside those in each theorem. -/
import Derived.Test.YtimdjillcaichaaDoorExU
namespace Go.Proofs.YtimdjillcaichaaDoorW.Ex
set_option linter.all false
open Go
variable {G : Nat → List AV} {P : Program} {N p : Nat}

/-! ### A loop whose first round differs -/
theorem AWp_loop1 {c : Code} {Q : Exit → Fr → Hp → Prop} {fr : Fr} {H : Hp} (I : Nat → Fr → Hp → Prop) (first : AWp P G N p c (AThen (fun fr' H' => ∃ m', I m' fr' H') Q) fr H)
    (round : ∀ m fr H, I m fr H → AWp P G N p c (AThen (fun fr' H' => ∃ m', m' < m ∧ I m' fr' H') Q) fr H) : AWp P G N p (.loop c) Q fr H := by
  intro w S F β a hp hH hf
  have key : ∀ (m : Nat) (fr' : Fr) (H' : Hp) (S' : Nat → Prop) (β' : Nat → Nat) (a' : Act) (w' : World), I m fr' H' → Ext w S F β p w' S' β' p → p ≤ H'.n → HR G w' S' F β' H' → FR w' S' β' H'.n N fr' a' → ∀ (b : Frame) (k : List Go.Item) (cs : List Frame),
      ∃ e a2 w2, (∃ fr2 H2 S2 β2, Q e fr2 H2 ∧ Ext w S F β p w2 S2 β2 p ∧ p ≤ H2.n ∧ HR G w2 S2 F β2 H2 ∧ FR w2 S2 β2 H2.n N fr2 a2) ∧ Arrives P (lone (b.at a' (.code c :: .inLoop c :: k)) cs w') b k cs e a2 w2 := by
    intro m
    induction m using Nat.strongRecOn with
    | _ m ih =>
      intro fr' H' S' β' a' w' hI hx hp' hH' hf' b k cs
      obtain ⟨e, a1, w1, ⟨fr1, H1, S1, β1, q, hx1, hp1, hH1, hf1⟩, harr⟩ := round m fr' H' hI w' S' F β' a' hp' hH' hf' b (.inLoop c :: k) cs
      cases e with
      | normal =>
        obtain ⟨m', hlt, hI'⟩ := q
        obtain ⟨e2, a2, w2, hq2, harr2⟩ := ih m' hlt fr1 H1 S1 β1 a1 w1 hI' (hx.trans hx1) hp1 hH1 hf1 b k cs
        exact ⟨e2, a2, w2, hq2, .of_steps (Steps.trans harr (.one step_inLoop)) harr2⟩
      | exit id => exact ⟨_, a1, w1, ⟨fr1, H1, S1, β1, q, hx.trans hx1, hp1, hH1, hf1⟩, .pass (x := .inLoop c) rfl (fun _ _ => .inl (by simp)) harr⟩
      | goto l => exact ⟨_, a1, w1, ⟨fr1, H1, S1, β1, q, hx.trans hx1, hp1, hH1, hf1⟩, .pass (x := .inLoop c) rfl (fun _ _ => .inl (by simp)) harr⟩
      | ret => exact ⟨_, a1, w1, ⟨fr1, H1, S1, β1, q, hx.trans hx1, hp1, hH1, hf1⟩, .pass (x := .inLoop c) rfl (fun _ _ => .inl (by simp)) harr⟩
      | panic ch => exact ⟨_, a1, w1, ⟨fr1, H1, S1, β1, q, hx.trans hx1, hp1, hH1, hf1⟩, .pass (x := .inLoop c) rfl (fun _ _ => .inl (by simp)) harr⟩
      | outgrown => exact ⟨_, a1, w1, ⟨fr1, H1, S1, β1, q, hx.trans hx1, hp1, hH1, hf1⟩, .pass (x := .inLoop c) rfl (fun _ _ => .inl (by simp)) harr⟩
  intro b k cs
  obtain ⟨e, a1, w1, ⟨fr1, H1, S1, β1, q, hx1, hp1, hH1, hf1⟩, harr⟩ := first w S F β a hp hH hf b (.inLoop c :: k) cs
  cases e with
  | normal =>
    obtain ⟨m', hI'⟩ := q
    obtain ⟨e2, a2, w2, hq2, harr2⟩ := key m' fr1 H1 S1 β1 a1 w1 hI' hx1 hp1 hH1 hf1 b k cs
    exact ⟨e2, a2, w2, hq2, .of_steps (.one step_loop) (.of_steps (Steps.trans harr (.one step_inLoop)) harr2)⟩
  | exit id => exact ⟨_, a1, w1, ⟨fr1, H1, S1, β1, q, hx1, hp1, hH1, hf1⟩, .of_steps (.one step_loop) (.pass (x := .inLoop c) rfl (fun _ _ => .inl (by simp)) harr)⟩
  | goto l => exact ⟨_, a1, w1, ⟨fr1, H1, S1, β1, q, hx1, hp1, hH1, hf1⟩, .of_steps (.one step_loop) (.pass (x := .inLoop c) rfl (fun _ _ => .inl (by simp)) harr)⟩
  | ret => exact ⟨_, a1, w1, ⟨fr1, H1, S1, β1, q, hx1, hp1, hH1, hf1⟩, .of_steps (.one step_loop) (.pass (x := .inLoop c) rfl (fun _ _ => .inl (by simp)) harr)⟩
  | panic ch => exact ⟨_, a1, w1, ⟨fr1, H1, S1, β1, q, hx1, hp1, hH1, hf1⟩, .of_steps (.one step_loop) (.pass (x := .inLoop c) rfl (fun _ _ => .inl (by simp)) harr)⟩
  | outgrown => exact ⟨_, a1, w1, ⟨fr1, H1, S1, β1, q, hx1, hp1, hH1, hf1⟩, .of_steps (.one step_loop) (.pass (x := .inLoop c) rfl (fun _ _ => .inl (by simp)) harr)⟩

section
variable {T : TT} {Q : Exit → Fr → Hp → Prop} {k : List Item} {kn : List Nat} {fr : FT} {n : Nat} {objs : Objs} {α : Type}
def FirstQ (P : Program) (G : Nat → List AV) (N p : Nat) (J : α → Prop) (fr1 : α → FT) (n1 : Nat) (objs1 : α → Objs) (k : List Item) (Q : Exit → Fr → Hp → Prop) : Exit → Fr → Hp → Prop :=
  AThen (fun fr H => ∃ a', J a' ∧ Less G N p fr H (frT (fr1 a')) ⟨n1, objs1 a'⟩) (fun e fr H => itemsOk N k = true → QK P G N p Q k e fr H)
/-- A LOOP whose first round is run from where the loop is met; behind it J holds. -/
theorem Ok_loop1 {c : Code} (J : α → Prop) (μ : α → Nat) (vals : α → List (Nat × AV)) (n1 : Nat) (objs1 : α → Objs) {fr1 : α → FT} (hs : ∀ a, headK c fr (vals a) = some (fr1 a))
    (first : Ok P G T N 0 (FirstQ P G N 0 J fr1 n1 objs1 k Q) (.go [] [.code c] kn fr n objs))
    (round : ∀ a, J a → Ok P G T N 0 (LoopQ P G N 0 J μ fr1 n1 objs1 a k Q) (.go [] [.code c] [] (fr1 a) n1 (objs1 a))) : Ok P G T N 0 Q (.loop c k kn fr n objs) := by
  unfold Ok at first round ⊢
  intro hk
  simp only [itemsOk, Bool.and_eq_true] at hk
  have hc : itemsOk N [.code c] = true := by simp only [itemsOk, hk.1, Bool.and_self]
  refine AWp_loop1 (fun m fr H => ∃ a, J a ∧ μ a = m ∧ Less G N 0 fr H (frT (fr1 a)) ⟨n1, objs1 a⟩) ?_ ?_
  · refine AWp.mono (show AWp P G N 0 c (FirstQ P G N 0 J fr1 n1 objs1 k Q) (frT fr) ⟨n, objs⟩ from first hc) ?_
    refine AThen_mono ?_ (fun e fr H h => h hk.2)
    rintro fr H ⟨a', h1, h3⟩
    exact ⟨μ a', a', h1, rfl, h3⟩
  · rintro m fr' H' ⟨a, hJ, rfl, hL⟩
    refine AWp_less hL ?_
    refine AWp.mono (show AWp P G N 0 c (LoopQ P G N 0 J μ fr1 n1 objs1 a k Q) (frT (fr1 a)) ⟨n1, objs1 a⟩ from round a hJ hc) ?_
    refine AThen_mono ?_ (fun e fr H h => h hk.2)
    rintro fr H ⟨a', h1, h2, h3⟩
    exact ⟨μ a', h2, a', h1, rfl, h3⟩
/-- The first round's end. -/
theorem Ok_back1 {J : α → Prop} {fr1 : α → FT} {n1 : Nat} {objs1 : α → Objs} (a' : α) (h1 : J a') (hlf : leFT (rho (objs1 a') objs) n1 fr (fr1 a')) (hlo : leOs (rho (objs1 a') objs) n1 objs (objs1 a')) :
    Ok P G T N 0 (FirstQ P G N 0 J fr1 n1 objs1 k Q) (.fin .normal [] fr n objs) := by
  unfold Ok
  exact fun _ => ⟨a', h1, less_mk _ hlf hlo⟩
theorem Ok_lret1 {J : α → Prop} {fr1 : α → FT} {n1 : Nat} {objs1 : α → Objs} {k' : List Item} (hk : noOps k' = true) (h : Ok P G T N p Q (.fin .ret k fr n objs)) : Ok P G T N p (FirstQ P G N p J fr1 n1 objs1 k Q) (.fin .ret k' fr n objs) := by
  unfold Ok at h ⊢
  exact fun _ => QK_ret k' (noOps_ok k' hk) (fun hi => h hi)
theorem Ok_lexit1 {J : α → Prop} {fr1 : α → FT} {n1 : Nat} {objs1 : α → Objs} {k' k2 : List Item} {id : Nat} (hk : noBlk id k' = true) (hx : exitK id k = some k2) (h : Ok P G T N p Q (.go [] k2 [] fr n objs)) :
    Ok P G T N p (FirstQ P G N p J fr1 n1 objs1 k Q) (.fin (.exit id) k' fr n objs) := by
  unfold Ok at h ⊢
  intro _
  obtain ⟨h1, h2⟩ := exitK_ok (P := P) (G := G) (N := N) (p := p) (Q := Q) (fr := frT fr) (H := ⟨n, objs⟩) k k2 hx
  exact QK_exit k' hk (fun hi => h2 (h (h1 hi)))

/-! ### Append -/
variable {d : Bool} {all : Array Oper} {os : List Oper} {u : Tmp} {ty : TypeId} {pos : String} {aft : Array Edge}
theorem app_step {a b : Operand} {t t1 : TypeId} {st : Bool} {fr : Fr} {objs : Objs} (h : d = false ∨ isCopyO a = false) : d = true → stepOk G st fr objs (.call ⟨.builtin .append, #[a, b], #[t, t1]⟩) = true := by
  intro e
  rcases h with h | h
  · rw [e] at h; cases h
  · simp only [stepOk, isCopy]
    show (!isCopyO a) = true
    rw [h]; rfl
/-- Append to a slice without elements. -/
theorem Ok_append_new {a b : Operand} {t t1 e : TypeId} {sz sz2 by_ : Nat} {f2 : Bool} {ls news : List (List AV)} {z : List AV} {it ie : TI} (E : Env P T)
    (ha : ev G (frT fr) a = .sl sz2 true ls) (hl : ls = []) (hb : ev G (frT fr) b = .sl sz f2 news) (ht : T.get t = some it) (he : it.elem = some (e, sz)) (hie : T.get e = some ie) (hz : ie.zero = some z) (hzl : z.length = sz) (h0 : 0 < sz)
    (hby : bytesP P e = some by_) (hn : noIntP P t1 = true) (hm : 0 < news.length) (hr : news.length * by_ ≤ 140737488355328)
    (hmx : news.length ≤ 9223372036854775807)
    (hc : Ok P G T N p Q (.go [(u, .bs sz objs.length n 0 news.length)] (.ops d all os :: k) (unkn (some u) kn) fr (n + 1) (objs ++ [(n, .row e news.flatten)]))) (hcp : d = false ∨ isCopyO a = false := by first | exact .inl rfl | exact .inr rfl) :
    Ok P G T N p Q (.gen ⟨some u, .call ⟨.builtin .append, #[a, b], #[t, t1]⟩, ty, pos, aft, none⟩ d all os k kn fr n objs) := by
  refine Ok_gen (app_step hcp) ?_ hc
  subst hl
  simp only [evalOp, callAV, builtinAV, List.map_cons, List.map_nil, ha, hb, appendAV, (ti E.hT ht).elem _ he, hby, (ti E.hT hie).zero _ hz]
  rw [if_pos ⟨h0, hzl, hn⟩]
  simp only [contentsAV, true_or, if_true]
  simp only [or_true, and_self, if_true, List.length_nil, Nat.zero_add]
  rw [if_neg (by omega), if_pos ⟨hmx, hr⟩]
  rfl
/-- Append to what has no room left: a copy that never changes again. -/
theorem Ok_append_copy {a b : Operand} {t t1 e : TypeId} {sz s1 s2 by_ : Nat} {f2 : Bool} {l l2 : List (List AV)} {z : List AV} {it ie : TI} (E : Env P T)
    (ha : ev G (frT fr) a = .sl s1 true l) (hs1 : s1 = sz ∨ l = []) (hb : ev G (frT fr) b = .sl s2 f2 l2) (hs2 : s2 = sz ∨ l2 = []) (ht : T.get t = some it) (he : it.elem = some (e, sz)) (hie : T.get e = some ie) (hz : ie.zero = some z) (hzl : z.length = sz) (h0 : 0 < sz)
    (hby : bytesP P e = some by_) (hn : noIntP P t1 = true) (hmx : l.length + l2.length ≤ 9223372036854775807) (hr : (l.length + l2.length) * by_ ≤ 140737488355328)
    (hc : Ok P G T N p Q (.go [(u, .sl sz false (l ++ l2))] (.ops d all os :: k) (unkn (some u) kn) fr n objs)) :
    Ok P G T N p Q (.gen ⟨some u, .call ⟨.builtin .append, #[a, b], #[t, t1]⟩, ty, pos, aft, none⟩ d all os k kn fr n objs) := by
  have hcc : copyCall P G (frT fr) ⟨.builtin .append, #[a, b], #[t, t1]⟩ = some (.sl sz false (l ++ l2)) := by
    simp only [copyCall, List.map_cons, List.map_nil, ha, hb, copyAV, (ti E.hT ht).elem _ he, hby, (ti E.hT hie).zero _ hz]
    rw [if_pos ⟨h0, hzl, hn⟩, if_pos ⟨trivial, hs1, hs2, hmx, hr⟩]
  unfold Ok at hc ⊢
  exact fun hk => .inr ⟨_, _, rfl, hcc, hc hk⟩
/-- Append to a slice of the call's own. -/
theorem Ok_append_bs {a b : Operand} {t t1 e : TypeId} {sz by_ id s0 len : Nat} {f2 : Bool} {news : List (List AV)} {cs z : List AV} {it ie : TI} (E : Env P T)
    (ha : ev G (frT fr) a = .bs sz id s0 0 len) (hb : ev G (frT fr) b = .sl sz f2 news) (ht : T.get t = some it) (he : it.elem = some (e, sz)) (hie : T.get e = some ie) (hz : ie.zero = some z) (hzl : z.length = sz) (h0 : 0 < sz)
    (hby : bytesP P e = some by_) (hn : noIntP P t1 = true) (ho : objs[id]? = some (s0, .row e cs)) (hcs : cs.length = len * sz) (hr : (len + news.length) * by_ ≤ 140737488355328) (hmx : len + news.length ≤ 9223372036854775807)
    (hc : Ok P G T N p Q (.go [(u, .bs sz id n 0 (len + news.length))] (.ops d all os :: k) (unkn (some u) kn) fr (n + 1) (objs.set id (n, .row e (cs ++ news.flatten))))) (hcp : d = false ∨ isCopyO a = false := by first | exact .inl rfl | exact .inr rfl) (hpos : 0 < len + news.length := by first | omega | (simp only [List.length_cons]; omega)) :
    Ok P G T N p Q (.gen ⟨some u, .call ⟨.builtin .append, #[a, b], #[t, t1]⟩, ty, pos, aft, none⟩ d all os k kn fr n objs) := by
  refine Ok_gen (app_step hcp) ?_ hc
  simp only [evalOp, callAV, builtinAV, List.map_cons, List.map_nil, ha, hb, appendAV, (ti E.hT ht).elem _ he, hby, (ti E.hT hie).zero _ hz]
  rw [if_pos ⟨h0, hzl, hn⟩]
  simp only [contentsAV, true_or, if_true, ho]
  rw [if_pos ⟨trivial, trivial, by omega, hpos, hmx, hr⟩]
  rw [List.take_of_length_le (by omega)]
end

/-! ### Slices of the call's own, told as slices that are only read -/
theorem flat_fwd {sz : Nat} : ∀ (l : List (List AV)), (∀ c ∈ l, c.length = sz) → ∀ (j : Nat) (c : List AV) (i : Nat) (x : AV), l[j]? = some c → c[i]? = some x → l.flatten[j * sz + i]? = some x
  | [], _, j, c, i, x, h, _ => by simp at h
  | b :: l, hl, 0, c, i, x, h, hx => by
    simp only [List.getElem?_cons_zero, Option.some.injEq] at h
    subst h
    have hi := (List.getElem?_eq_some_iff.1 hx).1
    rw [List.flatten_cons, Nat.zero_mul, Nat.zero_add, List.getElem?_append_left hi]
    exact hx
  | b :: l, hl, j + 1, c, i, x, h, hx => by
    have hb := hl b (List.mem_cons_self ..)
    rw [List.flatten_cons, List.getElem?_append_right (by rw [hb, Nat.add_mul]; omega), hb, show (j + 1) * sz + i - sz = j * sz + i by rw [Nat.add_mul]; omega]
    exact flat_fwd l (fun c hc => hl c (List.mem_cons_of_mem _ hc)) j c i x (by simpa using h) hx
def view1 (objs : Objs) (x y : AV) : Prop := match x with
  | .bs sz id s off len => (match y with
    | .sl sz' full l => sz' = sz ∧ full = false ∧ 0 < sz ∧ ∃ e cs, objs[id]? = some (s, .row e cs) ∧ len = l.length ∧ (∀ c ∈ l, c.length = sz) ∧ (cs.drop off).take (len * sz) = l.flatten ∧ (∀ c ∈ l, ∀ z ∈ c, z.one = true ∧ z.closed = true)
    | _ => False)
  | x => wk1 x y
def viewL (objs : Objs) : List AV → List AV → Prop
  | [], [] => True
  | x :: xs, y :: ys => view1 objs x y ∧ viewL objs xs ys
  | _, _ => False
def view (objs : Objs) (x y : AV) : Prop := match y with
  | .agg ds => (match x with | .agg cs => viewL objs cs ds | _ => False)
  | y => view1 objs x y
def viewLs (objs : Objs) : List AV → List AV → Prop
  | [], [] => True
  | x :: xs, y :: ys => view objs x y ∧ viewLs objs xs ys
  | _, _ => False
def viewT (objs : Objs) (x y : AV) : Prop := match y with
  | .tup ds => (match x with | .tup cs => viewLs objs cs ds | _ => False)
  | y => view objs x y
/-- With the blocks of the call's own objects among those that never change. -/
def withRows (S : Nat → Prop) (β : Nat → Nat) (objs : Objs) (k : Nat) : Prop := S k ∨ ∃ (i s : Nat) (o : Obj), objs[i]? = some (s, o) ∧ o.live = true ∧ β s = k
section
variable {w : World} {S F : Nat → Prop} {β : Nat → Nat} {n : Nat} {objs : Objs}
theorem withRows_lt (hH : HR G w S F β ⟨n, objs⟩) : ∀ k, withRows S β objs k → k < w.heap.size := by
  rintro k (h | ⟨i, s, o, hi, hl, rfl⟩)
  · exact hH.lts k h
  · exact (hH.obj i s o hi).lt hl
theorem rv_rows {x : AV} {v : Value} (hv : RV w S β n x v) : RV w (withRows S β objs) β n x v := hv.to (Nat.le_refl _) (fun _ _ => rfl) (fun _ h => Or.inl h) (fun _ _ => rfl) (fun _ _ _ h => h)
theorem ext_rows (hH : HR G w S F β ⟨n, objs⟩) (m : Nat) : Ext w S F β m w (withRows S β objs) β m := by
  refine ⟨rfl, rfl, rfl, Nat.le_refl _, Nat.le_refl _, fun _ _ => rfl, fun _ h => Or.inl h, ?_, fun _ _ => rfl, fun _ _ => rfl, fun _ _ h => h⟩
  rintro k (h | ⟨i, s, o, hi, hl, rfl⟩)
  · exact .inl h
  · exact .inr ((hH.obj i s o hi).notS hl).2
theorem view1_rv (hH : HR G w S F β ⟨n, objs⟩) {x y : AV} {v : Value} (h : view1 objs x y) (hv : RV w S β n x v) : RV w (withRows S β objs) β n y v := by
  unfold view1 at h
  split at h
  · rename_i sz id s off len
    split at h
    · rename_i sz' full l
      obtain ⟨rfl, rfl, hs0, e, cs, ho, hlen, hsz, hfl, hcl⟩ := h
      cases hv with
      | bs0 _ _ _ _ A hs =>
        have : l = [] := List.length_eq_zero_iff.1 hlen.symm
        subst this
        exact .sl sz' false [] A 0 (fun _ _ => Go.undef) (Nat.le_refl _) (by omega) (fun h => by cases h) (fun h => absurd rfl h) (fun h => absurd rfl h) (fun _ _ _ h => absurd rfl h) (by simp) (by simp) (by simp) (by simp)
      | bs _ _ _ _ _ cap m' e' hs hsh hn hl hm h0 =>
        subst hlen
        have hne : cs ≠ [] := by
          intro e; subst e
          obtain ⟨c0, hc0⟩ : ∃ c0, l[0]? = some c0 := ⟨l[0], List.getElem?_eq_getElem h0⟩
          have := hsz c0 (List.mem_of_getElem? hc0)
          have h2 := flat_fwd l hsz 0 c0 0 c0[0] hc0 (List.getElem?_eq_getElem (by omega))
          rw [← hfl] at h2
          simp at h2
        obtain ⟨c, hc, hcl2, hnS, hnF, hcells⟩ := hH.obj id s _ ho hne
        have at' : ∀ (j : Nat) (c' : List AV) (i : Nat) (x : AV), l[j]? = some c' → c'[i]? = some x → cs[off + (j * sz' + i)]? = some x := by
          intro j c' i x hj hi
          have h1 := flat_fwd l hsz j c' i x hj hi
          rw [← hfl, List.getElem?_take] at h1
          split at h1
          · rwa [List.getElem?_drop] at h1
          · cases h1
        refine .sl sz' false l (some ⟨β s, off, none⟩) cap (fun j i => c.getD (off + (j * sz' + i)) Go.undef) hl hm (by simp) (fun _ a ha => by cases ha; rfl) (fun _ => rfl) (fun b o hb _ => ?_) hsz (fun c' hc' x hx => (hcl c' hc' x hx).1) (fun b o hb j c' i x hj hi => ?_) (fun j c' i x hj hi => ?_)
        · simp only [Option.some.injEq, Addr.mk.injEq] at hb
          exact Or.inr ⟨id, s, _, ho, live_row hne, hb.1⟩
        · simp only [Option.some.injEq, Addr.mk.injEq] at hb
          obtain ⟨rfl, rfl, _⟩ := hb
          have hx := at' j c' i x hj hi
          have hlt := (List.getElem?_eq_some_iff.1 hx).1
          simp only [World.cell?, hc]
          exact get_some (by omega)
        · have hx := at' j c' i x hj hi
          exact ((hcells _ x hx).2.pure (closed_pure x (hcl c' (List.mem_of_getElem? hj) x (List.mem_of_getElem? hi)).2)).to (Nat.le_refl 0) (fun _ _ => rfl) (fun _ h => Or.inl h) (fun _ _ => rfl) (fun _ _ _ h => h)
    · exact h.elim
  · exact wk1_rv h (rv_rows hv)
theorem view1_one {x y : AV} (h : view1 objs x y) : y.one = x.one := by
  unfold view1 at h
  split at h
  · split at h
    · rfl
    · exact h.elim
  · exact wk1_one h
theorem viewL_get : ∀ (cs ds : List AV), viewL objs cs ds → cs.length = ds.length ∧ ∀ (i : Nat) (y : AV), ds[i]? = some y → ∃ x, cs[i]? = some x ∧ view1 objs x y
  | [], [], _ => ⟨rfl, by simp⟩
  | [], _ :: _, h => h.elim
  | _ :: _, [], h => h.elim
  | x :: xs, y :: ys, h => by
    obtain ⟨h1, h2⟩ := viewL_get xs ys h.2
    refine ⟨by simp [h1], fun i z hi => ?_⟩
    cases i with
    | zero => simp at hi; subst hi; exact ⟨x, rfl, h.1⟩
    | succ i => simpa using h2 i z (by simpa using hi)
theorem view_rv (hH : HR G w S F β ⟨n, objs⟩) {x y : AV} {v : Value} (h : view objs x y) (hv : RV w S β n x v) : RV w (withRows S β objs) β n y v := by
  unfold view at h
  split at h
  · split at h
    · rename_i ds _ cs
      obtain ⟨hl, hg⟩ := viewL_get cs ds h
      cases hv with
      | agg _ vs hs h1 hr =>
        refine .agg ds vs (by rw [hs, hl]) (fun z hz => ?_) (fun i z hi => ?_)
        · obtain ⟨i, hi⟩ := List.getElem?_of_mem hz
          obtain ⟨x, hx, hw⟩ := hg i z hi
          rw [view1_one hw]; exact h1 x (List.mem_of_getElem? hx)
        · obtain ⟨x, hx, hw⟩ := hg i z hi
          exact view1_rv hH hw (hr i x hx)
    · exact h.elim
  · exact view1_rv hH h hv
theorem viewLs_get : ∀ (cs ds : List AV), viewLs objs cs ds → cs.length = ds.length ∧ ∀ (i : Nat) (y : AV), ds[i]? = some y → ∃ x, cs[i]? = some x ∧ view objs x y
  | [], [], _ => ⟨rfl, by simp⟩
  | [], _ :: _, h => h.elim
  | _ :: _, [], h => h.elim
  | x :: xs, y :: ys, h => by
    obtain ⟨h1, h2⟩ := viewLs_get xs ys h.2
    refine ⟨by simp [h1], fun i z hi => ?_⟩
    cases i with
    | zero => simp at hi; subst hi; exact ⟨x, rfl, h.1⟩
    | succ i => simpa using h2 i z (by simpa using hi)
theorem viewT_rv (hH : HR G w S F β ⟨n, objs⟩) {x y : AV} {v : Value} (h : viewT objs x y) (hv : RV w S β n x v) : RV w (withRows S β objs) β n y v := by
  unfold viewT at h
  split at h
  · split at h
    · rename_i ds _ cs
      obtain ⟨hl, hg⟩ := viewLs_get cs ds h
      cases hv with
      | tup _ vs hs hr =>
        refine .tup ds vs (by rw [hs, hl]) (fun i z hi => ?_)
        obtain ⟨x, hx, hw⟩ := hg i z hi
        exact view_rv hH hw (hr i x hx)
    · exact h.elim
  · exact view_rv hH h hv
end
/-- WHAT A CALL RETURNS may be slices that it made. -/
theorem told_view {n : Nat} {objs : Objs} {y x : AV} (h : viewT objs y x) : Told P G ⟨n, objs⟩ y x := by
  unfold Told
  exact fun w S F β v hH hv => ⟨withRows S β objs, ext_rows hH 0, withRows_lt hH, viewT_rv hH h hv⟩
/-- No memory is named. -/
def AV.scalar : AV → Bool
  | .bool _ | .int _ _ | .str _ => true
  | _ => false
/-- A CALL MAY LOOK at slices of the call's own, if it returns a number, a string or a bool. -/
theorem Fn.peek {f : FuncId} {xs ys : List AV} {x : AV} {n : Nat} {objs : Objs} (h : Fn P G f ys x) (hx : x.scalar = true) (hw : viewLs objs xs ys) : ACalls P G f xs ⟨n, objs⟩ x ⟨n, objs⟩ := by
  intro w S F β vs hH hv
  obtain ⟨hl, hg⟩ := viewLs_get xs ys hw
  have hE := ext_rows hH n
  have h1 := h w (withRows S β objs) β n vs ⟨withRows_lt hH, fun k hk => hk, fun g => ⟨rv_rows (hH.glob g).rv, (hH.glob g).sh⟩, by simp, by simp, by simp⟩ ⟨by rw [hv.1, hl], fun i y hi => by
    obtain ⟨z, hz, hk⟩ := hg i y hi
    exact view_rv hH hk (hv.2 i z hz)⟩
  refine h1.mono ?_
  rintro v w' ⟨S', hx2, hlt, hR⟩
  have hS : Ext w S (· < w.heap.size) β n w' S β n := ⟨hx2.os, hx2.tape, hx2.output, hx2.size, Nat.le_refl _, fun _ _ => rfl, fun _ h => h, fun _ h => .inl h, fun k hk => hx2.fsame k (hH.lts k hk), fun k hk => hx2.fsame k hk, hx2.shape⟩
  refine ⟨S, β, hS.callee hH.ltf, hH.after hS (fun k hk => Nat.lt_of_lt_of_le (hH.lts k hk) hx2.size), ?_⟩
  cases x <;> simp [AV.scalar] at hx
  · cases hR; exact .bool _
  · cases hR; exact .int _ _
  · cases hR; exact .str _
section
variable {T : TT} {Q : Exit → Fr → Hp → Prop} {k : List Item} {kn : List Nat} {fr : FT} {n : Nat} {objs : Objs} {all : Array Oper} {os : List Oper} {u : Tmp}
theorem Ok_peek {f : FuncId} {xs ys : List AV} {x : AV} (h : Fn P G f ys x) (hx : x.scalar = true) (hw : viewLs objs xs ys) (hc : Ok P G T N p Q (.go [(u, x)] (.ops false all os :: k) (unkn (some u) kn) fr n objs)) : Ok P G T N p Q (.call f xs (some u) false all os k kn fr n objs) := by
  unfold Ok at hc ⊢
  exact fun hk => .inr ⟨rfl, x, _, h.peek hx hw, hc hk⟩
end
end Go.Proofs.YtimdjillcaichaaDoorW.Ex
