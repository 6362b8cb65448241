/- A symbolic executor for the machine's code, part 8: calls, regions in the text's order, control, functions. General over the program; no conditions beside those in each theorem. -/
import Derived.Test.YtigmilhpeodhbaaGreatDoorEx7
namespace Go.Proofs.YtigmilhpeodhbaaGreatDoorW.Ex
set_option linter.all false
open Go
variable {D : List Deferred}
variable {G : Nat → List AV} {P : Program} {w : World} {S F : Nat → Prop} {β : Nat → Nat} {n N p : Nat}
def RVs (w : World) (S : Nat → Prop) (β : Nat → Nat) (n : Nat) (xs : List AV) (vs : Array Value) : Prop :=
 vs.size = xs.length ∧ ∀ (i : Nat) (x : AV), xs[i]? = some x → RV w S β n x (vs.getD i Go.undef)
def Up (P : Program) (K : Value → World → Prop) : Result Next → Prop
 | .ok (.value v) w' => K v w'
 | .ok (.enter f vs) w' => Calls P f vs w' fun e w'' => ∃ v, e = .returned v ∧ K v w''
 | _ => False
def ACalls (P : Program) (G : Nat → List AV) (f : FuncId) (xs : List AV) (H : Hp) (x : AV) (H' : Hp) : Prop :=
 ∀ w S F β vs, HR G w S F β H → RVs w S β H.n xs vs → Up P (fun v w' => ∃ S' β', Ext w S F β H.n w' S' β' H'.n ∧ HR G w' S' F β' H' ∧ RV w' S' β' H'.n x v) ((callFunc f vs).run P w)
def Dn (P : Program) (K : World → Prop) (ch : List PanicEntry) : Result Next → Prop
 | .ok (.enter f vs) w' => Calls P f vs w' fun e w'' => e = .panicked ch ∧ K w''
 | _ => False
def FCalls (P : Program) (G : Nat → List AV) (f : FuncId) (xs : List AV) (H : Hp) (ch : List PanicEntry) : Prop :=
 ∀ w S F β vs, HR G w S F β H → RVs w S β H.n xs vs → Dn P (fun w' => ∃ S' β', Ext w S F β H.n w' S' β' H.n ∧ (∀ k, S' k → k < w'.heap.size)) ch ((callFunc f vs).run P w)
def Fn (P : Program) (G : Nat → List AV) (f : FuncId) (xs : List AV) (x : AV) : Prop :=
 ∀ w S β n vs, HR G w S (· < w.heap.size) β ⟨n, []⟩ → RVs w S β n xs vs → Up P (fun v w' => ∃ S', Ext w S (· < w.heap.size) β n w' S' β n ∧ (∀ k, S' k → k < w'.heap.size) ∧ RV w' S' β n x v) ((callFunc f vs).run P w)
theorem Up.mono {K K' : Value → World → Prop} {r : Result Next} (h : Up P K r) (hk : ∀ v w, K v w → K' v w) : Up P K' r := by
 unfold Up at *
 split at h
 ·exact hk _ _ h
 ·exact Calls.mono h (fun e w' ⟨v, he, hK⟩ => ⟨v, he, hk _ _ hK⟩)
 exact h.elim
theorem Fn.calls {f : FuncId} {xs : List AV} {x : AV} (h : Fn P G f xs x) (H : Hp) : ACalls P G f xs H x H := by
 intro w S F β vs hH hv
 refine (h w S β H.n vs ⟨hH.lts, fun k hk => hk, hH.glob, by simp, by simp, by simp⟩ hv).mono ?_
 rintro v w' ⟨S', hx, hlt, hR⟩
 exact ⟨S', β, hx.callee hH.ltf, hH.after hx hlt, hR⟩
def wq (G : Nat → List AV) (fr : Fr) (c : Call) : Option (FuncId × List AV) :=
 match c.callee with
 | .value f => match ev G fr f with
   | .fn f caps => some (f, c.args.toList.map (ev G fr) ++ caps)
   | _ => none
 | _ => none
def Jd (P : Program) (G : Nat → List AV) (fr : Fr) (c : Call) : Option AV :=
 match c.callee, c.argTypes.toList, c.args.toList.map (ev G fr) with
 | .builtin .append, [t, t1], [s, x] => qxh P t t1 s x
 | _, _, _ => none
def qo5 (P : Program) (G : Nat → List AV) (fr : Fr) (H : Hp) (op : Op) (x : AV) (H' : Hp) : Prop :=
 match op with
 | .buildSlice t len ps => ∃ e k cs, qet P t len (ps.toList.map fun p => (p.1, ev G fr p.2)) = some (e, k, cs) ∧ x = .bs k H.objs.length H.n 0 len ∧ H' = H.push (.row e cs)
 | _ => False
def qfc (P : Program) (G : Nat → List AV) (fr : Fr) (H : Hp) (op : Op) (x : AV) (H' : Hp) : Prop :=
 match op with
 | .call c => match wq G fr c with
   | some (f, xs) => ACalls P G f xs H x H'
   | none => Je P G fr H c = some (x, H') ∨ (Jd P G fr c = some x ∧ H' = H)
 | op => evalOp P G fr H op = some (x, H') ∨ qo5 P G fr H op x H'
theorem q45 {o : Oper} {a : Act} {next : Act → World → Prop} {Q : Exit → Act → World → Prop} {r : Result Next} (h : Up P (fun v w' => next (a.put o.dst v) w') r) : o.upon P a next Q r := by
 unfold Up at h
 split at h
 ·exact h
 ·refine Calls.mono h (fun e w' he => ?_)
  obtain ⟨v, rfl, hK⟩ := he
  exact hK
 exact h.elim
theorem qnf {xs ys : List AV} {vs us : Array Value} (h : RVs w S β n xs vs) (hy : us.size = ys.length ∧ ∀ (i : Nat) (x : AV), ys[i]? = some x → RV w S β n x (us.getD i Go.undef)) : RVs w S β n (xs ++ ys) (vs ++ us) := by
 refine ⟨by simp [h.1, hy.1], fun i x hi => ?_⟩
 rw [List.getElem?_append] at hi
 rw [Array.getD_eq_getD_getElem?, Array.getElem?_append, h.1]
 split at hi
 ·rename_i hl; rw [if_pos hl, ← Array.getD_eq_getD_getElem?]; exact h.2 i x hi
 rename_i hl; rw [if_neg hl, ← Array.getD_eq_getD_getElem?]; exact hy.2 _ x hi
theorem qrw {H H' : Hp} {fr : Fr} {a : Act} {o : Oper} {x : AV} {next : Act → World → Prop} {Q : Exit → Act → World → Prop} (hH : HR G w S F β H) (hf : FRx D w S β H.n N fr a) (h : qfc P G fr H o.op x H')
 (hd : o.dst.all (· < N) = true)
 (hk : ∀ a' w' S' β', Ext w S F β H.n w' S' β' H'.n → HR G w' S' F β' H' → FRx D w' S' β' H'.n N (put o.dst x fr) a' → next a' w') : o.wp P a w next Q := by
 have plain : evalOp P G fr H o.op = some (x, H') → o.wp P a w next Q := by
  intro h
  obtain ⟨w', S', β', hr, hx, hH'⟩ := q07 hH hf h
  unfold Oper.wp
  rcases hr with ⟨v, hr, hR⟩ | ⟨hr, rfl⟩
  ·rw [hr, Oper.upon_value]
   exact hk _ _ _ _ hx hH' ((hf.ext hx).put hd hR)
  rw [hr, Oper.upon_skip]
  exact hk _ _ _ _ hx hH' ((hf.ext hx).put hd (.undef _))
 unfold qfc at h
 split at h
 ·rename_i c hop
  split at h
  ·rename_i f xs hc
   unfold wq at hc
   split at hc
   ·rename_i fo hfo
    split at hc
    ·rename_i f' caps hev
     simp only [Option.some.injEq, Prod.mk.injEq] at hc
     obtain ⟨rfl, rfl⟩ := hc
     have h1 := qlp (G := G) hH hf fo
     rw [hev] at h1
     generalize hv : a.eval fo = fv at h1
     cases h1 with
     | fn _ _ cvs hs hr =>
       have hvs := qnf (qf9 hH hf c.args) ⟨hs, hr⟩
       have := (h w S F β _ hH hvs).mono (K' := fun v w' => next (a.put o.dst v) w') (by
        rintro v w' ⟨S', β', hx, hH', hR⟩
        exact hk _ _ _ _ hx hH' ((hf.ext hx).put hd hR))
       unfold Oper.wp
       refine q45 ?_
       simp only [execOp, hop, resolve, hfo, hv, Deferred.ofValue, Sem.run_bind, Sem.run_pure, Result.andThen_ok, invoke, Array.empty_append]
       exact this
    cases hc
   cases hc
  rcases h with h | ⟨h, rfl⟩
  ·refine plain ?_
   rw [hop]
   exact h
  unfold Jd at h
  split at h
  ·rename_i t t1 s x0 hcb hts hxs
   have hcm := qf9 hH hf c.args
   rw [hxs] at hcm
   have h2 := two _ (show (c.args.map a.eval).size = 2 from hcm.1)
   obtain ⟨v', w', S', hrun, hx, hH', hR⟩ := q52 (P := P) (ty := o.type) hH (hcm.2 0 s rfl) (hcm.2 1 x0 rfl) h
   have hts' : c.argTypes = #[t, t1] := by rw [← Array.toList_inj, hts]
   have hrun2 : (execOp a.eval o).run P w = .ok (.value v') w' := by
    obtain ⟨dst, op, type, pos, aft, grd⟩ := o
    simp only at hop
    subst hop
    obtain ⟨callee, args, argTypes⟩ := c
    simp only at hcb h2 hts'
    subst hcb hts'
    simp only [execOp, resolve, invoke, Sem.run_bind, Sem.run_pure, Result.andThen_ok]
    rw [h2]
    simp only [builtin, Sem.run_bind, Sem.run_pure, Result.andThen_ok]
    rw [hrun]
    rfl
   unfold Oper.wp
   rw [hrun2, Oper.upon_value]
   exact hk _ _ _ _ hx hH' ((hf.ext hx).put hd hR)
  cases h
 rcases h with h | h
 ·exact plain h
 unfold qo5 at h
 split at h
 ·rename_i t len ps hop
  obtain ⟨e, k, cs, hz, rfl, rfl⟩ := h
  obtain ⟨v', w', β', hrun, hx, hH', hR⟩ := qvx (P := P) hH (qw2 hH hf ps) hz
  have hrun2 : (execOp a.eval o).run P w = .ok (.value v') w' := by
   simp only [execOp, hop, Sem.run_bind, hrun, Result.andThen_ok, Sem.run_pure]
  unfold Oper.wp
  rw [hrun2, Oper.upon_value]
  exact hk _ _ _ _ hx hH' ((hf.ext hx).put hd hR)
 exact h.elim
def qrn (P : Program) (G : Nat → List AV) (fr : Fr) (H : Hp) (op : Op) (ch : List PanicEntry) : Prop :=
 match op with
 | .call c => match wq G fr c with
   | some (f, xs) => FCalls P G f xs H ch
   | none => False
 | .panic x => ∃ t k i, ev G fr x = .iface t (.int k i) ∧ ch = [{ v := .iface t (.int k i), recovered := false }]
 | _ => False
theorem qy9 {H : Hp} {w' : World} {S' : Nat → Prop} {β' : Nat → Nat} (hH : HR G w S F β H) (hx : Ext w S F β H.n w' S' β' H.n) (hl : ∀ k, S' k → k < w'.heap.size) : HR G w' S' F β' ⟨H.n, []⟩ :=
 ⟨hl, fun k hk => Nat.lt_of_lt_of_le (hH.ltf k hk) hx.size, fun g => (hH.glob g).ext hx, by simp, by simp, by simp⟩
theorem q0l {H : Hp} {fr : Fr} {a : Act} {o : Oper} {ch : List PanicEntry} {next : Act → World → Prop} {Q : Exit → Act → World → Prop} (hH : HR G w S F β H) (hf : FRx D w S β H.n N fr a) (h : qrn P G fr H o.op ch)
 (hk : ∀ w' S' β', Ext w S F β H.n w' S' β' H.n → HR G w' S' F β' ⟨H.n, []⟩ → FRx D w' S' β' H.n N fr a → Q (.panic ch) a w') : o.wp P a w next Q := by
 unfold qrn at h
 split at h
 ·rename_i c hop
  split at h
  ·rename_i f xs hc
   unfold wq at hc
   split at hc
   ·rename_i fo hfo
    split at hc
    ·rename_i f' caps hev
     simp only [Option.some.injEq, Prod.mk.injEq] at hc
     obtain ⟨rfl, rfl⟩ := hc
     have h1 := qlp (G := G) hH hf fo
     rw [hev] at h1
     generalize hv : a.eval fo = fv at h1
     cases h1 with
     | fn _ _ cvs hs hr =>
       have hvs := qnf (qf9 hH hf c.args) ⟨hs, hr⟩
       have hd := h w S F β _ hH hvs
       unfold Oper.wp
       simp only [execOp, hop, resolve, hfo, hv, Deferred.ofValue, Sem.run_bind, Sem.run_pure, Result.andThen_ok, invoke, Array.empty_append]
       unfold Dn at hd
       split at hd
       ·rename_i f2 vs2 w2 hrun
        rw [hrun, Oper.upon_enter]
        refine Calls.mono hd (fun e w' he => ?_)
        obtain ⟨rfl, S', β', hx, hl⟩ := he
        exact hk _ _ _ hx (qy9 hH hx hl) (hf.ext hx)
       exact hd.elim
    cases hc
   cases hc
  exact h.elim
 ·rename_i x hop
  obtain ⟨t, k, i, hev, rfl⟩ := h
  have h1 := qlp (G := G) hH hf x
  rw [hev] at h1
  have hx : a.eval x = .iface t (.int k i) := by
   generalize a.eval x = v at h1
   cases h1 with
   | iface _ _ y hy => cases hy; rfl
  unfold Oper.wp
  simp only [execOp, hop, hx]
  exact hk w S β (.refl ..) (qy9 hH (.refl ..) hH.lts) hf
 exact h.elim
def Z6 (ops : Array Oper) (fr : Fr) (j : Nat) : Option (Option Bool) :=
 match (ops[j]?).bind (·.dst) with
 | some t => match fr t with | .bool b => some (some b) | .tup [] => some none | _ => none
 | none => none
def wpL (P : Program) (G : Nat → List AV) (ops : Array Oper) : List Oper → Fr → Hp → (Exit → Fr → Hp → Prop) → Prop
 | [], fr, H, K => K .normal fr H
 | o :: os, fr, H, K => match o.guard with
   | none => (∃ x H', qfc P G fr H o.op x H' ∧ wpL P G ops os (put o.dst x fr) H' K) ∨ (∃ ch, qrn P G fr H o.op ch ∧ K (.panic ch) fr ⟨H.n, []⟩)
   | some (j, want) => ∃ b, Z6 ops fr j = some b ∧ (b = some want → (∃ x H', qfc P G fr H o.op x H' ∧ wpL P G ops os (put o.dst x fr) H' K) ∨ (∃ ch, qrn P G fr H o.op ch ∧ K (.panic ch) fr ⟨H.n, []⟩)) ∧ (b ≠ some want → wpL P G ops os (put o.dst (.tup []) fr) H K)
theorem RV.nothing : RV w S β n (.tup []) Go.undef := .tup [] #[] rfl (by simp)
theorem qmu {ops : Array Oper} {fr : Fr} {a : Act} {j : Nat} {b : Option Bool} (hf : FRx D w S β n N fr a) (h : Z6 ops fr j = some b) : yielded ops a.tmps j = b := by
 unfold Z6 at h
 unfold yielded
 split at h
 ·rename_i t ht
  rw [ht]
  simp only [Option.bind_some]
  have h1 := hf.val t
  split at h
  ·rename_i b' hb
   simp only [Option.some.injEq] at h; subst h
   rw [hb] at h1
   generalize hv : a.tmps.getD t Go.undef = v at h1
   cases h1
   have hlt : t < a.tmps.size := by
    rcases Nat.lt_or_ge t a.tmps.size with h | h
    ·exact h
    rw [Array.getD_eq_getD_getElem?, Array.getElem?_eq_none h] at hv
    cases hv
   rw [Y1 hlt, hv]
  ·rename_i hb
   simp only [Option.some.injEq] at h; subst h
   rw [hb] at h1
   generalize hv : a.tmps.getD t Go.undef = v at h1
   cases h1
   rcases Nat.lt_or_ge t a.tmps.size with hlt | hlt
   ·rw [Y1 hlt, hv]
   rw [Array.getElem?_eq_none hlt]
  cases h
 cases h
theorem qwj {ops : Array Oper} {Q : Exit → Act → World → Prop} : ∀ (os : List Oper) (fr : Fr) (H : Hp) (K : Exit → Fr → Hp → Prop) (a : Act) (w : World) (S : Nat → Prop) (β : Nat → Nat), os.all (fun o => o.dst.all (· < N)) = true → wpL P G ops os fr H K → HR G w S F β H → FRx D w S β H.n N fr a →
 (∀ e fr' H' a' w' S' β', K e fr' H' → Ext w S F β H.n w' S' β' H'.n → HR G w' S' F β' H' → FRx D w' S' β' H'.n N fr' a' → Q e a' w') → wpList P ops Q os a w
 | [], fr, H, K, a, w, S, β, _, h, hH, hf, hq => hq .normal fr H a w S β h (.refl ..) hH hf
 | o :: os, fr, H, K, a, w, S, β, hd, h, hH, hf, hq => by
   simp only [List.all_cons, Bool.and_eq_true] at hd
   have go : ∀ (x : AV) (H' : Hp), qfc P G fr H o.op x H' → wpL P G ops os (put o.dst x fr) H' K → o.wp P a w (wpList P ops Q os) Q := fun x H' hs hrest =>
    qrw hH hf hs hd.1 (fun a' w' S' β' hx hH' hf' => qwj os _ H' K a' w' S' β' hd.2 hrest hH' hf' (fun e fr' H2 a2 w2 S2 β2 hk hx2 hH2 hf2 => hq e fr' H2 a2 w2 S2 β2 hk (hx.trans hx2) hH2 hf2))
   have fail : ∀ ch, qrn P G fr H o.op ch → K (.panic ch) fr ⟨H.n, []⟩ → o.wp P a w (wpList P ops Q os) Q := fun ch hs hk =>
    q0l hH hf hs (fun w' S' β' hx hH' hf' => hq _ fr ⟨H.n, []⟩ a w' S' β' hk hx hH' hf')
   have skip : wpL P G ops os (put o.dst (.tup []) fr) H K → wpList P ops Q os (a.put o.dst Go.undef) w := fun hrest =>
    qwj os _ H K _ w S β hd.2 hrest hH (hf.put hd.1 RV.nothing) hq
   unfold wpL at h
   unfold wpList
   split at h
   ·rename_i hg
    rw [if_pos (by simp [Region.wanted, hg])]
    rcases h with ⟨x, H', hs, hrest⟩ | ⟨ch, hs, hk⟩
    ·exact .inl (go x H' hs hrest)
    exact .inl (fail ch hs hk)
   rename_i j want hg
   obtain ⟨b, hb, hy, hn⟩ := h
   have hyb := qmu hf hb
   by_cases hbw : b = some want
   ·rw [if_pos (by simp [Region.wanted, hg, hyb, hbw])]
    rcases hy hbw with ⟨x, H', hs, hrest⟩ | ⟨ch, hs, hk⟩
    ·exact .inl (go x H' hs hrest)
    exact .inl (fail ch hs hk)
   rw [if_neg (by simp [Region.wanted, hg, hyb, hbw])]
   exact skip (hn hbw)
theorem Ext.lower {w' : World} {S' : Nat → Prop} {β' : Nat → Nat} {n' : Nat} (h : Ext w S F β n w' S' β' n') (hp : p ≤ n) : Ext w S F β p w' S' β' p :=
 ⟨h.os, h.tape, h.output, h.size, Nat.le_refl _, fun s hs => h.beta s (Nat.lt_of_lt_of_le hs hp), h.sub, h.new, h.same, h.fsame, h.shape⟩
def AWp (P : Program) (G : Nat → List AV) (N p : Nat) (c : Code) (Q : Exit → Fr → Hp → Prop) (fr : Fr) (H : Hp) : Prop :=
 ∀ D w S F β a, p ≤ H.n → HR G w S F β H → FRx D w S β H.n N fr a → c.wp P (fun e a' w' => ∃ fr' H' S' β', Q e fr' H' ∧ Ext w S F β p w' S' β' p ∧ p ≤ H'.n ∧ HR G w' S' F β' H' ∧ FRx D w' S' β' H'.n N fr' a') a w
section
variable {Q : Exit → Fr → Hp → Prop} {fr : Fr} {H : Hp}
theorem AWp.mono {c : Code} {Q' : Exit → Fr → Hp → Prop} (h : AWp P G N p c Q fr H) (hq : ∀ e fr H, Q e fr H → Q' e fr H) : AWp P G N p c Q' fr H :=
 fun D w S F β a hp hH hf => wp_mono (h D w S F β a hp hH hf) (fun _ _ _ ⟨fr', H', S', β', q, r⟩ => ⟨fr', H', S', β', hq _ _ _ q, r⟩)
theorem qjv (h : Q .normal fr H) : AWp P G N p .skip Q fr H := fun D w S F β a hp hH hf => wp_skip ⟨fr, H, S, β, h, .refl .., hp, hH, hf⟩
theorem qz5 (h : Q .ret fr H) : AWp P G N p .ret Q fr H := fun D w S F β a hp hH hf => wp_ret ⟨fr, H, S, β, h, .refl .., hp, hH, hf⟩
theorem qwd {id : Nat} (h : Q (.exit id) fr H) : AWp P G N p (.exit id) Q fr H := fun D w S F β a hp hH hf => wp_exit ⟨fr, H, S, β, h, .refl .., hp, hH, hf⟩
def Jk (next : Fr → Hp → Prop) (Q : Exit → Fr → Hp → Prop) : Exit → Fr → Hp → Prop
 | .normal, fr, H => next fr H
 | e, fr, H => Q e fr H
def Y5 (id : Nat) (Q : Exit → Fr → Hp → Prop) : Exit → Fr → Hp → Prop
 | .exit id', fr, H => if id' = id then Q .normal fr H else Q (.exit id') fr H
 | e, fr, H => Q e fr H
theorem qjw {x y : Code} (h : AWp P G N p x (Jk (AWp P G N p y Q) Q) fr H) : AWp P G N p (.seq x y) Q fr H := by
 intro D w S F β a hp hH hf
 refine wp_seq (wp_mono (h D w S F β a hp hH hf) ?_)
 rintro e a' w' ⟨fr', H', S', β', q, hx, hp', hH', hf'⟩
 cases e with
 | normal =>
   refine wp_mono (q D w' S' F β' a' hp' hH' hf') ?_
   rintro e a2 w2 ⟨fr2, H2, S2, β2, q2, hx2, r⟩
   exact ⟨fr2, H2, S2, β2, q2, hx.trans hx2, r⟩
 | _ => exact ⟨fr', H', S', β', q, hx, hp', hH', hf'⟩
theorem qd3 {c : Operand} {x y : Code} {t : Bool} (hc : ev G fr c = .bool t) (ht : t = true → AWp P G N p x Q fr H) (hn : t = false → AWp P G N p y Q fr H) : AWp P G N p (.cond c x y) Q fr H := by
 intro D w S F β a hp hH hf
 have h1 := qlp (G := G) hH hf c
 rw [hc] at h1
 generalize hv : a.eval c = v at h1
 cases h1
 exact wp_cond_split hv (fun h => ht h D w S F β a hp hH hf) (fun h => hn h D w S F β a hp hH hf)
theorem qro {id : Nat} {c : Code} (h : AWp P G N p c (Y5 id Q) fr H) : AWp P G N p (.block id c) Q fr H := by
 intro D w S F β a hp hH hf
 refine wp_block (wp_mono (h D w S F β a hp hH hf) ?_)
 rintro e a' w' ⟨fr', H', S', β', q, r⟩
 cases e with
 | exit id' =>
   by_cases hid : id' = id
   ·simp only [Y5, hid, if_true] at q
    simp only [Exit.inBlock, hid, if_true]
    exact ⟨fr', H', S', β', q, r⟩
   simp only [Y5, hid, if_false] at q
   simp only [Exit.inBlock, hid, if_false]
   exact ⟨fr', H', S', β', q, r⟩
 | _ => exact ⟨fr', H', S', β', q, r⟩
theorem q41 {c : Code} (I : Nat → Fr → Hp → Prop) (m : Nat) (h0 : I m fr H) (round : ∀ m fr H, I m fr H → AWp P G N p c (Jk (fun fr' H' => ∃ m', m' < m ∧ I m' fr' H') Q) fr H) : AWp P G N p (.loop c) Q fr H := by
 intro D w S F β a hp hH hf
 let J : Act → World → Prop := fun a' w' => ∃ m' fr' H' S' β', I m' fr' H' ∧ Ext w S F β p w' S' β' p ∧ p ≤ H'.n ∧ HR G w' S' F β' H' ∧ FRx D w' S' β' H'.n N fr' a'
 have key : ∀ (m : Nat) (fr' : Fr) (H' : Hp) (S' : Nat → Prop) (β' : Nat → Nat) (a' : Act) (w' : World), I m fr' H' → Ext w S F β p w' S' β' p → p ≤ H'.n → HR G w' S' F β' H' → FRx D w' S' β' H'.n N fr' a' → ∀ (b : Frame) (k : List Item) (cs : List Frame),
  ∃ e a2 w2, (∃ fr2 H2 S2 β2, Q e fr2 H2 ∧ Ext w S F β p w2 S2 β2 p ∧ p ≤ H2.n ∧ HR G w2 S2 F β2 H2 ∧ FRx D w2 S2 β2 H2.n N fr2 a2) ∧ Arrives P (lone (b.at a' (.code c :: .inLoop c :: k)) cs w') b k cs e a2 w2 := by
  intro m
  induction m using Nat.strongRecOn with
  | _ m ih =>
    intro fr' H' S' β' a' w' hI hx hp' hH' hf' b k cs
    obtain ⟨e, a1, w1, ⟨fr1, H1, S1, β1, q, hx1, hp1, hH1, hf1⟩, harr⟩ := round m fr' H' hI D w' S' F β' a' hp' hH' hf' b (.inLoop c :: k) cs
    cases e with
    | normal =>
      obtain ⟨m', hlt, hI'⟩ := q
      obtain ⟨e2, a2, w2, hq2, harr2⟩ := ih m' hlt fr1 H1 S1 β1 a1 w1 hI' (hx.trans hx1) hp1 hH1 hf1 b k cs
      exact ⟨e2, a2, w2, hq2, .of_steps (Steps.trans harr (.one step_inLoop)) harr2⟩
    | exit id => exact ⟨_, a1, w1, ⟨fr1, H1, S1, β1, q, hx.trans hx1, hp1, hH1, hf1⟩, .pass (x := .inLoop c) rfl (fun _ _ => .inl (by simp)) harr⟩
    | goto l => exact ⟨_, a1, w1, ⟨fr1, H1, S1, β1, q, hx.trans hx1, hp1, hH1, hf1⟩, .pass (x := .inLoop c) rfl (fun _ _ => .inl (by simp)) harr⟩
    | ret => exact ⟨_, a1, w1, ⟨fr1, H1, S1, β1, q, hx.trans hx1, hp1, hH1, hf1⟩, .pass (x := .inLoop c) rfl (fun _ _ => .inl (by simp)) harr⟩
    | panic ch => exact ⟨_, a1, w1, ⟨fr1, H1, S1, β1, q, hx.trans hx1, hp1, hH1, hf1⟩, .pass (x := .inLoop c) rfl (fun _ _ => .inl (by simp)) harr⟩
    | outgrown => exact ⟨_, a1, w1, ⟨fr1, H1, S1, β1, q, hx.trans hx1, hp1, hH1, hf1⟩, .pass (x := .inLoop c) rfl (fun _ _ => .inl (by simp)) harr⟩
 intro b k cs
 obtain ⟨e, a', w', hq, harr⟩ := key m fr H S β a w h0 (.refl ..) hp hH hf b k cs
 exact ⟨e, a', w', hq, .of_steps (.one step_loop) harr⟩
theorem qx1 {id : Nat} {ops : List Oper} (hd : ops.all (fun o => o.dst.all (· < N)) = true) (h : wpL P G ops.toArray ops fr H Q) : AWp P G N p (.region id ops.toArray false) Q fr H :=
 fun D w S F β a hp hH hf => wp_region_lit (qwj ops fr H _ a w S β hd h hH hf (fun e fr' H' a' w' S' β' q hx hH' hf' => ⟨fr', H', S', β', q, hx.lower hp, Nat.le_trans hp hx.le, hH', hf'⟩))
end
def K9 (xs : List AV) : Fr := fun t => xs.getD t .undef
def qiw (P : Program) (fr : Fr) (H : Hp) : ResultVar → Option AV
 | .tmp t => some (fr t)
 | .cell t ty => match Z8 H (fr t) with
   | some cs => qhu P ty cs
   | none => none
def Q3 (P : Program) (rs : List ResultVar) (fr : Fr) (H : Hp) : Option AV :=
 match rs.mapM (qiw P fr H) with
 | some [x] => some x
 | some xs => some (.tup xs)
 | none => none
def qw0 (tmps : Array Value) : ResultVar → Sem Value
 | .tmp t => pure (tmps.getD t Go.undef)
 | .cell t ty => do loadVar ty (← asAddr (tmps.getD t Go.undef))
theorem qwy (fn : Func) (tmps : Array Value) : results fn tmps = (do
 let vs ← fn.results.mapM (qw0 tmps)
 pure (if h : vs.size = 1 then vs[0] else .tuple vs)) := by
 unfold results
 congr 1
theorem q7c {H : Hp} {fr : Fr} {a : Act} {r : ResultVar} {x : AV} (hH : HR G w S F β H) (hf : FRx D w S β H.n N fr a) (h : qiw P fr H r = some x) :
 ∃ v, (qw0 a.tmps r).run P w = .ok v w ∧ RV w S β H.n x v := by
 cases r with
 | tmp t => simp only [qiw, Option.some.injEq] at h; subst h; exact ⟨_, rfl, hf.val t⟩
 | cell t ty =>
   simp only [qiw] at h
   split at h
   ·rename_i cs hcs
    have hp := qh8 hH (hf.val t) hcs
    obtain ⟨v, hrun, hR⟩ := qqr (P := P) hp h
    obtain ⟨b, o, hbo, _⟩ := hp
    refine ⟨v, ?_, hR⟩
    rw [hbo] at hrun
    show (do loadVar ty (← asAddr (a.tmps.getD t Go.undef)) : Sem Value).run P w = _
    rw [hbo]
    simpa [Instr.loadAt, Instr.sureAddr, asAddr] using hrun
   cases h
theorem qyy {H : Hp} {fr : Fr} {a : Act} (hH : HR G w S F β H) (hf : FRx D w S β H.n N fr a) : ∀ (rs : List ResultVar) (xs : List AV), rs.mapM (qiw P fr H) = some xs →
 ∃ vs : List Value, (rs.mapM (qw0 a.tmps)).run P w = .ok vs w ∧ vs.length = xs.length ∧ ∀ (i : Nat) (x : AV), xs[i]? = some x → RV w S β H.n x ((vs[i]?).getD Go.undef)
 | [], xs, h => by
   simp at h; subst h
   exact ⟨[], rfl, rfl, by simp⟩
 | r :: rs, xs, h => by
   simp only [List.mapM_cons, Option.bind_eq_bind, Option.pure_def, Option.bind_eq_some_iff, Option.some.injEq] at h
   obtain ⟨x, hx, ys, hys, rfl⟩ := h
   obtain ⟨v, hv, hR⟩ := q7c (P := P) hH hf hx
   obtain ⟨vs, hvs, hl, hRs⟩ := qyy hH hf rs ys hys
   refine ⟨v :: vs, ?_, by simp [hl], fun i y hi => ?_⟩
   ·simp only [List.mapM_cons, Sem.run_bind, hv, Result.andThen_ok, hvs, Sem.run_pure]
   cases i with
   | zero => simp at hi; subst hi; simpa using hR
   | succ i => simpa using hRs i y (by simpa using hi)
theorem qhr {H : Hp} {fr : Fr} {a : Act} {fn : Func} {x : AV} (hH : HR G w S F β H) (hf : FRx D w S β H.n N fr a) (h : Q3 P fn.results.toList fr H = some x) :
 ∃ v, (results fn a.tmps).run P w = .ok v w ∧ RV w S β H.n x v := by
 unfold Q3 at h
 have hm : ∀ xs, fn.results.toList.mapM (qiw P fr H) = some xs → ∃ vs : Array Value, vs.size = xs.length ∧ (results fn a.tmps).run P w = .ok (if h : vs.size = 1 then vs[0] else .tuple vs) w ∧ ∀ (i : Nat) (x : AV), xs[i]? = some x → RV w S β H.n x (vs.getD i Go.undef) := by
  intro xs hxs
  obtain ⟨vs, hvs, hl, hRs⟩ := qyy (P := P) hH hf _ xs hxs
  refine ⟨vs.toArray, by simpa using hl, ?_, fun i x hi => by rw [K8]; exact hRs i x hi⟩
  rw [qwy]
  simp only [Array.mapM_eq_mapM_toList, Sem.run_bind, Sem.run_map]
  rw [hvs]
  simp only [Result.andThen_ok, Sem.run_pure]
 split at h
 ·rename_i y hy
  simp only [Option.some.injEq] at h; subst h
  obtain ⟨vs, hs, hrun, hR⟩ := hm _ hy
  have hs1 : vs.size = 1 := by simpa using hs
  refine ⟨vs[0], by rw [hrun, dif_pos hs1], ?_⟩
  have := hR 0 y rfl
  rwa [Array.getD_eq_getD_getElem?, Array.getElem?_eq_getElem (by omega), Option.getD_some] at this
 ·rename_i xs hne hxs
  simp only [Option.some.injEq] at h; subst h
  obtain ⟨vs, hs, hrun, hR⟩ := hm _ hxs
  have hs1 : ¬ vs.size = 1 := by
   intro e
   rw [e] at hs
   match xs, hs with
   | [y], _ => exact hne y rfl
  exact ⟨.tuple vs, by rw [hrun, dif_neg hs1], .tup _ _ hs hR⟩
 cases h
def Ret (P : Program) (rs : List ResultVar) (R : AV → Hp → Prop) : Exit → Fr → Hp → Prop
 | .normal, fr, H | .ret, fr, H => ∃ x, Q3 P rs fr H = some x ∧ R x H
 | _, _, _ => False
theorem qdi {xs : List AV} {vs : Array Value} (hv : RVs w S β n xs vs) (hN : xs.length ≤ N) : FRx [] w S β n N (K9 xs) { tmps := vs ++ Array.replicate (N - vs.size) Go.undef, defers := [] } := by
 refine ⟨by have := hv.1; simp; omega, rfl, fun t => ?_⟩
 simp only [K9]
 rw [List.getD_eq_getElem?_getD]
 cases ht : xs[t]? with
 | none => exact .undef _
 | some x =>
   have hlt := (List.getElem?_eq_some_iff.1 ht).1
   have := hv.2 t x ht
   rw [Array.getD_eq_getD_getElem?, Array.getElem?_append_left (by rw [hv.1]; exact hlt), ← Array.getD_eq_getD_getElem?]
   exact this
end Go.Proofs.YtigmilhpeodhbaaGreatDoorW.Ex
