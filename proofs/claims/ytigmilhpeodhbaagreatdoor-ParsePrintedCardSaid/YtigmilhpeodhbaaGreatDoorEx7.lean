/- A symbolic executor for the machine's code, part 7: one operation, one region, control, functions. General over the program; no conditions beside those in each theorem. -/
import Derived.Test.YtigmilhpeodhbaaGreatDoorEx6
namespace Go.Proofs.YtigmilhpeodhbaaGreatDoorW.Ex
set_option linter.all false
open Go
variable {D : List Deferred}
variable {G : Nat → List AV} {P : Program} {w : World} {S F : Nat → Prop} {β : Nat → Nat} {n N : Nat}
def qek : AV → Option AV
 | .ptr i s o => some (.ptr i s o)
 | .rptr cs => some (.rptr cs)
 | .fn f c => some (.fn f c)
 | _ => none
def notIfaceP (P : Program) (t : TypeId) : Bool := match P.underlying t with | some (.interface _) => false | some _ => true | none => false
def vq (P : Program) (H : Hp) (b : Builtin) (ts : List TypeId) (xs : List AV) : Option (AV × Hp) :=
 match b, ts, xs with
 | .len, [t], [x] => (qlk P t x).map (·, H)
 | .append, [t, t1], [s, x] => Wb P H t t1 s x
 | .max, _, [.int k a, .int k' b] => if k = k' then some (.int k (if b > a then b else a), H) else none
 | .min, _, [.int k a, .int k' b] => if k = k' then some (.int k (if b < a then b else a), H) else none
 | _, _, _ => none
def Je (P : Program) (G : Nat → List AV) (fr : Fr) (H : Hp) (c : Call) : Option (AV × Hp) :=
 match c.callee with
 | .builtin b => vq P H b c.argTypes.toList (c.args.toList.map (ev G fr))
 | _ => none
def evalOp (P : Program) (G : Nat → List AV) (fr : Fr) (H : Hp) : Op → Option (AV × Hp)
 | .move x => some (ev G fr x, H)
 | .assign x => some (ev G fr x, H)
 | .pick c a b => match ev G fr c with
   | .bool t => some (qj9 t (ev G fr a) (ev G fr b), H)
   | _ => none
 | .alloc e => match zeroAV P e with
   | some cs => if cs.all (·.one) = true then some (.ptr H.objs.length H.n 0, H.push (.var e cs)) else none
   | none => none
 | .box e x => (Wa (ev G fr x)).map fun cs => (.ptr H.objs.length H.n 0, H.push (.var e cs))
 | .build t ps => (qgv P t (ps.toList.map fun p => (p.1, ev G fr p.2))).map (·, H)
 | .buildSlice t len ps => (Yn P t len (ps.toList.map fun p => (p.1, ev G fr p.2))).map (·, H)
 | .load t a => match Z8 H (ev G fr a) with
   | some cs => (qhu P t cs).map (·, H)
   | none => none
 | .store t a x => (Ze P H t (ev G fr a) (ev G fr x)).map fun H' => (.undef, H')
 | .nilCheck x => (qek (ev G fr x)).map (·, H)
 | .binOp op t x y _ => (qjj P op t (ev G fr x) (ev G fr y)).map (·, H)
 | .unOp op _ x => (unAV op (ev G fr x)).map (·, H)
 | .convert src dst x => (qh7 P src dst (ev G fr x)).map (·, H)
 | .makeInterface t x => if notIfaceP P t = true then some (.iface t (ev G fr x), H) else none
 | .makeFunc fn first caps => match fn, first.toList with
   | .func f, [] => some (.fn f (caps.toList.map (ev G fr)), H)
   | _, _ => none
 | .fieldAddr s x f => (Kl P s (ev G fr x) f).map (·, H)
 | .field s x f => (qgu P s (ev G fr x) f).map (·, H)
 | .indexAddr t x i => (Yi P t (ev G fr x) (ev G fr i)).map (·, H)
 | .index t x i => (qi6 P t (ev G fr x) (ev G fr i)).map (·, H)
 | .slice t x lo hi mx => (qd9 P t (ev G fr x) (lo.map (ev G fr)) (hi.map (ev G fr)) (mx.map (ev G fr))).map (·, H)
 | .extract x i => (qde (ev G fr x) i).map (·, H)
 | .call c => Je P G fr H c
 | _ => none
def Done (G : Nat → List AV) (w : World) (S F : Nat → Prop) (β : Nat → Nat) (n : Nat) (r : Result Next) (x : AV) (H' : Hp) : Prop :=
 ∃ w' S' β', ((∃ v, r = .ok (.value v) w' ∧ RV w' S' β' H'.n x v) ∨ (r = .ok .skip w' ∧ x = .undef)) ∧ Ext w S F β n w' S' β' H'.n ∧ HR G w' S' F β' H'
theorem Done.stay {H : Hp} (hH : HR G w S F β H) {r : Result Next} {v : Value} {x : AV} (hr : r = .ok (.value v) w) (hv : RV w S β H.n x v) : Done G w S F β H.n r x H :=
 ⟨w, S, β, .inl ⟨v, hr, hv⟩, .refl .., hH⟩
theorem qub {t : TypeId} {x z : AV} {lo hi mx : Option AV} {v : Value} {lv hv mv : Option Value} (h : qd9 P t x lo hi mx = some z) : (Instr.sliceAt t v lv hv mv).run P w = (Instr.slice t v lv hv mv).run P w := by
 have key : ∀ d, P.underlying t = some d → (∀ m e, d ≠ .array m e) → (Instr.sliceAt t v lv hv mv).run P w = (Instr.slice t v lv hv mv).run P w := by
  intro d hu hd
  simp only [Instr.sliceAt, Sem.run_bind, run_underlying hu, Result.andThen_ok]
 unfold qd9 at h
 split at h
 ·split at h
  ·rename_i ht
   have h1 := ht.1
   unfold strP at h1
   split at h1
   ·rename_i hu; exact key _ hu (by simp)
   cases h1
  cases h
 ·split at h
  ·rename_i he; exact key _ (Ql he).1 (by simp)
  cases h
 ·split at h
  ·rename_i he; exact key _ (Ql he).1 (by simp)
  cases h
 cases h
theorem qnw {H : Hp} {fr : Fr} {a : Act} (hH : HR G w S F β H) (hf : FRx D w S β H.n N fr a) (o : Option Operand) : OptR w S β H.n (o.map (ev G fr)) (o.map a.eval) := by
 cases o with
 | none => trivial
 | some x => exact qlp hH hf x
theorem qw2 {H : Hp} {fr : Fr} {a : Act} (hH : HR G w S F β H) (hf : FRx D w S β H.n N fr a) (ps : Array (Nat × Operand)) :
 PR w S β H.n (ps.toList.map fun p => (p.1, ev G fr p.2)) (ps.map fun (i, x) => (i, a.eval x)) := by
 refine ⟨by simp, fun i p v hp hv => ?_⟩
 simp only [List.getElem?_map, Option.map_eq_some_iff] at hp
 obtain ⟨q, hq, rfl⟩ := hp
 simp only [Array.toList_map, List.getElem?_map, hq, Option.map_some, Option.some.injEq] at hv
 subst hv
 exact ⟨rfl, qlp hH hf q.2⟩
theorem qf9 {H : Hp} {fr : Fr} {a : Act} (hH : HR G w S F β H) (hf : FRx D w S β H.n N fr a) (xs : Array Operand) :
 (xs.map a.eval).size = (xs.toList.map (ev G fr)).length ∧ ∀ (i : Nat) (x : AV), (xs.toList.map (ev G fr))[i]? = some x → RV w S β H.n x ((xs.map a.eval).getD i Go.undef) := by
 refine ⟨by simp, fun i x hi => ?_⟩
 simp only [List.getElem?_map, Option.map_eq_some_iff] at hi
 obtain ⟨q, hq, rfl⟩ := hi
 rw [Array.getElem?_toList] at hq
 rw [Array.getD_eq_getD_getElem?, Array.getElem?_map, hq]
 exact qlp hH hf q
theorem two (vs : Array Value) (hs : vs.size = 2) : vs = #[vs.getD 0 Go.undef, vs.getD 1 Go.undef] := by
 apply Array.ext
 ·simpa using hs
 intro i h1 h2
 have hi : i < 2 := by simpa using h2
 rcases i with _ | _ | i
 ·simp [Array.getD_eq_getD_getElem?, h1]
 ·simp [Array.getD_eq_getD_getElem?, h1]
 omega
theorem qxj {H H' : Hp} (hH : HR G w S F β H) {b : Builtin} {ts : Array TypeId} {ty : TypeId} {cs : Array Bool} {xs : List AV} {vs : Array Value} {x : AV}
 (hs : vs.size = xs.length) (hr : ∀ (i : Nat) (x : AV), xs[i]? = some x → RV w S β H.n x (vs.getD i Go.undef)) (h : vq P H b ts.toList xs = some (x, H')) :
 Done G w S F β H.n ((builtin b ts ty cs vs).run P w) x H' := by
 unfold vq at h
 split at h
 ·rename_i t x0 hts
  simp only [Option.map_eq_some_iff, Prod.mk.injEq] at h
  obtain ⟨z, hz, rfl, rfl⟩ := h
  have hv : vs[0]? = some (vs.getD 0 Go.undef) := Y1 (by rw [hs]; simp)
  have ht : ts[0]? = some t := by rw [← Array.getElem?_toList, hts]; rfl
  obtain ⟨v', hrun, hR⟩ := q7m (P := P) (w := w) (ty := ty) ht hv (hr 0 _ rfl) hz
  exact .stay hH (by simp only [builtin, Sem.run_bind, hrun, Result.andThen_ok, Sem.run_pure]) hR
 ·rename_i t t1 s x0 hts
  have hvs : vs = #[vs.getD 0 Go.undef, vs.getD 1 Go.undef] := by
   apply Array.ext
   ·simpa using hs
   intro i h1 h2
   have hi : i < 2 := by simpa using h2
   rcases i with _ | _ | i
   ·simp [Array.getD_eq_getD_getElem?, h1]
   ·simp [Array.getD_eq_getD_getElem?, h1]
   omega
  have htt : ts = #[t, t1] := by
   apply Array.ext'
   simpa using hts
  obtain ⟨v', w', β', hrun, hx, hH', hR⟩ := q1a (P := P) (ty := ty) hH (hr 0 _ rfl) (hr 1 _ rfl) h
  refine ⟨w', S, β', .inl ⟨v', ?_, hR⟩, hx, hH'⟩
  rw [hvs, htt]
  simp only [builtin, Sem.run_bind, hrun, Result.andThen_ok, Sem.run_pure]
 ·rename_i k a k' b
  split at h
  ·rename_i hk
   subst hk
   simp only [Option.some.injEq, Prod.mk.injEq] at h
   obtain ⟨rfl, rfl⟩ := h
   have hvs := two vs (by simpa using hs)
   have h0 := hr 0 _ rfl
   have h1 := hr 1 _ rfl
   rw [hvs]
   generalize vs.getD 0 Go.undef = v0 at h0
   generalize vs.getD 1 Go.undef = v1 at h1
   cases h0; cases h1
   exact .stay hH (by simp [builtin, Builtin.max_, Builtin.max2]) (.int _ _)
  cases h
 ·rename_i k a k' b
  split at h
  ·rename_i hk
   subst hk
   simp only [Option.some.injEq, Prod.mk.injEq] at h
   obtain ⟨rfl, rfl⟩ := h
   have hvs := two vs (by simpa using hs)
   have h0 := hr 0 _ rfl
   have h1 := hr 1 _ rfl
   rw [hvs]
   generalize vs.getD 0 Go.undef = v0 at h0
   generalize vs.getD 1 Go.undef = v1 at h1
   cases h0; cases h1
   exact .stay hH (by simp [builtin, Builtin.min_, Builtin.min2]) (.int _ _)
  cases h
 cases h
theorem q07 {H H' : Hp} {fr : Fr} {a : Act} {o : Oper} {x : AV} (hH : HR G w S F β H) (hf : FRx D w S β H.n N fr a) (h : evalOp P G fr H o.op = some (x, H')) : Done G w S F β H.n ((execOp a.eval o).run P w) x H' := by
 have e := qlp (G := G) hH hf
 obtain ⟨dst, op, type, pos, after, guard⟩ := o
 simp only at h
 unfold evalOp at h
 have stay : ∀ (s : Sem Value) (op' : Op) (z : Option AV), (execOp a.eval ⟨dst, op', type, pos, after, guard⟩ = do pure (.value (← s))) → (∀ z', z = some z' → ∃ v', s.run P w = .ok v' w ∧ RV w S β H.n z' v') → z.map (·, H) = some (x, H') →
  Done G w S F β H.n ((execOp a.eval ⟨dst, op', type, pos, after, guard⟩).run P w) x H' := by
  intro s op' z he hs hz
  simp only [Option.map_eq_some_iff, Prod.mk.injEq] at hz
  obtain ⟨z', hz', rfl, rfl⟩ := hz
  obtain ⟨v', hv, hR⟩ := hs z' hz'
  exact .stay hH (by rw [he]; simp only [Sem.run_bind, hv, Result.andThen_ok, Sem.run_pure]) hR
 split at h
 ·simp only [Option.some.injEq, Prod.mk.injEq] at h
  obtain ⟨rfl, rfl⟩ := h
  exact .stay hH rfl (e _)
 ·simp only [Option.some.injEq, Prod.mk.injEq] at h
  obtain ⟨rfl, rfl⟩ := h
  exact .stay hH rfl (e _)
 ·rename_i c p q
  split at h
  ·rename_i t hc
   simp only [Option.some.injEq, Prod.mk.injEq] at h
   obtain ⟨rfl, rfl⟩ := h
   have h1 := e c
   rw [hc] at h1
   generalize hv : a.eval c = v at h1
   cases h1
   refine .stay hH (v := if t = true then a.eval p else a.eval q) (by simp [execOp, hv, asBool]) ?_
   unfold qj9
   split
   ·exact e p
   exact e q
  cases h
 ·split at h
  ·rename_i cs hz
   split at h
   ·rename_i h1
    simp only [Option.some.injEq, Prod.mk.injEq] at h
    obtain ⟨rfl, rfl⟩ := h
    obtain ⟨v', w', β', hrun, hx, hH', hR⟩ := q4c (P := P) hH hz h1
    exact ⟨w', S, β', .inl ⟨v', by simp only [execOp, Sem.run_bind, hrun, Result.andThen_ok, Sem.run_pure], hR⟩, hx, hH'⟩
   cases h
  cases h
 ·rename_i t p
  simp only [Option.map_eq_some_iff, Prod.mk.injEq] at h
  obtain ⟨cs, hcs, rfl, rfl⟩ := h
  obtain ⟨v', w', β', hrun, hx, hH', hR⟩ := q34 (P := P) hH (t := t) (qh9 (e p) hcs)
  exact ⟨w', S, β', .inl ⟨v', by simp only [execOp, Sem.run_bind, hrun, Result.andThen_ok, Sem.run_pure], hR⟩, hx, hH'⟩
 ·exact stay _ _ _ rfl (fun z hz => q32 (qw2 hH hf _) hz) h
 ·simp only [Option.map_eq_some_iff, Prod.mk.injEq] at h
  obtain ⟨z, hz, rfl, rfl⟩ := h
  obtain ⟨v', w', S', hrun, hx, hH', hR⟩ := qp3 (P := P) hH (qw2 hH hf _) hz
  exact ⟨w', S', β, .inl ⟨v', by simp only [execOp, Sem.run_bind, hrun, Result.andThen_ok, Sem.run_pure], hR⟩, hx, hH'⟩
 ·split at h
  ·rename_i cs hcs
   exact stay _ _ _ rfl (fun z hz => qqr (qh8 hH (e _) hcs) hz) h
  cases h
 ·simp only [Option.map_eq_some_iff, Prod.mk.injEq] at h
  obtain ⟨H1, hH1, rfl, rfl⟩ := h
  obtain ⟨w', hrun, hx, hH'⟩ := q15 (P := P) hH (e _) (e _) hH1
  exact ⟨w', S, β, .inr ⟨by simp only [execOp, Sem.run_bind, hrun, Result.andThen_ok, Sem.run_pure], rfl⟩, hx, hH'⟩
 ·rename_i p
  simp only [Option.map_eq_some_iff, Prod.mk.injEq] at h
  obtain ⟨z, hz, rfl, rfl⟩ := h
  have h1 := e p
  generalize ev G fr p = y at h1 hz
  generalize hv : a.eval p = v at h1
  unfold qek at hz
  split at hz <;> first
   | (cases hz; done)
   | (simp only [Option.some.injEq] at hz; subst hz
      have h2 := h1
      cases h1
      exact .stay hH (by simp [execOp, hv]) h2)
 ·exact stay _ _ _ rfl (fun z hz => q73 (e _) (e _) hz) h
 ·exact stay _ _ _ rfl (fun z hz => q8y (e _) hz) h
 ·exact stay _ _ _ rfl (fun z hz => q53 (e _) hz) h
 ·rename_i t p
  split at h
  ·rename_i ht
   simp only [Option.some.injEq, Prod.mk.injEq] at h
   obtain ⟨rfl, rfl⟩ := h
   unfold notIfaceP at ht
   refine .stay hH (v := .iface t (a.eval p)) ?_ (.iface t _ _ (e p))
   cases hu : P.underlying t with
   | none => simp [hu] at ht
   | some d =>
     have hd : ∀ m, d ≠ .interface m := by intro m em; subst em; simp [hu] at ht
     simp [execOp, Instr.makeInterface, run_underlying hu]
  cases h
 ·rename_i fn first caps
  split at h
  ·rename_i f hfirst
   simp only [Option.some.injEq, Prod.mk.injEq] at h
   obtain ⟨rfl, rfl⟩ := h
   have hf0 : first = #[] := by apply Array.ext'; simpa using hfirst
   subst hf0
   have hcm := qf9 hH hf caps
   exact .stay hH (v := .func (.func f) #[] (caps.map a.eval)) (by simp [execOp, Instr.makeFunc]) (.fn f _ _ hcm.1 hcm.2)
  cases h
 ·exact stay _ _ _ rfl (fun z hz => qs0 (e _) hz) h
 ·exact stay _ _ _ rfl (fun z hz => q04 (e _) hz) h
 ·exact stay _ _ _ rfl (fun z hz => qsq (e _) (e _) hz) h
 ·exact stay _ _ _ rfl (fun z hz => q3f (e _) (e _) hz) h
 ·refine stay _ _ _ rfl (fun z hz => ?_) h
  obtain ⟨v', hrun, hR⟩ := q2c (P := P) (e _) (qnw hH hf _) (qnw hH hf _) (qnw hH hf _) hz
  exact ⟨v', by rw [qub hz]; exact hrun, hR⟩
 ·exact stay _ _ _ rfl (fun z hz => qxg (e _) hz) h
 ·rename_i c
  unfold Je at h
  split at h
  ·rename_i b hb
   have hcm := qf9 hH hf c.args
   have := qxj (P := P) (ty := type) (cs := c.args.map fun | .const _ => true | _ => false) hH hcm.1 hcm.2 h
   obtain ⟨callee, args, argTypes⟩ := c
   simp only at hb
   subst hb
   simp only [execOp, resolve, invoke, Sem.run_bind, Sem.run_pure, Result.andThen_ok]
   exact this
  cases h
 cases h
end Go.Proofs.YtigmilhpeodhbaaGreatDoorW.Ex
