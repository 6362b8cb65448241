/- A symbolic executor for the machine's code: regions that draw their order: if the text's order goes, each order goes, and comes to the same. General over the program; the condition on the region is a decidable test ('drawOk'). -/
import Derived.Test.YtigmilhpeodhbaaDoorEx9
namespace Go.Proofs.YtigmilhpeodhbaaDoorW.Ex
set_option linter.all false
open Go
variable {DD : List Deferred}
variable {G : Nat → List AV} {P : Program} {N : Nat}
def Wt : Operand → Bool
 | .const (.slice _ _ _) => true
 | _ => false
def qjg (c : Call) : Bool := match c.callee with
 | .builtin .append => (match c.args[0]? with | some a => Wt a | none => false)
 | _ => false
def qir (objs : List (Nat × Obj)) : AV → Bool
 | .rptr _ => true
 | .ptr id s _ => match objs[id]? with
   | some (s', .var _ _) => Nat.beq s' s
   | _ => false
 | _ => false
def isR : AV → Bool
 | .rptr _ => true
 | _ => false
def uc (P : Program) (G : Nat → List AV) (cw : Bool × Bool) (st : Bool) (fr : Fr) (H : Hp) (op : Op) (x : AV) (H' : Hp) : Prop :=
 match op with
 | .call c => match y9 G fr c with
   | some (f, xs) => (match cw.1 with | true => ACalls P G f xs H x H' | false => Fn P G f xs x ∧ H' = H)
   | none => (qjg c = false ∧ Zo P G fr H c = some (x, H')) ∨ (Q2 P G fr c = some x ∧ H' = H)
 | .load t a => evalOp P G fr H (.load t a) = some (x, H') ∧ (st = true → qir H.objs (ev G fr a) = true) ∧ (cw.2 = true → isR (ev G fr a) = true)
 | op => evalOp P G fr H op = some (x, H')
theorem uc.step {cw : Bool × Bool} {st : Bool} {fr : Fr} {H H' : Hp} {op : Op} {x : AV} (h : uc P G cw st fr H op x H') : qby P G fr H op x H' := by
 unfold uc at h
 unfold qby
 split at h
 ·rename_i c
  simp only
  split at h
  ·rename_i f xs hc
   simp only [hc] at h ⊢
   obtain ⟨cw, lf⟩ := cw
   cases cw with
   | true => exact h
   | false =>
     obtain ⟨h1, rfl⟩ := h
     exact h1.calls _
  rename_i hc
  simp only [hc]
  exact h.imp (fun h => h.2) id
 ·exact .inl h.1
 rename_i hne _
 split
 ·exfalso
  first | exact hne _ rfl | exact absurd rfl (hne _) | simp_all
 exact .inl h
theorem qjy {fr fr' : Fr} {x : Operand} (h : ∀ t, x = .tmp t → fr t = fr' t) : ev G fr x = ev G fr' x := by
 cases x with
 | tmp t => exact h t rfl
 | _ => rfl
theorem uc.congr {cw : Bool × Bool} {st : Bool} {fr fr' : Fr} {H H' : Hp} {op : Op} {x : AV} (he : ∀ y ∈ op.operands, ev G fr y = ev G fr' y) (h : uc P G cw st fr H op x H') : uc P G cw st fr' H op x H' := by
 have pairs : ∀ ps : Array (Nat × Operand), (∀ y ∈ (ps.toList.map (·.2)).toArray, ev G fr y = ev G fr' y) → (ps.toList.map fun p => (p.1, ev G fr p.2)) = (ps.toList.map fun p => (p.1, ev G fr' p.2)) := fun ps hp =>
  List.map_congr_left fun p hm => by rw [hp p.2 (by simp only [List.mem_toArray, List.mem_map]; exact ⟨p, hm, rfl⟩)]
 have lists : ∀ xs : Array Operand, (∀ y ∈ xs, ev G fr y = ev G fr' y) → xs.toList.map (ev G fr) = xs.toList.map (ev G fr') := fun xs hp =>
  List.map_congr_left fun p hm => hp p (by simpa using hm)
 cases op <;> simp only [Op.operands] at he <;> simp only [uc, evalOp] at h ⊢
 case build t ps => rw [← pairs ps he]; exact h
 case buildSlice t n ps => rw [← pairs ps he]; exact h
 case makeFunc fn first caps => rw [← lists caps (fun y hy => he y (by simp [hy]))]; exact h
 case slice t x lo hi mx =>
  have h1 : lo.map (ev G fr') = lo.map (ev G fr) := by cases lo <;> simp_all
  have h2 : hi.map (ev G fr') = hi.map (ev G fr) := by cases hi <;> simp_all
  have h3 : mx.map (ev G fr') = mx.map (ev G fr) := by cases mx <;> simp_all
  rw [h1, h2, h3, ← he x (by simp)]; exact h
 case call c =>
  have ha := lists c.args (fun y hy => he y (by simp [Call.operands, hy]))
  have hc : y9 G fr' c = y9 G fr c := by
   unfold y9
   rw [ha]
   split
   ·rename_i f hf
    rw [← he f (by simp [Call.operands, hf])]
   rfl
  rw [hc]
  have hcl : Zo P G fr' H c = Zo P G fr H c := by unfold Zo; rw [ha]
  have hcp : Q2 P G fr' c = Q2 P G fr c := by unfold Q2; rw [ha]
  rw [hcl, hcp]
  exact h
 all_goals (first | exact h | (simp_all; done))
def isVal : Op → Bool
 | .call c => match c.callee with | .value _ => true | _ => false
 | _ => false
def inert (cw : Bool × Bool) : Op → Bool
 | .alloc _ | .box _ _ | .store _ _ _ => false
 | .load _ _ => cw.2
 | .call c => match c.callee with | .builtin .len => true | .builtin .max => true | .builtin .min => true | .value _ => !cw.1 | .builtin .append => (match c.args[0]? with | some a => Wt a | none => false) | _ => false
 | _ => true
def isApp : Op → Bool
 | .call c => match c.callee with | .builtin .append => !qjg c | _ => false
 | _ => false
def kv (ops : Array Oper) : Bool := ops.any fun o => isApp o.op
def isLoad : Op → Bool | .load _ _ => true | _ => false
def isStore : Op → Bool | .store _ _ _ => true | _ => false
def qmw : Op → Operand
 | .store _ a _ => a
 | _ => .tmp 0
def isPush : Op → Bool | .alloc _ | .box _ _ => true | _ => false
theorem qe4 {z : Option AV} {H H' : Hp} {x : AV} (h : z.map (·, H) = some (x, H')) : H' = H ∧ ∀ H2 : Hp, z.map (·, H2) = some (x, H2) := by
 cases z with
 | none => cases h
 | some z => simp at h; obtain ⟨rfl, rfl⟩ := h; exact ⟨rfl, fun _ => rfl⟩
theorem uc.inert {cw : Bool × Bool} {st : Bool} {fr : Fr} {H H' : Hp} {op : Op} {x : AV} (hi : inert cw op = true) (h : uc P G cw st fr H op x H') : H' = H ∧ ∀ H2, uc P G cw st fr H2 op x H2 := by
 cases op <;> simp only [Ex.inert] at hi <;> first
  | (cases hi; done)
  | (simp only [uc, evalOp] at h ⊢; exact qe4 h)
  | (simp only [uc, evalOp] at h ⊢; cases h; done)
  | (simp only [uc, evalOp, Option.some.injEq, Prod.mk.injEq] at h
     obtain ⟨rfl, rfl⟩ := h
     exact ⟨rfl, fun _ => rfl⟩)
  | skip
 case pick c a b =>
  simp only [uc, evalOp] at h ⊢
  split at h
  ·simp only [Option.some.injEq, Prod.mk.injEq] at h
   obtain ⟨rfl, rfl⟩ := h
   exact ⟨rfl, fun _ => rfl⟩
  cases h
 case makeInterface t a =>
  simp only [uc, evalOp] at h ⊢
  split at h
  ·rename_i ht
   simp only [Option.some.injEq, Prod.mk.injEq] at h
   obtain ⟨rfl, rfl⟩ := h
   exact ⟨rfl, fun _ => by rw [if_pos ht]⟩
  cases h
 case makeFunc fn first caps =>
  simp only [uc, evalOp] at h ⊢
  split at h
  ·simp only [Option.some.injEq, Prod.mk.injEq] at h
   obtain ⟨rfl, rfl⟩ := h
   exact ⟨rfl, fun _ => rfl⟩
  cases h
 case load t a =>
  simp only [uc, evalOp] at h ⊢
  obtain ⟨h, hs1, hs2⟩ := h
  have hr := hs2 hi
  generalize hv : ev G fr a = v at h hr hs1 hs2
  cases v <;> simp only [isR] at hr <;> first | (cases hr; done) | skip
  rename_i cs
  simp only [Qv] at h
  obtain ⟨e, hm⟩ := qe4 h
  subst e
  refine ⟨rfl, fun H2 => ⟨?_, fun _ => rfl, fun _ => rfl⟩⟩
  simp only [Qv]
  exact hm H2
 case call c =>
  simp only [uc] at h ⊢
  split at h
  ·rename_i f xs hc
   obtain ⟨cw, lf⟩ := cw
   cases cw with
   | true =>
     exfalso
     unfold y9 at hc
     split at hc
     ·rename_i fo hfo
      simp [hfo] at hi
     cases hc
   | false =>
     obtain ⟨h1, rfl⟩ := h
     exact ⟨rfl, fun H2 => ⟨h1, trivial⟩⟩
  rename_i hc
  rcases h with ⟨hcp, h⟩ | ⟨h, rfl⟩
  case inr => exact ⟨rfl, fun H2 => .inr ⟨h, trivial⟩⟩
  unfold Zo at h
  split at h
  ·rename_i b hb
   rw [hb] at hi
   unfold u3 at h
   split at h
   ·rename_i he2 he3
    obtain ⟨e, hm⟩ := qe4 h
    refine ⟨e, fun H2 => .inl ⟨hcp, ?_⟩⟩
    simp only [Zo, hb, u3, he2, he3]
    exact hm H2
   ·unfold qjg at hcp
    rw [hb] at hcp
    simp only at hi hcp
    rw [hcp] at hi; cases hi
   ·rename_i he2
    split at h
    ·rename_i hk
     simp only [Option.some.injEq, Prod.mk.injEq] at h
     obtain ⟨rfl, rfl⟩ := h
     refine ⟨rfl, fun H2 => .inl ⟨hcp, ?_⟩⟩
     simp only [Zo, hb, u3, he2, hk, if_true]
    cases h
   ·rename_i he2
    split at h
    ·rename_i hk
     simp only [Option.some.injEq, Prod.mk.injEq] at h
     obtain ⟨rfl, rfl⟩ := h
     refine ⟨rfl, fun H2 => .inl ⟨hcp, ?_⟩⟩
     simp only [Zo, hb, u3, he2, hk, if_true]
    cases h
   cases h
  cases h
def qds (H H2 : Hp) : Prop := ∀ (i : Nat) (y : Nat × Obj), H.objs[i]? = some y → H2.objs[i]? = some y
theorem qds.push (H : Hp) (o : Obj) : qds H (H.push o) := by
 intro i y h
 have := (List.getElem?_eq_some_iff.1 h).1
 simp only [Hp.push]
 rw [List.getElem?_append_left this, h]
theorem uc.push {cw : Bool × Bool} {st : Bool} {fr : Fr} {H H' : Hp} {op : Op} {x : AV} (hi : isPush op = true) (h : uc P G cw st fr H op x H') : qds H H' := by
 cases op <;> simp only [isPush] at hi <;> first | (cases hi; done) | skip
 case alloc e =>
  simp only [uc, evalOp] at h
  split at h
  ·split at h
   ·simp only [Option.some.injEq, Prod.mk.injEq] at h
    rw [← h.2]; exact .push _ _
   cases h
  cases h
 case box e v =>
  simp only [uc, evalOp, Option.map_eq_some_iff, Prod.mk.injEq] at h
  obtain ⟨cs, _, _, rfl⟩ := h
  exact .push _ _
def Kl (H H2 : Hp) : Prop := ∀ (i s' : Nat) (t : TypeId) (cs : List AV), H.objs[i]? = some (s', .var t cs) → H2.objs[i]? = some (s', .var t cs)
def Jy (v : AV) (H H2 : Hp) : Prop := match v with
 | .ptr id _ _ => ∀ (s' : Nat) (t : TypeId) (cs : List AV), H.objs[id]? = some (s', .var t cs) → H2.objs[id]? = some (s', .var t cs)
 | _ => True
theorem Jy.refl (v : AV) (H : Hp) : Jy v H H := by unfold Jy; split <;> first | trivial | exact fun _ _ _ h => h
theorem Jy.trans {v : AV} {H H1 H2 : Hp} (h : Jy v H H1) (k : Jy v H1 H2) : Jy v H H2 := by
 unfold Jy at *
 split
 ·exact fun s t cs hi => k s t cs (h s t cs hi)
 trivial
theorem Kl.keep {H H2 : Hp} (h : Kl H H2) (v : AV) : Jy v H H2 := by
 unfold Jy
 split
 ·exact fun s t cs hi => h _ s t cs hi
 trivial
def W1 : Op → Operand
 | .load _ a => a
 | _ => .tmp 0
def qhe (G : Nat → List AV) : List Oper → Fr → Hp → Hp → Prop
 | [], _, _, _ => True
 | l :: ls, fr, H, H' => (match l.op with | .load _ a => Jy (ev G fr a) H H' | _ => True) ∧ qhe G ls fr H H'
theorem qbi {G : Nat → List AV} : ∀ (ls : List Oper) (fr : Fr) (H : Hp), qhe G ls fr H H
 | [], _, _ => trivial
 | l :: ls, fr, H => ⟨by split <;> first | trivial | exact .refl _ _, qbi ls fr H⟩
theorem qlr {G : Nat → List AV} : ∀ {ls : List Oper} {fr : Fr} {H H' : Hp}, qhe G ls fr H H' → ∀ l ∈ ls, isLoad l.op = true → Jy (ev G fr (W1 l.op)) H H'
 | l :: ls, fr, H, H', h, m, hm, hl => by
   rcases List.mem_cons.1 hm with rfl | hm
   ·have h1 := h.1
    split at h1
    ·rename_i he; rw [he]; exact h1
    rename_i hne
    exfalso
    revert hl hne
    cases m.op <;> simp [isLoad]
   exact qlr h.2 m hm hl
 | [], _, _, _, _, m, hm, _ => by cases hm
theorem Kl.refl (H : Hp) : Kl H H := fun _ _ _ _ h => h
theorem Kl.trans {H H1 H2 : Hp} (h : Kl H H1) (k : Kl H1 H2) : Kl H H2 := fun i s t cs hi => k i s t cs (h i s t cs hi)
theorem qds.sameV {H H2 : Hp} (h : qds H H2) : Kl H H2 := fun i s t cs hi => h i _ hi
theorem qno {H H' : Hp} {t t1 : TypeId} {s x z : AV} (h : K6 P H t t1 s x = some (z, H')) : Kl H H' ∧ Kl H' H := by
 unfold K6 at h
 split at h
 ·split at h
  ·split at h
   ·split at h
    ·split at h
     ·split at h
      ·split at h
       ·simp only [Option.some.injEq, Prod.mk.injEq] at h
        obtain ⟨_, rfl⟩ := h
        exact ⟨.refl _, .refl _⟩
       split at h
       ·simp only [Option.some.injEq, Prod.mk.injEq] at h
        obtain ⟨_, rfl⟩ := h
        refine ⟨(qds.push _ _).sameV, fun i s t cs hi => ?_⟩
        simp only [Hp.push] at hi
        rw [List.getElem?_append] at hi
        split at hi
        ·exact hi
        rename_i hge
        cases hq : i - H.objs.length with
        | zero => rw [hq] at hi; simp at hi
        | succ q => rw [hq] at hi; simp at hi
       cases h
      cases h
     ·split at h
      ·split at h
       ·rename_i hobj
        split at h
        ·simp only [Option.some.injEq, Prod.mk.injEq] at h
         obtain ⟨_, rfl⟩ := h
         refine ⟨fun i s t cs hi => ?_, fun i s t cs hi => ?_⟩
         ·rw [List.getElem?_set]
          split
          ·rename_i e; subst e; rw [hobj] at hi; simp at hi
          exact hi
         simp only at hi
         rw [List.getElem?_set] at hi
         split at hi
         ·split at hi
          ·simp at hi
          cases hi
         exact hi
        split at h
        ·simp only [Option.some.injEq, Prod.mk.injEq] at h
         obtain ⟨_, rfl⟩ := h
         exact ⟨fun _ _ _ _ h => h, fun _ _ _ _ h => h⟩
        cases h
       cases h
      cases h
     cases h
    cases h
   cases h
  cases h
 cases h
theorem uc.app {cw : Bool × Bool} {st : Bool} {fr : Fr} {H H' : Hp} {op : Op} {x : AV} (hi : isApp op = true) (h : uc P G cw st fr H op x H') : Kl H H' ∧ Kl H' H := by
 cases op <;> simp only [isApp] at hi <;> first | (cases hi; done) | skip
 case call c =>
  split at hi
  ·rename_i hb
   simp only [uc] at h
   have hc : y9 G fr c = none := by unfold y9; rw [hb]
   simp only [hc] at h
   rcases h with ⟨_, h⟩ | ⟨_, rfl⟩
   ·unfold Zo at h
    rw [hb] at h
    simp only at h
    unfold u3 at h
    split at h <;> first | exact qno h | (cases h; done) | contradiction | (simp_all; done)
   exact ⟨.refl _, .refl _⟩
  cases hi
theorem uc.load {cw : Bool × Bool} {st : Bool} {fr : Fr} {H H' : Hp} {op : Op} {x : AV} (hi : isLoad op = true) (h : uc P G cw st fr H op x H') : H' = H ∧ ∀ H2, (qds H H2 ∨ (st = true ∧ Jy (ev G fr (W1 op)) H H2)) → uc P G cw st fr H2 op x H2 := by
 cases op <;> simp only [isLoad] at hi <;> first | (cases hi; done) | skip
 case load t a =>
  simp only [uc, evalOp] at h ⊢
  obtain ⟨h, hst, hlf⟩ := h
  split at h
  ·rename_i cs hcs
   obtain ⟨e, hm⟩ := qe4 h
   refine ⟨e, fun H2 hg => ?_⟩
   have hg1 : st = true → Jy (ev G fr a) H H2 := fun e => hg.elim (fun g => g.sameV.keep _) (fun g => g.2)
   have stead : st = true → qir H2.objs (ev G fr a) = true := fun e => by
    have := hst e
    have hk := hg1 e
    unfold Jy at hk
    unfold qir at this ⊢
    split
    ·rfl
    ·rename_i id s off he
     rw [he] at this hk
     simp only at this hk
     split at this
     ·rename_i s' t' cs' ho
      rw [hk _ _ _ ho]
      exact this
     cases this
    rename_i h1 h2
    split at this
    ·rename_i he; exact absurd he (h1 _)
    ·rename_i he; exact absurd he (h2 _ _ _)
    cases this
   have : Qv H2 (ev G fr a) = some cs := by
    unfold Qv at hcs ⊢
    split
    ·rename_i he; rw [he] at hcs; exact hcs
    ·rename_i id s off he
     rw [he] at hcs
     simp only at hcs
     cases ho : H.objs[id]? with
     | none => simp [ho] at hcs
     | some y =>
       have : H2.objs[id]? = some y := by
        rcases hg with g | ⟨e, g⟩
        ·exact g _ _ ho
        have h3 := hst e
        have g' : Jy (ev G fr a) H H2 := g
        unfold Jy at g'
        rw [he] at h3 g'
        unfold qir at h3
        simp only [ho] at h3
        split at h3
        ·rename_i e2
         injection e2 with e2
         subst e2
         exact g' _ _ _ ho
        cases h3
       rw [this]; rw [ho] at hcs; exact hcs
    rename_i h1 h2
    split at hcs
    ·rename_i he; exact absurd he (h1 _)
    ·rename_i he; exact absurd he (h2 _ _ _)
    exact hcs
   rw [this]
   exact ⟨hm H2, stead, hlf⟩
  cases h
def qbu (ops : Array Oper) : List Nat → List Oper → List Nat
 | ms, [] => ms
 | ms, o :: os => qbu ops (ms ++ [o.after.toList.foldl (fun m e => if Region.binds .any e then m ||| (1 <<< e.on) ||| ms.getD e.on 0 else m) 0]) os
def after (ms : List Nat) (j i : Nat) : Bool := (ms.getD i 0).testBit j
def qq9 (ms : List Nat) (ops : Array Oper) : List (Nat × Nat) :=
 (List.range ops.size).flatMap fun j => (List.range j).filterMap fun i => match ops[i]?, ops[j]? with
   | some oi, some oj => bif isStore oi.op && isStore oj.op && !after ms i j then some (i, j) else none
   | _, _ => none
def qq3 (ms : List Nat) (ops : Array Oper) (a b : Nat) : Bool :=
 Nat.blt a b && (match ops[a]?, ops[b]? with
  | some oa, some ob => isStore oa.op && isStore ob.op && oa.guard.isNone && ob.guard.isNone && oa.dst.isNone && ob.dst.isNone && (List.range ops.size).all fun i => i == a || i == b || match ops[i]? with
    | none => false
    | some oi => (inert (true, false) oi.op || (decide (i < a) && after ms i a && after ms i b)) && (match oi.dst with | none => true | some d => !(oa.looksAt ops).contains d || decide (i < a))
  | _, _ => false)
def excOf (ops : Array Oper) : Option (Nat × Nat) :=
 let ms := qbu ops [] ops.toList
 match qq9 ms ops with
 | [p] => bif qq3 ms ops p.1 p.2 then some p else none
 | _ => none
def sepA (v w : AV) : Bool := match v, w with
 | .ptr i _ _, .ptr j _ _ => !Nat.beq i j
 | _, _ => true
def sepB (G : Nat → List AV) (ops : Array Oper) (fr : Fr) : Bool := match excOf ops with
 | none => true
 | some p => match ops[p.1]?, ops[p.2]? with
   | some oa, some ob => sepA (ev G fr (qmw oa.op)) (ev G fr (qmw ob.op))
   | _, _ => true
def qcr (cw : Bool × Bool) (ops : Array Oper) : Bool :=
 let ms := qbu ops [] ops.toList
 let ex := excOf ops
 Region.noSelect ops && (List.range ops.size).all fun i => match ops[i]? with
  | none => false
  | some oi => (oi.after.toList.all (fun e => !Region.binds .any e || decide (e.on < i)) && (!(cw.1 && isLoad oi.op) || (match oi.dst with | none => true | some d => !(oi.looksAt ops).contains d))) && (List.range ops.size).all fun j => j == i || match ops[j]? with
    | none => false
    | some oj => (oi.dst != oj.dst || oi.dst == none) && ((match oj.dst with | none => true | some d => !(oi.looksAt ops).contains d) || after ms j i || after ms i j) &&
      (inert cw oj.op || isLoad oj.op || inert cw oi.op || (isLoad oi.op && isApp oj.op) || (if j < i then after ms j i else (after ms i j || (isLoad oi.op && (isPush oj.op || isVal oj.op)))) || ex == some (i, j) || ex == some (j, i)) &&
      (!(cw.1 && isLoad oi.op) || (match oj.dst with | none => true | some d => !(oi.looksAt ops).contains d || decide (j < i)))
def qwr (ops : Array Oper) : Bool := ops.toList.any fun o => isStore o.op && o.after.toList.any fun e => !Region.binds .any e && (match ops[e.on]? with | some oe => isLoad oe.op | none => false)
def cwOf (ops : Array Oper) : Bool × Bool := bif qcr (true, false) ops then (true, false) else bif qcr (false, false) ops then (false, false) else (false, qwr ops)
def qj2 (ops : Array Oper) : Bool := qcr (false, false) ops || qcr (true, false) ops || (qcr (false, true) ops && qwr ops)
def J5 (ops : Array Oper) : Bool := (cwOf ops).1 || kv ops
def Side (G : Nat → List AV) (ops : Array Oper) (o : Oper) (fr : Fr) (H H' : Hp) : Prop := (isVal o.op = true → (cwOf ops).1 = true → qhe G ops.toList fr H H') ∧ (isStore o.op = true → sepB G ops fr = true)
theorem qu2 {ops : Array Oper} (h : qj2 ops = true) : qcr (cwOf ops) ops = true := by
 unfold qj2 at h
 unfold cwOf
 cases hb : qcr (true, false) ops with
 | true => exact hb
 | false =>
   rw [cond_false]
   cases hc : qcr (false, false) ops with
   | true => exact hc
   | false =>
     rw [hc, Bool.false_or, hb, Bool.false_or, Bool.and_eq_true] at h
     rw [cond_false, h.2]; exact h.1
inductive Bef (ops : Array Oper) : Nat → Nat → Prop
 | edge (i : Nat) (o : Oper) (e : Edge) (hi : ops[i]? = some o) (he : e ∈ o.after) (hb : Region.binds .any e = true) : Bef ops e.on i
 | more (i j : Nat) (o : Oper) (e : Edge) (hi : ops[i]? = some o) (he : e ∈ o.after) (hb : Region.binds .any e = true) (h : Bef ops j e.on) : Bef ops j i
theorem qjr (ops : Array Oper) (i : Nat) (o : Oper) (hi : ops[i]? = some o) (ms : List Nat) (hms : ∀ k j : Nat, (ms.getD k 0).testBit j = true → Bef ops j k) : ∀ (es : List Edge) (m : Nat), (∀ e ∈ es, e ∈ o.after) → (∀ j, m.testBit j = true → Bef ops j i) →
 ∀ j, (es.foldl (fun m e => if Region.binds .any e then m ||| (1 <<< e.on) ||| ms.getD e.on 0 else m) m).testBit j = true → Bef ops j i
 | [], m, _, hm, j, h => hm j h
 | e :: es, m, hes, hm, j, h => by
   refine qjr ops i o hi ms hms es _ (fun e he => hes e (List.mem_cons_of_mem _ he)) (fun j hj => ?_) j h
   simp only at hj
   split at hj
   ·rename_i hb
    simp only [Nat.testBit_or, Bool.or_eq_true] at hj
    rcases hj with (hj | hj) | hj
    ·exact hm j hj
    ·rw [Nat.one_shiftLeft, Nat.testBit_two_pow] at hj
     have := of_decide_eq_true hj
     subst this
     exact .edge i o e hi (hes e (List.mem_cons_self ..)) hb
    exact .more i j o e hi (hes e (List.mem_cons_self ..)) hb (hms _ _ hj)
   exact hm j hj
theorem qo7 (ops : Array Oper) : ∀ (os : List Oper) (ms : List Nat), (∀ k, os[k]? = ops[ms.length + k]?) → (∀ k j : Nat, (ms.getD k 0).testBit j = true → Bef ops j k) → ∀ k j : Nat, ((qbu ops ms os).getD k 0).testBit j = true → Bef ops j k
 | [], ms, _, h => h
 | o :: os, ms, ho, h => by
   have hi : ops[ms.length]? = some o := by have := ho 0; simpa using this.symm
   refine qo7 ops os _ (fun k => by have := ho (k + 1); simp only [List.getElem?_cons_succ] at this; rw [this, List.length_append]; congr 1; simp; omega) (fun k j hj => ?_)
   rw [List.getD_eq_getElem?_getD, List.getElem?_append] at hj
   split at hj
   ·rw [← List.getD_eq_getElem?_getD] at hj; exact h k j hj
   rename_i hk
   cases hd : k - ms.length with
   | zero =>
     rw [hd] at hj
     simp only [List.getElem?_cons_zero, Option.getD_some] at hj
     have : k = ms.length := by omega
     rw [this]
     exact qjr ops ms.length o hi ms h _ 0 (fun e he => by simpa using he) (fun j hj => by simp at hj) j hj
   | succ q => rw [hd] at hj; simp at hj
theorem qap {ops : Array Oper} {j i : Nat} (h : after (qbu ops [] ops.toList) j i = true) : Bef ops j i :=
 qo7 ops ops.toList [] (fun k => by simp) (fun k j hj => by simp at hj) i j h
def wpD (P : Program) (G : Nat → List AV) (ops : Array Oper) : List Oper → Fr → Hp → (Fr → Hp → Prop) → Prop
 | [], fr, H, K => K fr H
 | o :: os, fr, H, K => match o.guard with
   | none => ∃ x H', uc P G (cwOf ops) (J5 ops) fr H o.op x H' ∧ Side G ops o fr H H' ∧ wpD P G ops os (put o.dst x fr) H' K
   | some (j, want) => ∃ b, Qu ops fr j = some b ∧ (b = some want → ∃ x H', uc P G (cwOf ops) (J5 ops) fr H o.op x H' ∧ Side G ops o fr H H' ∧ wpD P G ops os (put o.dst x fr) H' K) ∧ (b ≠ some want → wpD P G ops os (put o.dst (.tup []) fr) H K)
def One (P : Program) (G : Nat → List AV) (ops : Array Oper) (fr : Fr) (H : Hp) (o : Oper) (x : AV) (H' : Hp) : Prop :=
 ((o.guard = none ∨ ∃ j want, o.guard = some (j, want) ∧ Qu ops fr j = some (some want)) ∧ uc P G (cwOf ops) (J5 ops) fr H o.op x H') ∨
 (∃ j want y, o.guard = some (j, want) ∧ Qu ops fr j = some y ∧ y ≠ some want ∧ x = .tup [] ∧ H' = H)
def Run (P : Program) (G : Nat → List AV) (ops : Array Oper) : List Oper → Fr → Hp → List (AV × Hp) → Prop
 | [], _, _, tr => tr = []
 | o :: os, fr, H, tr => ∃ x H' tr', tr = (x, H') :: tr' ∧ (One P G ops fr H o x H' ∧ (Side G ops o fr H H' ∨ (o.guard ≠ none ∧ H' = H))) ∧ Run P G ops os (put o.dst x fr) H' tr'
def qpq : List Oper → Fr → List (AV × Hp) → Fr
 | o :: os, fr, (x, _) :: tr => qpq os (put o.dst x fr) tr
 | _, fr, _ => fr
def endH : Hp → List (AV × Hp) → Hp
 | H, [] => H
 | _, (_, H') :: tr => endH H' tr
theorem qhz {ops : Array Oper} : ∀ (os : List Oper) (fr : Fr) (H : Hp) (K : Fr → Hp → Prop), wpD P G ops os fr H K → ∃ tr, Run P G ops os fr H tr ∧ K (qpq os fr tr) (endH H tr)
 | [], fr, H, K, h => ⟨[], rfl, h⟩
 | o :: os, fr, H, K, h => by
   unfold wpD at h
   split at h
   ·rename_i hg
    obtain ⟨x, H', hs, hkp, hr⟩ := h
    obtain ⟨tr, h1, h2⟩ := qhz os _ _ _ hr
    exact ⟨(x, H') :: tr, ⟨x, H', tr, rfl, ⟨.inl ⟨.inl hg, hs⟩, .inl hkp⟩, h1⟩, h2⟩
   rename_i j want hg
   obtain ⟨b, hb, hy, hn⟩ := h
   by_cases hbw : b = some want
   ·subst hbw
    obtain ⟨x, H', hs, hkp, hr⟩ := hy rfl
    obtain ⟨tr, h1, h2⟩ := qhz os _ _ _ hr
    exact ⟨(x, H') :: tr, ⟨x, H', tr, rfl, ⟨.inl ⟨.inr ⟨j, want, hg, hb⟩, hs⟩, .inl hkp⟩, h1⟩, h2⟩
   obtain ⟨tr, h1, h2⟩ := qhz os _ _ _ (hn hbw)
   exact ⟨(.tup [], H) :: tr, ⟨.tup [], H, tr, rfl, ⟨.inr ⟨j, want, b, hg, hb, hbw, rfl, rfl⟩, .inr ⟨by rw [hg]; simp, rfl⟩⟩, h1⟩, h2⟩
def hAt (H : Hp) (tr : List (AV × Hp)) : Nat → Hp
 | 0 => H
 | i + 1 => (tr[i]?).elim H (·.2)
def xAt (tr : List (AV × Hp)) (i : Nat) : AV := (tr[i]?).elim .undef (·.1)
def fAt : List Oper → Fr → List (AV × Hp) → Nat → Fr
 | _, fr, _, 0 => fr
 | o :: os, fr, (x, _) :: tr, i + 1 => fAt os (put o.dst x fr) tr i
 | _, fr, _, _ + 1 => fr
theorem Run.len {ops : Array Oper} : ∀ {os : List Oper} {fr : Fr} {H : Hp} {tr : List (AV × Hp)}, Run P G ops os fr H tr → tr.length = os.length
 | [], _, _, _, h => by rw [h]; rfl
 | _ :: _, _, _, _, ⟨_, _, _, e, _, h⟩ => by rw [e, List.length_cons, List.length_cons, h.len]
theorem Run.at {ops : Array Oper} : ∀ {os : List Oper} {fr : Fr} {H : Hp} {tr : List (AV × Hp)}, Run P G ops os fr H tr → ∀ (i : Nat) (o : Oper), os[i]? = some o → (One P G ops (fAt os fr tr i) (hAt H tr i) o (xAt tr i) (hAt H tr (i + 1)) ∧ (Side G ops o (fAt os fr tr i) (hAt H tr i) (hAt H tr (i + 1)) ∨ (o.guard ≠ none ∧ hAt H tr (i + 1) = hAt H tr i))) ∧ fAt os fr tr (i + 1) = put o.dst (xAt tr i) (fAt os fr tr i)
 | [], _, _, _, _, i, o, ho => by simp at ho
 | o :: os, fr, H, _, ⟨x, H', tr, rfl, h1, h2⟩, 0, o', ho => by
   simp only [List.getElem?_cons_zero, Option.some.injEq] at ho
   subst ho
   exact ⟨h1, by simp only [fAt, xAt, List.getElem?_cons_zero, Option.elim_some]⟩
 | o :: os, fr, H, _, ⟨x, H', tr, rfl, h1, h2⟩, i + 1, o', ho => by
   simp only [List.getElem?_cons_succ] at ho
   obtain ⟨a1, a2⟩ := h2.at i o' ho
   refine ⟨?_, ?_⟩
   ·have e1 : hAt H ((x, H') :: tr) (i + 1) = hAt H' tr i := by cases i with
     | zero => rfl
     | succ i =>
       simp only [hAt, List.getElem?_cons_succ]
       have hl := h2.len
       have hlt := (List.getElem?_eq_some_iff.1 ho).1
       rw [List.getElem?_eq_getElem (by omega)]; rfl
    have e2 : hAt H ((x, H') :: tr) (i + 1 + 1) = hAt H' tr (i + 1) := by
     simp only [hAt, List.getElem?_cons_succ]
     have hl := h2.len
     have hlt := (List.getElem?_eq_some_iff.1 ho).1
     rw [List.getElem?_eq_getElem (by omega)]; rfl
    rw [e1, e2]
    exact a1
   exact a2
theorem Run.end {ops : Array Oper} : ∀ {os : List Oper} {fr : Fr} {H : Hp} {tr : List (AV × Hp)}, Run P G ops os fr H tr → qpq os fr tr = fAt os fr tr os.length ∧ endH H tr = hAt H tr os.length
 | [], _, _, _, h => by rw [h]; exact ⟨rfl, rfl⟩
 | o :: os, fr, H, _, ⟨x, H', tr, rfl, h1, h2⟩ => by
   obtain ⟨a1, a2⟩ := h2.end
   refine ⟨a1, ?_⟩
   show endH H' tr = _
   rw [a2]
   cases hos : os.length with
   | zero => rw [List.length_cons, hos]; rfl
   | succ q =>
     have hl := h2.len
     simp only [List.length_cons, hos, hAt, List.getElem?_cons_succ]
     rw [List.getElem?_eq_getElem (by omega)]; rfl
section
variable {ops : Array Oper} {fr0 : Fr} {H0 : Hp} {tr : List (AV × Hp)}
theorem Bef.lt (hb : ∀ (i : Nat) (o : Oper) (e : Edge), ops[i]? = some o → e ∈ o.after → Region.binds .any e = true → e.on < i) {j i : Nat} (h : Bef ops j i) : j < i := by
 induction h with
 | edge i o e hi he hbd => exact hb i o e hi he hbd
 | more i j o e hi he hbd _ ih => exact Nat.lt_trans ih (hb i o e hi he hbd)
structure DrawOk (ops : Array Oper) : Prop where
 sel : Region.noSelect ops = true
 back : ∀ (i : Nat) (o : Oper) (e : Edge), ops[i]? = some o → e ∈ o.after → Region.binds .any e = true → e.on < i
 dst : ∀ (i j : Nat) (oi oj : Oper) (d : Tmp), ops[i]? = some oi → ops[j]? = some oj → i ≠ j → oi.dst = some d → oj.dst ≠ some d
 reads : ∀ (i j : Nat) (oi oj : Oper) (d : Tmp), ops[i]? = some oi → ops[j]? = some oj → i ≠ j → oj.dst = some d → d ∈ oi.looksAt ops → Bef ops j i ∨ Bef ops i j
 heap : ∀ (i j : Nat) (oi oj : Oper), ops[i]? = some oi → ops[j]? = some oj → i ≠ j → inert (cwOf ops) oj.op = false → isLoad oj.op = false → inert (cwOf ops) oi.op = false → ((j < i → Bef ops j i ∨ (isLoad oi.op = true ∧ isApp oj.op = true)) ∧ (i < j → Bef ops i j ∨ (isLoad oi.op = true ∧ (isPush oj.op = true ∨ isApp oj.op = true ∨ isVal oj.op = true)))) ∨ excOf ops = some (i, j) ∨ excOf ops = some (j, i)
 self : ∀ (i : Nat) (oi : Oper) (d : Tmp), (cwOf ops).1 = true → ops[i]? = some oi → isLoad oi.op = true → oi.dst = some d → d ∉ oi.looksAt ops
 addr : ∀ (i j : Nat) (oi oj : Oper) (d : Tmp), (cwOf ops).1 = true → ops[i]? = some oi → ops[j]? = some oj → i ≠ j → isLoad oi.op = true → oj.dst = some d → d ∈ oi.looksAt ops → j < i
theorem qps (h0 : qj2 ops = true) : DrawOk ops := by
 have h := qu2 h0
 generalize hcw : cwOf ops = cw at h
 unfold qcr at h
 simp only [Bool.and_eq_true, List.all_eq_true, List.mem_range] at h
 obtain ⟨hsel, h⟩ := h
 have get : ∀ (i : Nat) (oi : Oper), ops[i]? = some oi → i < ops.size := fun i oi hi => (Array.getElem?_eq_some_iff.1 hi).1
 have one : ∀ (i j : Nat) (oi oj : Oper), ops[i]? = some oi → ops[j]? = some oj → i ≠ j → (((oi.dst != oj.dst || oi.dst == none) = true ∧ ((match oj.dst with | none => true | some d => !(oi.looksAt ops).contains d) || after (qbu ops [] ops.toList) j i || after (qbu ops [] ops.toList) i j) = true) ∧
  (inert cw oj.op || isLoad oj.op || inert cw oi.op || (isLoad oi.op && isApp oj.op) || (if j < i then after (qbu ops [] ops.toList) j i else (after (qbu ops [] ops.toList) i j || (isLoad oi.op && (isPush oj.op || isVal oj.op)))) || excOf ops == some (i, j) || excOf ops == some (j, i)) = true) ∧
  (!(cw.1 && isLoad oi.op) || (match oj.dst with | none => true | some d => !(oi.looksAt ops).contains d || decide (j < i))) = true := by
  intro i j oi oj hi hj hne
  have h1 := h i (get i oi hi)
  simp only [hi, Bool.and_eq_true, List.all_eq_true, List.mem_range] at h1
  have h2 := h1.2 j (get j oj hj)
  simp only [hj] at h2
  rw [Bool.or_eq_true] at h2
  rcases h2 with h2 | h2
  ·exact absurd (eq_of_beq h2).symm hne
  rw [Bool.and_eq_true, Bool.and_eq_true, Bool.and_eq_true] at h2
  exact h2
 refine ⟨hsel, fun i o e hi he hb => ?_, fun i j oi oj d hi hj hne hd hd' => ?_, fun i j oi oj d hi hj hne hd hr => ?_, fun i j oi oj hi hj hne h1 h2 h3 => ?_, fun i oi d hc hi hl hd hr => ?_, fun i j oi oj d hc hi hj hne hl hd hr => ?_⟩
 ·have h1 := h i (get i o hi)
  simp only [hi, Bool.and_eq_true, List.all_eq_true, Bool.or_eq_true, decide_eq_true_eq] at h1
  have := h1.1.1 e (by simpa using he)
  simpa [hb] using this
 ·have := (one i j oi oj hi hj hne).1.1.1
  simp [hd, hd'] at this
 ·have := (one i j oi oj hi hj hne).1.1.2
  simp only [hd, Bool.or_eq_true] at this
  rcases this with (h4 | h4) | h4
  ·simp at h4; exact absurd hr h4
  ·exact .inl (qap h4)
  exact .inr (qap h4)
 ·have := (one i j oi oj hi hj hne).1.2
  rw [hcw] at h1 h3
  by_cases x1 : excOf ops = some (i, j)
  ·exact .inr (.inl x1)
  by_cases x2 : excOf ops = some (j, i)
  ·exact .inr (.inr x2)
  have y1 : (excOf ops == some (i, j)) = false := by simpa using x1
  have y2 : (excOf ops == some (j, i)) = false := by simpa using x2
  simp only [h1, h2, h3, y1, y2, Bool.false_or, Bool.or_false] at this
  refine .inl ⟨fun hlt => ?_, fun hlt => ?_⟩
  ·rw [if_pos hlt] at this
   simp only [Bool.or_eq_true, Bool.and_eq_true] at this
   rcases this with this | this
   ·exact .inr this
   exact .inl (qap this)
  rw [if_neg (by omega)] at this
  simp only [Bool.or_eq_true, Bool.and_eq_true] at this
  rcases this with this | this | this
  ·exact .inr ⟨this.1, .inr (.inl this.2)⟩
  ·exact .inl (qap this)
  exact .inr ⟨this.1, this.2.elim .inl (fun h => .inr (.inr h))⟩
 ·have h1 := h i (get i oi hi)
  rw [hcw] at hc
  obtain ⟨cw, lf⟩ := cw
  cases (show cw = true from hc)
  simp only [hi, hl, hd, Bool.and_self, Bool.not_true, Bool.false_or, Bool.and_eq_true] at h1
  have := h1.1.2
  simp at this
  exact this hr
 have := (one i j oi oj hi hj hne).2
 rw [hcw] at hc
 obtain ⟨cw, lf⟩ := cw
 cases (show cw = true from hc)
 simp only [hl, hd, Bool.and_self, Bool.not_true, Bool.false_or, Bool.or_eq_true, decide_eq_true_eq] at this
 rcases this with h4 | h4
 ·simp at h4; exact absurd hr h4
 exact h4
structure ExcOk (ops : Array Oper) (a b : Nat) (oa ob : Oper) : Prop where
 lt : a < b
 ha : ops[a]? = some oa
 hb : ops[b]? = some ob
 sa : isStore oa.op = true
 sb : isStore ob.op = true
 ga : oa.guard = none
 gb : ob.guard = none
 da : oa.dst = none
 db : ob.dst = none
 rest : ∀ (i : Nat) (oi : Oper), ops[i]? = some oi → i ≠ a → i ≠ b → inert (true, false) oi.op = false → i < a ∧ Bef ops i a ∧ Bef ops i b
 look : ∀ (i : Nat) (oi : Oper) (d : Tmp), ops[i]? = some oi → i ≠ a → i ≠ b → oi.dst = some d → d ∈ oa.looksAt ops → i < a
theorem qal {a b : Nat} (h : excOf ops = some (a, b)) : ∃ oa ob, ExcOk ops a b oa ob := by
 unfold excOf at h
 simp only at h
 split at h
 ·rename_i p hp
  cases hk : qq3 (qbu ops [] ops.toList) ops p.1 p.2 with
  | false => rw [hk] at h; cases h
  | true =>
    rw [hk] at h
    simp only [cond_true, Option.some.injEq] at h
    subst h
    unfold qq3 at hk
    rw [Bool.and_eq_true] at hk
    obtain ⟨hlt, hk⟩ := hk
    cases ha : ops[a]? with
    | none => simp [ha] at hk
    | some oa =>
      cases hb : ops[b]? with
      | none => simp [ha, hb] at hk
      | some ob =>
        simp only [ha, hb, Bool.and_eq_true, List.all_eq_true, List.mem_range, Option.isNone_iff_eq_none] at hk
        obtain ⟨⟨⟨⟨⟨⟨s1, s2⟩, g1⟩, g2⟩, d1⟩, d2⟩, hall⟩ := hk
        have key : ∀ (i : Nat) (oi : Oper), ops[i]? = some oi → i ≠ a → i ≠ b → (inert (true, false) oi.op || (decide (i < a) && after (qbu ops [] ops.toList) i a && after (qbu ops [] ops.toList) i b)) = true ∧ (match oi.dst with | none => true | some d => !(oa.looksAt ops).contains d || decide (i < a)) = true := by
         intro i oi hi h1 h2
         have := hall i (Array.getElem?_eq_some_iff.1 hi).1
         simp only [hi, Bool.or_eq_true, beq_iff_eq] at this
         rcases this with (this | this) | this
         ·exact absurd this h1
         ·exact absurd this h2
         rw [Bool.and_eq_true] at this
         exact this
        refine ⟨oa, ob, Nat.le_of_ble_eq_true hlt, ha, hb, s1, s2, g1, g2, d1, d2, fun i oi hi h1 h2 hn => ?_, fun i oi d hi h1 h2 hd hl => ?_⟩
        ·have := (key i oi hi h1 h2).1
         rw [hn, Bool.false_or, Bool.and_eq_true, Bool.and_eq_true, decide_eq_true_eq] at this
         exact ⟨this.1.1, qap this.1.2, qap this.2⟩
        have := (key i oi hi h1 h2).2
        simp only [hd, Bool.or_eq_true, decide_eq_true_eq] at this
        rcases this with h4 | h4
        ·simp at h4; exact absurd hl h4
        exact h4
 cases h
theorem qq7 {cw : Bool × Bool} {c : Call} : inert cw (.call c) = (match c.callee with | .builtin .len => true | .builtin .max => true | .builtin .min => true | .value _ => !cw.1 | .builtin .append => (match c.args[0]? with | some a => Wt a | none => false) | _ => false) := rfl
theorem qpb {cw : Bool × Bool} {op : Op} (h : inert (true, false) op = true) : inert cw op = true := by
 cases op <;> first | exact h | (cases h; done) | skip
 case call c =>
  rw [qq7] at h ⊢
  revert h
  generalize c.callee = q
  intro h
  split <;> simp_all
theorem qh9 {cw : Bool × Bool} {op : Op} (h : inert cw op = false) : inert (true, false) op = false := by
 cases hb : inert (true, false) op with
 | false => rfl
 | true => rw [qpb hb] at h; cases h
theorem qnj {cw : Bool × Bool} {st : Bool} {fr : Fr} {H H' : Hp} {op : Op} {x : AV} (hs : isStore op = true) : uc P G cw st fr H op x H' ↔ evalOp P G fr H op = some (x, H') := by
 cases op <;> simp only [isStore] at hs <;> first | (cases hs; done) | exact Iff.rfl
theorem qxh {fr : Fr} {H H' : Hp} {op : Op} {x : AV} (hs : isStore op = true) (h : evalOp P G fr H op = some (x, H')) : ∃ t p v, op = .store t p v ∧ x = .undef ∧ v8 P H t (ev G fr p) (ev G fr v) = some H' := by
 cases op <;> simp only [isStore] at hs <;> first | (cases hs; done) | skip
 case store t p v =>
  simp only [evalOp, Option.map_eq_some_iff, Prod.mk.injEq] at h
  obtain ⟨y, h1, rfl, rfl⟩ := h
  exact ⟨t, p, v, rfl, rfl, h1⟩
theorem qca {cw : Bool × Bool} {op : Op} (h : isStore op = true) : inert cw op = false ∧ isLoad op = false ∧ isVal op = false := by
 cases op <;> simp only [isStore] at h <;> first | (cases h; done) | exact ⟨rfl, rfl, rfl⟩
theorem qqu {H H1 H2 : Hp} {t1 t2 : TypeId} {p1 p2 x1 x2 : AV} (h1 : v8 P H t1 p1 x1 = some H1) (h2 : v8 P H1 t2 p2 x2 = some H2) (hne : sepA p1 p2 = true) : ∃ H', v8 P H t2 p2 x2 = some H' ∧ v8 P H' t1 p1 x1 = some H2 := by
 have shape : ∀ {H H1 : Hp} {t : TypeId} {p x : AV}, v8 P H t p x = some H1 → ∃ id s off, p = .ptr id s off ∧ ∃ (o o' : Nat × Obj), H.objs[id]? = some o ∧ H1 = ⟨H.n, H.objs.set id o'⟩ ∧ ∀ (H3 : Hp), H3.objs[id]? = some o → v8 P H3 t p x = some ⟨H3.n, H3.objs.set id o'⟩ := by
  intro H H1 t p x h
  unfold v8 at h
  split at h
  ·rename_i id s off xs k hxs hk
   split at h
   ·rename_i hlen
    cases ho : H.objs[id]? with
    | none => simp [ho] at h
    | some o =>
      obtain ⟨s', ob⟩ := o
      rw [ho] at h
      cases ob with
      | var ty cs =>
        simp only at h
        split at h
        ·rename_i hc
         cases h
         refine ⟨id, s, off, rfl, _, (s, .var ty (Zm cs off xs)), ho, rfl, fun H3 h3 => ?_⟩
         simp only [v8, hxs, hk, if_pos hlen, h3, if_pos hc]
        cases h
      | row ty cs =>
        simp only at h
        split at h
        ·rename_i hc
         cases h
         refine ⟨id, s, off, rfl, _, (s, .row ty (Zm cs off xs)), ho, rfl, fun H3 h3 => ?_⟩
         simp only [v8, hxs, hk, if_pos hlen, h3, if_pos hc]
        cases h
      | _ => cases h
   cases h
  cases h
 obtain ⟨i1, s1, f1, rfl, o1, q1, a1, rfl, c1⟩ := shape h1
 obtain ⟨i2, s2, f2, rfl, o2, q2, a2, rfl, c2⟩ := shape h2
 have hij : i1 ≠ i2 := by
  intro e; subst e
  simp [sepA] at hne
 have a2' : H.objs[i2]? = some o2 := by rw [← a2, List.getElem?_set_ne hij]
 refine ⟨_, c2 H a2', ?_⟩
 rw [c1 ⟨H.n, H.objs.set i2 q2⟩ (by show (H.objs.set i2 q2)[i1]? = _; rw [List.getElem?_set_ne (Ne.symm hij)]; exact a1)]
 rw [List.set_comm _ _ (Ne.symm hij)]
structure At (P : Program) (G : Nat → List AV) (ops : Array Oper) (fr0 : Fr) (H0 : Hp) (tr : List (AV × Hp)) (L : Nat → Prop) (fr : Fr) (H : Hp) : Prop where
 did : ∀ (j : Nat) (o : Oper) (d : Tmp), ops[j]? = some o → L j → o.dst = some d → fr d = xAt tr j
 not : ∀ t, (∀ (j : Nat) (o : Oper), ops[j]? = some o → L j → o.dst ≠ some t) → fr t = fr0 t
 heap : (∃ k, k ≤ ops.size ∧ H = hAt H0 tr k ∧ ∀ (e : Nat) (o : Oper), ops[e]? = some o → inert (cwOf ops) o.op = false → isLoad o.op = false → (L e ↔ e < k)) ∨
  (∃ a b oa ob H2, excOf ops = some (a, b) ∧ ExcOk ops a b oa ob ∧ L b ∧ ¬ L a ∧ (∀ (e : Nat) (o : Oper), ops[e]? = some o → inert (cwOf ops) o.op = false → isLoad o.op = false → e ≠ b → (L e ↔ e < a)) ∧
    H2 = hAt H0 tr (b + 1) ∧ evalOp P G (fAt ops.toList fr0 tr a) H oa.op = some (xAt tr a, H2))
theorem qec (D : DrawOk ops) (hr : Run P G ops ops.toList fr0 H0 tr) : ∀ i, i ≤ ops.size → (∀ (j : Nat) (o : Oper) (d : Tmp), ops[j]? = some o → j < i → o.dst = some d → fAt ops.toList fr0 tr i d = xAt tr j) ∧ (∀ t, (∀ (j : Nat) (o : Oper), ops[j]? = some o → j < i → o.dst ≠ some t) → fAt ops.toList fr0 tr i t = fr0 t)
 | 0, _ => by
   have : fAt ops.toList fr0 tr 0 = fr0 := by cases ops.toList <;> rfl
   exact ⟨fun j o d _ h => by omega, fun t _ => by rw [this]⟩
 | i + 1, hle => by
   obtain ⟨h1, h2⟩ := qec D hr i (by omega)
   have hi : ops[i]? = some ops[i] := Array.getElem?_eq_getElem (by omega)
   have hput := (hr.at i ops[i] (by simpa using hi)).2
   rw [hput]
   refine ⟨fun j o d hj hlt hd => ?_, fun t ht => ?_⟩
   ·by_cases hji : j = i
    ·subst hji
     rw [hi] at hj
     simp only [Option.some.injEq] at hj
     subst hj
     rw [hd, uw, if_pos rfl]
    have := h1 j o d hj (by omega) hd
    cases hdi : (ops[i]).dst with
    | none => exact this
    | some di =>
      have hne : d ≠ di := by intro e; subst e; exact D.dst j i o ops[i] d hj hi hji hd hdi
      rw [uw, if_neg hne]; exact this
   have h3 := h2 t (fun j o hj hlt => ht j o hj (by omega))
   cases hdi : (ops[i]).dst with
   | none => exact h3
   | some di =>
     have hne : t ≠ di := by intro e; subst e; exact ht i ops[i] hi (by omega) hdi
     rw [uw, if_neg hne]; exact h3
theorem qfa (hr : Run P G ops ops.toList fr0 H0 tr) {o : Oper} {i : Nat} (hi : ops[i]? = some o) (h : inert (cwOf ops) o.op = true ∨ isLoad o.op = true) : hAt H0 tr (i + 1) = hAt H0 tr i := by
 obtain ⟨⟨hone, _⟩, _⟩ := hr.at i o (by simpa using hi)
 rcases hone with ⟨_, hs⟩ | ⟨_, _, _, _, _, _, _, hs⟩
 ·rcases h with h | h
  ·exact (hs.inert h).1
  exact (hs.load h).1
 exact hs
theorem qpd (hr : Run P G ops ops.toList fr0 H0 tr) {o : Oper} {i : Nat} (hi : ops[i]? = some o) (h : isPush o.op = true) : qds (hAt H0 tr i) (hAt H0 tr (i + 1)) := by
 obtain ⟨⟨hone, _⟩, _⟩ := hr.at i o (by simpa using hi)
 rcases hone with ⟨_, hs⟩ | ⟨_, _, _, _, _, _, _, hs⟩
 ·exact hs.push h
 rw [hs]; exact fun _ _ h => h
theorem Kv (hr : Run P G ops ops.toList fr0 H0 tr) : ∀ (d k : Nat), k + d ≤ ops.size → (∀ (e : Nat) (o : Oper), ops[e]? = some o → k ≤ e → e < k + d → inert (cwOf ops) o.op = true ∨ isLoad o.op = true) → hAt H0 tr (k + d) = hAt H0 tr k
 | 0, _, _, _ => rfl
 | d + 1, k, hle, h => by
   have hi : ops[k + d]? = some ops[k + d] := Array.getElem?_eq_getElem (by omega)
   rw [← Nat.add_assoc, qfa hr hi (h _ _ hi (by omega) (by omega))]
   exact Kv hr d k (by omega) (fun e o he h1 h2 => h e o he h1 (by omega))
theorem qlt (hr : Run P G ops ops.toList fr0 H0 tr) : ∀ (d k : Nat), k + d ≤ ops.size → (∀ (e : Nat) (o : Oper), ops[e]? = some o → k ≤ e → e < k + d → (inert (cwOf ops) o.op = true ∨ isLoad o.op = true) ∨ isPush o.op = true) → qds (hAt H0 tr k) (hAt H0 tr (k + d))
 | 0, _, _, _ => fun _ _ h => h
 | d + 1, k, hle, h => by
   have hi : ops[k + d]? = some ops[k + d] := Array.getElem?_eq_getElem (by omega)
   have ih := qlt hr d k (by omega) (fun e o he h1 h2 => h e o he h1 (by omega))
   rw [← Nat.add_assoc]
   rcases h _ _ hi (by omega) (by omega) with h1 | h1
   ·rw [qfa hr hi h1]; exact ih
   exact fun i y hy => qpd hr hi h1 i y (ih i y hy)
theorem qs8 (hr : Run P G ops ops.toList fr0 H0 tr) {o : Oper} {i : Nat} (hi : ops[i]? = some o) (h : isApp o.op = true) : Kl (hAt H0 tr i) (hAt H0 tr (i + 1)) ∧ Kl (hAt H0 tr (i + 1)) (hAt H0 tr i) := by
 obtain ⟨⟨hone, _⟩, _⟩ := hr.at i o (by simpa using hi)
 rcases hone with ⟨_, hs⟩ | ⟨_, _, _, _, _, _, _, hs⟩
 ·exact hs.app h
 rw [hs]; exact ⟨.refl _, .refl _⟩
theorem qu6 (D : DrawOk ops) (hc : (cwOf ops).1 = true) (hr : Run P G ops ops.toList fr0 H0 tr) {i e : Nat} {oi : Oper} (hi : ops[i]? = some oi) (hl : isLoad oi.op = true) (hie : i < e) (he : e ≤ ops.size) : ev G (fAt ops.toList fr0 tr e) (W1 oi.op) = ev G (fAt ops.toList fr0 tr i) (W1 oi.op) := by
 refine qjy fun t ht => ?_
 have hlook : t ∈ oi.looksAt ops := by
  refine List.mem_append_left _ (List.mem_filterMap.2 ⟨.tmp t, ?_, rfl⟩)
  revert hl ht
  cases oi.op <;> simp [isLoad, W1, Op.operands]
  intro e; exact e.symm
 obtain ⟨a1, a2⟩ := qec D hr e he
 obtain ⟨b1, b2⟩ := qec D hr i (by omega)
 by_cases hex : ∃ (j : Nat) (oj : Oper), ops[j]? = some oj ∧ oj.dst = some t
 ·obtain ⟨j, oj, hj, hd⟩ := hex
  have uniq : ∀ (j' : Nat) (o' : Oper), ops[j']? = some o' → o'.dst = some t → j' = j := fun j' o' hj' hd' => Classical.byContradiction fun hne => D.dst j' j o' oj t hj' hj hne hd' hd
  by_cases hji : i = j
  ·subst hji
   rw [hi] at hj
   simp only [Option.some.injEq] at hj
   subst hj
   exact absurd hlook (D.self i oi t hc hi hl hd)
  have hlt := D.addr i j oi oj t hc hi hj hji hl hd hlook
  rw [a1 j oj t hj (by omega) hd, b1 j oj t hj hlt hd]
 have hno : ∀ (j : Nat) (oj : Oper), ops[j]? = some oj → oj.dst ≠ some t := fun j oj hj hd => hex ⟨j, oj, hj, hd⟩
 rw [a2 t (fun j oj hj _ => hno j oj hj), b2 t (fun j oj hj _ => hno j oj hj)]
theorem qpe (D : DrawOk ops) (hr : Run P G ops ops.toList fr0 H0 tr) {i : Nat} {oi : Oper} (hi : ops[i]? = some oi) (hl : isLoad oi.op = true) : ∀ (d : Nat), i + d ≤ ops.size → (∀ (e : Nat) (o : Oper), ops[e]? = some o → i ≤ e → e < i + d → (inert (cwOf ops) o.op = true ∨ isLoad o.op = true) ∨ isPush o.op = true ∨ isApp o.op = true ∨ (isVal o.op = true ∧ (cwOf ops).1 = true)) → Jy (ev G (fAt ops.toList fr0 tr i) (W1 oi.op)) (hAt H0 tr i) (hAt H0 tr (i + d))
 | 0, _, _ => .refl _ _
 | d + 1, hle, h => by
   have he : ops[i + d]? = some ops[i + d] := Array.getElem?_eq_getElem (by omega)
   have ih := qpe D hr hi hl d (by omega) (fun e o he h1 h2 => h e o he h1 (by omega))
   rw [← Nat.add_assoc]
   rcases h _ _ he (by omega) (by omega) with h1 | h1 | h1 | ⟨h1, hc⟩
   ·rw [qfa hr he h1]; exact ih
   ·exact ih.trans ((qpd hr he h1).sameV.keep _)
   ·exact ih.trans ((qs8 hr he h1).1.keep _)
   obtain ⟨⟨_, hk⟩, _⟩ := hr.at (i + d) ops[i + d] (by simpa using he)
   have hkp : qhe G ops.toList (fAt ops.toList fr0 tr (i + d)) (hAt H0 tr (i + d)) (hAt H0 tr (i + d + 1)) := by
    rcases hk with hk | ⟨_, hk⟩
    ·exact hk.1 h1 hc
    rw [hk]; exact qbi _ _ _
   have hk := qlr hkp oi (by rw [Array.mem_toList_iff]; exact Array.mem_of_getElem? hi) hl
   rcases Nat.eq_zero_or_pos d with h0 | h0
   ·subst h0; exact ih.trans hk
   rw [qu6 D hc hr hi hl (e := i + d) (by omega) (by omega)] at hk
   exact ih.trans hk
theorem qpc (hr : Run P G ops ops.toList fr0 H0 tr) : ∀ (d k : Nat), k + d ≤ ops.size → (∀ (e : Nat) (o : Oper), ops[e]? = some o → k ≤ e → e < k + d → (inert (cwOf ops) o.op = true ∨ isLoad o.op = true) ∨ isApp o.op = true) → Kl (hAt H0 tr (k + d)) (hAt H0 tr k)
 | 0, _, _, _ => .refl _
 | d + 1, k, hle, h => by
   have hi : ops[k + d]? = some ops[k + d] := Array.getElem?_eq_getElem (by omega)
   have ih := qpc hr d k (by omega) (fun e o he h1 h2 => h e o he h1 (by omega))
   rw [← Nat.add_assoc]
   rcases h _ _ hi (by omega) (by omega) with h1 | h1
   ·rw [qfa hr hi h1]; exact ih
   exact (qs8 hr hi h1).2.trans ih
theorem qdy {ops : Array Oper} (h : J5 ops = false) : (cwOf ops).1 = false ∧ kv ops = false := by
 unfold J5 at h
 cases h1 : (cwOf ops).1 with
 | true => rw [h1] at h; cases h
 | false => rw [h1, Bool.false_or] at h; exact ⟨rfl, h⟩
theorem qt5 {op : Op} {cw : Bool × Bool} (h : isVal op = true) (hn : inert cw op = false) : cw.1 = true := by
 cases op <;> simp only [isVal] at h <;> first | (cases h; done) | skip
 case call c =>
  split at h
  ·rename_i hb
   simp only [inert, hb] at hn
   obtain ⟨cw, lf⟩ := cw
   cases cw <;> simp_all
  cases h
theorem qlc {ops : Array Oper} (h : kv ops = false) {i : Nat} {o : Oper} (hi : ops[i]? = some o) : isApp o.op = false := by
 cases ha : isApp o.op with
 | false => rfl
 | true =>
   have : kv ops = true := by
    unfold kv
    rw [Array.any_eq_true]
    obtain ⟨hlt, e⟩ := Array.getElem?_eq_some_iff.1 hi
    exact ⟨i, hlt, by rw [e]; exact ha⟩
   rw [h] at this; cases this
theorem At.next (D : DrawOk ops) (hr : Run P G ops ops.toList fr0 H0 tr) {L : Nat → Prop} {fr : Fr} {H : Hp} (hA : At P G ops fr0 H0 tr L fr H) (hL : ∀ (i j : Nat), Bef ops j i → L i → L j) {i : Nat} {o : Oper} (hi : ops[i]? = some o) (hn : ¬ L i) (hready : ∀ j, Bef ops j i → L j) :
 ∃ H', One P G ops fr H o (xAt tr i) H' ∧ At P G ops fr0 H0 tr (fun j => L j ∨ j = i) (put o.dst (xAt tr i) fr) H' := by
 have hisz : i < ops.size := (Array.getElem?_eq_some_iff.1 hi).1
 obtain ⟨⟨hone, _⟩, _⟩ := hr.at i o (by simpa using hi)
 obtain ⟨f1, f2⟩ := qec D hr i (by omega)
 -- the temporaries that it looks at
 have same : ∀ t, t ∈ o.looksAt ops → fAt ops.toList fr0 tr i t = fr t := by
  intro t ht
  by_cases hex : ∃ (j : Nat) (oj : Oper), ops[j]? = some oj ∧ oj.dst = some t
  ·obtain ⟨j, oj, hj, hd⟩ := hex
   have uniq : ∀ (j' : Nat) (o' : Oper), ops[j']? = some o' → o'.dst = some t → j' = j := fun j' o' hj' hd' => Classical.byContradiction fun hne => D.dst j' j o' oj t hj' hj hne hd' hd
   by_cases hji : j = i
   ·subst hji
    rw [f2 t (fun j' o' hj' hlt hd' => by have := uniq j' o' hj' hd'; omega), hA.not t (fun j' o' hj' hl hd' => by have := uniq j' o' hj' hd'; subst this; exact hn hl)]
   rcases D.reads i j o oj t hi hj (Ne.symm hji) hd ht with hb | hb
   ·rw [f1 j oj t hj (hb.lt D.back) hd, hA.did j oj t hj (hready j hb) hd]
   have hlt := hb.lt D.back
   rw [f2 t (fun j' o' hj' hlt' hd' => by have := uniq j' o' hj' hd'; omega), hA.not t (fun j' o' hj' hl hd' => by have := uniq j' o' hj' hd'; subst this; exact hn (hL _ _ hb hl))]
  have hno : ∀ (j : Nat) (oj : Oper), ops[j]? = some oj → oj.dst ≠ some t := fun j oj hj hd => hex ⟨j, oj, hj, hd⟩
  rw [f2 t (fun j oj hj _ => hno j oj hj), hA.not t (fun j oj hj _ => hno j oj hj)]
 have evs : ∀ y ∈ o.op.operands, ev G (fAt ops.toList fr0 tr i) y = ev G fr y := fun y hy => qjy fun t ht => same t (by
  subst ht
  exact List.mem_append_left _ (List.mem_filterMap.2 ⟨.tmp t, by simpa using hy, rfl⟩))
 have ys : ∀ j want, o.guard = some (j, want) → Qu ops fr j = Qu ops (fAt ops.toList fr0 tr i) j := by
  intro j want hg
  unfold Qu
  split
  ·rename_i t ht
   rw [same t (List.mem_append_right _ (by simp [hg, ht]))]
  rfl
 have newFr : (∀ (j : Nat) (o' : Oper) (d : Tmp), ops[j]? = some o' → (L j ∨ j = i) → o'.dst = some d → put o.dst (xAt tr i) fr d = xAt tr j) ∧ (∀ t, (∀ (j : Nat) (o' : Oper), ops[j]? = some o' → (L j ∨ j = i) → o'.dst ≠ some t) → put o.dst (xAt tr i) fr t = fr0 t) := by
  refine ⟨fun j o' d hj hl hd => ?_, fun t ht => ?_⟩
  ·by_cases hji : j = i
   ·subst hji
    rw [hi] at hj
    simp only [Option.some.injEq] at hj
    subst hj
    rw [hd, uw, if_pos rfl]
   have := hA.did j o' d hj (hl.resolve_right hji) hd
   cases hdi : o.dst with
   | none => exact this
   | some di =>
     have hne : d ≠ di := by intro e; subst e; exact D.dst j i o' o d hj hi hji hd hdi
     rw [uw, if_neg hne]; exact this
  have h3 := hA.not t (fun j o' hj hl => ht j o' hj (.inl hl))
  cases hdi : o.dst with
  | none => exact h3
  | some di =>
    have hne : t ≠ di := by intro e; subst e; exact ht i o hi (.inr rfl) hdi
    rw [uw, if_neg hne]; exact h3
 have nol : isLoad o.op = true → ∀ e, excOf ops ≠ some (i, e) ∧ excOf ops ≠ some (e, i) := by
  intro hl e
  refine ⟨fun h => ?_, fun h => ?_⟩
  ·obtain ⟨oa, ob, X⟩ := qal h
   have h1 := X.ha
   rw [hi] at h1
   cases h1
   have := (qca (cw := (true, false)) X.sa).2.1
   rw [hl] at this; cases this
  obtain ⟨oa, ob, X⟩ := qal h
  have h1 := X.hb
  rw [hi] at h1
  cases h1
  have := (qca (cw := (true, false)) X.sb).2.1
  rw [hl] at this; cases this
 rcases hA.heap with ⟨k, hk, rfl, hw⟩ | ⟨a, b, oa, ob, H2, hex, X, hLb, hLa, hwx, hH2, hev⟩
 case inr =>
  have hib : i ≠ b := by rintro rfl; exact hn hLb
  by_cases hia : i = a
  ·subst hia
   have h1 := X.ha
   rw [hi] at h1
   cases h1
   rcases hone with ⟨hg, hs⟩ | ⟨j, want, y, hg, _⟩
   ·have hd : uc P G (cwOf ops) (J5 ops) (fAt ops.toList fr0 tr i) H o.op (xAt tr i) H2 := (qnj X.sa).2 hev
    refine ⟨H2, .inl ⟨.inl X.ga, hd.congr evs⟩, newFr.1, newFr.2, .inl ⟨b + 1, (Array.getElem?_eq_some_iff.1 X.hb).1, hH2, fun e o' he h3 h4 => ?_⟩⟩
    by_cases heb : e = b
    ·subst heb; exact ⟨fun _ => by omega, fun _ => .inl hLb⟩
    by_cases hea : e = i
    ·subst hea; exact ⟨fun _ => by have := X.lt; omega, fun _ => .inr rfl⟩
    have := hwx e o' he h3 h4 heb
    have h5 := (X.rest e o' he hea heb (qh9 h3)).1
    have h6 := X.lt
    exact ⟨fun _ => by omega, fun _ => .inl (this.2 h5)⟩
   rw [X.ga] at hg; cases hg
  have hin : inert (true, false) o.op = true := by
   cases hb : inert (true, false) o.op with
   | true => rfl
   | false => exact absurd (hL _ _ (X.rest i o hi hia hib hb).2.2 hLb) hn
  have hin' : inert (cwOf ops) o.op = true := qpb hin
  have fin : At P G ops fr0 H0 tr (fun j => L j ∨ j = i) (put o.dst (xAt tr i) fr) H := by
   refine ⟨newFr.1, newFr.2, .inr ⟨a, b, oa, ob, H2, hex, X, .inl hLb, fun h => h.elim hLa (fun e => hia e.symm), fun e o' he h3 h4 heb => ?_, hH2, hev⟩⟩
   rw [← hwx e o' he h3 h4 heb]
   refine ⟨fun h => h.elim id (fun e' => ?_), .inl⟩
   subst e'
   rw [hi] at he
   cases he
   rw [hin'] at h3; cases h3
  rcases hone with ⟨hg, hs⟩ | ⟨j, want, y, hg, hy, hne, hx, hH⟩
  ·have hg' : o.guard = none ∨ ∃ j want, o.guard = some (j, want) ∧ Qu ops fr j = some (some want) := by
    rcases hg with hg | ⟨j, want, hg, hy⟩
    ·exact .inl hg
    exact .inr ⟨j, want, hg, (ys j want hg).trans hy⟩
   exact ⟨H, .inl ⟨hg', ((hs.congr evs).inert hin').2 _⟩, fin⟩
  exact ⟨H, .inr ⟨j, want, y, hg, (ys j want hg).trans hy, hne, hx, rfl⟩, fin⟩
 -- a write
 have write : (∀ a, excOf ops = some (a, i) → L a) → inert (cwOf ops) o.op = false → isLoad o.op = false → hAt H0 tr k = hAt H0 tr i ∧ ∀ (e : Nat) (o' : Oper), ops[e]? = some o' → inert (cwOf ops) o'.op = false → isLoad o'.op = false → ((L e ∨ e = i) ↔ e < i + 1) := by
  intro hx0 h1 h2
  have hki : k ≤ i := by
   rcases Nat.lt_or_ge i k with h | h
   ·exact absurd ((hw i o hi h1 h2).2 h) hn
   exact h
  refine ⟨?_, fun e o' he h3 h4 => ?_⟩
  ·have := Kv hr (i - k) k (by omega) (fun e o' he h3 h4 => by
    cases h5 : inert (cwOf ops) o'.op with
    | true => exact .inl rfl
    | false => cases h6 : isLoad o'.op with
      | true => exact .inr rfl
      | false =>
        have hlt : e < i := by omega
        rcases D.heap i e o o' hi he (by omega) h5 h6 h1 with hd | hd | hd
        ·rcases hd.1 hlt with hb | hb
         ·have := hready e hb
          have := (hw e o' he h5 h6).1 this
          omega
         rw [hb.1] at h2; cases h2
        ·obtain ⟨_, _, X⟩ := qal hd
         have := X.lt; omega
        have := (hw e o' he h5 h6).1 (hx0 e hd)
        omega)
   rw [show k + (i - k) = i by omega] at this
   exact this.symm
  constructor
  ·rintro (hl | rfl)
   ·have := (hw e o' he h3 h4).1 hl; omega
   omega
  intro hlt
  by_cases hei : e = i
  ·exact .inr hei
  rcases D.heap i e o o' hi he (Ne.symm hei) h3 h4 h1 with hd | hd | hd
  ·rcases hd.1 (by omega) with hb | hb
   ·exact .inl (hready e hb)
   rw [hb.1] at h2; cases h2
  ·obtain ⟨_, _, X⟩ := qal hd
   have := X.lt; omega
  exact .inl (hx0 e hd)
 have stay : (inert (cwOf ops) o.op = true ∨ isLoad o.op = true) → ∀ (e : Nat) (o' : Oper), ops[e]? = some o' → inert (cwOf ops) o'.op = false → isLoad o'.op = false → ((L e ∨ e = i) ↔ e < k) := by
  intro h1 e o' he h3 h4
  rw [← hw e o' he h3 h4]
  constructor
  ·rintro (hl | rfl)
   ·exact hl
   rw [hi] at he
   simp only [Option.some.injEq] at he
   subst he
   rcases h1 with h1 | h1
   ·rw [h1] at h3; cases h3
   rw [h1] at h4; cases h4
  exact .inl
 rcases hone with ⟨hg, hs⟩ | ⟨j, want, y, hg, hy, hne, hx, hH⟩
 ·have hg' : o.guard = none ∨ ∃ j want, o.guard = some (j, want) ∧ Qu ops fr j = some (some want) := by
   rcases hg with hg | ⟨j, want, hg, hy⟩
   ·exact .inl hg
   exact .inr ⟨j, want, hg, (ys j want hg).trans hy⟩
  have hs' := hs.congr evs
  cases h1 : inert (cwOf ops) o.op with
  | true => exact ⟨hAt H0 tr k, .inl ⟨hg', (hs'.inert h1).2 _⟩, newFr.1, newFr.2, .inl ⟨k, hk, rfl, stay (.inl h1)⟩⟩
  | false => cases h2 : isLoad o.op with
    | true =>
      have hgr : qds (hAt H0 tr i) (hAt H0 tr k) ∨ (J5 ops = true ∧ Jy (ev G fr (W1 o.op)) (hAt H0 tr i) (hAt H0 tr k)) := by
       have hav : ev G fr (W1 o.op) = ev G (fAt ops.toList fr0 tr i) (W1 o.op) := (evs _ (by
        revert h2
        cases o.op <;> simp [isLoad, W1, Op.operands])).symm
       rcases Nat.le_total k i with hki | hki
       ·have each : ∀ (e : Nat) (o : Oper), ops[e]? = some o → k ≤ e → e < k + (i - k) → (inert (cwOf ops) o.op = true ∨ isLoad o.op = true) ∨ isApp o.op = true := fun e o' he h3 h4 => by
         cases h5 : inert (cwOf ops) o'.op with
         | true => exact .inl (.inl rfl)
         | false => cases h6 : isLoad o'.op with
           | true => exact .inl (.inr rfl)
           | false =>
             rcases ((D.heap i e o o' hi he (by omega) h5 h6 h1).resolve_right (fun h => h.elim (nol h2 e).1 (nol h2 e).2)).1 (by omega) with hb | hb
             ·have := hready e hb
              have := (hw e o' he h5 h6).1 this
              omega
             exact .inr hb.2
        cases hst : J5 ops with
        | false =>
          have := Kv hr (i - k) k (by omega) (fun e o' he h3 h4 => (each e o' he h3 h4).resolve_right (by rw [qlc (qdy hst).2 he]; simp))
          rw [show k + (i - k) = i by omega] at this
          rw [this]; exact .inl (fun _ _ h => h)
        | true =>
          have := qpc hr (i - k) k (by omega) each
          rw [show k + (i - k) = i by omega] at this
          exact .inr ⟨rfl, this.keep _⟩
       have each : ∀ (e : Nat) (o : Oper), ops[e]? = some o → i ≤ e → e < i + (k - i) → (inert (cwOf ops) o.op = true ∨ isLoad o.op = true) ∨ isPush o.op = true ∨ isApp o.op = true ∨ (isVal o.op = true ∧ (cwOf ops).1 = true) := fun e o' he h3 h4 => by
        cases h5 : inert (cwOf ops) o'.op with
        | true => exact .inl (.inl rfl)
        | false => cases h6 : isLoad o'.op with
          | true => exact .inl (.inr rfl)
          | false =>
            have hl := (hw e o' he h5 h6).2 (by omega)
            have hei : e ≠ i := by intro e'; subst e'; exact hn hl
            rcases ((D.heap i e o o' hi he (Ne.symm hei) h5 h6 h1).resolve_right (fun h => h.elim (nol h2 e).1 (nol h2 e).2)).2 (by omega) with hb | hb
            ·exact absurd (hL _ _ hb hl) hn
            rcases hb.2 with hb | hb | hb
            ·exact .inr (.inl hb)
            ·exact .inr (.inr (.inl hb))
            exact .inr (.inr (.inr ⟨hb, qt5 hb h5⟩))
       cases hst : J5 ops with
       | false =>
         have := qlt hr (k - i) i (by omega) (fun e o' he h3 h4 => (each e o' he h3 h4).imp id (fun h => h.resolve_right (by rw [qlc (qdy hst).2 he, (qdy hst).1]; simp)))
         rw [show i + (k - i) = k by omega] at this
         exact .inl this
       | true =>
         have := qpe D hr hi h2 (k - i) (by omega) each
         rw [show i + (k - i) = k by omega] at this
         rw [hav]
         exact .inr ⟨rfl, this⟩
      exact ⟨hAt H0 tr k, .inl ⟨hg', (hs'.load h2).2 _ hgr⟩, newFr.1, newFr.2, .inl ⟨k, hk, rfl, stay (.inr h2)⟩⟩
    | false =>
      by_cases hx0 : ∀ a, excOf ops = some (a, i) → L a
      ·obtain ⟨e1, e2⟩ := write hx0 h1 h2
       rw [e1]
       exact ⟨hAt H0 tr (i + 1), .inl ⟨hg', hs'⟩, newFr.1, newFr.2, .inl ⟨i + 1, by omega, rfl, e2⟩⟩
      -- the second one of the pair goes first
      obtain ⟨a, ha0⟩ := Classical.not_forall.1 hx0
      obtain ⟨hax, hLa⟩ := Classical.not_imp.1 ha0
      obtain ⟨oa, ob, X⟩ := qal hax
      have h3 := X.hb
      rw [hi] at h3
      cases h3
      have hlt := X.lt
      have sa := qca (cw := cwOf ops) X.sa
      have hka : k ≤ a := by
       rcases Nat.lt_or_ge a k with h | h
       ·exact absurd ((hw a oa X.ha sa.1 sa.2.1).2 h) hLa
       exact h
      have e1 : hAt H0 tr k = hAt H0 tr a := by
       have := Kv hr (a - k) k (by omega) (fun e o' he h3 h4 => by
        cases h5 : inert (cwOf ops) o'.op with
        | true => exact .inl rfl
        | false => cases h6 : isLoad o'.op with
          | true => exact .inr rfl
          | false =>
            have hb := (X.rest e o' he (by omega) (by omega) (qh9 h5)).2.2
            have := (hw e o' he h5 h6).1 (hready e hb)
            omega)
       rw [show k + (a - k) = a by omega] at this
       exact this.symm
      have e2 : hAt H0 tr i = hAt H0 tr (a + 1) := by
       have := Kv hr (i - (a + 1)) (a + 1) (by omega) (fun e o' he h3 h4 => by
        cases h5 : inert (cwOf ops) o'.op with
        | true => exact .inl rfl
        | false =>
          have hb := (X.rest e o' he (by omega) (by omega) (qh9 h5)).1
          omega)
       rw [show a + 1 + (i - (a + 1)) = i by omega] at this
       exact this
      obtain ⟨⟨honea, _⟩, _⟩ := hr.at a oa (by simpa using X.ha)
      obtain ⟨⟨_, hside⟩, _⟩ := hr.at i o (by simpa using hi)
      have hsep : sepB G ops (fAt ops.toList fr0 tr i) = true := by
       rcases hside with hs0 | ⟨hg0, _⟩
       ·exact hs0.2 X.sb
       exact absurd X.gb hg0
      rcases honea with ⟨_, hsa⟩ | ⟨_, _, _, hga, _⟩
      case inr => rw [X.ga] at hga; cases hga
      have eva := (qnj X.sa).1 hsa
      have evb := (qnj X.sb).1 hs
      rw [e2] at evb
      obtain ⟨ta, pa, va, oea, xea, sta⟩ := qxh X.sa eva
      obtain ⟨tb, pb, vb, oeb, xeb, stb⟩ := qxh X.sb evb
      have hpl : ev G (fAt ops.toList fr0 tr i) pa = ev G (fAt ops.toList fr0 tr a) pa := by
       refine qjy fun t ht => ?_
       have hlook : t ∈ oa.looksAt ops := by
        refine List.mem_append_left _ (List.mem_filterMap.2 ⟨.tmp t, ?_, rfl⟩)
        rw [oea]
        simp [Op.operands, ht]
       obtain ⟨a1, a2⟩ := qec D hr i (by omega)
       obtain ⟨b1, b2⟩ := qec D hr a (by omega)
       by_cases hexj : ∃ (j : Nat) (oj : Oper), ops[j]? = some oj ∧ oj.dst = some t
       ·obtain ⟨j, oj, hj, hd⟩ := hexj
        have hja : j ≠ a := by rintro rfl; rw [X.ha] at hj; cases hj; rw [X.da] at hd; cases hd
        have hji : j ≠ i := by rintro rfl; rw [hi] at hj; cases hj; rw [X.db] at hd; cases hd
        have hjl := X.look j oj t hj hja hji hd hlook
        rw [a1 j oj t hj (by omega) hd, b1 j oj t hj hjl hd]
       have hno : ∀ (j : Nat) (oj : Oper), ops[j]? = some oj → oj.dst ≠ some t := fun j oj hj hd => hexj ⟨j, oj, hj, hd⟩
       rw [a2 t (fun j oj hj _ => hno j oj hj), b2 t (fun j oj hj _ => hno j oj hj)]
      have hne : sepA (ev G (fAt ops.toList fr0 tr a) pa) (ev G (fAt ops.toList fr0 tr i) pb) = true := by
       unfold sepB at hsep
       rw [hax] at hsep
       simp only [X.ha, hi] at hsep
       rw [oea, oeb] at hsep
       simp only [qmw] at hsep
       rw [hpl] at hsep
       exact hsep
      obtain ⟨H', w1, w2⟩ := qqu sta stb hne
      have evb' : evalOp P G (fAt ops.toList fr0 tr i) (hAt H0 tr a) o.op = some (xAt tr i, H') := by
       rw [oeb, xeb]
       simp only [evalOp, w1, Option.map_some]
      have eva' : evalOp P G (fAt ops.toList fr0 tr a) H' oa.op = some (xAt tr a, hAt H0 tr (i + 1)) := by
       rw [oea, xea]
       simp only [evalOp, w2, Option.map_some]
      rw [e1]
      refine ⟨H', .inl ⟨hg', ((qnj X.sb).2 evb').congr evs⟩, newFr.1, newFr.2, .inr ⟨a, i, oa, o, _, hax, X, .inr rfl, fun h => h.elim hLa (fun e => by omega), fun e o' he h3 h4 hei => ?_, rfl, eva'⟩⟩
      refine ⟨fun h => ?_, fun h => .inl ?_⟩
      ·rcases h with h | h
       ·have := (hw e o' he h3 h4).1 h; omega
       exact absurd h hei
      exact hready e (X.rest e o' he (by omega) hei (qh9 h3)).2.2
 have hgs : One P G ops fr (hAt H0 tr k) o (xAt tr i) (hAt H0 tr k) := .inr ⟨j, want, y, hg, (ys j want hg).trans hy, hne, hx, rfl⟩
 cases h1 : inert (cwOf ops) o.op with
 | true => exact ⟨_, hgs, newFr.1, newFr.2, .inl ⟨k, hk, rfl, stay (.inl h1)⟩⟩
 | false => cases h2 : isLoad o.op with
   | true => exact ⟨_, hgs, newFr.1, newFr.2, .inl ⟨k, hk, rfl, stay (.inr h2)⟩⟩
   | false =>
     have hx0 : ∀ a, excOf ops = some (a, i) → L a := by
      intro a hax
      obtain ⟨oa, ob, X⟩ := qal hax
      have h3 := X.hb
      rw [hi] at h3
      cases h3
      rw [X.gb] at hg; cases hg
     obtain ⟨e1, e2⟩ := write hx0 h1 h2
     exact ⟨_, hgs, newFr.1, newFr.2, .inl ⟨i + 1, by omega, by rw [e1, hH], e2⟩⟩
theorem ql4 {p q : Nat → Bool} : ∀ (l : List Nat) (i : Nat), (∀ x, q x = true → p x = true) → i ∈ l → p i = true → q i = false → l.countP q < l.countP p
 | x :: l, i, h, hm, hp, hq => by
   have hle : ∀ l : List Nat, l.countP q ≤ l.countP p := fun l => List.countP_mono_left (fun x _ => h x)
   rw [List.countP_cons, List.countP_cons]
   rcases List.mem_cons.1 hm with rfl | hm'
   ·have := hle l; rw [hp, hq]; simp; omega
   have := ql4 l i h hm' hp hq
   cases hqx : q x with
   | true => rw [h x hqx]; simp only [if_true]; omega
   | false =>
     simp only [Bool.false_eq_true, if_false, Nat.add_zero]
     split <;> omega
theorem q06 {Q : Exit → Act → World → Prop} {F : Nat → Prop} (D : DrawOk ops) (hr : Run P G ops ops.toList fr0 H0 tr) (hd : ops.toList.all (fun o => o.dst.all (· < N)) = true) :
 ∀ (fuel : Nat) (listed : Array Bool) (fr : Fr) (H : Hp) (a : Act) (w : World) (S : Nat → Prop) (β : Nat → Nat), listed.size = ops.size → (List.range ops.size).countP (fun i => listed.getD i true == false) ≤ fuel →
 At P G ops fr0 H0 tr (fun i => listed.getD i false = true) fr H → (∀ (i j : Nat), Bef ops j i → listed.getD i false = true → listed.getD j false = true) → HR G w S F β H → FRx DD w S β H.n N fr a →
 (∀ fr' H' a' w' S' β', (At P G ops fr0 H0 tr (fun i => i < ops.size) fr' H') → Ext w S F β H.n w' S' β' H'.n → HR G w' S' F β' H' → FRx DD w' S' β' H'.n N fr' a' → Q .normal a' w') → wpAny P .any ops Q fuel listed a w := by
 intro fuel
 have lis : ∀ (listed : Array Bool) (i : Nat), listed.size = ops.size → i < ops.size → (listed.getD i true = listed.getD i false) := by
  intro listed i hs hi
  rw [Array.getD_eq_getD_getElem?, Array.getD_eq_getD_getElem?, Array.getElem?_eq_getElem (by omega)]; rfl
 have bef : ∀ (listed : Array Bool) (i : Nat), i ∈ Region.ready .any ops listed → (∀ (i j : Nat), Bef ops j i → listed.getD i false = true → listed.getD j false = true) → ∀ j, Bef ops j i → listed.getD j false = true := by
  intro listed i hrd hcl j hb
  obtain ⟨_, o, ho, hall⟩ := mem_ready.1 hrd
  cases hb with
  | edge _ o' e hi he hbd =>
    rw [ho] at hi; simp only [Option.some.injEq] at hi; subst hi
    exact hall e he hbd
  | more _ _ o' e hi he hbd h =>
    rw [ho] at hi; simp only [Option.some.injEq] at hi; subst hi
    exact hcl _ _ h (hall e he hbd)
 have full : ∀ (listed : Array Bool), listed.size = ops.size → Region.ready .any ops listed = [] → ∀ i, i < ops.size → listed.getD i false = true := by
  intro listed hs hre i
  induction i using Nat.strongRecOn with
  | _ i ih =>
    intro hi
    cases hl : listed.getD i false with
    | true => rfl
    | false =>
      have hmem : i ∈ Region.ready .any ops listed := mem_ready.2 ⟨by rw [lis listed i hs hi]; exact hl, ops[i], Array.getElem?_eq_getElem hi, fun e he hb => by
       have hlt := D.back i ops[i] e (Array.getElem?_eq_getElem hi) he hb
       exact ih e.on hlt (by omega)⟩
      rw [hre] at hmem; cases hmem
 have done : ∀ (listed : Array Bool) (fr : Fr) (H : Hp) (a : Act) (w : World) (S : Nat → Prop) (β : Nat → Nat), listed.size = ops.size → Region.ready .any ops listed = [] → At P G ops fr0 H0 tr (fun i => listed.getD i false = true) fr H → HR G w S F β H → FRx DD w S β H.n N fr a →
  (∀ fr' H' a' w' S' β', (At P G ops fr0 H0 tr (fun i => i < ops.size) fr' H') → Ext w S F β H.n w' S' β' H'.n → HR G w' S' F β' H' → FRx DD w' S' β' H'.n N fr' a' → Q .normal a' w') → Q .normal a w := by
  intro listed fr H a w S β hs hre hA hH hf hq
  have hfull := full listed hs hre
  refine hq fr H a w S β ⟨fun j o d hj hl hd => hA.did j o d hj (hfull j hl) hd, fun t ht => hA.not t (fun j o hj hl => ht j o hj (Array.getElem?_eq_some_iff.1 hj).1), ?_⟩ (.refl ..) hH hf
  rcases hA.heap with ⟨k, hk, e, hw⟩ | ⟨a, b, oa, ob, H2, hex, X, hLb, hLa, _⟩
  ·exact .inl ⟨k, hk, e, fun e o he h1 h2 => ⟨fun _ => (hw e o he h1 h2).1 (hfull e (Array.getElem?_eq_some_iff.1 he).1), fun _ => (Array.getElem?_eq_some_iff.1 he).1⟩⟩
  exact absurd (hfull a (Array.getElem?_eq_some_iff.1 X.ha).1) hLa
 induction fuel with
 | zero =>
   intro listed fr H a w S β hs hc hA hcl hH hf hq
   have hre : Region.ready .any ops listed = [] := by
    cases hre : Region.ready .any ops listed with
    | nil => rfl
    | cons i l =>
      have hm : i ∈ Region.ready .any ops listed := by rw [hre]; exact List.mem_cons_self ..
      obtain ⟨h1, o, ho, _⟩ := mem_ready.1 hm
      have hi := (Array.getElem?_eq_some_iff.1 ho).1
      have : 0 < (List.range ops.size).countP (fun i => listed.getD i true == false) := List.countP_pos_iff.2 ⟨i, List.mem_range.2 hi, by rw [h1]; rfl⟩
      omega
   exact ⟨hre, done listed fr H a w S β hs hre hA hH hf hq⟩
 | succ fuel ih =>
   intro listed fr H a w S β hs hc hA hcl hH hf hq
   refine ⟨fun hre => done listed fr H a w S β hs hre hA hH hf hq, fun i hi => ?_⟩
   obtain ⟨hun, o, ho, hall⟩ := mem_ready.1 hi
   have hisz := (Array.getElem?_eq_some_iff.1 ho).1
   have hunf : listed.getD i false = false := by rw [← lis listed i hs hisz]; exact hun
   obtain ⟨H', hone, hA'⟩ := hA.next D hr hcl ho (by rw [hunf]; simp) (bef listed i hi hcl)
   have hdo : o.dst.all (· < N) = true := List.all_eq_true.1 hd o (by rw [Array.mem_toList_iff]; exact Array.mem_of_getElem? ho)
   have hset : ∀ j, ((listed.setIfInBounds i true).getD j false = true) ↔ (listed.getD j false = true ∨ j = i) := by
    intro j
    by_cases hji : j = i
    ·subst hji
     simp only [or_true, iff_true]
     rw [Array.getD_eq_getD_getElem?, Array.getElem?_setIfInBounds_self_of_lt (by omega)]; rfl
    simp only [hji, or_false]
    rw [getD_set_ne false (Ne.symm hji)]
   have cont : ∀ (fr' : Fr) (a' : Act) (w' : World) (S' : Nat → Prop) (β' : Nat → Nat), fr' = put o.dst (xAt tr i) fr → Ext w S F β H.n w' S' β' H'.n → HR G w' S' F β' H' → FRx DD w' S' β' H'.n N fr' a' → wpAny P .any ops Q fuel (listed.setIfInBounds i true) a' w' := by
    rintro _ a' w' S' β' rfl hx hH' hf'
    refine ih (listed.setIfInBounds i true) _ H' a' w' S' β' (by rw [Array.size_setIfInBounds, hs]) ?_ ?_ ?_ hH' hf' (fun fr2 H2 a2 w2 S2 β2 hA2 hx2 hH2 hf2 => hq fr2 H2 a2 w2 S2 β2 hA2 (hx.trans hx2) hH2 hf2)
    ·have := ql4 (p := fun i => listed.getD i true == false) (q := fun j => (listed.setIfInBounds i true).getD j true == false) (List.range ops.size) i (fun x hx => by
      by_cases hxi : x = i
      ·subst hxi
       rw [Array.getD_eq_getD_getElem?, Array.getElem?_setIfInBounds_self_of_lt (by omega)] at hx
       cases hx
      ·rwa [getD_set_ne true (Ne.symm hxi)] at hx) (List.mem_range.2 hisz) (by rw [hun]; rfl) (by
      rw [Array.getD_eq_getD_getElem?, Array.getElem?_setIfInBounds_self_of_lt (by omega)]; rfl)
     omega
    ·exact ⟨fun j o' d hj hl hd => hA'.did j o' d hj ((hset j).1 hl) hd, fun t ht => hA'.not t (fun j o' hj hl => ht j o' hj ((hset j).2 hl)), by
      rcases hA'.heap with ⟨k, hk, e, hw⟩ | ⟨a, b, oa, ob, H2, hex, X, hLb, hLa, hw, hh, he⟩
      ·exact .inl ⟨k, hk, e, fun e o he h1 h2 => (hset e).trans (hw e o he h1 h2)⟩
      exact .inr ⟨a, b, oa, ob, H2, hex, X, (hset b).2 hLb, fun h => hLa ((hset a).1 h), fun e o he h1 h2 h3 => (hset e).trans (hw e o he h1 h2 h3), hh, he⟩⟩
    intro p q hb hp
    rcases (hset p).1 hp with h | rfl
    ·exact (hset q).2 (.inl (hcl p q hb h))
    exact (hset q).2 (.inl (bef listed _ hi hcl q hb))
   unfold wpOp
   simp only [ho]
   rcases hone with ⟨hg, hs'⟩ | ⟨j, want, y, hg, hy, hne, hx, hHe⟩
   ·have hw : Region.wanted o (yielded ops a.tmps) = true := by
     rcases hg with hg | ⟨j, want, hg, hy⟩
     ·simp [Region.wanted, hg]
     simp [Region.wanted, hg, qie hf hy]
    rw [if_pos hw]
    exact .inl (qmn hH hf hs'.step hdo (fun a' w' S' β' hx hH' hf' => cont _ a' w' S' β' rfl hx hH' hf'))
   have hw : Region.wanted o (yielded ops a.tmps) = false := by
    simp [Region.wanted, hg, qie hf hy, hne]
   rw [if_neg (by rw [hw]; simp)]
   subst hHe
   exact cont _ _ w S β rfl (.refl ..) hH (hf.put hdo (by rw [hx]; exact RV.nothing))
theorem qyi {p id : Nat} {l : List Oper} {Q : Exit → Fr → Hp → Prop} {fr : Fr} {H : Hp} (hm : P.follows .mixedOrders = true) (hd : l.all (fun o => o.dst.all (· < N)) = true) (hok : qj2 l.toArray = true) (h : wpD P G l.toArray l fr H (fun fr' H' => Q .normal fr' H')) :
 AWp P G N p (.region id l.toArray true) Q fr H := by
 intro DD w S F β a hp hH hf
 have D := qps hok
 obtain ⟨tr, hr, hk⟩ := qhz l fr H _ h
 have hr' : Run P G l.toArray l.toArray.toList fr H tr := hr
 obtain ⟨e1, e2⟩ := hr'.end
 have hend : qpq l fr tr = fAt l fr tr l.length ∧ endH H tr = hAt H tr l.length := ⟨e1, e2⟩
 refine wp_region_any hm ?_
 have hx : Ext w S F β H.n { w with drawn := w.drawn + 1 } S β H.n := ⟨rfl, rfl, rfl, Nat.le_refl _, Nat.le_refl _, fun _ _ => rfl, fun _ h => h, fun _ h => .inl h, fun _ _ => rfl, fun _ _ => rfl, fun _ _ h => h⟩
 have hH' : HR G { w with drawn := w.drawn + 1 } S F β H := ⟨hH.lts, hH.ltf, fun g => (hH.glob g).ext hx, hH.ltn, hH.inj, fun i s o hi => (hH.obj i s o hi).to (fun _ _ => RV.ext hx) rfl (fun h => h) (fun h => h) (fun h => h)⟩
 have hrep : ∀ i d, (Array.replicate l.toArray.size false).getD i d = true → d = true := by
  intro i d h
  rw [Array.getD_eq_getD_getElem?] at h
  cases hg : (Array.replicate l.toArray.size false)[i]? with
  | none => rw [hg] at h; exact h
  | some b =>
    rw [hg] at h
    have := Array.mem_of_getElem? hg
    simp at this
    rw [this.2] at h; cases h
 refine q06 (F := F) D hr' hd l.toArray.size _ fr H a _ S β (by simp) (by have := List.countP_le_length (p := fun i => (Array.replicate l.toArray.size false).getD i true == false) (l := List.range l.toArray.size); simpa using this)
  ⟨fun j o d _ hl _ => (Bool.noConfusion (hrep j false hl)), fun t _ => rfl, .inl ⟨0, Nat.zero_le _, rfl, fun e o _ _ _ => ⟨fun hl => (Bool.noConfusion (hrep e false hl)), fun h => by omega⟩⟩⟩
  (fun i j _ hl => (Bool.noConfusion (hrep i false hl))) hH' (hf.ext hx) (fun fr' H' a' w' S' β' hA hx2 hH2 hf2 => ?_)
 obtain ⟨f1, f2⟩ := qec D hr' l.toArray.size (Nat.le_refl _)
 have hfe : fr' = qpq l fr tr := by
  rw [hend.1]
  funext t
  by_cases hex : ∃ (j : Nat) (oj : Oper), l.toArray[j]? = some oj ∧ oj.dst = some t
  ·obtain ⟨j, oj, hj, hdj⟩ := hex
   have hlt := (Array.getElem?_eq_some_iff.1 hj).1
   rw [hA.did j oj t hj hlt hdj]
   exact (f1 j oj t hj hlt hdj).symm
  rw [hA.not t (fun j oj hj _ hdj => hex ⟨j, oj, hj, hdj⟩)]
  exact (f2 t (fun j oj hj _ hdj => hex ⟨j, oj, hj, hdj⟩)).symm
 have hhe : H' = endH H tr := by
  rcases hA.heap with ⟨k, hk2, e, hw⟩ | ⟨a, b, oa, ob, H2, hex, X, hLb, hLa, _⟩
  case inr => exact absurd (Array.getElem?_eq_some_iff.1 X.ha).1 hLa
  rw [e, hend.2]
  have hst := Kv hr' (l.toArray.size - k) k (by omega) (fun e o he h1 h2 => by
   cases h5 : inert (cwOf l.toArray) o.op with
   | true => exact .inl rfl
   | false => cases h6 : isLoad o.op with
     | true => exact .inr rfl
     | false =>
       have := (hw e o he h5 h6).1 (Array.getElem?_eq_some_iff.1 he).1
       omega)
  rw [show k + (l.toArray.size - k) = l.toArray.size by omega] at hst
  exact hst.symm
 subst hfe hhe
 exact ⟨_, _, S', β', hk, (hx.trans hx2).lower hp, Nat.le_trans hp hx2.le, hH2, hf2⟩
end
section
variable {fr : Fr} {H H' : Hp} {ops : Array Oper} {os : List Oper} {o : Oper} {K : Fr → Hp → Prop}
def Y8 (G : Nat → List AV) (all : Array Oper) (fr : Fr) (objs : List (Nat × Obj)) : Op → Bool
 | .call c => !qjg c
 | .load _ a => (qir objs (ev G fr a) || !J5 all) && (isR (ev G fr a) || (!qwr all || !(cwOf all).2))
 | .store _ _ _ => sepB G all fr
 | _ => true
theorem qpr {op : Op} {x : AV} (hs : Y8 G ops fr H.objs op = true) (h : evalOp P G fr H op = some (x, H')) : uc P G (cwOf ops) (J5 ops) fr H op x H' := by
 unfold uc
 split
 ·rename_i c
  split
  ·rename_i f xs hc
   exfalso
   unfold y9 at hc
   split at hc
   ·rename_i fo hfo
    simp [evalOp, Zo, hfo] at h
   cases hc
  exact .inl ⟨by simpa [Y8] using hs, h⟩
 ·simp only [Y8, Bool.and_eq_true, Bool.or_eq_true, Bool.not_eq_true'] at hs
  refine ⟨h, fun e => ?_, fun e => ?_⟩
  ·rcases hs.1 with h1 | h1
   ·exact h1
   rw [e] at h1; cases h1
  rcases hs.2 with h1 | h1 | h1
  ·exact h1
  ·unfold cwOf at e
   cases hb : qcr (true, false) ops with
   | true => rw [hb] at e; cases e
   | false =>
     cases hc : qcr (false, false) ops with
     | true => rw [hb, hc] at e; cases e
     | false => rw [hb, hc, h1] at e; cases e
  rw [e] at h1; cases h1
 exact h
theorem qvg {c : Call} {f : FuncId} {xs : List AV} {x : AV} (hg : o.guard = none) (ho : o.op = .call c) (hc : y9 G fr c = some (f, xs)) (h : Fn P G f xs x) (hk : wpD P G ops os (put o.dst x fr) H K) : wpD P G ops (o :: os) fr H K := by
 unfold wpD
 simp only [hg]
 refine ⟨x, H, ?_, ⟨fun _ _ => qbi _ _ _, fun h => by rw [ho] at h; cases h⟩, hk⟩
 rw [ho]
 unfold uc
 simp only [hc]
 cases (cwOf ops).1 with
 | true => exact h.calls H
 | false => exact ⟨h, trivial⟩
theorem qt0 {c : Call} {f : FuncId} {xs : List AV} {x : AV} (hg : o.guard = none) (ho : o.op = .call c) (hc : y9 G fr c = some (f, xs)) (h : ACalls P G f xs H x H') (hw : (cwOf ops).1 = true) (hkp : qhe G ops.toList fr H H') (hk : wpD P G ops os (put o.dst x fr) H' K) : wpD P G ops (o :: os) fr H K := by
 unfold wpD
 simp only [hg]
 refine ⟨x, H', ?_, ⟨fun _ _ => hkp, fun h => by rw [ho] at h; cases h⟩, hk⟩
 rw [ho]
 unfold uc
 simp only [hc, hw]
 exact h
theorem qvf {c : Call} {x : AV} (hg : o.guard = none) (ho : o.op = .call c) (h : Q2 P G fr c = some x) (hk : wpD P G ops os (put o.dst x fr) H K) : wpD P G ops (o :: os) fr H K := by
 unfold wpD
 simp only [hg]
 refine ⟨x, H, ?_, ⟨fun _ _ => qbi _ _ _, fun h => by rw [ho] at h; cases h⟩, hk⟩
 rw [ho]
 unfold uc
 have hc : y9 G fr c = none := by
  unfold Q2 at h
  unfold y9
  split at h
  ·rename_i hb _ _
   rw [hb]
  cases h
 simp only [hc]
 exact .inr ⟨h, trivial⟩
theorem q0e {x : AV} (hg : o.guard = none) (hs : Y8 G ops fr H.objs o.op = true) (h : evalOp P G fr H o.op = some (x, H')) (hk : wpD P G ops os (put o.dst x fr) H' K) : wpD P G ops (o :: os) fr H K := by
 unfold wpD
 simp only [hg]
 refine ⟨x, H', qpr hs h, ⟨fun hv _ => ?_, fun hv => ?_⟩, hk⟩
 case refine_2 =>
  revert hs hv
  cases o.op <;> simp only [isStore] <;> first | (intro _ hv; cases hv; done) | (intro hs _; exact hs)
 exfalso
 revert hv h
 cases o.op <;> simp only [isVal] <;> first | (intro h hv; cases hv; done) | skip
 case call c =>
  intro h hv
  split at hv
  ·rename_i hb
   simp [evalOp, Zo, hb] at h
  cases hv
theorem qqj {t j : Nat} {want : Bool} (hg : o.guard = some (j, want)) (ht : (ops[j]?).bind (·.dst) = some t) (hb : fr t = .tup []) (h : wpD P G ops os (put o.dst (.tup []) fr) H K) : wpD P G ops (o :: os) fr H K := by
 unfold wpD
 simp only [hg]
 exact ⟨none, qif ht hb, (fun h => by cases h), fun _ => h⟩
theorem qn7 {t j : Nat} {want : Bool} (hg : o.guard = some (j, want)) (ht : (ops[j]?).bind (·.dst) = some t) (hb : fr t = .bool want) (h : wpD P G ops (Oper.free o :: os) fr H K) : wpD P G ops (o :: os) fr H K := by
 unfold wpD at *
 simp only [hg]
 simp only [Oper.free] at h
 exact ⟨some want, W6 ht hb, fun _ => h, fun h => absurd rfl h⟩
theorem qqi {t j : Nat} (hg : o.guard = some (j, true)) (ht : (ops[j]?).bind (·.dst) = some t) (hb : fr t = .bool false) (h : wpD P G ops os (put o.dst (.tup []) fr) H K) : wpD P G ops (o :: os) fr H K := by
 unfold wpD
 simp only [hg]
 exact ⟨some false, W6 ht hb, (fun h => by cases h), fun _ => h⟩
theorem qqk {t j : Nat} (hg : o.guard = some (j, false)) (ht : (ops[j]?).bind (·.dst) = some t) (hb : fr t = .bool true) (h : wpD P G ops os (put o.dst (.tup []) fr) H K) : wpD P G ops (o :: os) fr H K := by
 unfold wpD
 simp only [hg]
 exact ⟨some true, W6 ht hb, (fun h => by cases h), fun _ => h⟩
theorem qn5 {t j : Nat} {b : Bool} (hg : o.guard = some (j, true)) (ht : (ops[j]?).bind (·.dst) = some t) (hb : fr t = .bool b) (hy : b = true → wpD P G ops (Oper.free o :: os) fr H K) (hn : b = false → wpD P G ops os (put o.dst (.tup []) fr) H K) : wpD P G ops (o :: os) fr H K := by
 cases b
 ·exact qqi hg ht hb (hn rfl)
 exact qn7 hg ht hb (hy rfl)
theorem qn6 {t j : Nat} {b : Bool} (hg : o.guard = some (j, false)) (ht : (ops[j]?).bind (·.dst) = some t) (hb : fr t = .bool b) (hy : b = false → wpD P G ops (Oper.free o :: os) fr H K) (hn : b = true → wpD P G ops os (put o.dst (.tup []) fr) H K) : wpD P G ops (o :: os) fr H K := by
 cases b
 ·exact qn7 hg ht hb (hy rfl)
 exact qqk hg ht hb (hn rfl)
section
variable {d : Option Tmp} {op : Op} {ty : TypeId} {pos : String} {aft : Array Edge}
end
end
end Go.Proofs.YtigmilhpeodhbaaDoorW.Ex
