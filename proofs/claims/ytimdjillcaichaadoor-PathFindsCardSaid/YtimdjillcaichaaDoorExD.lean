/- A symbolic executor for the machine's code: regions that draw their order: if the text's order goes, each order goes, and comes to the same. General over the program; the condition on the region is a decidable test ('drawOk'). -/
import Derived.Test.YtimdjillcaichaaDoorEx9
namespace Go.Proofs.YtimdjillcaichaaDoorW.Ex
set_option linter.all false
open Go
variable {G : Nat → List AV} {P : Program} {N : Nat}

/-- An append to nil: told as a copy that never changes again, wherever it stands in the order. -/
def isCopyO : Operand → Bool
  | .const (.slice _ _ _) => true
  | _ => false
def isCopy (c : Call) : Bool := match c.callee with
  | .builtin .append => (match c.args[0]? with | some a => isCopyO a | none => false)
  | _ => false
/-- A place that no append changes: a variable, or what never changes again. -/
def steady (objs : List (Nat × Obj)) : AV → Bool
  | .rptr _ => true
  | .ptr id s _ => match objs[id]? with
    | some (s', .var _ _) => Nat.beq s' s
    | _ => false
  | _ => false
def DStep (P : Program) (G : Nat → List AV) (st : Bool) (fr : Fr) (H : Hp) (op : Op) (x : AV) (H' : Hp) : Prop :=
  match op with
  | .call c => match calleeAV G fr c with
    | some (f, xs) => Fn P G f xs x ∧ H' = H
    | none => (isCopy c = false ∧ callAV P G fr H c = some (x, H')) ∨ (copyCall P G fr c = some x ∧ H' = H)
  | .load t a => evalOp P G fr H (.load t a) = some (x, H') ∧ (st = true → steady H.objs (ev G fr a) = true)
  | op => evalOp P G fr H op = some (x, H')
theorem DStep.step {st : Bool} {fr : Fr} {H H' : Hp} {op : Op} {x : AV} (h : DStep P G st fr H op x H') : AStep P G fr H op x H' := by
  unfold DStep at h
  unfold AStep
  split at h
  · rename_i c
    simp only
    split at h
    · rename_i f xs hc
      obtain ⟨h1, rfl⟩ := h
      simp only [hc]
      exact h1.calls _
    · rename_i hc
      simp only [hc]
      exact h.imp (fun h => h.2) id
  · exact h.1
  · rename_i hne _
    split
    · exfalso
      first | exact hne _ rfl | exact absurd rfl (hne _) | simp_all
    · exact h

/-! ### What an operation looks at -/
theorem ev_congr {fr fr' : Fr} {x : Operand} (h : ∀ t, x = .tmp t → fr t = fr' t) : ev G fr x = ev G fr' x := by
  cases x with
  | tmp t => exact h t rfl
  | _ => rfl
theorem DStep.congr {st : Bool} {fr fr' : Fr} {H H' : Hp} {op : Op} {x : AV} (he : ∀ y ∈ op.operands, ev G fr y = ev G fr' y) (h : DStep P G st fr H op x H') : DStep P G st fr' H op x H' := by
  have pairs : ∀ ps : Array (Nat × Operand), (∀ y ∈ (ps.toList.map (·.2)).toArray, ev G fr y = ev G fr' y) → (ps.toList.map fun p => (p.1, ev G fr p.2)) = (ps.toList.map fun p => (p.1, ev G fr' p.2)) := fun ps hp =>
    List.map_congr_left fun p hm => by rw [hp p.2 (by simp only [List.mem_toArray, List.mem_map]; exact ⟨p, hm, rfl⟩)]
  have lists : ∀ xs : Array Operand, (∀ y ∈ xs, ev G fr y = ev G fr' y) → xs.toList.map (ev G fr) = xs.toList.map (ev G fr') := fun xs hp =>
    List.map_congr_left fun p hm => hp p (by simpa using hm)
  cases op <;> simp only [Op.operands] at he <;> simp only [DStep, evalOp] at h ⊢
  case build t ps => rw [← pairs ps he]; exact h
  case buildSlice t n ps => rw [← pairs ps he]; exact h
  case makeFunc fn first caps => rw [← lists caps (fun y hy => he y (by simp [hy]))]; exact h
  case slice t x lo hi mx =>
    have h1 : lo.map (ev G fr') = lo.map (ev G fr) := by cases lo <;> simp_all
    have h2 : hi.map (ev G fr') = hi.map (ev G fr) := by cases hi <;> simp_all
    have h3 : mx.map (ev G fr') = mx.map (ev G fr) := by cases mx <;> simp_all
    rw [h1, h2, h3, ← he x (by simp)]; exact h
  case call c =>
    have ha := lists c.args (fun y hy => he y (by simp [Call.operands, hy]))
    have hc : calleeAV G fr' c = calleeAV G fr c := by
      unfold calleeAV
      rw [ha]
      split
      · rename_i f hf
        rw [← he f (by simp [Call.operands, hf])]
      · rfl
    rw [hc]
    have hcl : callAV P G fr' H c = callAV P G fr H c := by unfold callAV; rw [ha]
    have hcp : copyCall P G fr' c = copyCall P G fr c := by unfold copyCall; rw [ha]
    rw [hcl, hcp]
    exact h
  all_goals (first | exact h | (simp_all; done))

def inert : Op → Bool
  | .alloc _ | .box _ _ | .store _ _ _ | .load _ _ => false
  | .call c => match c.callee with | .builtin .len => true | .builtin .max => true | .builtin .min => true | .value _ => true | .builtin .append => (match c.args[0]? with | some a => isCopyO a | none => false) | _ => false
  | _ => true
/-- Append to what is not nil. -/
def isApp : Op → Bool
  | .call c => match c.callee with | .builtin .append => !isCopy c | _ => false
  | _ => false
def strict (ops : Array Oper) : Bool := ops.any fun o => isApp o.op
def isLoad : Op → Bool | .load _ _ => true | _ => false
def isPush : Op → Bool | .alloc _ | .box _ _ => true | _ => false

theorem map_pair {z : Option AV} {H H' : Hp} {x : AV} (h : z.map (·, H) = some (x, H')) : H' = H ∧ ∀ H2 : Hp, z.map (·, H2) = some (x, H2) := by
  cases z with
  | none => cases h
  | some z => simp at h; obtain ⟨rfl, rfl⟩ := h; exact ⟨rfl, fun _ => rfl⟩

theorem DStep.inert {st : Bool} {fr : Fr} {H H' : Hp} {op : Op} {x : AV} (hi : inert op = true) (h : DStep P G st fr H op x H') : H' = H ∧ ∀ H2, DStep P G st fr H2 op x H2 := by
  cases op <;> simp only [Ex.inert] at hi <;> first
    | (cases hi; done)
    | (simp only [DStep, evalOp] at h ⊢; exact map_pair h)
    | (simp only [DStep, evalOp] at h ⊢; cases h; done)
    | (simp only [DStep, evalOp, Option.some.injEq, Prod.mk.injEq] at h
       obtain ⟨rfl, rfl⟩ := h
       exact ⟨rfl, fun _ => rfl⟩)
    | skip
  case pick c a b =>
    simp only [DStep, evalOp] at h ⊢
    split at h
    · simp only [Option.some.injEq, Prod.mk.injEq] at h
      obtain ⟨rfl, rfl⟩ := h
      exact ⟨rfl, fun _ => rfl⟩
    · cases h
  case makeInterface t a =>
    simp only [DStep, evalOp] at h ⊢
    split at h
    · rename_i ht
      simp only [Option.some.injEq, Prod.mk.injEq] at h
      obtain ⟨rfl, rfl⟩ := h
      exact ⟨rfl, fun _ => by rw [if_pos ht]⟩
    · cases h
  case makeFunc fn first caps =>
    simp only [DStep, evalOp] at h ⊢
    split at h
    · simp only [Option.some.injEq, Prod.mk.injEq] at h
      obtain ⟨rfl, rfl⟩ := h
      exact ⟨rfl, fun _ => rfl⟩
    · cases h
  case call c =>
    simp only [DStep] at h ⊢
    split at h
    · rename_i f xs hc
      obtain ⟨h1, rfl⟩ := h
      exact ⟨rfl, fun H2 => ⟨h1, trivial⟩⟩
    · rename_i hc
      rcases h with ⟨hcp, h⟩ | ⟨h, rfl⟩
      case inr => exact ⟨rfl, fun H2 => .inr ⟨h, trivial⟩⟩
      unfold callAV at h
      split at h
      · rename_i b hb
        rw [hb] at hi
        unfold builtinAV at h
        split at h
        · rename_i he2 he3
          obtain ⟨e, hm⟩ := map_pair h
          refine ⟨e, fun H2 => .inl ⟨hcp, ?_⟩⟩
          simp only [callAV, hb, builtinAV, he2, he3]
          exact hm H2
        · unfold isCopy at hcp
          rw [hb] at hcp
          simp only at hi hcp
          rw [hcp] at hi; cases hi
        · rename_i he2
          split at h
          · rename_i hk
            simp only [Option.some.injEq, Prod.mk.injEq] at h
            obtain ⟨rfl, rfl⟩ := h
            refine ⟨rfl, fun H2 => .inl ⟨hcp, ?_⟩⟩
            simp only [callAV, hb, builtinAV, he2, hk, if_true]
          · cases h
        · rename_i he2
          split at h
          · rename_i hk
            simp only [Option.some.injEq, Prod.mk.injEq] at h
            obtain ⟨rfl, rfl⟩ := h
            refine ⟨rfl, fun H2 => .inl ⟨hcp, ?_⟩⟩
            simp only [callAV, hb, builtinAV, he2, hk, if_true]
          · cases h
        · cases h
      · cases h

/-- All that was told of the one is told of the other. -/
def Grows (H H2 : Hp) : Prop := ∀ (i : Nat) (y : Nat × Obj), H.objs[i]? = some y → H2.objs[i]? = some y
theorem Grows.push (H : Hp) (o : Obj) : Grows H (H.push o) := by
  intro i y h
  have := (List.getElem?_eq_some_iff.1 h).1
  simp only [Hp.push]
  rw [List.getElem?_append_left this, h]
theorem DStep.push {st : Bool} {fr : Fr} {H H' : Hp} {op : Op} {x : AV} (hi : isPush op = true) (h : DStep P G st fr H op x H') : Grows H H' := by
  cases op <;> simp only [isPush] at hi <;> first | (cases hi; done) | skip
  case alloc e =>
    simp only [DStep, evalOp] at h
    split at h
    · split at h
      · simp only [Option.some.injEq, Prod.mk.injEq] at h
        rw [← h.2]; exact .push _ _
      · cases h
    · cases h
  case box e v =>
    simp only [DStep, evalOp, Option.map_eq_some_iff, Prod.mk.injEq] at h
    obtain ⟨cs, _, _, rfl⟩ := h
    exact .push _ _
/-- The variables of the one are those of the other. -/
def SameV (H H2 : Hp) : Prop := ∀ (i s' : Nat) (t : TypeId) (cs : List AV), H.objs[i]? = some (s', .var t cs) → H2.objs[i]? = some (s', .var t cs)
theorem SameV.refl (H : Hp) : SameV H H := fun _ _ _ _ h => h
theorem SameV.trans {H H1 H2 : Hp} (h : SameV H H1) (k : SameV H1 H2) : SameV H H2 := fun i s t cs hi => k i s t cs (h i s t cs hi)
theorem Grows.sameV {H H2 : Hp} (h : Grows H H2) : SameV H H2 := fun i s t cs hi => h i _ hi
theorem append_sameV {H H' : Hp} {t t1 : TypeId} {s x z : AV} (h : appendAV P H t t1 s x = some (z, H')) : SameV H H' ∧ SameV H' H := by
  unfold appendAV at h
  split at h
  · split at h
    · split at h
      · split at h
        · split at h
          · split at h
            · split at h
              · simp only [Option.some.injEq, Prod.mk.injEq] at h
                obtain ⟨_, rfl⟩ := h
                exact ⟨.refl _, .refl _⟩
              · split at h
                · simp only [Option.some.injEq, Prod.mk.injEq] at h
                  obtain ⟨_, rfl⟩ := h
                  refine ⟨(Grows.push _ _).sameV, fun i s t cs hi => ?_⟩
                  simp only [Hp.push] at hi
                  rw [List.getElem?_append] at hi
                  split at hi
                  · exact hi
                  · rename_i hge
                    cases hq : i - H.objs.length with
                    | zero => rw [hq] at hi; simp at hi
                    | succ q => rw [hq] at hi; simp at hi
                · cases h
            · cases h
          · split at h
            · split at h
              · rename_i hobj
                split at h
                · simp only [Option.some.injEq, Prod.mk.injEq] at h
                  obtain ⟨_, rfl⟩ := h
                  refine ⟨fun i s t cs hi => ?_, fun i s t cs hi => ?_⟩
                  · rw [List.getElem?_set]
                    split
                    · rename_i e; subst e; rw [hobj] at hi; simp at hi
                    · exact hi
                  · simp only at hi
                    rw [List.getElem?_set] at hi
                    split at hi
                    · split at hi
                      · simp at hi
                      · cases hi
                    · exact hi
                · cases h
              · cases h
            · cases h
          · cases h
        · cases h
      · cases h
    · cases h
  · cases h
theorem DStep.app {st : Bool} {fr : Fr} {H H' : Hp} {op : Op} {x : AV} (hi : isApp op = true) (h : DStep P G st fr H op x H') : SameV H H' ∧ SameV H' H := by
  cases op <;> simp only [isApp] at hi <;> first | (cases hi; done) | skip
  case call c =>
    split at hi
    · rename_i hb
      simp only [DStep] at h
      have hc : calleeAV G fr c = none := by unfold calleeAV; rw [hb]
      simp only [hc] at h
      rcases h with ⟨_, h⟩ | ⟨_, rfl⟩
      · unfold callAV at h
        rw [hb] at h
        simp only at h
        unfold builtinAV at h
        split at h <;> first | exact append_sameV h | (cases h; done) | contradiction | (simp_all; done)
      · exact ⟨.refl _, .refl _⟩
    · cases hi
theorem DStep.load {st : Bool} {fr : Fr} {H H' : Hp} {op : Op} {x : AV} (hi : isLoad op = true) (h : DStep P G st fr H op x H') : H' = H ∧ ∀ H2, (Grows H H2 ∨ (st = true ∧ SameV H H2)) → DStep P G st fr H2 op x H2 := by
  cases op <;> simp only [isLoad] at hi <;> first | (cases hi; done) | skip
  case load t a =>
    simp only [DStep, evalOp] at h ⊢
    obtain ⟨h, hst⟩ := h
    split at h
    · rename_i cs hcs
      obtain ⟨e, hm⟩ := map_pair h
      refine ⟨e, fun H2 hg => ?_⟩
      have hg1 : st = true → SameV H H2 := fun e => hg.elim (fun g => g.sameV) (fun g => g.2)
      have stead : st = true → steady H2.objs (ev G fr a) = true := fun e => by
        have := hst e
        unfold steady at this ⊢
        split
        · rfl
        · rename_i id s off he
          rw [he] at this
          simp only at this
          split at this
          · rename_i s' t' cs' ho
            rw [hg1 e _ _ _ _ ho]
            exact this
          · cases this
        · rename_i h1 h2
          split at this
          · rename_i he; exact absurd he (h1 _)
          · rename_i he; exact absurd he (h2 _ _ _)
          · cases this
      have : cellsAt H2 (ev G fr a) = some cs := by
        unfold cellsAt at hcs ⊢
        split
        · rename_i he; rw [he] at hcs; exact hcs
        · rename_i id s off he
          rw [he] at hcs
          simp only at hcs
          cases ho : H.objs[id]? with
          | none => simp [ho] at hcs
          | some y =>
            have : H2.objs[id]? = some y := by
              rcases hg with g | ⟨e, g⟩
              · exact g _ _ ho
              · have h3 := hst e
                rw [he] at h3
                unfold steady at h3
                simp only [ho] at h3
                split at h3
                · rename_i e2
                  injection e2 with e2
                  subst e2
                  exact g _ _ _ _ ho
                · cases h3
            rw [this]; rw [ho] at hcs; exact hcs
        · rename_i h1 h2
          split at hcs
          · rename_i he; exact absurd he (h1 _)
          · rename_i he; exact absurd he (h2 _ _ _)
          · exact hcs
      rw [this]
      exact ⟨hm H2, stead⟩
    · cases h

/-! ### The test -/
def masks (ops : Array Oper) : List Nat → List Oper → List Nat
  | ms, [] => ms
  | ms, o :: os => masks ops (ms ++ [o.after.toList.foldl (fun m e => if Region.binds .any e then m ||| (1 <<< e.on) ||| ms.getD e.on 0 else m) 0]) os
def after (ms : List Nat) (j i : Nat) : Bool := (ms.getD i 0).testBit j
def drawOk (ops : Array Oper) : Bool :=
  let ms := masks ops [] ops.toList
  Region.noSelect ops && (List.range ops.size).all fun i => match ops[i]? with
    | none => false
    | some oi => oi.after.toList.all (fun e => !Region.binds .any e || decide (e.on < i)) && (List.range ops.size).all fun j => j == i || match ops[j]? with
      | none => false
      | some oj => (oi.dst != oj.dst || oi.dst == none) && ((match oj.dst with | none => true | some d => !(oi.looksAt ops).contains d) || after ms j i || after ms i j) &&
        (inert oj.op || isLoad oj.op || inert oi.op || (isLoad oi.op && isApp oj.op) || (if j < i then after ms j i else (after ms i j || (isLoad oi.op && isPush oj.op))))

/-- j stands before i, over edges that bind. -/
inductive Bef (ops : Array Oper) : Nat → Nat → Prop
  | edge (i : Nat) (o : Oper) (e : Edge) (hi : ops[i]? = some o) (he : e ∈ o.after) (hb : Region.binds .any e = true) : Bef ops e.on i
  | more (i j : Nat) (o : Oper) (e : Edge) (hi : ops[i]? = some o) (he : e ∈ o.after) (hb : Region.binds .any e = true) (h : Bef ops j e.on) : Bef ops j i

theorem foldl_mask (ops : Array Oper) (i : Nat) (o : Oper) (hi : ops[i]? = some o) (ms : List Nat) (hms : ∀ k j : Nat, (ms.getD k 0).testBit j = true → Bef ops j k) : ∀ (es : List Edge) (m : Nat), (∀ e ∈ es, e ∈ o.after) → (∀ j, m.testBit j = true → Bef ops j i) →
    ∀ j, (es.foldl (fun m e => if Region.binds .any e then m ||| (1 <<< e.on) ||| ms.getD e.on 0 else m) m).testBit j = true → Bef ops j i
  | [], m, _, hm, j, h => hm j h
  | e :: es, m, hes, hm, j, h => by
    refine foldl_mask ops i o hi ms hms es _ (fun e he => hes e (List.mem_cons_of_mem _ he)) (fun j hj => ?_) j h
    simp only at hj
    split at hj
    · rename_i hb
      simp only [Nat.testBit_or, Bool.or_eq_true] at hj
      rcases hj with (hj | hj) | hj
      · exact hm j hj
      · rw [Nat.one_shiftLeft, Nat.testBit_two_pow] at hj
        have := of_decide_eq_true hj
        subst this
        exact .edge i o e hi (hes e (List.mem_cons_self ..)) hb
      · exact .more i j o e hi (hes e (List.mem_cons_self ..)) hb (hms _ _ hj)
    · exact hm j hj

theorem masks_ok (ops : Array Oper) : ∀ (os : List Oper) (ms : List Nat), (∀ k, os[k]? = ops[ms.length + k]?) → (∀ k j : Nat, (ms.getD k 0).testBit j = true → Bef ops j k) → ∀ k j : Nat, ((masks ops ms os).getD k 0).testBit j = true → Bef ops j k
  | [], ms, _, h => h
  | o :: os, ms, ho, h => by
    have hi : ops[ms.length]? = some o := by have := ho 0; simpa using this.symm
    refine masks_ok ops os _ (fun k => by have := ho (k + 1); simp only [List.getElem?_cons_succ] at this; rw [this, List.length_append]; congr 1; simp; omega) (fun k j hj => ?_)
    rw [List.getD_eq_getElem?_getD, List.getElem?_append] at hj
    split at hj
    · rw [← List.getD_eq_getElem?_getD] at hj; exact h k j hj
    · rename_i hk
      cases hd : k - ms.length with
      | zero =>
        rw [hd] at hj
        simp only [List.getElem?_cons_zero, Option.getD_some] at hj
        have : k = ms.length := by omega
        rw [this]
        exact foldl_mask ops ms.length o hi ms h _ 0 (fun e he => by simpa using he) (fun j hj => by simp at hj) j hj
      | succ q => rw [hd] at hj; simp at hj
theorem after_ok {ops : Array Oper} {j i : Nat} (h : after (masks ops [] ops.toList) j i = true) : Bef ops j i :=
  masks_ok ops ops.toList [] (fun k => by simp) (fun k j hj => by simp at hj) i j h

/-! ### The text's order -/
def wpD (P : Program) (G : Nat → List AV) (ops : Array Oper) : List Oper → Fr → Hp → (Fr → Hp → Prop) → Prop
  | [], fr, H, K => K fr H
  | o :: os, fr, H, K => match o.guard with
    | none => ∃ x H', DStep P G (strict ops) fr H o.op x H' ∧ wpD P G ops os (put o.dst x fr) H' K
    | some (j, want) => ∃ b, yieldAV ops fr j = some b ∧ (b = some want → ∃ x H', DStep P G (strict ops) fr H o.op x H' ∧ wpD P G ops os (put o.dst x fr) H' K) ∧ (b ≠ some want → wpD P G ops os (put o.dst (.tup []) fr) H K)

/-- One operation of the region, wanted or not. -/
def One (P : Program) (G : Nat → List AV) (ops : Array Oper) (fr : Fr) (H : Hp) (o : Oper) (x : AV) (H' : Hp) : Prop :=
  ((o.guard = none ∨ ∃ j want, o.guard = some (j, want) ∧ yieldAV ops fr j = some (some want)) ∧ DStep P G (strict ops) fr H o.op x H') ∨
  (∃ j want y, o.guard = some (j, want) ∧ yieldAV ops fr j = some y ∧ y ≠ some want ∧ x = .tup [] ∧ H' = H)

/-- A run in the text's order: the values and the heaps. -/
def Run (P : Program) (G : Nat → List AV) (ops : Array Oper) : List Oper → Fr → Hp → List (AV × Hp) → Prop
  | [], _, _, tr => tr = []
  | o :: os, fr, H, tr => ∃ x H' tr', tr = (x, H') :: tr' ∧ One P G ops fr H o x H' ∧ Run P G ops os (put o.dst x fr) H' tr'
def endFr : List Oper → Fr → List (AV × Hp) → Fr
  | o :: os, fr, (x, _) :: tr => endFr os (put o.dst x fr) tr
  | _, fr, _ => fr
def endH : Hp → List (AV × Hp) → Hp
  | H, [] => H
  | _, (_, H') :: tr => endH H' tr

theorem wpD_run {ops : Array Oper} : ∀ (os : List Oper) (fr : Fr) (H : Hp) (K : Fr → Hp → Prop), wpD P G ops os fr H K → ∃ tr, Run P G ops os fr H tr ∧ K (endFr os fr tr) (endH H tr)
  | [], fr, H, K, h => ⟨[], rfl, h⟩
  | o :: os, fr, H, K, h => by
    unfold wpD at h
    split at h
    · rename_i hg
      obtain ⟨x, H', hs, hr⟩ := h
      obtain ⟨tr, h1, h2⟩ := wpD_run os _ _ _ hr
      exact ⟨(x, H') :: tr, ⟨x, H', tr, rfl, .inl ⟨.inl hg, hs⟩, h1⟩, h2⟩
    · rename_i j want hg
      obtain ⟨b, hb, hy, hn⟩ := h
      by_cases hbw : b = some want
      · subst hbw
        obtain ⟨x, H', hs, hr⟩ := hy rfl
        obtain ⟨tr, h1, h2⟩ := wpD_run os _ _ _ hr
        exact ⟨(x, H') :: tr, ⟨x, H', tr, rfl, .inl ⟨.inr ⟨j, want, hg, hb⟩, hs⟩, h1⟩, h2⟩
      · obtain ⟨tr, h1, h2⟩ := wpD_run os _ _ _ (hn hbw)
        exact ⟨(.tup [], H) :: tr, ⟨.tup [], H, tr, rfl, .inr ⟨j, want, b, hg, hb, hbw, rfl, rfl⟩, h1⟩, h2⟩

/-- The heap ahead of operation i. -/
def hAt (H : Hp) (tr : List (AV × Hp)) : Nat → Hp
  | 0 => H
  | i + 1 => (tr[i]?).elim H (·.2)
def xAt (tr : List (AV × Hp)) (i : Nat) : AV := (tr[i]?).elim .undef (·.1)
/-- The frame ahead of operation i. -/
def fAt : List Oper → Fr → List (AV × Hp) → Nat → Fr
  | _, fr, _, 0 => fr
  | o :: os, fr, (x, _) :: tr, i + 1 => fAt os (put o.dst x fr) tr i
  | _, fr, _, _ + 1 => fr

theorem Run.len {ops : Array Oper} : ∀ {os : List Oper} {fr : Fr} {H : Hp} {tr : List (AV × Hp)}, Run P G ops os fr H tr → tr.length = os.length
  | [], _, _, _, h => by rw [h]; rfl
  | _ :: _, _, _, _, ⟨_, _, _, e, _, h⟩ => by rw [e, List.length_cons, List.length_cons, h.len]
theorem Run.at {ops : Array Oper} : ∀ {os : List Oper} {fr : Fr} {H : Hp} {tr : List (AV × Hp)}, Run P G ops os fr H tr → ∀ (i : Nat) (o : Oper), os[i]? = some o → One P G ops (fAt os fr tr i) (hAt H tr i) o (xAt tr i) (hAt H tr (i + 1)) ∧ fAt os fr tr (i + 1) = put o.dst (xAt tr i) (fAt os fr tr i)
  | [], _, _, _, _, i, o, ho => by simp at ho
  | o :: os, fr, H, _, ⟨x, H', tr, rfl, h1, h2⟩, 0, o', ho => by
    simp only [List.getElem?_cons_zero, Option.some.injEq] at ho
    subst ho
    exact ⟨h1, by simp only [fAt, xAt, List.getElem?_cons_zero, Option.elim_some]⟩
  | o :: os, fr, H, _, ⟨x, H', tr, rfl, h1, h2⟩, i + 1, o', ho => by
    simp only [List.getElem?_cons_succ] at ho
    obtain ⟨a1, a2⟩ := h2.at i o' ho
    refine ⟨?_, ?_⟩
    · have e1 : hAt H ((x, H') :: tr) (i + 1) = hAt H' tr i := by cases i with
        | zero => rfl
        | succ i =>
          simp only [hAt, List.getElem?_cons_succ]
          have hl := h2.len
          have hlt := (List.getElem?_eq_some_iff.1 ho).1
          rw [List.getElem?_eq_getElem (by omega)]; rfl
      have e2 : hAt H ((x, H') :: tr) (i + 1 + 1) = hAt H' tr (i + 1) := by
        simp only [hAt, List.getElem?_cons_succ]
        have hl := h2.len
        have hlt := (List.getElem?_eq_some_iff.1 ho).1
        rw [List.getElem?_eq_getElem (by omega)]; rfl
      rw [e1, e2]
      exact a1
    · exact a2
theorem Run.end {ops : Array Oper} : ∀ {os : List Oper} {fr : Fr} {H : Hp} {tr : List (AV × Hp)}, Run P G ops os fr H tr → endFr os fr tr = fAt os fr tr os.length ∧ endH H tr = hAt H tr os.length
  | [], _, _, _, h => by rw [h]; exact ⟨rfl, rfl⟩
  | o :: os, fr, H, _, ⟨x, H', tr, rfl, h1, h2⟩ => by
    obtain ⟨a1, a2⟩ := h2.end
    refine ⟨a1, ?_⟩
    show endH H' tr = _
    rw [a2]
    cases hos : os.length with
    | zero => rw [List.length_cons, hos]; rfl
    | succ q =>
      have hl := h2.len
      simp only [List.length_cons, hos, hAt, List.getElem?_cons_succ]
      rw [List.getElem?_eq_getElem (by omega)]; rfl

/-! ### Each order -/
section
variable {ops : Array Oper} {fr0 : Fr} {H0 : Hp} {tr : List (AV × Hp)}

theorem Bef.lt (hb : ∀ (i : Nat) (o : Oper) (e : Edge), ops[i]? = some o → e ∈ o.after → Region.binds .any e = true → e.on < i) {j i : Nat} (h : Bef ops j i) : j < i := by
  induction h with
  | edge i o e hi he hbd => exact hb i o e hi he hbd
  | more i j o e hi he hbd _ ih => exact Nat.lt_trans ih (hb i o e hi he hbd)

/-- What the test gives. -/
structure DrawOk (ops : Array Oper) : Prop where
  sel : Region.noSelect ops = true
  back : ∀ (i : Nat) (o : Oper) (e : Edge), ops[i]? = some o → e ∈ o.after → Region.binds .any e = true → e.on < i
  dst : ∀ (i j : Nat) (oi oj : Oper) (d : Tmp), ops[i]? = some oi → ops[j]? = some oj → i ≠ j → oi.dst = some d → oj.dst ≠ some d
  reads : ∀ (i j : Nat) (oi oj : Oper) (d : Tmp), ops[i]? = some oi → ops[j]? = some oj → i ≠ j → oj.dst = some d → d ∈ oi.looksAt ops → Bef ops j i ∨ Bef ops i j
  heap : ∀ (i j : Nat) (oi oj : Oper), ops[i]? = some oi → ops[j]? = some oj → i ≠ j → inert oj.op = false → isLoad oj.op = false → inert oi.op = false → (j < i → Bef ops j i ∨ (isLoad oi.op = true ∧ isApp oj.op = true)) ∧ (i < j → Bef ops i j ∨ (isLoad oi.op = true ∧ (isPush oj.op = true ∨ isApp oj.op = true)))

theorem drawOk_spec (h : drawOk ops = true) : DrawOk ops := by
  unfold drawOk at h
  simp only [Bool.and_eq_true, List.all_eq_true, List.mem_range] at h
  obtain ⟨hsel, h⟩ := h
  have get : ∀ (i : Nat) (oi : Oper), ops[i]? = some oi → i < ops.size := fun i oi hi => (Array.getElem?_eq_some_iff.1 hi).1
  have one : ∀ (i j : Nat) (oi oj : Oper), ops[i]? = some oi → ops[j]? = some oj → i ≠ j → ((oi.dst != oj.dst || oi.dst == none) = true ∧ ((match oj.dst with | none => true | some d => !(oi.looksAt ops).contains d) || after (masks ops [] ops.toList) j i || after (masks ops [] ops.toList) i j) = true) ∧
      (inert oj.op || isLoad oj.op || inert oi.op || (isLoad oi.op && isApp oj.op) || (if j < i then after (masks ops [] ops.toList) j i else (after (masks ops [] ops.toList) i j || (isLoad oi.op && isPush oj.op)))) = true := by
    intro i j oi oj hi hj hne
    have h1 := h i (get i oi hi)
    simp only [hi, Bool.and_eq_true, List.all_eq_true, List.mem_range] at h1
    have h2 := h1.2 j (get j oj hj)
    simp only [hj, Bool.or_eq_true, beq_iff_eq, Bool.and_eq_true] at h2
    rcases h2 with h2 | h2
    · exact absurd h2.symm hne
    · simp only [Bool.or_eq_true, Bool.and_eq_true, beq_iff_eq]
      exact h2
  refine ⟨hsel, fun i o e hi he hb => ?_, fun i j oi oj d hi hj hne hd hd' => ?_, fun i j oi oj d hi hj hne hd hr => ?_, fun i j oi oj hi hj hne h1 h2 h3 => ?_⟩
  · have h1 := h i (get i o hi)
    simp only [hi, Bool.and_eq_true, List.all_eq_true, Bool.or_eq_true, decide_eq_true_eq] at h1
    have := h1.1 e (by simpa using he)
    simpa [hb] using this
  · have := (one i j oi oj hi hj hne).1.1
    simp [hd, hd'] at this
  · have := (one i j oi oj hi hj hne).1.2
    simp only [hd, Bool.or_eq_true] at this
    rcases this with (h4 | h4) | h4
    · simp at h4; exact absurd hr h4
    · exact .inl (after_ok h4)
    · exact .inr (after_ok h4)
  · have := (one i j oi oj hi hj hne).2
    simp only [h1, h2, h3, Bool.false_or] at this
    refine ⟨fun hlt => ?_, fun hlt => ?_⟩
    · rw [if_pos hlt] at this
      simp only [Bool.or_eq_true, Bool.and_eq_true] at this
      rcases this with this | this
      · exact .inr this
      · exact .inl (after_ok this)
    · rw [if_neg (by omega)] at this
      simp only [Bool.or_eq_true, Bool.and_eq_true] at this
      rcases this with this | this | this
      · exact .inr ⟨this.1, .inr this.2⟩
      · exact .inl (after_ok this)
      · exact .inr ⟨this.1, .inl this.2⟩

/-- The frame and the heap when those of L are done. -/
structure At (ops : Array Oper) (fr0 : Fr) (H0 : Hp) (tr : List (AV × Hp)) (L : Nat → Prop) (fr : Fr) (H : Hp) : Prop where
  did : ∀ (j : Nat) (o : Oper) (d : Tmp), ops[j]? = some o → L j → o.dst = some d → fr d = xAt tr j
  not : ∀ t, (∀ (j : Nat) (o : Oper), ops[j]? = some o → L j → o.dst ≠ some t) → fr t = fr0 t
  heap : ∃ k, k ≤ ops.size ∧ H = hAt H0 tr k ∧ ∀ (e : Nat) (o : Oper), ops[e]? = some o → inert o.op = false → isLoad o.op = false → (L e ↔ e < k)

theorem fAt_at (D : DrawOk ops) (hr : Run P G ops ops.toList fr0 H0 tr) : ∀ i, i ≤ ops.size → (∀ (j : Nat) (o : Oper) (d : Tmp), ops[j]? = some o → j < i → o.dst = some d → fAt ops.toList fr0 tr i d = xAt tr j) ∧ (∀ t, (∀ (j : Nat) (o : Oper), ops[j]? = some o → j < i → o.dst ≠ some t) → fAt ops.toList fr0 tr i t = fr0 t)
  | 0, _ => by
    have : fAt ops.toList fr0 tr 0 = fr0 := by cases ops.toList <;> rfl
    exact ⟨fun j o d _ h => by omega, fun t _ => by rw [this]⟩
  | i + 1, hle => by
    obtain ⟨h1, h2⟩ := fAt_at D hr i (by omega)
    have hi : ops[i]? = some ops[i] := Array.getElem?_eq_getElem (by omega)
    have hput := (hr.at i ops[i] (by simpa using hi)).2
    rw [hput]
    refine ⟨fun j o d hj hlt hd => ?_, fun t ht => ?_⟩
    · by_cases hji : j = i
      · subst hji
        rw [hi] at hj
        simp only [Option.some.injEq] at hj
        subst hj
        rw [hd, put_some, if_pos rfl]
      · have := h1 j o d hj (by omega) hd
        cases hdi : (ops[i]).dst with
        | none => exact this
        | some di =>
          have hne : d ≠ di := by intro e; subst e; exact D.dst j i o ops[i] d hj hi hji hd hdi
          rw [put_some, if_neg hne]; exact this
    · have h3 := h2 t (fun j o hj hlt => ht j o hj (by omega))
      cases hdi : (ops[i]).dst with
      | none => exact h3
      | some di =>
        have hne : t ≠ di := by intro e; subst e; exact ht i ops[i] hi (by omega) hdi
        rw [put_some, if_neg hne]; exact h3

theorem hAt_same (hr : Run P G ops ops.toList fr0 H0 tr) {o : Oper} {i : Nat} (hi : ops[i]? = some o) (h : inert o.op = true ∨ isLoad o.op = true) : hAt H0 tr (i + 1) = hAt H0 tr i := by
  obtain ⟨hone, _⟩ := hr.at i o (by simpa using hi)
  rcases hone with ⟨_, hs⟩ | ⟨_, _, _, _, _, _, _, hs⟩
  · rcases h with h | h
    · exact (hs.inert h).1
    · exact (hs.load h).1
  · exact hs
theorem hAt_push (hr : Run P G ops ops.toList fr0 H0 tr) {o : Oper} {i : Nat} (hi : ops[i]? = some o) (h : isPush o.op = true) : Grows (hAt H0 tr i) (hAt H0 tr (i + 1)) := by
  obtain ⟨hone, _⟩ := hr.at i o (by simpa using hi)
  rcases hone with ⟨_, hs⟩ | ⟨_, _, _, _, _, _, _, hs⟩
  · exact hs.push h
  · rw [hs]; exact fun _ _ h => h
/-- Between two places with no writes between them the heap stands; with new objects alone it grows. -/
theorem hAt_stand (hr : Run P G ops ops.toList fr0 H0 tr) : ∀ (d k : Nat), k + d ≤ ops.size → (∀ (e : Nat) (o : Oper), ops[e]? = some o → k ≤ e → e < k + d → inert o.op = true ∨ isLoad o.op = true) → hAt H0 tr (k + d) = hAt H0 tr k
  | 0, _, _, _ => rfl
  | d + 1, k, hle, h => by
    have hi : ops[k + d]? = some ops[k + d] := Array.getElem?_eq_getElem (by omega)
    rw [← Nat.add_assoc, hAt_same hr hi (h _ _ hi (by omega) (by omega))]
    exact hAt_stand hr d k (by omega) (fun e o he h1 h2 => h e o he h1 (by omega))
theorem hAt_grows (hr : Run P G ops ops.toList fr0 H0 tr) : ∀ (d k : Nat), k + d ≤ ops.size → (∀ (e : Nat) (o : Oper), ops[e]? = some o → k ≤ e → e < k + d → (inert o.op = true ∨ isLoad o.op = true) ∨ isPush o.op = true) → Grows (hAt H0 tr k) (hAt H0 tr (k + d))
  | 0, _, _, _ => fun _ _ h => h
  | d + 1, k, hle, h => by
    have hi : ops[k + d]? = some ops[k + d] := Array.getElem?_eq_getElem (by omega)
    have ih := hAt_grows hr d k (by omega) (fun e o he h1 h2 => h e o he h1 (by omega))
    rw [← Nat.add_assoc]
    rcases h _ _ hi (by omega) (by omega) with h1 | h1
    · rw [hAt_same hr hi h1]; exact ih
    · exact fun i y hy => hAt_push hr hi h1 i y (ih i y hy)

theorem hAt_app (hr : Run P G ops ops.toList fr0 H0 tr) {o : Oper} {i : Nat} (hi : ops[i]? = some o) (h : isApp o.op = true) : SameV (hAt H0 tr i) (hAt H0 tr (i + 1)) ∧ SameV (hAt H0 tr (i + 1)) (hAt H0 tr i) := by
  obtain ⟨hone, _⟩ := hr.at i o (by simpa using hi)
  rcases hone with ⟨_, hs⟩ | ⟨_, _, _, _, _, _, _, hs⟩
  · exact hs.app h
  · rw [hs]; exact ⟨.refl _, .refl _⟩
theorem hAt_fore (hr : Run P G ops ops.toList fr0 H0 tr) : ∀ (d k : Nat), k + d ≤ ops.size → (∀ (e : Nat) (o : Oper), ops[e]? = some o → k ≤ e → e < k + d → (inert o.op = true ∨ isLoad o.op = true) ∨ isPush o.op = true ∨ isApp o.op = true) → SameV (hAt H0 tr k) (hAt H0 tr (k + d))
  | 0, _, _, _ => .refl _
  | d + 1, k, hle, h => by
    have hi : ops[k + d]? = some ops[k + d] := Array.getElem?_eq_getElem (by omega)
    have ih := hAt_fore hr d k (by omega) (fun e o he h1 h2 => h e o he h1 (by omega))
    rw [← Nat.add_assoc]
    rcases h _ _ hi (by omega) (by omega) with h1 | h1 | h1
    · rw [hAt_same hr hi h1]; exact ih
    · exact ih.trans (hAt_push hr hi h1).sameV
    · exact ih.trans (hAt_app hr hi h1).1
theorem hAt_rear (hr : Run P G ops ops.toList fr0 H0 tr) : ∀ (d k : Nat), k + d ≤ ops.size → (∀ (e : Nat) (o : Oper), ops[e]? = some o → k ≤ e → e < k + d → (inert o.op = true ∨ isLoad o.op = true) ∨ isApp o.op = true) → SameV (hAt H0 tr (k + d)) (hAt H0 tr k)
  | 0, _, _, _ => .refl _
  | d + 1, k, hle, h => by
    have hi : ops[k + d]? = some ops[k + d] := Array.getElem?_eq_getElem (by omega)
    have ih := hAt_rear hr d k (by omega) (fun e o he h1 h2 => h e o he h1 (by omega))
    rw [← Nat.add_assoc]
    rcases h _ _ hi (by omega) (by omega) with h1 | h1
    · rw [hAt_same hr hi h1]; exact ih
    · exact (hAt_app hr hi h1).2.trans ih
theorem strict_no {ops : Array Oper} (h : strict ops = false) {i : Nat} {o : Oper} (hi : ops[i]? = some o) : isApp o.op = false := by
  cases ha : isApp o.op with
  | false => rfl
  | true =>
    have : strict ops = true := by
      unfold strict
      rw [Array.any_eq_true]
      obtain ⟨hlt, e⟩ := Array.getElem?_eq_some_iff.1 hi
      exact ⟨i, hlt, by rw [e]; exact ha⟩
    rw [h] at this; cases this

/-- AN OPERATION THAT MAY GO NEXT does what it does in the text's order. -/
theorem At.next (D : DrawOk ops) (hr : Run P G ops ops.toList fr0 H0 tr) {L : Nat → Prop} {fr : Fr} {H : Hp} (hA : At ops fr0 H0 tr L fr H) (hL : ∀ (i j : Nat), Bef ops j i → L i → L j) {i : Nat} {o : Oper} (hi : ops[i]? = some o) (hn : ¬ L i) (hready : ∀ j, Bef ops j i → L j) :
    ∃ H', One P G ops fr H o (xAt tr i) H' ∧ At ops fr0 H0 tr (fun j => L j ∨ j = i) (put o.dst (xAt tr i) fr) H' := by
  have hisz : i < ops.size := (Array.getElem?_eq_some_iff.1 hi).1
  obtain ⟨hone, _⟩ := hr.at i o (by simpa using hi)
  obtain ⟨f1, f2⟩ := fAt_at D hr i (by omega)
  -- the temporaries that it looks at
  have same : ∀ t, t ∈ o.looksAt ops → fAt ops.toList fr0 tr i t = fr t := by
    intro t ht
    by_cases hex : ∃ (j : Nat) (oj : Oper), ops[j]? = some oj ∧ oj.dst = some t
    · obtain ⟨j, oj, hj, hd⟩ := hex
      have uniq : ∀ (j' : Nat) (o' : Oper), ops[j']? = some o' → o'.dst = some t → j' = j := fun j' o' hj' hd' => Classical.byContradiction fun hne => D.dst j' j o' oj t hj' hj hne hd' hd
      by_cases hji : j = i
      · subst hji
        rw [f2 t (fun j' o' hj' hlt hd' => by have := uniq j' o' hj' hd'; omega), hA.not t (fun j' o' hj' hl hd' => by have := uniq j' o' hj' hd'; subst this; exact hn hl)]
      · rcases D.reads i j o oj t hi hj (Ne.symm hji) hd ht with hb | hb
        · rw [f1 j oj t hj (hb.lt D.back) hd, hA.did j oj t hj (hready j hb) hd]
        · have hlt := hb.lt D.back
          rw [f2 t (fun j' o' hj' hlt' hd' => by have := uniq j' o' hj' hd'; omega), hA.not t (fun j' o' hj' hl hd' => by have := uniq j' o' hj' hd'; subst this; exact hn (hL _ _ hb hl))]
    · have hno : ∀ (j : Nat) (oj : Oper), ops[j]? = some oj → oj.dst ≠ some t := fun j oj hj hd => hex ⟨j, oj, hj, hd⟩
      rw [f2 t (fun j oj hj _ => hno j oj hj), hA.not t (fun j oj hj _ => hno j oj hj)]
  have evs : ∀ y ∈ o.op.operands, ev G (fAt ops.toList fr0 tr i) y = ev G fr y := fun y hy => ev_congr fun t ht => same t (by
    subst ht
    exact List.mem_append_left _ (List.mem_filterMap.2 ⟨.tmp t, by simpa using hy, rfl⟩))
  have ys : ∀ j want, o.guard = some (j, want) → yieldAV ops fr j = yieldAV ops (fAt ops.toList fr0 tr i) j := by
    intro j want hg
    unfold yieldAV
    split
    · rename_i t ht
      rw [same t (List.mem_append_right _ (by simp [hg, ht]))]
    · rfl
  have newFr : (∀ (j : Nat) (o' : Oper) (d : Tmp), ops[j]? = some o' → (L j ∨ j = i) → o'.dst = some d → put o.dst (xAt tr i) fr d = xAt tr j) ∧ (∀ t, (∀ (j : Nat) (o' : Oper), ops[j]? = some o' → (L j ∨ j = i) → o'.dst ≠ some t) → put o.dst (xAt tr i) fr t = fr0 t) := by
    refine ⟨fun j o' d hj hl hd => ?_, fun t ht => ?_⟩
    · by_cases hji : j = i
      · subst hji
        rw [hi] at hj
        simp only [Option.some.injEq] at hj
        subst hj
        rw [hd, put_some, if_pos rfl]
      · have := hA.did j o' d hj (hl.resolve_right hji) hd
        cases hdi : o.dst with
        | none => exact this
        | some di =>
          have hne : d ≠ di := by intro e; subst e; exact D.dst j i o' o d hj hi hji hd hdi
          rw [put_some, if_neg hne]; exact this
    · have h3 := hA.not t (fun j o' hj hl => ht j o' hj (.inl hl))
      cases hdi : o.dst with
      | none => exact h3
      | some di =>
        have hne : t ≠ di := by intro e; subst e; exact ht i o hi (.inr rfl) hdi
        rw [put_some, if_neg hne]; exact h3
  obtain ⟨k, hk, rfl, hw⟩ := hA.heap
  -- a write
  have write : inert o.op = false → isLoad o.op = false → hAt H0 tr k = hAt H0 tr i ∧ ∀ (e : Nat) (o' : Oper), ops[e]? = some o' → inert o'.op = false → isLoad o'.op = false → ((L e ∨ e = i) ↔ e < i + 1) := by
    intro h1 h2
    have hki : k ≤ i := by
      rcases Nat.lt_or_ge i k with h | h
      · exact absurd ((hw i o hi h1 h2).2 h) hn
      · exact h
    refine ⟨?_, fun e o' he h3 h4 => ?_⟩
    · have := hAt_stand hr (i - k) k (by omega) (fun e o' he h3 h4 => by
        cases h5 : inert o'.op with
        | true => exact .inl rfl
        | false => cases h6 : isLoad o'.op with
          | true => exact .inr rfl
          | false =>
            have hlt : e < i := by omega
            rcases (D.heap i e o o' hi he (by omega) h5 h6 h1).1 hlt with hb | hb
            · have := hready e hb
              have := (hw e o' he h5 h6).1 this
              omega
            · rw [hb.1] at h2; cases h2)
      rw [show k + (i - k) = i by omega] at this
      exact this.symm
    · constructor
      · rintro (hl | rfl)
        · have := (hw e o' he h3 h4).1 hl; omega
        · omega
      · intro hlt
        by_cases hei : e = i
        · exact .inr hei
        · rcases (D.heap i e o o' hi he (Ne.symm hei) h3 h4 h1).1 (by omega) with hb | hb
          · exact .inl (hready e hb)
          · rw [hb.1] at h2; cases h2
  have stay : (inert o.op = true ∨ isLoad o.op = true) → ∀ (e : Nat) (o' : Oper), ops[e]? = some o' → inert o'.op = false → isLoad o'.op = false → ((L e ∨ e = i) ↔ e < k) := by
    intro h1 e o' he h3 h4
    rw [← hw e o' he h3 h4]
    constructor
    · rintro (hl | rfl)
      · exact hl
      · rw [hi] at he
        simp only [Option.some.injEq] at he
        subst he
        rcases h1 with h1 | h1
        · rw [h1] at h3; cases h3
        · rw [h1] at h4; cases h4
    · exact .inl
  rcases hone with ⟨hg, hs⟩ | ⟨j, want, y, hg, hy, hne, hx, hH⟩
  · have hg' : o.guard = none ∨ ∃ j want, o.guard = some (j, want) ∧ yieldAV ops fr j = some (some want) := by
      rcases hg with hg | ⟨j, want, hg, hy⟩
      · exact .inl hg
      · exact .inr ⟨j, want, hg, (ys j want hg).trans hy⟩
    have hs' := hs.congr evs
    cases h1 : inert o.op with
    | true => exact ⟨hAt H0 tr k, .inl ⟨hg', (hs'.inert h1).2 _⟩, newFr.1, newFr.2, k, hk, rfl, stay (.inl h1)⟩
    | false => cases h2 : isLoad o.op with
      | true =>
        have hgr : Grows (hAt H0 tr i) (hAt H0 tr k) ∨ (strict ops = true ∧ SameV (hAt H0 tr i) (hAt H0 tr k)) := by
          rcases Nat.le_total k i with hki | hki
          · have each : ∀ (e : Nat) (o : Oper), ops[e]? = some o → k ≤ e → e < k + (i - k) → (inert o.op = true ∨ isLoad o.op = true) ∨ isApp o.op = true := fun e o' he h3 h4 => by
              cases h5 : inert o'.op with
              | true => exact .inl (.inl rfl)
              | false => cases h6 : isLoad o'.op with
                | true => exact .inl (.inr rfl)
                | false =>
                  rcases (D.heap i e o o' hi he (by omega) h5 h6 h1).1 (by omega) with hb | hb
                  · have := hready e hb
                    have := (hw e o' he h5 h6).1 this
                    omega
                  · exact .inr hb.2
            cases hst : strict ops with
            | false =>
              have := hAt_stand hr (i - k) k (by omega) (fun e o' he h3 h4 => (each e o' he h3 h4).resolve_right (by rw [strict_no hst he]; simp))
              rw [show k + (i - k) = i by omega] at this
              rw [this]; exact .inl (fun _ _ h => h)
            | true =>
              have := hAt_rear hr (i - k) k (by omega) each
              rw [show k + (i - k) = i by omega] at this
              exact .inr ⟨rfl, this⟩
          · have each : ∀ (e : Nat) (o : Oper), ops[e]? = some o → i ≤ e → e < i + (k - i) → (inert o.op = true ∨ isLoad o.op = true) ∨ isPush o.op = true ∨ isApp o.op = true := fun e o' he h3 h4 => by
              cases h5 : inert o'.op with
              | true => exact .inl (.inl rfl)
              | false => cases h6 : isLoad o'.op with
                | true => exact .inl (.inr rfl)
                | false =>
                  have hl := (hw e o' he h5 h6).2 (by omega)
                  have hei : e ≠ i := by intro e'; subst e'; exact hn hl
                  rcases (D.heap i e o o' hi he (Ne.symm hei) h5 h6 h1).2 (by omega) with hb | hb
                  · exact absurd (hL _ _ hb hl) hn
                  · exact .inr hb.2
            cases hst : strict ops with
            | false =>
              have := hAt_grows hr (k - i) i (by omega) (fun e o' he h3 h4 => (each e o' he h3 h4).imp id (fun h => h.resolve_right (by rw [strict_no hst he]; simp)))
              rw [show i + (k - i) = k by omega] at this
              exact .inl this
            | true =>
              have := hAt_fore hr (k - i) i (by omega) each
              rw [show i + (k - i) = k by omega] at this
              exact .inr ⟨rfl, this⟩
        exact ⟨hAt H0 tr k, .inl ⟨hg', (hs'.load h2).2 _ hgr⟩, newFr.1, newFr.2, k, hk, rfl, stay (.inr h2)⟩
      | false =>
        obtain ⟨e1, e2⟩ := write h1 h2
        rw [e1]
        exact ⟨hAt H0 tr (i + 1), .inl ⟨hg', hs'⟩, newFr.1, newFr.2, i + 1, by omega, rfl, e2⟩
  · have hgs : One P G ops fr (hAt H0 tr k) o (xAt tr i) (hAt H0 tr k) := .inr ⟨j, want, y, hg, (ys j want hg).trans hy, hne, hx, rfl⟩
    cases h1 : inert o.op with
    | true => exact ⟨_, hgs, newFr.1, newFr.2, k, hk, rfl, stay (.inl h1)⟩
    | false => cases h2 : isLoad o.op with
      | true => exact ⟨_, hgs, newFr.1, newFr.2, k, hk, rfl, stay (.inr h2)⟩
      | false =>
        obtain ⟨e1, e2⟩ := write h1 h2
        exact ⟨_, hgs, newFr.1, newFr.2, i + 1, by omega, by rw [e1, hH], e2⟩

theorem countP_lt {p q : Nat → Bool} : ∀ (l : List Nat) (i : Nat), (∀ x, q x = true → p x = true) → i ∈ l → p i = true → q i = false → l.countP q < l.countP p
  | x :: l, i, h, hm, hp, hq => by
    have hle : ∀ l : List Nat, l.countP q ≤ l.countP p := fun l => List.countP_mono_left (fun x _ => h x)
    rw [List.countP_cons, List.countP_cons]
    rcases List.mem_cons.1 hm with rfl | hm'
    · have := hle l; rw [hp, hq]; simp; omega
    · have := countP_lt l i h hm' hp hq
      cases hqx : q x with
      | true => rw [h x hqx]; simp only [if_true]; omega
      | false =>
        simp only [Bool.false_eq_true, if_false, Nat.add_zero]
        split <;> omega

theorem any_ok {Q : Exit → Act → World → Prop} {F : Nat → Prop} (D : DrawOk ops) (hr : Run P G ops ops.toList fr0 H0 tr) (hd : ops.toList.all (fun o => o.dst.all (· < N)) = true) :
    ∀ (fuel : Nat) (listed : Array Bool) (fr : Fr) (H : Hp) (a : Act) (w : World) (S : Nat → Prop) (β : Nat → Nat), listed.size = ops.size → (List.range ops.size).countP (fun i => listed.getD i true == false) ≤ fuel →
    At ops fr0 H0 tr (fun i => listed.getD i false = true) fr H → (∀ (i j : Nat), Bef ops j i → listed.getD i false = true → listed.getD j false = true) → HR G w S F β H → FR w S β H.n N fr a →
    (∀ fr' H' a' w' S' β', (At ops fr0 H0 tr (fun i => i < ops.size) fr' H') → Ext w S F β H.n w' S' β' H'.n → HR G w' S' F β' H' → FR w' S' β' H'.n N fr' a' → Q .normal a' w') → wpAny P .any ops Q fuel listed a w := by
  intro fuel
  have lis : ∀ (listed : Array Bool) (i : Nat), listed.size = ops.size → i < ops.size → (listed.getD i true = listed.getD i false) := by
    intro listed i hs hi
    rw [Array.getD_eq_getD_getElem?, Array.getD_eq_getD_getElem?, Array.getElem?_eq_getElem (by omega)]; rfl
  have bef : ∀ (listed : Array Bool) (i : Nat), i ∈ Region.ready .any ops listed → (∀ (i j : Nat), Bef ops j i → listed.getD i false = true → listed.getD j false = true) → ∀ j, Bef ops j i → listed.getD j false = true := by
    intro listed i hrd hcl j hb
    obtain ⟨_, o, ho, hall⟩ := mem_ready.1 hrd
    cases hb with
    | edge _ o' e hi he hbd =>
      rw [ho] at hi; simp only [Option.some.injEq] at hi; subst hi
      exact hall e he hbd
    | more _ _ o' e hi he hbd h =>
      rw [ho] at hi; simp only [Option.some.injEq] at hi; subst hi
      exact hcl _ _ h (hall e he hbd)
  have full : ∀ (listed : Array Bool), listed.size = ops.size → Region.ready .any ops listed = [] → ∀ i, i < ops.size → listed.getD i false = true := by
    intro listed hs hre i
    induction i using Nat.strongRecOn with
    | _ i ih =>
      intro hi
      cases hl : listed.getD i false with
      | true => rfl
      | false =>
        have hmem : i ∈ Region.ready .any ops listed := mem_ready.2 ⟨by rw [lis listed i hs hi]; exact hl, ops[i], Array.getElem?_eq_getElem hi, fun e he hb => by
          have hlt := D.back i ops[i] e (Array.getElem?_eq_getElem hi) he hb
          exact ih e.on hlt (by omega)⟩
        rw [hre] at hmem; cases hmem
  have done : ∀ (listed : Array Bool) (fr : Fr) (H : Hp) (a : Act) (w : World) (S : Nat → Prop) (β : Nat → Nat), listed.size = ops.size → Region.ready .any ops listed = [] → At ops fr0 H0 tr (fun i => listed.getD i false = true) fr H → HR G w S F β H → FR w S β H.n N fr a →
      (∀ fr' H' a' w' S' β', (At ops fr0 H0 tr (fun i => i < ops.size) fr' H') → Ext w S F β H.n w' S' β' H'.n → HR G w' S' F β' H' → FR w' S' β' H'.n N fr' a' → Q .normal a' w') → Q .normal a w := by
    intro listed fr H a w S β hs hre hA hH hf hq
    have hfull := full listed hs hre
    refine hq fr H a w S β ⟨fun j o d hj hl hd => hA.did j o d hj (hfull j hl) hd, fun t ht => hA.not t (fun j o hj hl => ht j o hj (Array.getElem?_eq_some_iff.1 hj).1), ?_⟩ (.refl ..) hH hf
    obtain ⟨k, hk, e, hw⟩ := hA.heap
    exact ⟨k, hk, e, fun e o he h1 h2 => ⟨fun _ => (hw e o he h1 h2).1 (hfull e (Array.getElem?_eq_some_iff.1 he).1), fun _ => (Array.getElem?_eq_some_iff.1 he).1⟩⟩
  induction fuel with
  | zero =>
    intro listed fr H a w S β hs hc hA hcl hH hf hq
    have hre : Region.ready .any ops listed = [] := by
      cases hre : Region.ready .any ops listed with
      | nil => rfl
      | cons i l =>
        have hm : i ∈ Region.ready .any ops listed := by rw [hre]; exact List.mem_cons_self ..
        obtain ⟨h1, o, ho, _⟩ := mem_ready.1 hm
        have hi := (Array.getElem?_eq_some_iff.1 ho).1
        have : 0 < (List.range ops.size).countP (fun i => listed.getD i true == false) := List.countP_pos_iff.2 ⟨i, List.mem_range.2 hi, by rw [h1]; rfl⟩
        omega
    exact ⟨hre, done listed fr H a w S β hs hre hA hH hf hq⟩
  | succ fuel ih =>
    intro listed fr H a w S β hs hc hA hcl hH hf hq
    refine ⟨fun hre => done listed fr H a w S β hs hre hA hH hf hq, fun i hi => ?_⟩
    obtain ⟨hun, o, ho, hall⟩ := mem_ready.1 hi
    have hisz := (Array.getElem?_eq_some_iff.1 ho).1
    have hunf : listed.getD i false = false := by rw [← lis listed i hs hisz]; exact hun
    obtain ⟨H', hone, hA'⟩ := hA.next D hr hcl ho (by rw [hunf]; simp) (bef listed i hi hcl)
    have hdo : o.dst.all (· < N) = true := List.all_eq_true.1 hd o (by rw [Array.mem_toList_iff]; exact Array.mem_of_getElem? ho)
    have hset : ∀ j, ((listed.setIfInBounds i true).getD j false = true) ↔ (listed.getD j false = true ∨ j = i) := by
      intro j
      by_cases hji : j = i
      · subst hji
        simp only [or_true, iff_true]
        rw [Array.getD_eq_getD_getElem?, Array.getElem?_setIfInBounds_self_of_lt (by omega)]; rfl
      · simp only [hji, or_false]
        rw [getD_set_ne false (Ne.symm hji)]
    have cont : ∀ (fr' : Fr) (a' : Act) (w' : World) (S' : Nat → Prop) (β' : Nat → Nat), fr' = put o.dst (xAt tr i) fr → Ext w S F β H.n w' S' β' H'.n → HR G w' S' F β' H' → FR w' S' β' H'.n N fr' a' → wpAny P .any ops Q fuel (listed.setIfInBounds i true) a' w' := by
      rintro _ a' w' S' β' rfl hx hH' hf'
      refine ih (listed.setIfInBounds i true) _ H' a' w' S' β' (by rw [Array.size_setIfInBounds, hs]) ?_ ?_ ?_ hH' hf' (fun fr2 H2 a2 w2 S2 β2 hA2 hx2 hH2 hf2 => hq fr2 H2 a2 w2 S2 β2 hA2 (hx.trans hx2) hH2 hf2)
      · have := countP_lt (p := fun i => listed.getD i true == false) (q := fun j => (listed.setIfInBounds i true).getD j true == false) (List.range ops.size) i (fun x hx => by
            by_cases hxi : x = i
            · subst hxi
              rw [Array.getD_eq_getD_getElem?, Array.getElem?_setIfInBounds_self_of_lt (by omega)] at hx
              cases hx
            · rwa [getD_set_ne true (Ne.symm hxi)] at hx) (List.mem_range.2 hisz) (by rw [hun]; rfl) (by
            rw [Array.getD_eq_getD_getElem?, Array.getElem?_setIfInBounds_self_of_lt (by omega)]; rfl)
        omega
      · exact ⟨fun j o' d hj hl hd => hA'.did j o' d hj ((hset j).1 hl) hd, fun t ht => hA'.not t (fun j o' hj hl => ht j o' hj ((hset j).2 hl)), by
          obtain ⟨k, hk, e, hw⟩ := hA'.heap
          exact ⟨k, hk, e, fun e o he h1 h2 => (hset e).trans (hw e o he h1 h2)⟩⟩
      · intro p q hb hp
        rcases (hset p).1 hp with h | rfl
        · exact (hset q).2 (.inl (hcl p q hb h))
        · exact (hset q).2 (.inl (bef listed _ hi hcl q hb))
    unfold wpOp
    simp only [ho]
    rcases hone with ⟨hg, hs'⟩ | ⟨j, want, y, hg, hy, hne, hx, hHe⟩
    · have hw : Region.wanted o (yielded ops a.tmps) = true := by
        rcases hg with hg | ⟨j, want, hg, hy⟩
        · simp [Region.wanted, hg]
        · simp [Region.wanted, hg, yield_ok hf hy]
      rw [if_pos hw]
      exact .inl (step_ok hH hf hs'.step hdo (fun a' w' S' β' hx hH' hf' => cont _ a' w' S' β' rfl hx hH' hf'))
    · have hw : Region.wanted o (yielded ops a.tmps) = false := by
        simp [Region.wanted, hg, yield_ok hf hy, hne]
      rw [if_neg (by rw [hw]; simp)]
      subst hHe
      exact cont _ _ w S β rfl (.refl ..) hH (hf.put hdo (by rw [hx]; exact RV.nothing))

theorem AWp_draw {p id : Nat} {l : List Oper} {Q : Exit → Fr → Hp → Prop} {fr : Fr} {H : Hp} (hm : P.follows .mixedOrders = true) (hd : l.all (fun o => o.dst.all (· < N)) = true) (hok : drawOk l.toArray = true) (h : wpD P G l.toArray l fr H (fun fr' H' => Q .normal fr' H')) :
    AWp P G N p (.region id l.toArray true) Q fr H := by
  intro w S F β a hp hH hf
  have D := drawOk_spec hok
  obtain ⟨tr, hr, hk⟩ := wpD_run l fr H _ h
  have hr' : Run P G l.toArray l.toArray.toList fr H tr := hr
  obtain ⟨e1, e2⟩ := hr'.end
  have hend : endFr l fr tr = fAt l fr tr l.length ∧ endH H tr = hAt H tr l.length := ⟨e1, e2⟩
  refine wp_region_any hm ?_
  have hx : Ext w S F β H.n { w with drawn := w.drawn + 1 } S β H.n := ⟨rfl, rfl, rfl, Nat.le_refl _, Nat.le_refl _, fun _ _ => rfl, fun _ h => h, fun _ h => .inl h, fun _ _ => rfl, fun _ _ => rfl, fun _ _ h => h⟩
  have hH' : HR G { w with drawn := w.drawn + 1 } S F β H := ⟨hH.lts, hH.ltf, fun g => (hH.glob g).ext hx, hH.ltn, hH.inj, fun i s o hi => (hH.obj i s o hi).to (fun _ _ => RV.ext hx) rfl (fun h => h) (fun h => h) (fun h => h)⟩
  have hrep : ∀ i d, (Array.replicate l.toArray.size false).getD i d = true → d = true := by
    intro i d h
    rw [Array.getD_eq_getD_getElem?] at h
    cases hg : (Array.replicate l.toArray.size false)[i]? with
    | none => rw [hg] at h; exact h
    | some b =>
      rw [hg] at h
      have := Array.mem_of_getElem? hg
      simp at this
      rw [this.2] at h; cases h
  refine any_ok (F := F) D hr' hd l.toArray.size _ fr H a _ S β (by simp) (by have := List.countP_le_length (p := fun i => (Array.replicate l.toArray.size false).getD i true == false) (l := List.range l.toArray.size); simpa using this)
    ⟨fun j o d _ hl _ => (Bool.noConfusion (hrep j false hl)), fun t _ => rfl, 0, Nat.zero_le _, rfl, fun e o _ _ _ => ⟨fun hl => (Bool.noConfusion (hrep e false hl)), fun h => by omega⟩⟩
    (fun i j _ hl => (Bool.noConfusion (hrep i false hl))) hH' (hf.ext hx) (fun fr' H' a' w' S' β' hA hx2 hH2 hf2 => ?_)
  obtain ⟨f1, f2⟩ := fAt_at D hr' l.toArray.size (Nat.le_refl _)
  have hfe : fr' = endFr l fr tr := by
    rw [hend.1]
    funext t
    by_cases hex : ∃ (j : Nat) (oj : Oper), l.toArray[j]? = some oj ∧ oj.dst = some t
    · obtain ⟨j, oj, hj, hdj⟩ := hex
      have hlt := (Array.getElem?_eq_some_iff.1 hj).1
      rw [hA.did j oj t hj hlt hdj]
      exact (f1 j oj t hj hlt hdj).symm
    · rw [hA.not t (fun j oj hj _ hdj => hex ⟨j, oj, hj, hdj⟩)]
      exact (f2 t (fun j oj hj _ hdj => hex ⟨j, oj, hj, hdj⟩)).symm
  have hhe : H' = endH H tr := by
    obtain ⟨k, hk2, e, hw⟩ := hA.heap
    rw [e, hend.2]
    have hst := hAt_stand hr' (l.toArray.size - k) k (by omega) (fun e o he h1 h2 => by
      cases h5 : inert o.op with
      | true => exact .inl rfl
      | false => cases h6 : isLoad o.op with
        | true => exact .inr rfl
        | false =>
          have := (hw e o he h5 h6).1 (Array.getElem?_eq_some_iff.1 he).1
          omega)
    rw [show k + (l.toArray.size - k) = l.toArray.size by omega] at hst
    exact hst.symm
  subst hfe hhe
  exact ⟨_, _, S', β', hk, (hx.trans hx2).lower hp, Nat.le_trans hp hx2.le, hH2, hf2⟩
end

/-! ### The rules as a proof applies them -/
section
variable {fr : Fr} {H H' : Hp} {ops : Array Oper} {os : List Oper} {o : Oper} {K : Fr → Hp → Prop}
/-- What a region that draws its order asks of an operation. -/
def stepOk (G : Nat → List AV) (st : Bool) (fr : Fr) (objs : List (Nat × Obj)) : Op → Bool
  | .call c => !isCopy c
  | .load _ a => steady objs (ev G fr a) || !st
  | _ => true
theorem dstep_of_ev {st : Bool} {op : Op} {x : AV} (hs : stepOk G st fr H.objs op = true) (h : evalOp P G fr H op = some (x, H')) : DStep P G st fr H op x H' := by
  unfold DStep
  split
  · rename_i c
    split
    · rename_i f xs hc
      exfalso
      unfold calleeAV at hc
      split at hc
      · rename_i fo hfo
        simp [evalOp, callAV, hfo] at h
      · cases hc
    · exact .inl ⟨by simpa [stepOk] using hs, h⟩
  · refine ⟨h, fun e => ?_⟩
    subst e
    simpa [stepOk] using hs
  · exact h
theorem wpD_call {c : Call} {f : FuncId} {xs : List AV} {x : AV} (hg : o.guard = none) (ho : o.op = .call c) (hc : calleeAV G fr c = some (f, xs)) (h : Fn P G f xs x) (hk : wpD P G ops os (put o.dst x fr) H K) : wpD P G ops (o :: os) fr H K := by
  unfold wpD
  simp only [hg]
  refine ⟨x, H, ?_, hk⟩
  rw [ho]
  unfold DStep
  simp only [hc]
  exact ⟨h, trivial⟩
theorem wpD_nil (h : K fr H) : wpD P G ops [] fr H K := h
theorem wpD_copy {c : Call} {x : AV} (hg : o.guard = none) (ho : o.op = .call c) (h : copyCall P G fr c = some x) (hk : wpD P G ops os (put o.dst x fr) H K) : wpD P G ops (o :: os) fr H K := by
  unfold wpD
  simp only [hg]
  refine ⟨x, H, ?_, hk⟩
  rw [ho]
  unfold DStep
  have hc : calleeAV G fr c = none := by
    unfold copyCall at h
    unfold calleeAV
    split at h
    · rename_i hb _ _
      rw [hb]
    · cases h
  simp only [hc]
  exact .inr ⟨h, trivial⟩
theorem wpD_ev {x : AV} (hg : o.guard = none) (hs : stepOk G (strict ops) fr H.objs o.op = true) (h : evalOp P G fr H o.op = some (x, H')) (hk : wpD P G ops os (put o.dst x fr) H' K) : wpD P G ops (o :: os) fr H K := by
  unfold wpD
  simp only [hg]
  exact ⟨x, H', dstep_of_ev hs h, hk⟩
theorem wpD_skip_n {t j : Nat} {want : Bool} (hg : o.guard = some (j, want)) (ht : (ops[j]?).bind (·.dst) = some t) (hb : fr t = .tup []) (h : wpD P G ops os (put o.dst (.tup []) fr) H K) : wpD P G ops (o :: os) fr H K := by
  unfold wpD
  simp only [hg]
  exact ⟨none, yield_none ht hb, (fun h => by cases h), fun _ => h⟩
theorem wpD_free {t j : Nat} {want : Bool} (hg : o.guard = some (j, want)) (ht : (ops[j]?).bind (·.dst) = some t) (hb : fr t = .bool want) (h : wpD P G ops (Oper.free o :: os) fr H K) : wpD P G ops (o :: os) fr H K := by
  unfold wpD at *
  simp only [hg]
  simp only [Oper.free] at h
  exact ⟨some want, yield_of ht hb, fun _ => h, fun h => absurd rfl h⟩
theorem wpD_skip_t {t j : Nat} (hg : o.guard = some (j, true)) (ht : (ops[j]?).bind (·.dst) = some t) (hb : fr t = .bool false) (h : wpD P G ops os (put o.dst (.tup []) fr) H K) : wpD P G ops (o :: os) fr H K := by
  unfold wpD
  simp only [hg]
  exact ⟨some false, yield_of ht hb, (fun h => by cases h), fun _ => h⟩
theorem wpD_skip_f {t j : Nat} (hg : o.guard = some (j, false)) (ht : (ops[j]?).bind (·.dst) = some t) (hb : fr t = .bool true) (h : wpD P G ops os (put o.dst (.tup []) fr) H K) : wpD P G ops (o :: os) fr H K := by
  unfold wpD
  simp only [hg]
  exact ⟨some true, yield_of ht hb, (fun h => by cases h), fun _ => h⟩
theorem wpD_split_t {t j : Nat} {b : Bool} (hg : o.guard = some (j, true)) (ht : (ops[j]?).bind (·.dst) = some t) (hb : fr t = .bool b) (hy : b = true → wpD P G ops (Oper.free o :: os) fr H K) (hn : b = false → wpD P G ops os (put o.dst (.tup []) fr) H K) : wpD P G ops (o :: os) fr H K := by
  cases b
  · exact wpD_skip_t hg ht hb (hn rfl)
  · exact wpD_free hg ht hb (hy rfl)
theorem wpD_split_f {t j : Nat} {b : Bool} (hg : o.guard = some (j, false)) (ht : (ops[j]?).bind (·.dst) = some t) (hb : fr t = .bool b) (hy : b = false → wpD P G ops (Oper.free o :: os) fr H K) (hn : b = true → wpD P G ops os (put o.dst (.tup []) fr) H K) : wpD P G ops (o :: os) fr H K := by
  cases b
  · exact wpD_free hg ht hb (hy rfl)
  · exact wpD_skip_f hg ht hb (hn rfl)
section
variable {d : Option Tmp} {op : Op} {ty : TypeId} {pos : String} {aft : Array Edge}
theorem wpD_ev' {x : AV} (hs : stepOk G (strict ops) fr H.objs op = true) (h : evalOp P G fr H op = some (x, H')) (hk : wpD P G ops os (put d x fr) H' K) : wpD P G ops (⟨d, op, ty, pos, aft, none⟩ :: os) fr H K := wpD_ev rfl hs h hk
theorem wpD_store {t ty' : TypeId} {a x : Operand} {id s n k : Nat} {xs cs : List AV} {objs : List (Nat × Obj)} (ha : ev G fr a = .ptr id s 0) (hx : cellsAV (ev G fr x) = some xs) (hk : szP P t = some k) (hl : xs.length = k) (ho : objs[id]? = some (s, .var ty' cs)) (hc : cs.length = k)
    (h : wpD P G ops os (put d .undef fr) ⟨n, objs.set id (s, .var ty' xs)⟩ K) : wpD P G ops (⟨d, .store t a x, ty, pos, aft, none⟩ :: os) fr ⟨n, objs⟩ K := wpD_ev rfl rfl (store_whole ha hx hk hl ho hc) h
theorem wpD_call' {c : Call} {f : FuncId} {xs : List AV} {x : AV} (hc : calleeAV G fr c = some (f, xs)) (h : Fn P G f xs x) (hk : wpD P G ops os (put d x fr) H K) : wpD P G ops (⟨d, .call c, ty, pos, aft, none⟩ :: os) fr H K := wpD_call rfl rfl hc h hk
theorem wpD_free' {t j : Nat} {want : Bool} (ht : (ops[j]?).bind (·.dst) = some t) (hb : fr t = .bool want) (h : wpD P G ops (⟨d, op, ty, pos, aft, none⟩ :: os) fr H K) : wpD P G ops (⟨d, op, ty, pos, aft, some (j, want)⟩ :: os) fr H K := wpD_free rfl ht hb h
theorem wpD_skip_t' {t j : Nat} (ht : (ops[j]?).bind (·.dst) = some t) (hb : fr t = .bool false) (h : wpD P G ops os (put d (.tup []) fr) H K) : wpD P G ops (⟨d, op, ty, pos, aft, some (j, true)⟩ :: os) fr H K := wpD_skip_t rfl ht hb h
theorem wpD_skip_f' {t j : Nat} (ht : (ops[j]?).bind (·.dst) = some t) (hb : fr t = .bool true) (h : wpD P G ops os (put d (.tup []) fr) H K) : wpD P G ops (⟨d, op, ty, pos, aft, some (j, false)⟩ :: os) fr H K := wpD_skip_f rfl ht hb h
theorem wpD_split_t' {t j : Nat} {b : Bool} (ht : (ops[j]?).bind (·.dst) = some t) (hb : fr t = .bool b) (hy : b = true → wpD P G ops (⟨d, op, ty, pos, aft, none⟩ :: os) fr H K) (hn : b = false → wpD P G ops os (put d (.tup []) fr) H K) : wpD P G ops (⟨d, op, ty, pos, aft, some (j, true)⟩ :: os) fr H K := wpD_split_t rfl ht hb hy hn
theorem wpD_split_f' {t j : Nat} {b : Bool} (ht : (ops[j]?).bind (·.dst) = some t) (hb : fr t = .bool b) (hy : b = false → wpD P G ops (⟨d, op, ty, pos, aft, none⟩ :: os) fr H K) (hn : b = true → wpD P G ops os (put d (.tup []) fr) H K) : wpD P G ops (⟨d, op, ty, pos, aft, some (j, false)⟩ :: os) fr H K := wpD_split_f rfl ht hb hy hn
end
end
end Go.Proofs.YtimdjillcaichaaDoorW.Ex
