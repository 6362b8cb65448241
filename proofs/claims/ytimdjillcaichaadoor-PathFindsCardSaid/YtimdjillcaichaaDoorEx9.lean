/- A symbolic executor for the machine's code, part 9: the rules as a proof applies them, one by one. General over the program; no conditions beside those in each theorem. -/
import Derived.Test.YtimdjillcaichaaDoorEx8
namespace Go.Proofs.YtimdjillcaichaaDoorW.Ex
set_option linter.all false
open Go
variable {G : Nat → List AV} {P : Program} {N p : Nat} {fr : Fr} {H H' : Hp} {Q : Exit → Fr → Hp → Prop} {ops : Array Oper} {os : List Oper} {o : Oper} {K : Fr → Hp → Prop}

theorem AThen_normal {next : Fr → Hp → Prop} (h : next fr H) : AThen next Q .normal fr H := h
theorem AThen_ret {next : Fr → Hp → Prop} (h : Q .ret fr H) : AThen next Q .ret fr H := h
theorem AThen_exit {next : Fr → Hp → Prop} {i : Nat} (h : Q (.exit i) fr H) : AThen next Q (.exit i) fr H := h
theorem AInBlock_normal {id : Nat} (h : Q .normal fr H) : AInBlock id Q .normal fr H := h
theorem AInBlock_ret {id : Nat} (h : Q .ret fr H) : AInBlock id Q .ret fr H := h
theorem AInBlock_this {id : Nat} (h : Q .normal fr H) : AInBlock id Q (.exit id) fr H := by simpa [AInBlock] using h
theorem AInBlock_other {id i : Nat} (hne : Nat.beq i id = false) (h : Q (.exit i) fr H) : AInBlock id Q (.exit i) fr H := by
  have : i ≠ id := by intro e; subst e; simp at hne
  simpa [AInBlock, this] using h
theorem Ret_ret {rs : List ResultVar} {R : AV → Hp → Prop} {x : AV} (h : resultsAV P rs fr H = some x) (hR : R x H) : Ret P rs R .ret fr H := ⟨x, h, hR⟩
theorem Ret_normal {rs : List ResultVar} {R : AV → Hp → Prop} {x : AV} (h : resultsAV P rs fr H = some x) (hR : R x H) : Ret P rs R .normal fr H := ⟨x, h, hR⟩

theorem AWp_cond_true {c : Operand} {x y : Code} (hc : ev G fr c = .bool true) (h : AWp P G N p x Q fr H) : AWp P G N p (.cond c x y) Q fr H := AWp_cond hc (fun _ => h) (fun h => by cases h)
theorem AWp_cond_false {c : Operand} {x y : Code} (hc : ev G fr c = .bool false) (h : AWp P G N p y Q fr H) : AWp P G N p (.cond c x y) Q fr H := AWp_cond hc (fun h => by cases h) (fun _ => h)

/-- A whole variable is written. -/
theorem store_whole {t ty : TypeId} {a x : Operand} {id s n k : Nat} {xs cs : List AV} {objs : List (Nat × Obj)} (ha : ev G fr a = .ptr id s 0) (hx : cellsAV (ev G fr x) = some xs) (hk : szP P t = some k) (hl : xs.length = k) (ho : objs[id]? = some (s, .var ty cs)) (hc : cs.length = k) :
    evalOp P G fr ⟨n, objs⟩ (.store t a x) = some (.undef, ⟨n, objs.set id (s, .var ty xs)⟩) := by
  have h1 : splice cs 0 xs = xs := by
    simp only [splice, List.take_zero, List.nil_append]
    rw [List.drop_of_length_le (by omega), List.append_nil]
  simp only [evalOp, storeAV, ha, hx, hk, hl, ho, if_true, h1]
  rw [if_pos ⟨trivial, by omega⟩]
  rfl

theorem wpL_nil (h : K fr H) : wpL P G ops [] fr H K := h
theorem step_of_ev {op : Op} {x : AV} (h : evalOp P G fr H op = some (x, H')) : AStep P G fr H op x H' := by
  unfold AStep
  split
  · rename_i c
    split
    · rename_i f xs hc
      exfalso
      unfold calleeAV at hc
      split at hc
      · rename_i fo hfo
        simp [evalOp, callAV, hfo] at h
      · cases hc
    · exact .inl h
  · exact h
theorem step_copy {c : Call} {x : AV} (h : copyCall P G fr c = some x) : AStep P G fr H (.call c) x H := by
  have hc : calleeAV G fr c = none := by
    unfold copyCall at h
    unfold calleeAV
    split at h
    · rename_i hb _ _
      rw [hb]
    · cases h
  unfold AStep
  simp only [hc]
  exact .inr ⟨h, trivial⟩
theorem wpL_copy {c : Call} {x : AV} (hg : o.guard = none) (ho : o.op = .call c) (h : copyCall P G fr c = some x) (hk : wpL P G ops os (put o.dst x fr) H K) : wpL P G ops (o :: os) fr H K := by
  unfold wpL
  simp only [hg]
  exact ⟨x, H, ho ▸ step_copy h, hk⟩
theorem wpL_ev {x : AV} (hg : o.guard = none) (h : evalOp P G fr H o.op = some (x, H')) (hk : wpL P G ops os (put o.dst x fr) H' K) : wpL P G ops (o :: os) fr H K := by
  unfold wpL
  simp only [hg]
  exact ⟨x, H', step_of_ev h, hk⟩
theorem wpL_acall {c : Call} {f : FuncId} {xs : List AV} {x : AV} (hg : o.guard = none) (ho : o.op = .call c) (hc : calleeAV G fr c = some (f, xs)) (h : ACalls P G f xs H x H') (hk : wpL P G ops os (put o.dst x fr) H' K) : wpL P G ops (o :: os) fr H K := by
  unfold wpL
  simp only [hg]
  refine ⟨x, H', ?_, hk⟩
  rw [ho]
  unfold AStep
  simp only [hc]
  exact h
theorem wpL_call {c : Call} {f : FuncId} {xs : List AV} {x : AV} (hg : o.guard = none) (ho : o.op = .call c) (hc : calleeAV G fr c = some (f, xs)) (h : Fn P G f xs x) (hk : wpL P G ops os (put o.dst x fr) H K) : wpL P G ops (o :: os) fr H K :=
  wpL_acall hg ho hc (h.calls H) hk
def Oper.free (o : Oper) : Oper := ⟨o.dst, o.op, o.type, o.pos, o.after, none⟩
theorem yield_of {t j : Nat} {b : Bool} (ht : (ops[j]?).bind (·.dst) = some t) (hb : fr t = .bool b) : yieldAV ops fr j = some (some b) := by
  unfold yieldAV
  simp only [ht, hb]
theorem yield_none {t j : Nat} (ht : (ops[j]?).bind (·.dst) = some t) (hb : fr t = .tup []) : yieldAV ops fr j = some none := by
  unfold yieldAV
  simp only [ht, hb]
theorem wpL_skip_n {t j : Nat} {want : Bool} (hg : o.guard = some (j, want)) (ht : (ops[j]?).bind (·.dst) = some t) (hb : fr t = .tup []) (h : wpL P G ops os (put o.dst (.tup []) fr) H K) : wpL P G ops (o :: os) fr H K := by
  unfold wpL
  simp only [hg]
  exact ⟨none, yield_none ht hb, (fun h => by cases h), fun _ => h⟩
theorem wpL_free {t j : Nat} {want : Bool} (hg : o.guard = some (j, want)) (ht : (ops[j]?).bind (·.dst) = some t) (hb : fr t = .bool want) (h : wpL P G ops (Oper.free o :: os) fr H K) : wpL P G ops (o :: os) fr H K := by
  unfold wpL at *
  simp only [hg]
  simp only [Oper.free] at h
  exact ⟨some want, yield_of ht hb, fun _ => h, fun h => absurd rfl h⟩
theorem wpL_skip_t {t j : Nat} (hg : o.guard = some (j, true)) (ht : (ops[j]?).bind (·.dst) = some t) (hb : fr t = .bool false) (h : wpL P G ops os (put o.dst (.tup []) fr) H K) : wpL P G ops (o :: os) fr H K := by
  unfold wpL
  simp only [hg]
  exact ⟨some false, yield_of ht hb, (fun h => by cases h), fun _ => h⟩
theorem wpL_skip_f {t j : Nat} (hg : o.guard = some (j, false)) (ht : (ops[j]?).bind (·.dst) = some t) (hb : fr t = .bool true) (h : wpL P G ops os (put o.dst (.tup []) fr) H K) : wpL P G ops (o :: os) fr H K := by
  unfold wpL
  simp only [hg]
  exact ⟨some true, yield_of ht hb, (fun h => by cases h), fun _ => h⟩
theorem wpL_split_t {t j : Nat} {b : Bool} (hg : o.guard = some (j, true)) (ht : (ops[j]?).bind (·.dst) = some t) (hb : fr t = .bool b) (hy : b = true → wpL P G ops (Oper.free o :: os) fr H K) (hn : b = false → wpL P G ops os (put o.dst (.tup []) fr) H K) : wpL P G ops (o :: os) fr H K := by
  cases b
  · exact wpL_skip_t hg ht hb (hn rfl)
  · exact wpL_free hg ht hb (hy rfl)
theorem wpL_split_f {t j : Nat} {b : Bool} (hg : o.guard = some (j, false)) (ht : (ops[j]?).bind (·.dst) = some t) (hb : fr t = .bool b) (hy : b = false → wpL P G ops (Oper.free o :: os) fr H K) (hn : b = true → wpL P G ops os (put o.dst (.tup []) fr) H K) : wpL P G ops (o :: os) fr H K := by
  cases b
  · exact wpL_free hg ht hb (hy rfl)
  · exact wpL_skip_f hg ht hb (hn rfl)

section
variable {d : Option Tmp} {op : Op} {ty : TypeId} {pos : String} {aft : Array Edge}
theorem wpL_ev' {x : AV} (h : evalOp P G fr H op = some (x, H')) (hk : wpL P G ops os (put d x fr) H' K) : wpL P G ops (⟨d, op, ty, pos, aft, none⟩ :: os) fr H K := wpL_ev rfl h hk
theorem wpL_store {t ty' : TypeId} {a x : Operand} {id s n k : Nat} {xs cs : List AV} {objs : List (Nat × Obj)} (ha : ev G fr a = .ptr id s 0) (hx : cellsAV (ev G fr x) = some xs) (hk : szP P t = some k) (hl : xs.length = k) (ho : objs[id]? = some (s, .var ty' cs)) (hc : cs.length = k)
    (h : wpL P G ops os (put d .undef fr) ⟨n, objs.set id (s, .var ty' xs)⟩ K) : wpL P G ops (⟨d, .store t a x, ty, pos, aft, none⟩ :: os) fr ⟨n, objs⟩ K := wpL_ev rfl (store_whole ha hx hk hl ho hc) h
theorem wpL_call' {c : Call} {f : FuncId} {xs : List AV} {x : AV} (hc : calleeAV G fr c = some (f, xs)) (h : Fn P G f xs x) (hk : wpL P G ops os (put d x fr) H K) : wpL P G ops (⟨d, .call c, ty, pos, aft, none⟩ :: os) fr H K := wpL_call rfl rfl hc h hk
theorem wpL_free' {t j : Nat} {want : Bool} (ht : (ops[j]?).bind (·.dst) = some t) (hb : fr t = .bool want) (h : wpL P G ops (⟨d, op, ty, pos, aft, none⟩ :: os) fr H K) : wpL P G ops (⟨d, op, ty, pos, aft, some (j, want)⟩ :: os) fr H K := wpL_free rfl ht hb h
theorem wpL_skip_t' {t j : Nat} (ht : (ops[j]?).bind (·.dst) = some t) (hb : fr t = .bool false) (h : wpL P G ops os (put d (.tup []) fr) H K) : wpL P G ops (⟨d, op, ty, pos, aft, some (j, true)⟩ :: os) fr H K := wpL_skip_t rfl ht hb h
theorem wpL_skip_f' {t j : Nat} (ht : (ops[j]?).bind (·.dst) = some t) (hb : fr t = .bool true) (h : wpL P G ops os (put d (.tup []) fr) H K) : wpL P G ops (⟨d, op, ty, pos, aft, some (j, false)⟩ :: os) fr H K := wpL_skip_f rfl ht hb h
theorem wpL_split_t' {t j : Nat} {b : Bool} (ht : (ops[j]?).bind (·.dst) = some t) (hb : fr t = .bool b) (hy : b = true → wpL P G ops (⟨d, op, ty, pos, aft, none⟩ :: os) fr H K) (hn : b = false → wpL P G ops os (put d (.tup []) fr) H K) : wpL P G ops (⟨d, op, ty, pos, aft, some (j, true)⟩ :: os) fr H K := wpL_split_t rfl ht hb hy hn
theorem wpL_split_f' {t j : Nat} {b : Bool} (ht : (ops[j]?).bind (·.dst) = some t) (hb : fr t = .bool b) (hy : b = false → wpL P G ops (⟨d, op, ty, pos, aft, none⟩ :: os) fr H K) (hn : b = true → wpL P G ops os (put d (.tup []) fr) H K) : wpL P G ops (⟨d, op, ty, pos, aft, some (j, false)⟩ :: os) fr H K := wpL_split_f rfl ht hb hy hn
end

/-- A function that is entered with the frame's size and its results said. -/
theorem Fn_body {f N : Nat} {fn : Func} {c : Code} {rs : List ResultVar} {xs : List AV} {x : AV} (hcall : ∀ vs w, (callFunc f vs).run P w = .ok (.enter f vs) w) (hf : P.funcs[f]? = some fn) (hb : fn.body = some c) (hN : fn.ntmps = N) (hr : fn.results.toList = rs) (hle : (xs.length ≤ N))
    (hp : Pure x) (h : ∀ n, AWp P G N n c (Ret P rs (fun y _ => y = x)) (enterFr xs) ⟨n, []⟩) : Fn P G f xs x := by
  subst hN hr
  exact Fn_of hcall hf hb hle h hp

/-- Told less of a value. -/
theorem eq_true_of {p : Prop} [Decidable p] (h : decide p = true) : p := of_decide_eq_true h
theorem eq_false_of {p : Prop} [Decidable p] (h : decide p = false) : ¬ p := of_decide_eq_false h

theorem enterFr_zero (x : AV) (xs : List AV) : enterFr (x :: xs) 0 = x := rfl
theorem enterFr_succ (x : AV) (xs : List AV) (i : Nat) : enterFr (x :: xs) (i + 1) = enterFr xs i := rfl
theorem enterFr_nil (i : Nat) : enterFr [] i = .undef := rfl
theorem resultsAV_one (fr : Fr) (H : Hp) (t : Tmp) : resultsAV P [.tmp t] fr H = some (fr t) := rfl
theorem resultsAV_two (fr : Fr) (H : Hp) (t u : Tmp) : resultsAV P [.tmp t, .tmp u] fr H = some (.tup [fr t, fr u]) := rfl
theorem resultsAV_three (fr : Fr) (H : Hp) (t u v : Tmp) : resultsAV P [.tmp t, .tmp u, .tmp v] fr H = some (.tup [fr t, fr u, fr v]) := rfl
attribute [go_sem] resultsAV_one resultsAV_two resultsAV_three List.all_cons List.all_nil AV.one Bool.and_true Bool.true_and Bool.and_self Bool.false_eq_true eq_self
attribute [go_sem] List.length_nil List.length_cons List.nil_append List.cons_append List.getElem?_cons_zero List.getElem?_cons_succ Nat.add_zero Nat.zero_add Option.map_some Option.map_none List.set_cons_zero List.set_cons_succ List.head?_cons List.map_cons List.map_nil List.drop_zero List.drop_succ_cons List.take_succ_cons List.take_zero true_and and_true and_self
attribute [go_sem] scalEq listEq evalOp ev ofV put_some put_none enterFr_zero enterFr_succ enterFr_nil cellsAt readAV fieldAddrAV indexAddrAV binAV intBinAV strBinAV eqAV eqTypeAV unAV pickAV_true pickAV_false pickAV_bool convAV partAV fieldAV indexAV extractAV boundAV sliceAV lenAV
  cellsAV splice storeAV fillAV buildAV chunk buildSliceAV contentsAV appendAV nilCheckAV builtinAV callAV calleeAV yieldAV Hp.push
end Go.Proofs.YtimdjillcaichaaDoorW.Ex
