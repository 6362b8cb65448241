/- A symbolic executor for the machine's code, part 4: new objects, stores, literals, append, and that it is so. General over the program; no conditions beside those in each theorem. -/
import Derived.Test.YtigmilhpeodhbaaGreatDoorEx3
namespace Go.Proofs.YtigmilhpeodhbaaGreatDoorW.Ex
set_option linter.all false
open Go
variable {G : Nat → List AV} {P : Program} {w : World} {S F : Nat → Prop} {β : Nat → Nat} {n : Nat}
def Ke : AV → Option (List AV)
 | .agg cs => some cs
 | .undef | .tup _ => none
 | x => some [x]
/-- Cells of a value, told. -/
def CR (w : World) (S : Nat → Prop) (β : Nat → Nat) (n : Nat) (cs : List AV) (c : Array Value) : Prop :=
 c.size = cs.length ∧ ∀ (i : Nat) (x : AV), cs[i]? = some x → x.one = true ∧ RV w S β n x (c.getD i Go.undef)
theorem CR.one {cs : List AV} {c : Array Value} (h : CR w S β n cs c) : ∀ u ∈ c.toList, u.oneCell' = true := by
 intro u hu
 obtain ⟨i, hi⟩ := List.getElem?_of_mem hu
 have hlt := (List.getElem?_eq_some_iff.1 hi).1
 rw [Array.length_toList, h.1] at hlt
 obtain ⟨h1, h2⟩ := h.2 i cs[i] (List.getElem?_eq_getElem hlt)
 have : c.getD i Go.undef = u := by
  rw [Array.getD_eq_getD_getElem?, ← Array.getElem?_toList, hi, Option.getD_some]
 rw [this] at h2
 exact h2.one h1
theorem qgr {x : AV} {v : Value} {cs : List AV} (hx : RV w S β n x v) (h : Ke x = some cs) : CR w S β n cs v.cells := by
 have single : ∀ x v, RV w S β n x v → x.one = true → v.cells = #[v] → CR w S β n [x] v.cells := by
  intro x v hx h1 hv
  rw [hv]
  refine ⟨rfl, fun i y hi => ?_⟩
  cases i with
  | zero => simp only [List.getElem?_cons_zero, Option.some.injEq] at hi; subst hi; exact ⟨h1, hx⟩
  | succ i => simp at hi
 have hx0 := hx
 cases hx with
 | agg cs' vs hs h1 hr =>
   simp only [Ke, Option.some.injEq] at h; subst h
   exact ⟨hs, fun i x hi => ⟨h1 x (List.mem_of_getElem? hi), hr i x hi⟩⟩
 | undef v => cases h
 | tup _ _ => cases h
 | optr _ _ _ v hs hv => simp only [Ke, Option.some.injEq] at h; subst h; exact single _ _ hx0 rfl (by rcases hv with rfl | rfl <;> rfl)
 | _ => simp only [Ke, Option.some.injEq] at h; subst h; exact single _ _ hx0 rfl rfl
def Hp.push (H : Hp) (o : Obj) : Hp := ⟨H.n + 1, H.objs ++ [(H.n, o)]⟩
def Obj.cells : Obj → List AV | .dead => [] | .var _ cs | .row _ cs | .froz _ cs => cs
theorem qts {b : Nat} : ∀ s, s < n → (fun s => if s = n then b else β s) s = β s := fun s hs => if_neg (by omega)
/-- The world only grew: no block that was there has changed. -/
theorem Ext.grew {w' : World} {S' : Nat → Prop} (hs : ∀ k, S k → k < w.heap.size) (hf : ∀ k, F k → k < w.heap.size) (os : w'.os = w.os) (tape : w'.tape = w.tape) (output : w'.output = w.output) (size : w.heap.size ≤ w'.heap.size)
 (same : ∀ k, k < w.heap.size → w'.heap[k]? = w.heap[k]?) (sub : ∀ k, S k → S' k) (new : ∀ k, S' k → S k ∨ ¬ F k) (n' : Nat) (hn : n ≤ n') (β' : Nat → Nat) (hb : ∀ s, s < n → β' s = β s) : Ext w S F β n w' S' β' n' :=
 ⟨os, tape, output, size, hn, hb, sub, new, fun k hk => same k (hs k hk), fun k hk => same k (hf k hk), fun k x hx => by
   have hk : k < w.heap.size := by
    unfold World.shape? at hx
    split at hx
    ·rename_i h; exact (Array.getElem?_eq_some_iff.1 h).1
    ·cases hx
   unfold World.shape? at *
   rw [same k hk]; exact hx⟩
/-- One more object, in a block that was not there. -/
theorem HR.grew {H : Hp} (h : HR G w S F β H) {w' : World} (os : w'.os = w.os) (tape : w'.tape = w.tape) (output : w'.output = w.output)
 (same : ∀ k, k < w.heap.size → w'.heap[k]? = w.heap[k]?) {c : Array Value} {t : TypeId} (hc : w'.heap[w.heap.size]? = some (.cells c t (0, 0))) {o : Obj} (ho : (∃ cs, o = .var t cs ∧ c.size = cs.length) ∨ (∃ cs, o = .row t cs ∧ cs.length ≤ c.size))
 (hcs : ∀ (i : Nat) (x : AV), o.cells[i]? = some x → x.one = true ∧ RV w S β H.n x (c.getD i Go.undef)) :
 Ext w S F β H.n w' S (fun s => if s = H.n then w.heap.size else β s) (H.n + 1) ∧ HR G w' S F (fun s => if s = H.n then w.heap.size else β s) (H.push o) := by
 have hlt := (Array.getElem?_eq_some_iff.1 hc).1
 have hx : Ext w S F β H.n w' S (fun s => if s = H.n then w.heap.size else β s) (H.n + 1) :=
  Ext.grew h.lts h.ltf os tape output (by omega) same (fun _ h => h) (fun _ h => .inl h) _ (by omega) _ qts
 refine ⟨hx, fun k hk => by have := h.lts k hk; omega, fun k hk => by have := h.ltf k hk; omega, fun g => (h.glob g).ext hx, fun i s o' hi => ?_, fun i j si sj oi oj hi hj hne h1 h2 => ?_, fun i s o' hi => ?_⟩
 ·simp only [Hp.push, List.getElem?_append] at hi
  split at hi
  ·have := h.ltn i s o' hi; simp only [Hp.push]; omega
  ·have := List.mem_of_getElem? hi
   simp only [List.mem_singleton, Prod.mk.injEq] at this
   simp only [Hp.push]; omega
 ·simp only [Hp.push, List.getElem?_append] at hi hj
  have hb : ∀ (i s : Nat) (o : Obj), H.objs[i]? = some (s, o) → o.live = true → β s < w.heap.size := fun i s o hi hl => (h.obj i s o hi).lt hl
  split at hi
  ·rw [if_neg (by have := h.ltn i si oi hi; omega)]
   split at hj
   ·rw [if_neg (by have := h.ltn j sj oj hj; omega)]
    exact h.inj i j si sj oi oj hi hj hne h1 h2
   ·have := List.mem_of_getElem? hj
    simp only [List.mem_singleton, Prod.mk.injEq] at this
    rw [if_pos this.1]
    have := hb i si oi hi h1; omega
  ·have h0 := List.mem_of_getElem? hi
   simp only [List.mem_singleton, Prod.mk.injEq] at h0
   rw [if_pos h0.1]
   split at hj
   ·rw [if_neg (by have := h.ltn j sj oj hj; omega)]
    have := hb j sj oj hj h2; omega
   ·exfalso
    have hi1 := (List.getElem?_eq_some_iff.1 hi).1
    have hj1 := (List.getElem?_eq_some_iff.1 hj).1
    simp only [List.length_singleton] at hi1 hj1
    omega
 ·simp only [Hp.push, List.getElem?_append] at hi
  split at hi
  ·rename_i hil
   have hs := h.ltn i s o' hi
   rw [if_neg (by omega)]
   have ho := h.obj i s o' hi
   have hb : (match o' with | .dead => False | .row _ cs => cs ≠ [] | _ => True) → β s < w.heap.size := by
    intro hd
    cases o' with
    | dead => exact hd.elim
    | var t cs => exact ho.lt rfl
    | row t cs => exact ho.lt (qb7 (hd ·))
    | froz t cs => obtain ⟨_, _, _, _, hS, _⟩ := ho; exact h.lts _ hS
   cases o' with
   | dead => trivial
   | row t cs => exact fun hne => ho.to (o := .row t cs) (fun _ _ => RV.ext hx) (same _ (hb hne)) (fun h => h) (fun h => h) (fun h => h) hne
   | _ => exact ho.to (fun _ _ => RV.ext hx) (same _ (hb (by simp))) (fun h => h) (fun h => h) (fun h => h)
  ·have h0 := List.mem_of_getElem? hi
   simp only [List.mem_singleton, Prod.mk.injEq] at h0
   obtain ⟨h0, rfl⟩ := h0
   rw [if_pos h0]
   have hnS : ¬ S w.heap.size := fun hk => by have := h.lts _ hk; omega
   have hnF : ¬ F w.heap.size := fun hk => by have := h.ltf _ hk; omega
   rcases ho with ⟨cs, rfl, hsz⟩ | ⟨cs, rfl, hsz⟩
   ·exact ⟨c, hc, hsz, hnS, hnF, fun i x hi => ⟨(hcs i x hi).1, ((hcs i x hi).2).ext hx⟩⟩
   ·exact fun _ => ⟨c, hc, hsz, hnS, hnF, fun i x hi => ⟨(hcs i x hi).1, ((hcs i x hi).2).ext hx⟩⟩
/-- A new variable. -/
theorem q1i {H : Hp} (h : HR G w S F β H) {t : TypeId} {cs : List AV} {v : Value} (hc : CR w S β H.n cs v.cells) :
 ∃ v' w' β', (Instr.box t v).run P w = .ok v' w' ∧ Ext w S F β H.n w' S β' (H.n + 1) ∧ HR G w' S F β' (H.push (.var t cs)) ∧ RV w' S β' (H.n + 1) (.ptr H.objs.length H.n 0) v' := by
 have hg := h.grew (w' := w.alloc (.cells v.cells t)) rfl rfl rfl (fun k hk => heap_alloc_old w _ k hk) (heap_alloc_new w _) (o := .var t cs) (.inl ⟨cs, rfl, hc.1⟩) hc.2
 refine ⟨.pointer (some ⟨w.heap.size, 0, none⟩), _, _, rfl, hg.1, hg.2, ?_⟩
 have := RV.ptr (w := w.alloc (.cells v.cells t)) (S := S) (β := fun s => if s = H.n then w.heap.size else β s) (n := H.n + 1) H.objs.length H.n 0 (by omega)
 simpa using this
def zeroAV (P : Program) (t : TypeId) : Option (List AV) := ((P.info? t).bind (·.zero)).map fun z => z.cells.toList.map ofV
theorem qxq {t : TypeId} {cs : List AV} (h : zeroAV P t = some cs) (h1 : cs.all (·.one) = true) : ∃ v, (zeroValue t).run P w = .ok v w ∧ CR w S β n cs v.cells := by
 unfold zeroAV at h
 cases hi : P.info? t with
 | none => simp [hi] at h
 | some i =>
   cases hz : i.zero with
   | none => simp [hi, hz] at h
   | some z =>
     simp [hi, hz] at h
     refine ⟨z, by simp [zeroValue, typeInfo, hi, hz], by rw [← h]; simp, fun j x hj => ⟨?_, ?_⟩⟩
     ·exact List.all_eq_true.1 h1 x (List.mem_of_getElem? hj)
     ·rw [← h] at hj
      simp only [List.getElem?_map, Option.map_eq_some_iff] at hj
      obtain ⟨u, hu, rfl⟩ := hj
      rw [Array.getElem?_toList] at hu
      rw [Array.getD_eq_getD_getElem?, hu]
      exact quy u
theorem q1n {H : Hp} (h : HR G w S F β H) {t : TypeId} {cs : List AV} (hz : zeroAV P t = some cs) (h1 : cs.all (·.one) = true) :
 ∃ v' w' β', (Instr.alloc t true (.tuple #[])).run P w = .ok v' w' ∧ Ext w S F β H.n w' S β' (H.n + 1) ∧ HR G w' S F β' (H.push (.var t cs)) ∧ RV w' S β' (H.n + 1) (.ptr H.objs.length H.n 0) v' := by
 obtain ⟨v, hv, hc⟩ := qxq (P := P) (w := w) (S := S) (β := β) (n := H.n) hz h1
 obtain ⟨v', w', β', hr, r⟩ := q1i (P := P) h (t := t) hc
 refine ⟨v', w', β', ?_, r⟩
 simp only [Instr.alloc, Sem.run_bind, hv, Result.andThen_ok]
 exact hr
def Jd (cs : List AV) (off : Nat) (xs : List AV) : List AV := cs.take off ++ xs ++ cs.drop (off + xs.length)
def Qp (P : Program) (H : Hp) (t : TypeId) (p x : AV) : Option Hp :=
 match p, Ke x, szP P t with
 | .ptr id s off, some xs, some k => if xs.length = k then
    match H.objs[id]? with
    | some (s', .var ty cs) => if s' = s ∧ off + xs.length ≤ cs.length then some ⟨H.n, H.objs.set id (s, .var ty (Jd cs off xs))⟩ else none
    | some (s', .row ty cs) => if s' = s ∧ off + xs.length ≤ cs.length ∧ 0 < cs.length then some ⟨H.n, H.objs.set id (s, .row ty (Jd cs off xs))⟩ else none
    | _ => none
   else none
 | _, _, _ => none
theorem qal {cs xs : List AV} {off : Nat} (h : off + xs.length ≤ cs.length) : (Jd cs off xs).length = cs.length := by
 simp only [Jd, List.length_append, List.length_take, List.length_drop]; omega
/-- What one live object's block holds is turned. -/
theorem HR.turn {H : Hp} (h : HR G w S F β H) {id s : Nat} {o o' : Obj} (hi : H.objs[id]? = some (s, o)) (hl : o.live = true) {w' : World} (os : w'.os = w.os) (tape : w'.tape = w.tape) (output : w'.output = w.output) (size : w'.heap.size = w.heap.size)
 (same : ∀ k, k ≠ β s → w'.heap[k]? = w.heap[k]?) (shape : ∀ x, w.shape? (β s) = some x → w'.shape? (β s) = some x)
 (ho : (∀ x v, RV w S β H.n x v → RV w' S β H.n x v) → OR w' S F β H.n (β s) o') : Ext w S F β H.n w' S β H.n ∧ HR G w' S F β ⟨H.n, H.objs.set id (s, o')⟩ := by
 have hnS := (h.obj id s o hi).notS hl
 have hx : Ext w S F β H.n w' S β H.n := ⟨os, tape, output, by omega, Nat.le_refl _, fun _ _ => rfl, fun _ h => h, fun _ h => .inl h, fun k hk => same k (by intro e; subst e; exact hnS.1 hk), fun k hk => same k (by intro e; subst e; exact hnS.2 hk), fun k x hk => by
  by_cases he : k = β s
  ·subst he; exact shape x hk
  ·unfold World.shape? at *; rw [same k he]; exact hk⟩
 have hid : id < H.objs.length := (List.getElem?_eq_some_iff.1 hi).1
 have at_ : ∀ (i : Nat) (y : Nat × Obj), (H.objs.set id (s, o'))[i]? = some y → (i = id ∧ y = (s, o')) ∨ (i ≠ id ∧ H.objs[i]? = some y) := by
  intro i y hy
  by_cases he : i = id
  ·subst he
   rw [List.getElem?_set_self hid] at hy
   simp only [Option.some.injEq] at hy
   exact .inl ⟨rfl, hy.symm⟩
  ·rw [List.getElem?_set_ne (Ne.symm he)] at hy
   exact .inr ⟨he, hy⟩
 refine ⟨hx, fun k hk => by rw [size]; exact h.lts k hk, fun k hk => by rw [size]; exact h.ltf k hk, fun g => (h.glob g).ext hx, fun i s1 o1 h1 => ?_, fun i j si sj oi oj h1 h2 hne l1 l2 => ?_, fun i s1 o1 h1 => ?_⟩
 ·rcases at_ i _ h1 with ⟨rfl, e⟩ | ⟨_, e⟩
  ·injection e with e1 e2; subst e1; exact h.ltn _ _ _ hi
  ·exact h.ltn _ _ _ e
 ·rcases at_ i _ h1 with ⟨rfl, e⟩ | ⟨hi', e⟩
  ·injection e with e1 e2; subst e1
   rcases at_ j _ h2 with ⟨rfl, e⟩ | ⟨hj', e⟩
   ·exact absurd rfl hne
   ·exact h.inj _ _ _ _ _ _ hi e hne hl l2
  ·rcases at_ j _ h2 with ⟨rfl, e'⟩ | ⟨hj', e'⟩
   ·injection e' with e1 e2; subst e1
    exact h.inj _ _ _ _ _ _ e hi hne l1 hl
   ·exact h.inj _ _ _ _ _ _ e e' hne l1 l2
 ·rcases at_ i _ h1 with ⟨rfl, e⟩ | ⟨hi', e⟩
  ·injection e with e1 e2; subst e1 e2
   exact ho (fun _ _ => RV.ext hx)
  ·have hor := h.obj _ _ _ e
   cases hlv : o1.live with
   | true => exact hor.to (fun _ _ => RV.ext hx) (same _ (h.inj _ _ _ _ _ _ e hi hi' hlv hl)) (fun h => h) (fun h => h) (fun h => h)
   | false =>
     cases o1 with
     | dead => trivial
     | var t cs => cases hlv
     | row t cs => exact OR.nil hlv
     | froz t cs =>
       have hS := hor
       obtain ⟨_, _, _, _, hS, _⟩ := hS
       exact hor.to (fun _ _ => RV.ext hx) (same _ (by intro e; rw [e] at hS; exact hnS.1 hS)) (fun h => h) (fun h => h) (fun h => h)
theorem Kc (l : List Value) (i : Nat) : l.toArray.getD i Go.undef = (l[i]?).getD Go.undef := by
 rw [Array.getD_eq_getD_getElem?, List.getElem?_toArray]
theorem qx7 {cs xs : List AV} {off : Nat} {c c2 : Array Value} (hcs : ∀ (i : Nat) (x : AV), cs[i]? = some x → x.one = true ∧ RV w S β n x (c.getD i Go.undef)) (hle : cs.length ≤ c.size) (hoff : off + xs.length ≤ cs.length)
 (hx : CR w S β n xs c2) : ∀ (i : Nat) (x : AV), (Jd cs off xs)[i]? = some x → x.one = true ∧ RV w S β n x ((c.toList.take (off + 0) ++ c2.toList ++ c.toList.drop (off + 0 + c2.toList.length)).toArray.getD i Go.undef) := by
 intro i x hi
 have h2 : c2.size = xs.length := hx.1
 simp only [Jd, List.getElem?_append, List.length_append, List.length_take, List.getElem?_take, List.getElem?_drop] at hi
 rw [Kc]
 simp only [List.getElem?_append, List.length_append, List.length_take, List.getElem?_take, List.getElem?_drop, Array.length_toList, Nat.add_zero, h2, Array.getElem?_toList]
 rw [show min off cs.length = off by omega] at hi
 rw [show min off c.size = off by omega]
 by_cases ha : i < off
 ·simp only [show i < off + xs.length by omega, ha, if_true] at hi ⊢
  have := hcs i x hi
  rwa [Array.getD_eq_getD_getElem?] at this
 ·by_cases hb : i < off + xs.length
  ·simp only [hb, ha, if_true, if_false] at hi ⊢
   have := hx.2 _ _ hi
   rwa [Array.getD_eq_getD_getElem?] at this
  ·simp only [hb, if_false] at hi ⊢
   have := hcs _ _ hi
   rwa [Array.getD_eq_getD_getElem?] at this
theorem qzn {H H' : Hp} (h : HR G w S F β H) {t : TypeId} {p x : AV} {pv v : Value} (hp : RV w S β H.n p pv) (hx : RV w S β H.n x v) (hs : Qp P H t p x = some H') :
 ∃ w', (Instr.storeAt t pv v).run P w = .ok () w' ∧ Ext w S F β H.n w' S β H'.n ∧ HR G w' S F β H' := by
 unfold Qp at hs
 split at hs
 ·rename_i id s off xs k hc hk
  cases hp
  have hcr := qgr hx hc
  split at hs
  ·rename_i hlen
   have main : ∀ (ty : TypeId) (cs : List AV) (c : Array Value) (o o' : Obj), H.objs[id]? = some (s, o) → o.live = true → w.heap[β s]? = some (.cells c ty (0, 0)) → cs.length ≤ c.size → (∀ (i : Nat) (x : AV), cs[i]? = some x → x.one = true ∧ RV w S β H.n x (c.getD i Go.undef)) →
    off + xs.length ≤ cs.length → (∀ w' c', (∀ x v, RV w S β H.n x v → RV w' S β H.n x v) → w'.heap[β s]? = some (.cells c' ty (0, 0)) → c'.size = c.size → (∀ (i : Nat) (x : AV), (Jd cs off xs)[i]? = some x → x.one = true ∧ RV w' S β H.n x (c'.getD i Go.undef)) → OR w' S F β H.n (β s) o') →
    ∃ w', (Instr.storeAt t (.pointer (some ⟨β s, off, none⟩)) v).run P w = .ok () w' ∧ Ext w S F β H.n w' S β H.n ∧ HR G w' S F β ⟨H.n, H.objs.set id (s, o')⟩ := by
    intro ty cs c o o' hi hl hb hle hall hoff ho
    have hst := run_storeCells_at (P := P) (β s) off ty v.cells.toList 0 c w hb (by rw [Array.length_toList, hcr.1]; omega) hcr.one
    have hsz : (c.toList.take (off + 0) ++ v.cells.toList ++ c.toList.drop (off + 0 + v.cells.toList.length)).toArray.size = c.size := by
     simp only [List.size_toArray, List.length_append, List.length_take, List.length_drop, Array.length_toList, hcr.1]; omega
    refine ⟨_, ?_, h.turn hi hl (w' := w.setRow (β s) (c.toList.take (off + 0) ++ v.cells.toList ++ c.toList.drop (off + 0 + v.cells.toList.length)).toArray) rfl rfl rfl (setRow_size _ _ _) (fun k hk => setRow_other w _ k _ hk) (fun x hx => ?_) (fun hr => ho _ _ hr (setRow_heap w _ c _ ty _ hb) hsz ?_)⟩
    ·have h1 : v.cells.size = k := by rw [hcr.1]; exact hlen
     simp only [Instr.storeAt, Instr.sureAddr, storeVar, Sem.run_bind, Sem.run_pure, Result.andThen_ok, Yi hk, h1, ne_eq, not_true_eq_false, if_false]
     exact hst
    ·unfold World.shape? at *
     rw [setRow_heap w _ c _ ty _ hb]
     simp only [hb] at hx
     rw [← hx]
     exact congrArg (fun m => some (ty, m)) hsz
    ·intro i x hi
     have := qx7 hall hle hoff hcr i x hi
     exact ⟨this.1, hr _ _ this.2⟩
   split at hs
   ·rename_i s' ty cs hi
    split at hs
    ·rename_i hcond
     obtain ⟨rfl, hoff⟩ := hcond
     simp only [Option.some.injEq] at hs; subst hs
     obtain ⟨c, hb, hsz, hnS, hnF, hall⟩ := h.obj _ _ _ hi
     exact main ty cs c _ _ hi rfl hb (by omega) hall hoff (fun w' c' _ hb' hsz' hall' => ⟨c', hb', by rw [hsz', hsz, qal hoff], hnS, hnF, hall'⟩)
    ·cases hs
   ·rename_i s' ty cs hi
    split at hs
    ·rename_i hcond
     obtain ⟨rfl, hoff, hpos⟩ := hcond
     simp only [Option.some.injEq] at hs; subst hs
     have hne : cs ≠ [] := by intro e; subst e; simp at hpos
     obtain ⟨c, hb, hsz, hnS, hnF, hall⟩ := h.obj _ _ _ hi hne
     exact main ty cs c _ _ hi (qb7 hne) hb (by omega) hall hoff (fun w' c' _ hb' hsz' hall' _ => ⟨c', hb', by rw [hsz', qal hoff]; exact hsz, hnS, hnF, hall'⟩)
    ·cases hs
   ·cases hs
  ·cases hs
 ·cases hs
end Go.Proofs.YtigmilhpeodhbaaGreatDoorW.Ex
