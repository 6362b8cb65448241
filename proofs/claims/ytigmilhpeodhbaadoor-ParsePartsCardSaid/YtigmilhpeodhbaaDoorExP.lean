/- A symbolic executor for the machine's code, part P: the rules for functions that are printed as functions on numbers, strings, lists and trees (Option: none where the program would not come to an end, or not by itself). General over the program; no conditions beside those in each theorem. -/
import Derived.Test.YtigmilhpeodhbaaDoorEx10
import Derived.KernelRfl
namespace Go.Proofs.YtigmilhpeodhbaaDoorW.Ex
set_option linter.all false
open Go
variable {D : List Deferred}
set_option linter.unusedVariables false
variable {G : Nat → List AV} {P : Program} {N p : Nat}
theorem zf {α : Type} {c : Bool} {A B : Option α} {r : α} (hc : c = true) (h : (if c then A else B) = some r) : A = some r := by rwa [if_pos hc] at h
theorem zg {α : Type} {c : Bool} {A B : Option α} {r : α} (hc : c = false) (h : (if c then A else B) = some r) : B = some r := by rwa [if_neg (by rw [hc]; simp)] at h
theorem bind_some {α β : Type} {x : Option α} {f : α → Option β} {r : β} (h : (x >>= f) = some r) : ∃ y, x = some y ∧ f y = some r := by
 cases x with
 | none => cases h
 | some y => exact ⟨y, rfl, h⟩
def qg {α : Type} (x : α) : α := x
def ix {α : Type} (l : List α) (i : Int) : Option α := if 0 ≤ i then l[i.toNat]? else none
theorem qy6 {α : Type} {l : List α} {i : Int} {x : α} (h : ix l i = some x) : i = ((i.toNat : Nat) : Int) ∧ l[i.toNat]? = some x := by
 unfold ix at h
 split at h
 ·exact ⟨by omega, h⟩
 cases h
theorem qw2 {α : Type} (l : List α) (i : Nat) : ix l (i : Int) = l[i]? := by simp [ix]
def sx (s : ByteArray) (i : Int) : Option Int := if 0 ≤ i then (s[i.toNat]?).map (fun b => (b.toNat : Int)) else none
def ssub (s : ByteArray) (a b : Int) : Option ByteArray := if 0 ≤ a ∧ a ≤ b ∧ b ≤ (s.size : Int) then some (s.extract a.toNat b.toNat) else none
def cat (a b : ByteArray) : Option ByteArray := if a.size + b.size ≤ 9223372036854775807 then some (a ++ b) else none
def quo (k : IntKind) (a b : Int) : Option Int := if b = 0 then none else some (k.wrap (a.tdiv b))
def rem (a b : Int) : Option Int := if b = 0 then none else some (a.tmod b)
def app {α : Type} (by_ : Nat) (l m : List α) : Option (List α) := if (l.length + m.length) * by_ ≤ 140737488355328 ∧ l.length + m.length ≤ 9223372036854775807 then some (l ++ m) else none
theorem qcv {α : Type} {by_ : Nat} {l m r : List α} (h : app by_ l m = some r) : r = l ++ m ∧ (l.length + m.length) * by_ ≤ 140737488355328 ∧ l.length + m.length ≤ 9223372036854775807 := by
 unfold app at h
 split at h
 ·rename_i hc; exact ⟨(Option.some.inj h).symm, hc⟩
 cases h
theorem qfr {α : Type} {by_ : Nat} {l m r : List α} (h : app by_ l m = some r) (hm : 0 < m.length) : 0 < r.length := by
 obtain ⟨rfl, _⟩ := qcv h
 rw [List.length_append]; omega
def qd4 (bars : List Nat) : Code → List Item → List (Code × List Item)
 | .seq a b, k => qd4 bars a (.code b :: k) ++ qd4 bars b k
 | .cond c a b, k => barC bars c k fun k => qd4 bars a k ++ qd4 bars b k
 | .block id b, k => barB bars id k fun k => qd4 bars b (.blk id :: k)
 | .loop c, k => (c, k) :: qd4 bars c (.inl c :: k)
 | _, _ => []
def qeu (bars : List Nat) : Code → Nat → List Item → Option (List Item)
 | .seq a b, t, k => match qeu bars a t (.code b :: k) with | some x => some x | none => qeu bars b t k
 | .cond c a b, t, k => match c with
   | .tmp u => bif Nat.beq u t then some k else barC bars c k fun k => match qeu bars a t k with | some x => some x | none => qeu bars b t k
   | _ => match qeu bars a t k with | some x => some x | none => qeu bars b t k
 | .block id b, t, k => barB bars id k fun k => qeu bars b t (.blk id :: k)
 | .loop c, t, k => qeu bars c t (.inl c :: k)
 | _, _, _ => none
def qei (bars : List Nat) : Code → Nat → List Item → Option (List Item)
 | .seq a b, t, k => match qei bars a t (.code b :: k) with | some x => some x | none => qei bars b t k
 | .cond c a b, t, k => barC bars c k fun k => match qei bars a t k with | some x => some x | none => qei bars b t k
 | .block id b, t, k => bif Nat.beq id t then some k else barB bars id k fun k => qei bars b t (.blk id :: k)
 | .loop c, t, k => qei bars c t (.inl c :: k)
 | _, _, _ => none
def qbn (f : Func) : Code := match f.body with | some c => c | none => .skip
def Qd (bars : List Nat) (f : Func) (i : Nat) : Code × List Item := ((qd4 bars (qbn f) [])[i]?).getD (.skip, [])
def Zu (bars : List Nat) (f : Func) (t : Nat) : List Item := (qeu bars (qbn f) t []).getD []
def qti (bars : List Nat) (f : Func) (t : Nat) : List Item := (qei bars (qbn f) t []).getD []
def qan : List Item → Bool
 | .code _ :: _ => true
 | .inl _ :: _ => true
 | .blk _ :: k => qan k
 | .bar :: k => qan k
 | _ => false
section
variable {T : TT} {Q : Exit → Fr → Hp → Prop} {k : List Item} {kn : List Nat} {fr : FT} {n : Nat} {objs : Objs}
theorem qbt {c : Code} {f1 f2 : Fr} {H1 H2 : Hp} (h : Less G N p f1 H1 f2 H2) (k : qku P G N p c Q f2 H2) : qku P G N p c Q f1 H1 := by
 intro D w S F β a hp hH hf
 unfold Less at h
 obtain ⟨S', β', hx, hp', hH', hf'⟩ := h D w S F β a hp hH hf
 intro b ks cs
 obtain ⟨e, a', w', ⟨fr', H', S2, β2, q, hx2, r⟩, harr⟩ := k D w S' F β' a hp' hH' hf' b ks cs
 exact ⟨e, a', w', ⟨fr', H', S2, β2, q, hx.trans hx2, r⟩, harr⟩
theorem qft {f1 f2 : Fr} {H1 H2 : Hp} (h : Less G N p f1 H1 f2 H2) : ∀ (k : List Item), qan k = true → QK P G N p Q k .normal f2 H2 → QK P G N p Q k .normal f1 H1
 | .code c :: k, _, q => uv (Wi h q)
 | .inl c :: k, _, q => uv (qbt h q)
 | .blk i :: k, hk, q => qbz (qft h k hk q)
 | .bar :: k, hk, q => qft h k hk q
theorem vv {c : Code} {fr1 : FT} {n1 : Nat} {objs1 : Objs} {K : Code × List Item} (hK : (c, k) = K) (hl : Less G N p (frT fr) ⟨n, objs⟩ (frT fr1) ⟨n1, objs1⟩) (h : Ok P G T N p Q (.again K.1 K.2 fr1 n1 objs1)) : Ok P G T N p Q (.loop c k kn fr n objs) := by
 subst hK
 unfold Ok at h ⊢
 exact fun hk => qny (qbt hl (h hk))
theorem ux {c : Code} {fr1 : FT} {n1 : Nat} {objs1 : Objs} {K : Code × List Item} (hK : (c, k) = K) (hl : Less G N p (frT fr) ⟨n, objs⟩ (frT fr1) ⟨n1, objs1⟩) (h : Ok P G T N p Q (.again K.1 K.2 fr1 n1 objs1)) : Ok P G T N p Q (.again c k fr n objs) := by
 subst hK
 unfold Ok at h ⊢
 exact fun hk => qbt hl (h hk)
theorem Q3 {c : Code} (h : Ok P G T N p Q (.go [] (.code c :: .inl c :: k) [] fr n objs)) : Ok P G T N p Q (.again c k fr n objs) := by
 unfold Ok at h ⊢
 intro hk
 simp only [yt, Bool.and_eq_true] at hk
 exact qnz (h (by simp only [yt, hk.1, hk.2, Bool.and_self]))
theorem zi {fr1 : FT} {n1 : Nat} {objs1 : Objs} {K : List Item} (hK : k = K) (hc : qan k = true) (hl : Less G N p (frT fr) ⟨n, objs⟩ (frT fr1) ⟨n1, objs1⟩) (h : Ok P G T N p Q (.go [] K [] fr1 n1 objs1)) : Ok P G T N p Q (.bar k fr n objs) := by
 subst hK
 unfold Ok at h ⊢
 intro hk
 exact qft hl k hc (h hk)
theorem qdh (h : Ok P G T N p Q (.go [] k [] fr n objs)) : Ok P G T N p Q (.bar k fr n objs) := by
 unfold Ok at h ⊢
 exact h
end
section
variable {T : TT} {Q : Exit → Fr → Hp → Prop} {k : List Item} {kn : List Nat} {fr : FT} {n : Nat} {objs : Objs} {d : Bool} {all : Array Oper} {os : List Oper} {u : Tmp} {ty : TypeId} {pos : String} {aft : Array Edge} {α : Type}
theorem Y0 {t : TypeId} {a i : Operand} {sz : Nat} {full : Bool} {l : List α} {C : α → List AV} {κ : IntKind} {j : Int} {x : α} {c : List AV} {e : TypeId} {it : TI} (E : Env P T) (hx : ix l j = some x)
 (ha : ev G (frT fr) a = .sl sz full (l.map C)) (hi : ev G (frT fr) i = .int κ j) (ht : T.get t = some it) (he : it.elem = some (e, sz)) (hC : C x = c)
 (hc : Ok P G T N p Q (.go [(u, .rptr c)] (.ops d all os :: k) (unkn (some u) kn) fr n objs)) : Ok P G T N p Q (.gen ⟨some u, .indexAddr t a i, ty, pos, aft, none⟩ d all os k kn fr n objs) := by
 obtain ⟨h0, hl⟩ := qy6 hx
 exact qdq E ha hi ht he h0 (by rw [List.getElem?_map, hl, Option.map_some, hC]) hc
theorem qx2 {t : TypeId} {a i : Operand} {κ : IntKind} {j x : Int} {s : ByteArray} {it : TI} (E : Env P T) (hx : sx s j = some x)
 (ha : ev G (frT fr) a = .str s) (hi : ev G (frT fr) i = .int κ j) (ht : T.get t = some it) (he : it.str = true)
 (hc : Ok P G T N p Q (.go [(u, .int .u8 x)] (.ops d all os :: k) (unkn (some u) kn) fr n objs)) : Ok P G T N p Q (.gen ⟨some u, .index t a i, ty, pos, aft, none⟩ d all os k kn fr n objs) := by
 unfold sx at hx
 split at hx
 ·rename_i h0
  rw [Option.map_eq_some_iff] at hx
  obtain ⟨b, hb, rfl⟩ := hx
  exact qx4 E ha hi ht he (show j = ((j.toNat : Nat) : Int) by omega) hb hc
 cases hx
def bnd (x : Option AV) (d : Nat) (i : Int) : Prop := match x with
 | none => i = (d : Int)
 | some (.int _ j) => j = i
 | _ => False
theorem qxu {x : Option AV} {d : Nat} {i : Int} (h : bnd x d i) (h0 : 0 ≤ i) : ww x d = some i.toNat := by
 unfold bnd at h
 split at h
 ·subst h; rfl
 ·subst h; simp only [ww, if_pos h0]
 exact h.elim
theorem qaq {t : TypeId} {a : Operand} {lo hi : Option Operand} {s r : ByteArray} {i j : Int} {it : TI} (E : Env P T) (hx : ssub s i j = some r)
 (ha : ev G (frT fr) a = .str s) (ht : T.get t = some it) (he : it.str = true) (hl : bnd (lo.map (ev G (frT fr))) 0 i) (hh : bnd (hi.map (ev G (frT fr))) s.size j)
 (hc : Ok P G T N p Q (.go [(u, .str r)] (.ops d all os :: k) (unkn (some u) kn) fr n objs)) : Ok P G T N p Q (.gen ⟨some u, .slice t a lo hi none, ty, pos, aft, none⟩ d all os k kn fr n objs) := by
 unfold ssub at hx
 split at hx
 ·rename_i hcond
  cases hx
  exact qnt E ha ht he (qxu hl (by omega)) (qxu hh (by omega)) (by omega) (by omega) hc
 cases hx
theorem qnu {t t2 : TypeId} {a b : Operand} {s s2 r : ByteArray} (E : Env P T) (hx : cat s s2 = some r) (ha : ev G (frT fr) a = .str s) (hb : ev G (frT fr) b = .str s2)
 (hc : Ok P G T N p Q (.go [(u, .str r)] (.ops d all os :: k) (unkn (some u) kn) fr n objs)) : Ok P G T N p Q (.gen ⟨some u, .binOp .add t a b t2, ty, pos, aft, none⟩ d all os k kn fr n objs) := by
 unfold cat at hx
 split at hx
 ·rename_i hcond
  cases hx
  refine qcw (fun _ => rfl) ?_ hc
  simp only [evalOp, ha, hb, qfq, qb9, if_pos hcond, Option.map_some]
 cases hx
structure CellsOk {α : Type} (C : α → List AV) (sz : Nat) : Prop where
 len : ∀ a, (C a).length = sz
 pos : 0 < sz
 all : ∀ a, ∀ z ∈ C a, z.one = true ∧ z.closed = true
theorem qfi {C : α → List AV} {sz : Nat} (hC : ∀ a, (C a).length = sz) (l : List α) : (l.map C).flatten.length = l.length * sz := by
 induction l with
 | nil => simp
 | cons a l ih => rw [List.map_cons, List.flatten_cons, List.length_append, ih, hC, List.length_cons, Nat.add_mul]; omega
theorem qxf {C : α → List AV} (l m : List α) : ((l ++ m).map C).flatten = (l.map C).flatten ++ (m.map C).flatten := by
 rw [List.map_append, List.flatten_append]
theorem qfw {a b : Operand} {t t1 e : TypeId} {sz by_ id s0 : Nat} {f2 : Bool} {l m r : List α} {C : α → List AV} {z : List AV} {it ie : TI} (E : Env P T) (hx : app by_ l m = some r)
 (ha : ev G (frT fr) a = .bs sz id s0 0 l.length) (hb : ev G (frT fr) b = .sl sz f2 (m.map C)) (hm : 0 < m.length) (hC : ∀ a, (C a).length = sz) (ht : T.get t = some it) (he : it.elem = some (e, sz)) (hie : T.get e = some ie) (hz : ie.zero = some z) (hzl : z.length = sz) (h0 : 0 < sz)
 (hby : qeg P e = some by_) (hn : qbf P t1 = true) (ho : objs[id]? = some (s0, .row e (l.map C).flatten))
 (hc : Ok P G T N p Q (.go [(u, .bs sz id n 0 r.length)] (.ops d all os :: k) (unkn (some u) kn) fr (n + 1) (objs.set id (n, .row e (r.map C).flatten)))) (hcp : d = false ∨ Wt a = false := by first | exact .inl rfl | exact .inr rfl) :
 Ok P G T N p Q (.gen ⟨some u, .call ⟨.builtin .append, #[a, b], #[t, t1]⟩, ty, pos, aft, none⟩ d all os k kn fr n objs) := by
 obtain ⟨rfl, h1, h2⟩ := qcv hx
 refine qfv E ha hb ht he hie hz hzl h0 hby hn ho (qfi hC l) (by rw [List.length_map]; exact h1) (by rw [List.length_map]; exact h2) ?_ hcp (by rw [List.length_map]; omega)
 rw [List.length_map, ← qxf]
 rw [List.length_append] at hc
 exact hc
theorem qu8 {t : TypeId} {len : Nat} {qs : Array (Nat × Operand)} {e : TypeId} {sz : Nat} {it ie : TI} {l : List α} {C : α → List AV} {z : List AV} (E : Env P T)
 (hd : d = false) (ht : T.get t = some it) (he : it.elem = some (e, sz)) (hie : T.get e = some ie) (hz : ie.zero = some z) (hl : (Nat.ble (len * sz) 16777216 && Nat.blt 0 (len * sz)) = true)
 (hf : Q1 (fun i => some (i * sz, sz)) (List.replicate (len * sz) .undef) (qs.toList.map fun q => (q.1, ev G (frT fr) q.2)) = some (l.map C).flatten) (h1 : (l.map C).flatten.all (·.one) = true) (hn : l.length = len)
 (hc : Ok P G T N p Q (.go [(u, .bs sz objs.length n 0 l.length)] (.ops d all os :: k) (unkn (some u) kn) fr (n + 1) (objs ++ [(n, .row e (l.map C).flatten)]))) : Ok P G T N p Q (.gen ⟨some u, .buildSlice t len qs, ty, pos, aft, none⟩ d all os k kn fr n objs) := by
 subst hn
 exact qp9 E hd ht he hie hz hl hf h1 hc
theorem qws {t : Nat} {sz : Nat} {e : TypeId} {fr' : FT} (hg : fr.get t = .sl 0 true []) (hs : FT.setK 10 fr t (.bs sz objs.length n 0 0) some = some fr') : Less G N p (frT fr) ⟨n, objs⟩ (frT fr') ⟨n + 1, objs ++ [(n, .row e [])]⟩ := by
 obtain ⟨fr2, h1, h2⟩ := FT.setK_ok _ _ _ _ _ hs
 cases h2
 unfold Less
 intro D w S F β a hp hH hf
 refine ⟨S, β, ⟨rfl, rfl, rfl, Nat.le_refl _, Nat.le_refl _, fun _ _ => rfl, fun _ h => h, fun _ h => .inl h, fun _ _ => rfl, fun _ _ => rfl, fun _ _ h => h⟩, Nat.le_succ_of_le hp, ⟨hH.lts, hH.ltf, fun g => (hH.glob g).pure (.rptr _), fun i s o hi => ?_, fun i j si sj oi oj hi hj hne l1 l2 => ?_, fun i s o hi => ?_⟩, hf.size, hf.defers, fun q => ?_⟩
 ·simp only [List.getElem?_append] at hi
  split at hi
  ·exact Nat.lt_succ_of_lt (hH.ltn i s o hi)
  have := List.mem_of_getElem? hi
  simp only [List.mem_singleton, Prod.mk.injEq] at this
  rw [this.1]; exact Nat.lt_succ_self _
 ·have new : ∀ (i s : Nat) (o : Obj), (objs ++ [(n, Obj.row e [])])[i]? = some (s, o) → o.live = true → objs[i]? = some (s, o) := by
   intro i s o hi hl
   rw [List.getElem?_append] at hi
   split at hi
   ·exact hi
   have := List.mem_of_getElem? hi
   simp only [List.mem_singleton, Prod.mk.injEq] at this
   rw [this.2] at hl; cases hl
  exact hH.inj i j si sj oi oj (new _ _ _ hi l1) (new _ _ _ hj l2) hne l1 l2
 ·simp only [List.getElem?_append] at hi
  split at hi
  ·exact (hH.obj i s o hi).to (fun x v h => h.to (Nat.le_succ _) (fun _ _ => rfl) (fun _ h => h) (fun _ _ => rfl) (fun _ _ _ h => h)) rfl (fun h => h) (fun h => h) (fun h => h)
  have := List.mem_of_getElem? hi
  simp only [List.mem_singleton, Prod.mk.injEq] at this
  rw [this.2]
  exact fun h => absurd rfl h
 have hv := hf.val q
 show RV w S β (n + 1) (fr'.get q) _
 rw [h1 q]
 by_cases hq : q = t
 ·subst hq
  rw [if_pos rfl]
  have hv' : RV w S β n (.sl 0 true []) (a.tmps.getD q Go.undef) := by rw [← hg]; exact hv
  generalize a.tmps.getD q Go.undef = v at hv'
  cases hv' with
  | sl _ _ _ A cap u hl hm hf0 hA hA1 hS hsz h1 hc hr hV =>
    have := hf0 rfl
    subst this
    exact .bs0 sz objs.length n 0 A (Nat.lt_succ_self _) (hV rfl rfl)
 rw [if_neg hq]
 exact hv.to (Nat.le_succ _) (fun _ _ => rfl) (fun _ h => h) (fun _ _ => rfl) (fun _ _ _ h => h)
theorem q1m {c : Code} (t s1 sz : Nat) (e : TypeId) {fr' : FT} (hg : fr.get t = .sl s1 true []) (hs : FT.setK 10 fr t (.bs sz objs.length n 0 0) some = some fr') (h : Ok P G T N p Q (.loop c k kn fr' (n + 1) (objs ++ [(n, .row e [])]))) (h0 : s1 = 0 := by rfl) : Ok P G T N p Q (.loop c k kn fr n objs) := by
 subst h0
 unfold Ok at h ⊢
 exact fun hk => Wi (qws hg hs) (h hk)
theorem quv {i si j : Nat} {sz : Nat} {e ty : TypeId} {cs : List AV} (ho : objs[i]? = some (si, .var ty cs)) (hg : cs[j]? = some (.sl 0 true [])) :
 Less G N p (frT fr) ⟨n, objs⟩ (frT fr) ⟨n + 1, objs.set i (si, .var ty (cs.set j (.bs sz objs.length n 0 0))) ++ [(n, .row e [])]⟩ := by
 unfold Less
 intro D w S F β a hp hH hf
 have up : ∀ x v, RV w S β n x v → RV w S β (n + 1) x v := fun x v h => h.to (Nat.le_succ _) (fun _ _ => rfl) (fun _ h => h) (fun _ _ => rfl) (fun _ _ _ h => h)
 have hil := (List.getElem?_eq_some_iff.1 ho).1
 have hjl := (List.getElem?_eq_some_iff.1 hg).1
 have at_ : ∀ (q s : Nat) (o : Obj), (objs.set i (si, .var ty (cs.set j (.bs sz objs.length n 0 0))) ++ [(n, Obj.row e [])])[q]? = some (s, o) → (q = i ∧ s = si ∧ o = .var ty (cs.set j (.bs sz objs.length n 0 0))) ∨ (q ≠ i ∧ objs[q]? = some (s, o)) ∨ (q = objs.length ∧ s = n ∧ o = .row e []) := by
  intro q s o hq
  rw [List.getElem?_append] at hq
  split at hq
  ·by_cases hqi : q = i
   ·subst hqi
    rw [List.getElem?_set_self hil] at hq
    simp only [Option.some.injEq, Prod.mk.injEq] at hq
    exact .inl ⟨rfl, hq.1.symm, hq.2.symm⟩
   rw [List.getElem?_set_ne (Ne.symm hqi)] at hq
   exact .inr (.inl ⟨hqi, hq⟩)
  rename_i hge
  have h1 := List.mem_of_getElem? hq
  have h2 := (List.getElem?_eq_some_iff.1 hq).1
  simp only [List.mem_singleton, Prod.mk.injEq] at h1
  simp only [List.length_singleton] at h2
  rw [List.length_set] at h2 hge
  exact .inr (.inr ⟨by omega, h1.1, h1.2⟩)
 have old : ∀ (q s : Nat) (o : Obj), (objs.set i (si, .var ty (cs.set j (.bs sz objs.length n 0 0))) ++ [(n, Obj.row e [])])[q]? = some (s, o) → o.live = true → ∃ o', objs[q]? = some (s, o') ∧ o'.live = true := by
  intro q s o hq hl
  rcases at_ q s o hq with ⟨rfl, rfl, rfl⟩ | ⟨_, h⟩ | ⟨_, _, rfl⟩
  ·exact ⟨_, ho, rfl⟩
  ·exact ⟨o, h, hl⟩
  cases hl
 refine ⟨S, β, ⟨rfl, rfl, rfl, Nat.le_refl _, Nat.le_refl _, fun _ _ => rfl, fun _ h => h, fun _ h => .inl h, fun _ _ => rfl, fun _ _ => rfl, fun _ _ h => h⟩, Nat.le_succ_of_le hp, ⟨hH.lts, hH.ltf, fun g => (hH.glob g).pure (.rptr _), fun q s o hq => ?_, fun q q' sq sq' oq oq' hq hq' hne l1 l2 => ?_, fun q s o hq => ?_⟩, hf.size, hf.defers, fun q => up _ _ (hf.val q)⟩
 ·rcases at_ q s o hq with ⟨_, rfl, _⟩ | ⟨_, h⟩ | ⟨_, rfl, _⟩
  ·exact Nat.lt_succ_of_lt (hH.ltn _ _ _ ho)
  ·exact Nat.lt_succ_of_lt (hH.ltn _ _ _ h)
  exact Nat.lt_succ_self _
 ·obtain ⟨o1, a1, a2⟩ := old q sq oq hq l1
  obtain ⟨o2, b1, b2⟩ := old q' sq' oq' hq' l2
  exact hH.inj q q' sq sq' o1 o2 a1 b1 hne a2 b2
 rcases at_ q s o hq with ⟨rfl, rfl, rfl⟩ | ⟨_, h⟩ | ⟨_, rfl, rfl⟩
 ·obtain ⟨c, h1, h2, h3, h4, h5⟩ := hH.obj _ _ _ ho
  refine ⟨c, h1, by rw [List.length_set]; exact h2, h3, h4, fun m x hm => ?_⟩
  by_cases hmj : m = j
  ·subst hmj
   rw [List.getElem?_set_self hjl] at hm
   simp only [Option.some.injEq] at hm
   subst hm
   refine ⟨rfl, ?_⟩
   obtain ⟨_, hv⟩ := h5 m _ hg
   generalize c.getD m Go.undef = v at hv
   cases hv with
   | sl _ _ _ A cap u hl hm hf0 hA hA1 hS hsz h1 hc hr hV =>
     have := hf0 rfl
     subst this
     exact .bs0 sz objs.length n 0 A (Nat.lt_succ_self _) (hV rfl rfl)
  rw [List.getElem?_set_ne (Ne.symm hmj)] at hm
  exact ⟨(h5 m x hm).1, up _ _ (h5 m x hm).2⟩
 ·exact (hH.obj _ _ _ h).to up rfl (fun h => h) (fun h => h) (fun h => h)
 exact fun h => absurd rfl h
theorem qtq {c : Code} (i j sz : Nat) (e : TypeId) {s1 si : Nat} {ty : TypeId} {cs cs' : List AV} (ho : objs[i]? = some (si, .var ty cs)) (hg : cs[j]? = some (.sl s1 true [])) (hs : cs.set j (.bs sz objs.length n 0 0) = cs') (h : Ok P G T N p Q (.loop c k kn fr (n + 1) (objs.set i (si, .var ty cs') ++ [(n, .row e [])]))) (h0 : s1 = 0 := by rfl) : Ok P G T N p Q (.loop c k kn fr n objs) := by
 subst hs h0
 unfold Ok at h ⊢
 exact fun hk => Wi (quv ho hg) (h hk)
theorem qpl {f : Fr} {objs : Objs} {ids : List Nat} : frzL f objs ids [] := trivial
theorem qlx {f : Fr} {objs : Objs} {ids : List Nat} {ps : List (Nat × AV)} {t id s : Nat} {ty : TypeId} {cs : List AV} (hf : f t = .ptr id s 0) (hi : ids.contains id = true) (ho : objs[id]? = some (s, .var ty cs)) (hc : cs.all AV.closed = true) (h : frzL f objs ids ps) : frzL f objs ids ((t, .rptr cs) :: ps) :=
 ⟨⟨id, s, ty, cs, hf, rfl, by simpa using hi, ho, List.all_eq_true.1 hc⟩, h⟩
def qe7 (ids : List Nat) : Nat → Objs → (Objs → Option Objs) → Option Objs
 | _, [], k => k []
 | j, (s, o) :: l, k => qe7 ids (j + 1) l fun l => bif ids.any (Nat.beq j) then k ((s, .dead) :: l) else k ((s, o) :: l)
theorem K4 {ids : List Nat} : ∀ (l : Objs) (j : Nat) (r : Objs) (k : Objs → Option Objs), qe7 ids j l k = some r → ∃ l', qhi ids j l l' ∧ k l' = some r
 | [], j, r, k, h => ⟨[], trivial, h⟩
 | (s, o) :: l, j, r, k, h => by
   simp only [qe7] at h
   obtain ⟨l', h1, h2⟩ := K4 l (j + 1) r _ h
   cases hb : ids.any (Nat.beq j) with
   | true =>
     rw [hb, cond_true] at h2
     exact ⟨(s, .dead) :: l', ⟨⟨rfl, .inl rfl⟩, h1⟩, h2⟩
   | false =>
     rw [hb, cond_false] at h2
     refine ⟨(s, o) :: l', ⟨⟨rfl, .inr ⟨rfl, fun hm => ?_⟩⟩, h1⟩, h2⟩
     have : ids.any (Nat.beq j) = true := List.any_eq_true.2 ⟨j, hm, Nat.beq_refl j⟩
     rw [hb] at this; cases this
theorem qim : ∀ (ps : List (Nat × AV)) (fr fr' : FT), qlb ps fr = some fr' → frT fr' = puts ps (frT fr)
 | [], fr, fr', h => by simp only [qlb, Option.some.injEq] at h; subst h; rfl
 | (t, x) :: ps, fr, fr', h => by
   simp only [qlb, qc9] at h
   obtain ⟨fr2, h1, h2⟩ := FT.setK_ok _ _ _ _ _ h
   rw [qim ps fr2 fr' h2, h1.put]
   rfl
theorem qke {fr' : FT} {objs' : Objs} (ps : List (Nat × AV)) (ids : List Nat) (hk : qan k = true) (hps : frzL (frT fr) objs ids ps) (ho : qe7 ids 0 objs some = some objs') (hf : qlb ps fr = some fr') (hc : Ok P G T N p Q (.bar k fr' n objs')) : Ok P G T N p Q (.bar k fr n objs) := by
 unfold Ok at hc ⊢
 obtain ⟨l', ho, e⟩ := K4 _ _ _ _ ho
 cases e
 have := qo8 (G := G) (N := N) (p := p) (n := n) ps ids hps ho
 rw [← qim ps fr fr' hf] at this
 exact fun h => qft this k hk (hc h)
end
theorem jv {α : Type} {C : α → List AV} {sz id s : Nat} {l : List α} {objs : Objs} {e : TypeId} (hC : CellsOk C sz) (ho : objs[id]? = some (s, .row e (l.map C).flatten)) : J2 objs (.bs sz id s 0 l.length) (.sl sz false (l.map C)) := by
 refine ⟨rfl, rfl, hC.pos, e, _, ho, by rw [List.length_map], fun c hc => ?_, ?_, fun c hc z hz => ?_⟩
 ·obtain ⟨a, _, rfl⟩ := List.mem_map.1 hc; exact hC.len a
 ·rw [List.drop_zero, List.take_of_length_le (by rw [qfi hC.len]; exact Nat.le_refl _)]
 obtain ⟨a, _, rfl⟩ := List.mem_map.1 hc; exact hC.all a z hz
section
variable {α : Type} {l rest : List α} {j : Nat} {x : α} {C : α → List AV}
end
theorem qyz {fr fr' : FT} {n n' : Nat} {objs objs' : Objs} (hf : leFT (rho objs' objs) n' fr fr') (ho : leOs (rho objs' objs) n' objs objs') : Less G N 0 (frT fr) ⟨n, objs⟩ (frT fr') ⟨n', objs'⟩ := qm6 _ hf ho
theorem qep (x : AV) : wk1 x x := by
 unfold wk1
 cases x <;> first | rfl | exact ⟨.inl rfl, .inl rfl, fun h => ⟨h, .inl rfl⟩⟩
theorem q0f {s1 sz : Nat} {f : Bool} {l : List (List AV)} (h : s1 = sz ∨ l = []) : wk1 (.sl s1 f l) (.sl sz false l) := ⟨.inl rfl, h, fun e => by cases e⟩
section
variable {objs : Objs}
theorem Wj {x y : AV} (h : wk1 x y) (hx : ∀ sz id s off len, x ≠ .bs sz id s off len) : J2 objs x y := by
 unfold J2
 split
 ·exact absurd rfl (hx _ _ _ _ _)
 exact h
theorem yl {s1 sz : Nat} {f : Bool} {l : List (List AV)} (h : s1 = sz ∨ l = []) : J2 objs (.sl s1 f l) (.sl sz false l) := Wj (q0f h) (by simp)
theorem zt {k : IntKind} {a b : Int} (h : a = b) : J2 objs (.int k a) (.int k b) := h ▸ Wj (qep _) (by simp)
theorem qil {a b : Bool} (h : a = b) : J2 objs (.bool a) (.bool b) := h ▸ Wj (qep _) (by simp)
theorem jl {a b : ByteArray} (h : a = b) : J2 objs (.str a) (.str b) := h ▸ Wj (qep _) (by simp)
theorem qt2 : qik objs [] [] := trivial
theorem qa5 {x y : AV} {xs ys : List AV} (h : J2 objs x y) (hs : qik objs xs ys) : qik objs (x :: xs) (y :: ys) := ⟨h, hs⟩
theorem qa4 : qdu objs [] [] := trivial
theorem ue {x y : AV} {xs ys : List AV} (h : view objs x y) (hs : qdu objs xs ys) : qdu objs (x :: xs) (y :: ys) := ⟨h, hs⟩
theorem qvn {xs ys : List AV} (h : qik objs xs ys) : view objs (.agg xs) (.agg ys) := h
theorem Zt {x y : AV} (h : J2 objs x y) (hy : ∀ ds, y ≠ .agg ds) : view objs x y := by
 unfold view
 split
 ·exact absurd rfl (hy _)
 exact h
theorem qc5 {xs ys : List AV} (h : qdu objs xs ys) : qr4 objs (.tup xs) (.tup ys) := h
end
def AV.closed3 : AV → Bool
 | .tup cs => cs.all AV.closed2
 | .fn _ cs => cs.all AV.closed
 | x => x.closed2
theorem yb (x : AV) (h : x.closed3 = true) : Pure x := by
 cases x with
 | tup cs => exact .tup cs (fun y hy => q8 y (List.all_eq_true.1 h y hy))
 | fn f cs => exact .fn f cs (fun y hy => jy y (List.all_eq_true.1 h y hy))
 | _ => exact q8 _ h
theorem wi {xs : List AV} (h : xs.all AV.closed3 = true) : ∀ y ∈ xs, Pure y := fun y hy => yb y (List.all_eq_true.1 h y hy)
def ic (k : Int) : List AV := [.int .i64 k]
def sc (s : ByteArray) : List AV := [.str s]
theorem qhf : CellsOk ic 1 := ⟨fun _ => rfl, by decide, fun a z hz => by simp [ic] at hz; subst hz; exact ⟨rfl, rfl⟩⟩
theorem kp : CellsOk sc 1 := ⟨fun _ => rfl, by decide, fun a z hz => by simp [sc] at hz; subst hz; exact ⟨rfl, rfl⟩⟩
end Go.Proofs.YtigmilhpeodhbaaDoorW.Ex
