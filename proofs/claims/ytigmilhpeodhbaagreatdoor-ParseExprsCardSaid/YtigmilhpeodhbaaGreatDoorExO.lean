/- A symbolic executor for the machine's code: functions that are handed lists of their caller's: what such a list holds told less, names below the caller's kept, what is returned. Conditions: none beside those in each theorem. -/
import Derived.Test.YtigmilhpeodhbaaGreatDoorExP
import Derived.KernelRfl
namespace Go.Proofs.YtigmilhpeodhbaaGreatDoorW.Ex
open Go
variable {D : List Deferred}
set_option linter.all false
set_option maxRecDepth 100000
variable {P : Program} {G : Nat → List AV} {T : TT} {N p : Nat} {Q : Exit → Fr → Hp → Prop} {k : List Item} {kn : List Nat} {fr : FT} {n : Nat} {objs : Objs}
/-- A list of the call's own is told less. -/
theorem qzc {i s : Nat} {e : TypeId} {cs cs' : List AV} (ho : objs[i]? = some (s, .row e cs)) (hw : wkL cs cs') : Less G N p (frT fr) ⟨n, objs⟩ (frT fr) ⟨n, objs.set i (s, .row e cs')⟩ := by
 obtain ⟨hl, hg⟩ := qc1 _ _ hw
 have hil := (List.getElem?_eq_some_iff.1 ho).1
 have at_ : ∀ (q t : Nat) (o : Obj), (objs.set i (s, .row e cs'))[q]? = some (t, o) → (q = i ∧ t = s ∧ o = .row e cs') ∨ (q ≠ i ∧ objs[q]? = some (t, o)) := by
  intro q t o hq
  by_cases hqi : q = i
  ·subst hqi
   rw [List.getElem?_set_self hil] at hq
   simp only [Option.some.injEq, Prod.mk.injEq] at hq
   exact .inl ⟨rfl, hq.1.symm, hq.2.symm⟩
  ·rw [List.getElem?_set_ne (Ne.symm hqi)] at hq
   exact .inr ⟨hqi, hq⟩
 have hlive : (Obj.row e cs').live = (Obj.row e cs).live := by
  show (!cs'.isEmpty) = (!cs.isEmpty)
  cases cs <;> cases cs' <;> simp_all
 unfold Less
 intro D w S F β a hp hH hf
 refine ⟨S, β, Ext.refl w S F β p, hp, ⟨hH.lts, hH.ltf, hH.glob, fun q t o hq => ?_, fun q q' sq sq' oq oq' hq hq' hne l1 l2 => ?_, fun q t o hq => ?_⟩, hf⟩
 ·rcases at_ q t o hq with ⟨_, rfl, _⟩ | ⟨_, h⟩
  ·exact hH.ltn i t _ ho
  ·exact hH.ltn q t o h
 ·have old : ∀ (q t : Nat) (o : Obj), (objs.set i (s, .row e cs'))[q]? = some (t, o) → o.live = true → ∃ o', objs[q]? = some (t, o') ∧ o'.live = true := by
   intro q t o hq hv
   rcases at_ q t o hq with ⟨rfl, rfl, rfl⟩ | ⟨_, h⟩
   ·exact ⟨_, ho, by rw [← hlive]; exact hv⟩
   ·exact ⟨o, h, hv⟩
  obtain ⟨o1, h1, v1⟩ := old _ _ _ hq l1
  obtain ⟨o2, h2, v2⟩ := old _ _ _ hq' l2
  exact hH.inj q q' sq sq' o1 o2 h1 h2 hne v1 v2
 ·rcases at_ q t o hq with ⟨rfl, rfl, rfl⟩ | ⟨_, h⟩
  ·intro hne
   have hor := hH.obj q t _ ho
   obtain ⟨c, h1, h2, h3, h4, h5⟩ := hor (by rintro rfl; exact hne (List.length_eq_zero_iff.1 (by rw [← hl]; rfl)))
   refine ⟨c, h1, by omega, h3, h4, fun j y hj => ?_⟩
   obtain ⟨x, hx, hk⟩ := hg j y hj
   obtain ⟨o1, r1⟩ := h5 j x hx
   exact ⟨(qhb hk).trans o1, qkg hk r1⟩
  ·exact hH.obj q t o h
theorem q3z (i s : Nat) (e : TypeId) {cs cs' : List AV} (hk : qa6 k = true) (ho : objs[i]? = some (s, .row e cs)) (hw : wkL cs cs') (h : Ok P G T N p Q (.bar k fr n (objs.set i (s, .row e cs')))) : Ok P G T N p Q (.bar k fr n objs) := by
 unfold Ok at h ⊢
 exact fun hi => qff (qzc ho hw) k hk (h hi)
theorem qwx : ∀ {a b c d : List AV}, wkL a b → wkL c d → wkL (a ++ c) (b ++ d)
 | [], [], _, _, _, h => h
 | x :: a, y :: b, c, d, h, g => ⟨h.1, qwx h.2 g⟩
 | [], _ :: _, _, _, h, _ => h.elim
 | _ :: _, [], _, _, h, _ => h.elim
/-- Names below the caller's stay. -/
theorem q07 {fr fr' : FT} {n n' : Nat} {objs objs' : Objs} (hid : ∀ s, s < p → rho objs' objs s = s) (hp : p ≤ n') (hf : leFT (rho objs' objs) n' fr fr') (ho : leOs (rho objs' objs) n' objs objs') : Less G N p (frT fr) ⟨n, objs⟩ (frT fr') ⟨n', objs'⟩ := q06 _ hid hp hf ho
theorem qvn {m : Nat} {x : AV} (h : x.closed = true) : x.un1 m = true := by
 cases x with
 | fn f caps =>
   have : caps = [] := List.isEmpty_iff.1 h
   subst this; rfl
 | _ => first | exact h | cases h
theorem qv3 {ι ρ : Nat → Nat} {x : AV} (h : x.closed = true) : x.mv1 ι ρ = x := by
 cases x with
 | fn f caps =>
   have : caps = [] := List.isEmpty_iff.1 h
   subst this; rfl
 | _ => first | rfl | cases h
theorem qc9 {α : Type} {C : α → List AV} {sz : Nat} (hC : CellsOk C sz) (l : List α) : ∀ x ∈ (l.map C).flatten, x.closed = true := by
 intro x hx
 rw [List.mem_flatten] at hx
 obtain ⟨c, hc, hx⟩ := hx
 obtain ⟨a, _, rfl⟩ := List.mem_map.1 hc
 exact (hC.all a x hx).2
theorem q0l {α : Type} {C : α → List AV} {sz m : Nat} {e : TypeId} (hC : CellsOk C sz) (l : List α) : Obj.un m (.row e (l.map C).flatten) = true :=
 List.all_eq_true.2 fun x hx => qvn (qc9 hC l x hx)
theorem q4g {e : TypeId} (cs : List AV) : ((Obj.row e cs).live || (Obj.row e cs).ghost) = true := by cases cs <;> rfl
section
variable {d : Bool} {all : Array Oper} {os : List Oper} {u : Tmp} {ty : TypeId} {pos : String} {aft : Array Edge}
theorem q2j {t : TypeId} {a i : Operand} {sz id s len : Nat} {κ : IntKind} {j : Int} {e : TypeId} {it : TI} (E : Env P T)
 (ha : ev G (frT fr) a = .bs sz id s 0 len) (hi : ev G (frT fr) i = .int κ j) (ht : T.get t = some it) (he : it.elem = some (e, sz)) (h0 : 0 ≤ j) (hl : j.toNat < len)
 (hc : Ok P G T N p Q (.go [(u, .ptr id s (j.toNat * sz))] (.ops d all os :: k) (unkn (some u) kn) fr n objs)) : Ok P G T N p Q (.gen ⟨some u, .indexAddr t a i, ty, pos, aft, none⟩ d all os k kn fr n objs) := by
 refine qgy (fun _ => rfl) ?_ hc
 simp only [evalOp, ha, hi, Yy, if_pos h0, (ti E.hT ht).elem _ he, Option.map_some]
 rw [if_pos ⟨trivial, hl⟩, Nat.zero_add]
 rfl
end
def wkO (o o' : Obj) : Prop := match o' with
 | .dead => True
 | .var t cs => (match o with | .var t' cs' => t' = t ∧ wkL cs' cs | _ => False)
 | .row t cs => (match o with | .row t' cs' => t' = t ∧ wkL cs' cs | _ => False)
 | .froz _ _ => o = o'
def wkOs : Objs → Objs → Prop
 | [], [] => True
 | (s, o) :: l, (s', o') :: l' => (s = s' ∧ wkO o o') ∧ wkOs l l'
 | _, _ => False
theorem qf4 : ∀ (l l' : Objs), wkOs l l' → ∀ (i s : Nat) (o' : Obj), l'[i]? = some (s, o') → ∃ o, l[i]? = some (s, o) ∧ wkO o o'
 | [], [], _, i, s, o', h => by simp at h
 | [], _ :: _, h, _, _, _, _ => h.elim
 | _ :: _, [], h, _, _, _, _ => h.elim
 | (s, o) :: l, (t, q) :: l', h, 0, s', o', hi => by
   simp only [List.getElem?_cons_zero, Option.some.injEq, Prod.mk.injEq] at hi
   obtain ⟨rfl, rfl⟩ := hi
   exact ⟨o, by rw [h.1.1]; rfl, h.1.2⟩
 | (s, o) :: l, (t, q) :: l', h, i + 1, s', o', hi => by
   obtain ⟨o2, h1, h2⟩ := qf4 l l' h.2 i s' o' (by simpa using hi)
   exact ⟨o2, by simpa using h1, h2⟩
theorem qs0 {o o' : Obj} (h : wkO o o') (hl : o'.live = true) : o.live = true := by
 cases o' with
 | dead => cases hl
 | froz t cs => cases hl
 | var t cs =>
   cases o with
   | var t' cs' => rfl
   | _ => exact h.elim
 | row t cs =>
   cases o with
   | row t' cs' =>
     obtain ⟨_, h⟩ := h
     have := (qc1 _ _ h).1
     cases cs with
     | nil => cases hl
     | cons a l => cases cs' with
       | nil => simp at this
       | cons b l' => rfl
   | _ => exact h.elim
theorem ACalls.wk {f : FuncId} {xs ys : List AV} {x : AV} {m : Nat} {O O' : Objs} {H : Hp} (h : ACalls P G f ys ⟨m, O'⟩ x H) (hw : wkLs xs ys) (ho : wkOs O O') : ACalls P G f xs ⟨m, O⟩ x H := by
 intro w S F β vs hH hv
 obtain ⟨hl, hg⟩ := qmy xs ys hw
 have cells : ∀ (cs cs' : List AV) (c : Array Value), wkL cs' cs → (∀ (i : Nat) (x : AV), cs'[i]? = some x → x.one = true ∧ RV w S β m x (c.getD i Go.undef)) → ∀ (i : Nat) (x : AV), cs[i]? = some x → x.one = true ∧ RV w S β m x (c.getD i Go.undef) := by
  intro cs cs' c hw h i x hi
  obtain ⟨y, hy, hk⟩ := (qc1 _ _ hw).2 i x hi
  exact ⟨(qhb hk).trans (h i y hy).1, qkg hk (h i y hy).2⟩
 refine h w S F β vs ⟨hH.lts, hH.ltf, hH.glob, fun i s o hi => ?_, fun i j si sj oi oj hi hj hne h1 h2 => ?_, fun i s o hi => ?_⟩ ⟨by rw [hv.1, hl], fun i y hi => ?_⟩
 ·obtain ⟨o1, h1, _⟩ := qf4 _ _ ho i s o hi
  exact hH.ltn i s o1 h1
 ·obtain ⟨o1, e1, k1⟩ := qf4 _ _ ho i si oi hi
  obtain ⟨o2, e2, k2⟩ := qf4 _ _ ho j sj oj hj
  exact hH.inj i j si sj o1 o2 e1 e2 hne (qs0 k1 h1) (qs0 k2 h2)
 ·obtain ⟨o1, e1, k1⟩ := qf4 _ _ ho i s o hi
  have hor := hH.obj i s o1 e1
  unfold wkO at k1
  split at k1
  ·trivial
  ·split at k1
   ·obtain ⟨rfl, hw⟩ := k1
    obtain ⟨c, h1, h2, h3, h4, h5⟩ := hor
    exact ⟨c, h1, by rw [h2, (qc1 _ _ hw).1], h3, h4, cells _ _ c hw h5⟩
   ·exact k1.elim
  ·split at k1
   ·obtain ⟨rfl, hw⟩ := k1
    intro hne
    obtain ⟨c, h1, h2, h3, h4, h5⟩ := hor (by
     intro e; subst e
     exact hne (List.length_eq_zero_iff.1 ((qc1 _ _ hw).1.symm.trans rfl)))
    exact ⟨c, h1, by rw [← (qc1 _ _ hw).1]; exact h2, h3, h4, cells _ _ c hw h5⟩
   ·exact k1.elim
  ·subst k1; exact hor
 ·obtain ⟨z, hz, hk⟩ := hg i y hi
  exact q32 hk (hv.2 i z hz)
/-- What a call asks of the objects that it is handed. -/
def frOs (r : Nat) : Objs → Prop
 | [] => True
 | (s, o) :: O => ((o.live || o.ghost) = true ∧ Nat.blt s r = true ∧ o.un r = true) ∧ frOs r O
def mvOs (ι ρ : Nat → Nat) : Objs → Objs → Prop
 | [], [] => True
 | (s, o) :: O, (s', o') :: O' => (s' = ρ s ∧ o' = o.mv ι ρ) ∧ mvOs ι ρ O O'
 | _, _ => False
def qe9 : List Nat → Objs → Option Objs
 | [], _ => some []
 | i :: is, objs => match objs[i]? with
   | some q => (match qe9 is objs with | some l => some (q :: l) | none => none)
   | none => none
theorem qn6 {r : Nat} : ∀ (O : Objs), frOs r O → ∀ (i s : Nat) (o : Obj), O[i]? = some (s, o) → (o.live || o.ghost) = true ∧ s < r ∧ o.un r = true
 | [], _, i, s, o, h => by simp at h
 | (s1, o1) :: O, h, 0, s, o, hi => by
   simp only [List.getElem?_cons_zero, Option.some.injEq, Prod.mk.injEq] at hi
   obtain ⟨rfl, rfl⟩ := hi
   exact ⟨h.1.1, Nat.le_of_ble_eq_true h.1.2.1, h.1.2.2⟩
 | (s1, o1) :: O, h, i + 1, s, o, hi => qn6 O h.2 i s o (by simpa using hi)
theorem qny {ι ρ : Nat → Nat} : ∀ (O O' : Objs), mvOs ι ρ O O' → O'.length = O.length ∧ ∀ (i s : Nat) (o : Obj), O[i]? = some (s, o) → O'[i]? = some (ρ s, o.mv ι ρ)
 | [], [], _ => ⟨rfl, by simp⟩
 | [], _ :: _, h => h.elim
 | _ :: _, [], h => h.elim
 | (s, o) :: O, (s', o') :: O', h => by
   obtain ⟨h1, h2⟩ := qny O O' h.2
   refine ⟨by simp [h1], fun i t q hi => ?_⟩
   cases i with
   | zero =>
     simp only [List.getElem?_cons_zero, Option.some.injEq, Prod.mk.injEq] at hi
     obtain ⟨rfl, rfl⟩ := hi
     rw [h.1.1, h.1.2]; rfl
   | succ i => simpa using h2 i t q (by simpa using hi)
theorem qie {objs : Objs} : ∀ (ids : List Nat) (l : Objs), qe9 ids objs = some l → ∀ (j : Nat) (q : Nat × Obj), l[j]? = some q → ∃ i, ids[j]? = some i ∧ objs[i]? = some q
 | [], l, h, j, q, hj => by simp only [qe9, Option.some.injEq] at h; subst h; simp at hj
 | i :: is, l, h, j, q, hj => by
   simp only [qe9] at h
   split at h
   ·rename_i q0 h0
    split at h
    ·rename_i l0 hl
     cases h
     cases j with
     | zero => simp at hj; subst hj; exact ⟨i, rfl, h0⟩
     | succ j => simpa using qie is l0 hl j q (by simpa using hj)
    ·cases h
   ·cases h
theorem qtn {ι ρ : Nat → Nat} : ∀ (O O' : Objs), mvOs ι ρ O O' → O' = O.map (fun q => (ρ q.1, q.2.mv ι ρ))
 | [], [], _ => rfl
 | [], _ :: _, h => h.elim
 | _ :: _, [], h => h.elim
 | (s, o) :: O, (s', o') :: O', h => by rw [List.map_cons, ← qtn O O' h.2, h.1.1, h.1.2]
theorem y3 {r : Nat} : frOs r [] := trivial
theorem Qy {α : Type} {C : α → List AV} {sz r : Nat} {e : TypeId} {l : List α} {s : Nat} {O : Objs} (hC : CellsOk C sz) (hs : Nat.blt s r = true) (h : frOs r O) : frOs r ((s, .row e (l.map C).flatten) :: O) := ⟨⟨q4g _, hs, q0l hC l⟩, h⟩
theorem k7 {r : Nat} {t : TypeId} {cs : List AV} {s : Nat} {O : Objs} (hs : Nat.blt s r = true) (hu : cs.all (AV.un1 r) = true) (h : frOs r O) : frOs r ((s, .var t cs) :: O) := ⟨⟨rfl, hs, hu⟩, h⟩
def unOs (m : Nat) : Objs → Prop
 | [] => True
 | q :: O => q.2.un m = true ∧ unOs m O
theorem qs4 {m : Nat} : ∀ (O : Objs), unOs m O → O.all (fun q => q.2.un m) = true
 | [], _ => rfl
 | q :: O, h => by rw [List.all_cons, h.1, qs4 O h.2]; rfl
theorem y0 {m : Nat} : unOs m [] := trivial
theorem Yc {α : Type} {C : α → List AV} {sz m : Nat} {e : TypeId} {l : List α} {s : Nat} {O : Objs} (hC : CellsOk C sz) (h : unOs m O) : unOs m ((s, .row e (l.map C).flatten) :: O) := ⟨q0l hC l, h⟩
theorem kz {m : Nat} {t : TypeId} {cs : List AV} {s : Nat} {O : Objs} (hu : cs.all (AV.un1 m) = true) (h : unOs m O) : unOs m ((s, .var t cs) :: O) := ⟨hu, h⟩
section
variable {f : FuncId} {xs xs0 : List AV} {x : AV} {r m' : Nat} {O O' O1 O2 objs2 : Objs} {n2 : Nat} {all : Array Oper} {os : List Oper} {u : Tmp}
theorem qzp (ids st : List Nat) {y : AV} (h : ACalls P G f xs0 ⟨r, O⟩ x ⟨m', O'⟩) (hids : ids.length = O.length) (hl : O'.length = O.length) (hnd : ids.Nodup)
 (hst : st.length = r) (hstn : st.all (fun s => Nat.blt s n) = true) (hr : Nat.ble r m' = true)
 (hxs : mvdL (fun j => ids.getD j 0) (fun s => st.getD s 0) r xs0 xs) (hO : frOs r O) (hO1 : mvOs (fun j => ids.getD j 0) (fun s => st.getD s 0) O O1) (hg : qe9 ids objs = some O1)
 (hx : Mvd (fun j => ids.getD j 0) (qc6 (fun s => st.getD s 0) r n) m' x y) (hun : unOs m' O') (hO2 : mvOs (fun j => ids.getD j 0) (qc6 (fun s => st.getD s 0) r n) O' O2) (hs : qki ids O2 objs = objs2) (hn : n + (m' - r) = n2) : ACalls P G f xs ⟨n, objs⟩ y ⟨n2, objs2⟩ := by
 obtain ⟨h1, h2⟩ := qnx _ _ hxs
 subst hn hs
 refine h.frame (ι := fun j => ids.getD j 0) (ι' := fun j => ids.getD j 0) (ρ := fun s => st.getD s 0) h1 h2 (fun j s o hj => ?_) (fun j j' hj hj' e => ?_) (fun s hs => ?_) (Nat.le_of_ble_eq_true hr) hx (fun j s o hj => List.all_eq_true.1 (qs4 _ hun) _ (List.mem_of_getElem? hj)) (fun i s o hi => ?_)
 ·obtain ⟨a1, a2, a3⟩ := qn6 O hO j s o hj
  have := (qny O O1 hO1).2 j s o hj
  obtain ⟨i, e1, e2⟩ := qie ids O1 hg j _ this
  refine ⟨a1, a2, ?_, a3⟩
  simp only [List.getD_eq_getElem?_getD, e1, Option.getD_some]
  simpa only [List.getD_eq_getElem?_getD] using e2
 ·rw [← hids] at hj hj'
  simp only [List.getD_eq_getElem?_getD, List.getElem?_eq_getElem hj, List.getElem?_eq_getElem hj', Option.getD_some] at e
  exact (List.getElem_inj hnd).1 e
 ·rw [← hst] at hs
  simp only [List.getD_eq_getElem?_getD, List.getElem?_eq_getElem hs, Option.getD_some]
  exact Nat.le_of_ble_eq_true (List.all_eq_true.1 hstn _ (List.getElem_mem hs))
 ·rw [qtn O' O2 hO2] at hi
  rcases qnc ids _ _ (by rw [List.length_map, hl, hids]; exact Nat.le_refl _) i _ hi with ⟨j, e1, e2⟩ | ⟨e1, e2⟩
  ·rw [List.getElem?_map, Option.map_eq_some_iff] at e2
   obtain ⟨q, hq, e⟩ := e2
   simp only [Prod.mk.injEq] at e
   refine .inl ⟨j, q.1, q.2, hq, e.1.symm, e.2.symm, ?_⟩
   simp only [List.getD_eq_getElem?_getD, e1, Option.getD_some]
  ·refine .inr ⟨e1, fun j hj e => e2 j ?_⟩
   rw [← hids] at hj
   simp only [List.getD_eq_getElem?_getD, List.getElem?_eq_getElem hj, Option.getD_some] at e
   rw [List.getElem?_eq_getElem hj, e]
/-- What the loads of a region look at stays. -/
def q1d (G : Nat → List AV) : List Oper → Fr → Objs → Objs → Prop
 | [], _, _, _ => True
 | l :: ls, fr, objs, objs2 => (match l.op with | .load _ a => (match ev G fr a with | .ptr id _ _ => objs2[id]? = objs[id]? | _ => True) | _ => True) ∧ q1d G ls fr objs objs2
theorem qxs {G : Nat → List AV} {n n2 : Nat} : ∀ {ls : List Oper} {fr : Fr} {objs objs2 : Objs}, q1d G ls fr objs objs2 → qlm G ls fr ⟨n, objs⟩ ⟨n2, objs2⟩
 | [], _, _, _, _ => trivial
 | l :: ls, fr, objs, objs2, h => by
   refine ⟨?_, qxs h.2⟩
   have h1 := h.1
   clear h
   revert h1
   cases l.op <;> intro h1 <;> first | trivial | skip
   case load t a =>
    simp only at h1 ⊢
    unfold We
    revert h1
    cases ev G fr a <;> intro h1 <;> first | (intro s t cs hi; simp only at h1; rw [h1]; exact hi) | trivial
/-- A call that is handed objects of its caller's. -/
theorem qn {d : Bool} {y : AV} (h : ACalls P G f xs ⟨n, objs⟩ y ⟨n2, objs2⟩) (hc : Ok P G T N p Q (.go [(u, y)] (.ops d all os :: k) (unkn (some u) kn) fr n2 objs2)) (hd : d = false ∨ ((cwOf all).1 = true ∧ q1d G all.toList (frT fr) objs objs2) := by first | exact .inl rfl | exact .inr ⟨by kernel_rfl, by repeat' (first | exact trivial | exact rfl | refine And.intro ?_ ?_)⟩) : Ok P G T N p Q (.call f xs (some u) d all os k kn fr n objs) := by
 unfold Ok at hc ⊢
 exact fun hk => .inr (.inl ⟨y, _, (fun e => hd.elim (fun h => by rw [h] at e; cases e) (fun h => ⟨h.1, qxs h.2⟩)), h, hc hk⟩)
theorem qb3 (E : Env P T) {rs : List ResultVar} {y : AV} {K : AV → Hp → Prop} (h : qi8 T fr objs rs qhs = some y) (ht : K y ⟨n, objs⟩) : Ok P G T N p (Ret P rs K) (.fin .normal [] fr n objs) := by
 unfold Ok
 intro _
 obtain ⟨xs, h1, h2⟩ := qgc (n := n) E.hT rs _ h
 refine ⟨y, ?_, ht⟩
 unfold Ze
 rw [h1]
 unfold qhs at h2
 split at h2
 ·exact h2
 ·rename_i hne
  split
  ·rename_i x' hx'
   exact absurd (Option.some.inj hx') (hne x')
  ·rename_i xs' _ hx'
   cases hx'
   exact h2
  ·rename_i hx'; cases hx'
end
theorem qv7 {ρ : Nat → Nat} {m : Nat} (h : (List.range m).all (fun s => Nat.beq (ρ s) s) = true) : ∀ s, s < m → ρ s = s := fun s hs => Nat.eq_of_beq_eq_true (List.all_eq_true.1 h s (List.mem_range.2 hs))
section
variable {α : Type} {d : Bool} {all : Array Oper} {os : List Oper} {u : Tmp} {ty : TypeId} {pos : String} {aft : Array Edge}
theorem q2l {a b : Operand} {t t1 e : TypeId} {sz by_ id s0 : Nat} {f2 : Bool} {l m r : List α} {C : α → List AV} {raw : List (List AV)} {z : List AV} {it ie : TI} (E : Env P T) (hx : app by_ l m = some r)
 (ha : ev G (frT fr) a = .bs sz id s0 0 l.length) (hb : ev G (frT fr) b = .sl sz f2 raw) (hrw : raw.length = m.length) (hm : 0 < m.length) (hC : ∀ a, (C a).length = sz) (ht : T.get t = some it) (he : it.elem = some (e, sz)) (hie : T.get e = some ie) (hz : ie.zero = some z) (hzl : z.length = sz) (h0 : 0 < sz)
 (hby : qfa P e = some by_) (hn : qca P t1 = true) (ho : objs[id]? = some (s0, .row e (l.map C).flatten))
 (hc : Ok P G T N p Q (.go [(u, .bs sz id n 0 r.length)] (.ops d all os :: k) (unkn (some u) kn) fr (n + 1) (objs.set id (n, .row e ((l.map C).flatten ++ raw.flatten))))) (hcp : d = false ∨ qa1 a = false := by first | exact .inl rfl | exact .inr rfl) :
 Ok P G T N p Q (.gen ⟨some u, .call ⟨.builtin .append, #[a, b], #[t, t1]⟩, ty, pos, aft, none⟩ d all os k kn fr n objs) := by
 obtain ⟨rfl, h1, h2⟩ := qa8 hx
 refine qfh E ha hb ht he hie hz hzl h0 hby hn ho (qgl hC l) (by rw [hrw]; exact h1) (by rw [hrw]; exact h2) ?_ hcp (by omega)
 rw [List.length_append, ← hrw] at hc
 exact hc
end
theorem qz4 {α : Type} {by_ : Nat} {l m r : List α} {C : α → List AV} {raw : List (List AV)} (hx : app by_ l m = some r) (h : wkL raw.flatten (m.map C).flatten) : wkL ((l.map C).flatten ++ raw.flatten) (r.map C).flatten := by
 obtain ⟨rfl, _⟩ := qa8 hx
 rw [List.map_append, List.flatten_append]
 exact qwx (qmz _) h
end Go.Proofs.YtigmilhpeodhbaaGreatDoorW.Ex
