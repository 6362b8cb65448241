/- A symbolic executor for the machine's code: functions that are handed lists of their caller's: what such a list holds told less, names below the caller's kept, what is returned. Conditions: none beside those in each theorem. -/
import Derived.Test.YtimcdpioclioiaaGreatDoorExP
import Derived.KernelRfl
namespace Go.Proofs.YtimcdpioclioiaaGreatDoorW.Ex
open Go
set_option linter.all false
set_option maxRecDepth 100000
variable {P : Program} {G : Nat → List AV} {T : TT} {N p : Nat} {Q : Exit → Fr → Hp → Prop} {k : List Item} {kn : List Nat} {fr : FT} {n : Nat} {objs : Objs}
/-- A list of the call's own is told less. -/
theorem less_rowW {i s : Nat} {e : TypeId} {cs cs' : List AV} (ho : objs[i]? = some (s, .row e cs)) (hw : wkL cs cs') : Less G N p (frT fr) ⟨n, objs⟩ (frT fr) ⟨n, objs.set i (s, .row e cs')⟩ := by
 obtain ⟨hl, hg⟩ := Qe _ _ hw
 have hil := (List.getElem?_eq_some_iff.1 ho).1
 have at_ : ∀ (q t : Nat) (o : Obj), (objs.set i (s, .row e cs'))[q]? = some (t, o) → (q = i ∧ t = s ∧ o = .row e cs') ∨ (q ≠ i ∧ objs[q]? = some (t, o)) := by
  intro q t o hq
  by_cases hqi : q = i
  ·subst hqi
   rw [List.getElem?_set_self hil] at hq
   simp only [Option.some.injEq, Prod.mk.injEq] at hq
   exact .inl ⟨rfl, hq.1.symm, hq.2.symm⟩
  ·rw [List.getElem?_set_ne (Ne.symm hqi)] at hq
   exact .inr ⟨hqi, hq⟩
 have hlive : (Obj.row e cs').live = (Obj.row e cs).live := by
  show (!cs'.isEmpty) = (!cs.isEmpty)
  cases cs <;> cases cs' <;> simp_all
 unfold Less
 intro w S F β a hp hH hf
 refine ⟨S, β, Ext.refl w S F β p, hp, ⟨hH.lts, hH.ltf, hH.glob, fun q t o hq => ?_, fun q q' sq sq' oq oq' hq hq' hne l1 l2 => ?_, fun q t o hq => ?_⟩, hf⟩
 ·rcases at_ q t o hq with ⟨_, rfl, _⟩ | ⟨_, h⟩
  ·exact hH.ltn i t _ ho
  ·exact hH.ltn q t o h
 ·have old : ∀ (q t : Nat) (o : Obj), (objs.set i (s, .row e cs'))[q]? = some (t, o) → o.live = true → ∃ o', objs[q]? = some (t, o') ∧ o'.live = true := by
   intro q t o hq hv
   rcases at_ q t o hq with ⟨rfl, rfl, rfl⟩ | ⟨_, h⟩
   ·exact ⟨_, ho, by rw [← hlive]; exact hv⟩
   ·exact ⟨o, h, hv⟩
  obtain ⟨o1, h1, v1⟩ := old _ _ _ hq l1
  obtain ⟨o2, h2, v2⟩ := old _ _ _ hq' l2
  exact hH.inj q q' sq sq' o1 o2 h1 h2 hne v1 v2
 ·rcases at_ q t o hq with ⟨rfl, rfl, rfl⟩ | ⟨_, h⟩
  ·intro hne
   have hor := hH.obj q t _ ho
   obtain ⟨c, h1, h2, h3, h4, h5⟩ := hor (by rintro rfl; exact hne (List.length_eq_zero_iff.1 (by rw [← hl]; rfl)))
   refine ⟨c, h1, by omega, h3, h4, fun j y hj => ?_⟩
   obtain ⟨x, hx, hk⟩ := hg j y hj
   obtain ⟨o1, r1⟩ := h5 j x hx
   exact ⟨(Yk hk).trans o1, wk1_rv hk r1⟩
  ·exact hH.obj q t o h
theorem Ok_rowW (i s : Nat) (e : TypeId) {cs cs' : List AV} (hk : Q8 k = true) (ho : objs[i]? = some (s, .row e cs)) (hw : wkL cs cs') (h : Ok P G T N p Q (.bar k fr n (objs.set i (s, .row e cs')))) : Ok P G T N p Q (.bar k fr n objs) := by
 unfold Ok at h ⊢
 exact fun hi => QK_less (less_rowW ho hw) k hk (h hi)
theorem wkL_app : ∀ {a b c d : List AV}, wkL a b → wkL c d → wkL (a ++ c) (b ++ d)
 | [], [], _, _, _, h => h
 | x :: a, y :: b, c, d, h, g => ⟨h.1, wkL_app h.2 g⟩
 | [], _ :: _, _, _, h, _ => h.elim
 | _ :: _, [], _, _, h, _ => h.elim
/-- Names below the caller's stay. -/
theorem Qb {fr fr' : FT} {n n' : Nat} {objs objs' : Objs} (hid : ∀ s, s < p → rho objs' objs s = s) (hp : p ≤ n') (hf : leFT (rho objs' objs) n' fr fr') (ho : leOs (rho objs' objs) n' objs objs') : Less G N p (frT fr) ⟨n, objs⟩ (frT fr') ⟨n', objs'⟩ := less_mkP _ hid hp hf ho
theorem un1_closed {m : Nat} {x : AV} (h : x.closed = true) : x.un1 m = true := by
 cases x with
 | fn f caps =>
   have : caps = [] := List.isEmpty_iff.1 h
   subst this; rfl
 | _ => first | exact h | cases h
theorem mv1_closed {ι ρ : Nat → Nat} {x : AV} (h : x.closed = true) : x.mv1 ι ρ = x := by
 cases x with
 | fn f caps =>
   have : caps = [] := List.isEmpty_iff.1 h
   subst this; rfl
 | _ => first | rfl | cases h
theorem J3 {α : Type} {C : α → List AV} {sz : Nat} (hC : CellsOk C sz) (l : List α) : ∀ x ∈ (l.map C).flatten, x.closed = true := by
 intro x hx
 rw [List.mem_flatten] at hx
 obtain ⟨c, hc, hx⟩ := hx
 obtain ⟨a, _, rfl⟩ := List.mem_map.1 hc
 exact (hC.all a x hx).2
theorem row_un {α : Type} {C : α → List AV} {sz m : Nat} {e : TypeId} (hC : CellsOk C sz) (l : List α) : Obj.un m (.row e (l.map C).flatten) = true :=
 List.all_eq_true.2 fun x hx => un1_closed (J3 hC l x hx)
theorem row_lg {e : TypeId} (cs : List AV) : ((Obj.row e cs).live || (Obj.row e cs).ghost) = true := by cases cs <;> rfl
section
variable {d : Bool} {all : Array Oper} {os : List Oper} {u : Tmp} {ty : TypeId} {pos : String} {aft : Array Edge}
theorem Ok_ixB {t : TypeId} {a i : Operand} {sz id s len : Nat} {κ : IntKind} {j : Int} {e : TypeId} {it : TI} (E : Env P T)
 (ha : ev G (frT fr) a = .bs sz id s 0 len) (hi : ev G (frT fr) i = .int κ j) (ht : T.get t = some it) (he : it.elem = some (e, sz)) (h0 : 0 ≤ j) (hl : j.toNat < len)
 (hc : Ok P G T N p Q (.go [(u, .ptr id s (j.toNat * sz))] (.ops d all os :: k) (unkn (some u) kn) fr n objs)) : Ok P G T N p Q (.gen ⟨some u, .indexAddr t a i, ty, pos, aft, none⟩ d all os k kn fr n objs) := by
 refine Zx (fun _ => rfl) ?_ hc
 simp only [evalOp, ha, hi, wo, if_pos h0, (ti E.hT ht).elem _ he, Option.map_some]
 rw [if_pos ⟨trivial, hl⟩, Nat.zero_add]
 rfl
theorem Ok_storeB {t : TypeId} {a x : Operand} {id s off : Nat} {v : AV} {te : TypeId} {cs : List AV}
 (ha : ev G (frT fr) a = .ptr id s off) (hx : ev G (frT fr) x = v) (hv : wu v = some [v]) (hsz : szP P t = some 1) (ho : objs[id]? = some (s, .row te cs)) (hl : off + 1 ≤ cs.length)
 (hc : Ok P G T N p Q (.go [] (.ops false all os :: k) kn fr n (objs.set id (s, .row te (yp cs off [v]))))) : Ok P G T N p Q (.gen ⟨none, .store t a x, ty, pos, aft, none⟩ false all os k kn fr n objs) := by
 unfold Ok at hc ⊢
 refine fun hk => Or.inl ⟨.undef, ⟨n, objs.set id (s, .row te (yp cs off [v]))⟩, fun h => (by cases h), ?_, hc hk⟩
 simp only [evalOp, ha, hx, yv, hv, hsz, ho]
 rw [if_pos (by rfl), if_pos ⟨trivial, by simpa using hl, by omega⟩]
 rfl
end
def wkO (o o' : Obj) : Prop := match o' with
 | .dead => True
 | .var t cs => (match o with | .var t' cs' => t' = t ∧ wkL cs' cs | _ => False)
 | .row t cs => (match o with | .row t' cs' => t' = t ∧ wkL cs' cs | _ => False)
 | .froz _ _ => o = o'
def wkOs : Objs → Objs → Prop
 | [], [] => True
 | (s, o) :: l, (s', o') :: l' => (s = s' ∧ wkO o o') ∧ wkOs l l'
 | _, _ => False
theorem Jb : ∀ (l l' : Objs), wkOs l l' → ∀ (i s : Nat) (o' : Obj), l'[i]? = some (s, o') → ∃ o, l[i]? = some (s, o) ∧ wkO o o'
 | [], [], _, i, s, o', h => by simp at h
 | [], _ :: _, h, _, _, _, _ => h.elim
 | _ :: _, [], h, _, _, _, _ => h.elim
 | (s, o) :: l, (t, q) :: l', h, 0, s', o', hi => by
   simp only [List.getElem?_cons_zero, Option.some.injEq, Prod.mk.injEq] at hi
   obtain ⟨rfl, rfl⟩ := hi
   exact ⟨o, by rw [h.1.1]; rfl, h.1.2⟩
 | (s, o) :: l, (t, q) :: l', h, i + 1, s', o', hi => by
   obtain ⟨o2, h1, h2⟩ := Jb l l' h.2 i s' o' (by simpa using hi)
   exact ⟨o2, by simpa using h1, h2⟩
theorem wkO_live {o o' : Obj} (h : wkO o o') (hl : o'.live = true) : o.live = true := by
 cases o' with
 | dead => cases hl
 | froz t cs => cases hl
 | var t cs =>
   cases o with
   | var t' cs' => rfl
   | _ => exact h.elim
 | row t cs =>
   cases o with
   | row t' cs' =>
     obtain ⟨_, h⟩ := h
     have := (Qe _ _ h).1
     cases cs with
     | nil => cases hl
     | cons a l => cases cs' with
       | nil => simp at this
       | cons b l' => rfl
   | _ => exact h.elim
theorem ACalls.wk {f : FuncId} {xs ys : List AV} {x : AV} {m : Nat} {O O' : Objs} {H : Hp} (h : ACalls P G f ys ⟨m, O'⟩ x H) (hw : wkLs xs ys) (ho : wkOs O O') : ACalls P G f xs ⟨m, O⟩ x H := by
 intro w S F β vs hH hv
 obtain ⟨hl, hg⟩ := wkLs_get xs ys hw
 have cells : ∀ (cs cs' : List AV) (c : Array Value), wkL cs' cs → (∀ (i : Nat) (x : AV), cs'[i]? = some x → x.one = true ∧ RV w S β m x (c.getD i Go.undef)) → ∀ (i : Nat) (x : AV), cs[i]? = some x → x.one = true ∧ RV w S β m x (c.getD i Go.undef) := by
  intro cs cs' c hw h i x hi
  obtain ⟨y, hy, hk⟩ := (Qe _ _ hw).2 i x hi
  exact ⟨(Yk hk).trans (h i y hy).1, wk1_rv hk (h i y hy).2⟩
 refine h w S F β vs ⟨hH.lts, hH.ltf, hH.glob, fun i s o hi => ?_, fun i j si sj oi oj hi hj hne h1 h2 => ?_, fun i s o hi => ?_⟩ ⟨by rw [hv.1, hl], fun i y hi => ?_⟩
 ·obtain ⟨o1, h1, _⟩ := Jb _ _ ho i s o hi
  exact hH.ltn i s o1 h1
 ·obtain ⟨o1, e1, k1⟩ := Jb _ _ ho i si oi hi
  obtain ⟨o2, e2, k2⟩ := Jb _ _ ho j sj oj hj
  exact hH.inj i j si sj o1 o2 e1 e2 hne (wkO_live k1 h1) (wkO_live k2 h2)
 ·obtain ⟨o1, e1, k1⟩ := Jb _ _ ho i s o hi
  have hor := hH.obj i s o1 e1
  unfold wkO at k1
  split at k1
  ·trivial
  ·split at k1
   ·obtain ⟨rfl, hw⟩ := k1
    obtain ⟨c, h1, h2, h3, h4, h5⟩ := hor
    exact ⟨c, h1, by rw [h2, (Qe _ _ hw).1], h3, h4, cells _ _ c hw h5⟩
   ·exact k1.elim
  ·split at k1
   ·obtain ⟨rfl, hw⟩ := k1
    intro hne
    obtain ⟨c, h1, h2, h3, h4, h5⟩ := hor (by
     intro e; subst e
     exact hne (List.length_eq_zero_iff.1 ((Qe _ _ hw).1.symm.trans rfl)))
    exact ⟨c, h1, by rw [← (Qe _ _ hw).1]; exact h2, h3, h4, cells _ _ c hw h5⟩
   ·exact k1.elim
  ·subst k1; exact hor
 ·obtain ⟨z, hz, hk⟩ := hg i y hi
  exact wk_rv hk (hv.2 i z hz)
/-- What a call asks of the objects that it is handed. -/
def frOs (r : Nat) : Objs → Prop
 | [] => True
 | (s, o) :: O => ((o.live || o.ghost) = true ∧ Nat.blt s r = true ∧ o.un r = true) ∧ frOs r O
def mvOs (ι ρ : Nat → Nat) : Objs → Objs → Prop
 | [], [] => True
 | (s, o) :: O, (s', o') :: O' => (s' = ρ s ∧ o' = o.mv ι ρ) ∧ mvOs ι ρ O O'
 | _, _ => False
def Ki : List Nat → Objs → Option Objs
 | [], _ => some []
 | i :: is, objs => match objs[i]? with
   | some q => (match Ki is objs with | some l => some (q :: l) | none => none)
   | none => none
theorem frOs_get {r : Nat} : ∀ (O : Objs), frOs r O → ∀ (i s : Nat) (o : Obj), O[i]? = some (s, o) → (o.live || o.ghost) = true ∧ s < r ∧ o.un r = true
 | [], _, i, s, o, h => by simp at h
 | (s1, o1) :: O, h, 0, s, o, hi => by
   simp only [List.getElem?_cons_zero, Option.some.injEq, Prod.mk.injEq] at hi
   obtain ⟨rfl, rfl⟩ := hi
   exact ⟨h.1.1, Nat.le_of_ble_eq_true h.1.2.1, h.1.2.2⟩
 | (s1, o1) :: O, h, i + 1, s, o, hi => frOs_get O h.2 i s o (by simpa using hi)
theorem mvOs_get {ι ρ : Nat → Nat} : ∀ (O O' : Objs), mvOs ι ρ O O' → O'.length = O.length ∧ ∀ (i s : Nat) (o : Obj), O[i]? = some (s, o) → O'[i]? = some (ρ s, o.mv ι ρ)
 | [], [], _ => ⟨rfl, by simp⟩
 | [], _ :: _, h => h.elim
 | _ :: _, [], h => h.elim
 | (s, o) :: O, (s', o') :: O', h => by
   obtain ⟨h1, h2⟩ := mvOs_get O O' h.2
   refine ⟨by simp [h1], fun i t q hi => ?_⟩
   cases i with
   | zero =>
     simp only [List.getElem?_cons_zero, Option.some.injEq, Prod.mk.injEq] at hi
     obtain ⟨rfl, rfl⟩ := hi
     rw [h.1.1, h.1.2]; rfl
   | succ i => simpa using h2 i t q (by simpa using hi)
theorem getAll_get {objs : Objs} : ∀ (ids : List Nat) (l : Objs), Ki ids objs = some l → ∀ (j : Nat) (q : Nat × Obj), l[j]? = some q → ∃ i, ids[j]? = some i ∧ objs[i]? = some q
 | [], l, h, j, q, hj => by simp only [Ki, Option.some.injEq] at h; subst h; simp at hj
 | i :: is, l, h, j, q, hj => by
   simp only [Ki] at h
   split at h
   ·rename_i q0 h0
    split at h
    ·rename_i l0 hl
     cases h
     cases j with
     | zero => simp at hj; subst hj; exact ⟨i, rfl, h0⟩
     | succ j => simpa using getAll_get is l0 hl j q (by simpa using hj)
    ·cases h
   ·cases h
theorem mvOs_map {ι ρ : Nat → Nat} : ∀ (O O' : Objs), mvOs ι ρ O O' → O' = O.map (fun q => (ρ q.1, q.2.mv ι ρ))
 | [], [], _ => rfl
 | [], _ :: _, h => h.elim
 | _ :: _, [], h => h.elim
 | (s, o) :: O, (s', o') :: O', h => by rw [List.map_cons, ← mvOs_map O O' h.2, h.1.1, h.1.2]
theorem zv {r : Nat} : frOs r [] := trivial
theorem zf {α : Type} {C : α → List AV} {sz r : Nat} {e : TypeId} {l : List α} {s : Nat} {O : Objs} (hC : CellsOk C sz) (hs : Nat.blt s r = true) (h : frOs r O) : frOs r ((s, .row e (l.map C).flatten) :: O) := ⟨⟨row_lg _, hs, row_un hC l⟩, h⟩
theorem q9 {r : Nat} {t : TypeId} {cs : List AV} {s : Nat} {O : Objs} (hs : Nat.blt s r = true) (hu : cs.all (AV.un1 r) = true) (h : frOs r O) : frOs r ((s, .var t cs) :: O) := ⟨⟨rfl, hs, hu⟩, h⟩
def unOs (m : Nat) : Objs → Prop
 | [] => True
 | q :: O => q.2.un m = true ∧ unOs m O
theorem unOs_all {m : Nat} : ∀ (O : Objs), unOs m O → O.all (fun q => q.2.un m) = true
 | [], _ => rfl
 | q :: O, h => by rw [List.all_cons, h.1, unOs_all O h.2]; rfl
theorem zx {m : Nat} : unOs m [] := trivial
theorem ze {α : Type} {C : α → List AV} {sz m : Nat} {e : TypeId} {l : List α} {s : Nat} {O : Objs} (hC : CellsOk C sz) (h : unOs m O) : unOs m ((s, .row e (l.map C).flatten) :: O) := ⟨row_un hC l, h⟩
theorem za {m : Nat} {t : TypeId} {cs : List AV} {s : Nat} {O : Objs} (hu : cs.all (AV.un1 m) = true) (h : unOs m O) : unOs m ((s, .var t cs) :: O) := ⟨hu, h⟩
section
variable {f : FuncId} {xs xs0 : List AV} {x : AV} {r m' : Nat} {O O' O1 O2 objs2 : Objs} {n2 : Nat} {all : Array Oper} {os : List Oper} {u : Tmp}
theorem acalls_in (ids st : List Nat) {y : AV} (h : ACalls P G f xs0 ⟨r, O⟩ x ⟨m', O'⟩) (hids : ids.length = O.length) (hl : O'.length = O.length) (hnd : ids.Nodup)
 (hst : st.length = r) (hstn : st.all (fun s => Nat.blt s n) = true) (hr : Nat.ble r m' = true)
 (hxs : mvdL (fun j => ids.getD j 0) (fun s => st.getD s 0) r xs0 xs) (hO : frOs r O) (hO1 : mvOs (fun j => ids.getD j 0) (fun s => st.getD s 0) O O1) (hg : Ki ids objs = some O1)
 (hx : Mvd (fun j => ids.getD j 0) (Qh (fun s => st.getD s 0) r n) m' x y) (hun : unOs m' O') (hO2 : mvOs (fun j => ids.getD j 0) (Qh (fun s => st.getD s 0) r n) O' O2) (hs : setAll ids O2 objs = objs2) (hn : n + (m' - r) = n2) : ACalls P G f xs ⟨n, objs⟩ y ⟨n2, objs2⟩ := by
 obtain ⟨h1, h2⟩ := mvdL_get _ _ hxs
 subst hn hs
 refine h.frame (ι := fun j => ids.getD j 0) (ι' := fun j => ids.getD j 0) (ρ := fun s => st.getD s 0) h1 h2 (fun j s o hj => ?_) (fun j j' hj hj' e => ?_) (fun s hs => ?_) (Nat.le_of_ble_eq_true hr) hx (fun j s o hj => List.all_eq_true.1 (unOs_all _ hun) _ (List.mem_of_getElem? hj)) (fun i s o hi => ?_)
 ·obtain ⟨a1, a2, a3⟩ := frOs_get O hO j s o hj
  have := (mvOs_get O O1 hO1).2 j s o hj
  obtain ⟨i, e1, e2⟩ := getAll_get ids O1 hg j _ this
  refine ⟨a1, a2, ?_, a3⟩
  simp only [List.getD_eq_getElem?_getD, e1, Option.getD_some]
  simpa only [List.getD_eq_getElem?_getD] using e2
 ·rw [← hids] at hj hj'
  simp only [List.getD_eq_getElem?_getD, List.getElem?_eq_getElem hj, List.getElem?_eq_getElem hj', Option.getD_some] at e
  exact (List.getElem_inj hnd).1 e
 ·rw [← hst] at hs
  simp only [List.getD_eq_getElem?_getD, List.getElem?_eq_getElem hs, Option.getD_some]
  exact Nat.le_of_ble_eq_true (List.all_eq_true.1 hstn _ (List.getElem_mem hs))
 ·rw [mvOs_map O' O2 hO2] at hi
  rcases setAll_get ids _ _ (by rw [List.length_map, hl, hids]; exact Nat.le_refl _) i _ hi with ⟨j, e1, e2⟩ | ⟨e1, e2⟩
  ·rw [List.getElem?_map, Option.map_eq_some_iff] at e2
   obtain ⟨q, hq, e⟩ := e2
   simp only [Prod.mk.injEq] at e
   refine .inl ⟨j, q.1, q.2, hq, e.1.symm, e.2.symm, ?_⟩
   simp only [List.getD_eq_getElem?_getD, e1, Option.getD_some]
  ·refine .inr ⟨e1, fun j hj e => e2 j ?_⟩
   rw [← hids] at hj
   simp only [List.getD_eq_getElem?_getD, List.getElem?_eq_getElem hj, Option.getD_some] at e
   rw [List.getElem?_eq_getElem hj, e]
/-- What the loads of a region look at stays. -/
def keepE (G : Nat → List AV) : List Oper → Fr → Objs → Objs → Prop
 | [], _, _, _ => True
 | l :: ls, fr, objs, objs2 => (match l.op with | .load _ a => (match ev G fr a with | .ptr id _ _ => objs2[id]? = objs[id]? | _ => True) | _ => True) ∧ keepE G ls fr objs objs2
theorem keepE_P {G : Nat → List AV} {n n2 : Nat} : ∀ {ls : List Oper} {fr : Fr} {objs objs2 : Objs}, keepE G ls fr objs objs2 → keepP G ls fr ⟨n, objs⟩ ⟨n2, objs2⟩
 | [], _, _, _, _ => trivial
 | l :: ls, fr, objs, objs2, h => by
   refine ⟨?_, keepE_P h.2⟩
   have h1 := h.1
   clear h
   revert h1
   cases l.op <;> intro h1 <;> first | trivial | skip
   case load t a =>
    simp only at h1 ⊢
    unfold ud
    revert h1
    cases ev G fr a <;> intro h1 <;> first | (intro s t cs hi; simp only at h1; rw [h1]; exact hi) | trivial
/-- A call that is handed objects of its caller's. -/
theorem qb {d : Bool} {y : AV} (h : ACalls P G f xs ⟨n, objs⟩ y ⟨n2, objs2⟩) (hc : Ok P G T N p Q (.go [(u, y)] (.ops d all os :: k) (unkn (some u) kn) fr n2 objs2)) (hd : d = false ∨ (cwOf all = true ∧ keepE G all.toList (frT fr) objs objs2) := by first | exact .inl rfl | exact .inr ⟨by kernel_rfl, by repeat' (first | exact trivial | exact rfl | refine And.intro ?_ ?_)⟩) : Ok P G T N p Q (.call f xs (some u) d all os k kn fr n objs) := by
 unfold Ok at hc ⊢
 exact fun hk => .inr ⟨y, _, (fun e => hd.elim (fun h => by rw [h] at e; cases e) (fun h => ⟨h.1, keepE_P h.2⟩)), h, hc hk⟩
theorem qv (E : Env P T) {rs : List ResultVar} {y : AV} {K : AV → Hp → Prop} (h : ressK T fr objs rs oneOf = some y) (ht : K y ⟨n, objs⟩) : Ok P G T N p (Ret P rs K) (.fin .normal [] fr n objs) := by
 unfold Ok
 intro _
 obtain ⟨xs, h1, h2⟩ := Jm (n := n) E.hT rs _ h
 refine ⟨y, ?_, ht⟩
 unfold y6
 rw [h1]
 unfold oneOf at h2
 split at h2
 ·exact h2
 ·rename_i hne
  split
  ·rename_i x' hx'
   exact absurd (Option.some.inj hx') (hne x')
  ·rename_i xs' _ hx'
   cases hx'
   exact h2
  ·rename_i hx'; cases hx'
end
theorem J1 {ρ : Nat → Nat} {m : Nat} (h : (List.range m).all (fun s => Nat.beq (ρ s) s) = true) : ∀ s, s < m → ρ s = s := fun s hs => Nat.eq_of_beq_eq_true (List.all_eq_true.1 h s (List.mem_range.2 hs))
theorem ix_nn {α : Type} {l : List α} {i : Int} {x : α} (h : ix l i = some x) : 0 ≤ i := by
 have := (ix_some h).1; omega
theorem ix_lt {α : Type} {l : List α} {i : Int} {x : α} (h : ix l i = some x) : i.toNat < l.length := (List.getElem?_eq_some_iff.1 (ix_some h).2).1
section
variable {α : Type} {d : Bool} {all : Array Oper} {os : List Oper} {u : Tmp} {ty : TypeId} {pos : String} {aft : Array Edge}
end
end Go.Proofs.YtimcdpioclioiaaGreatDoorW.Ex
