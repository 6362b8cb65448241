/- A symbolic executor for the machine's code: functions that are handed lists of their caller's: what such a list holds told less, names below the caller's kept, what is returned. Conditions: none beside those in each theorem. -/
import Derived.Test.YtigmilhpeodhbaaDoorExP
import Derived.KernelRfl
namespace Go.Proofs.YtigmilhpeodhbaaDoorW.Ex
open Go
variable {D : List Deferred}
set_option linter.all false
set_option maxRecDepth 100000
variable {P : Program} {G : Nat → List AV} {T : TT} {N p : Nat} {Q : Exit → Fr → Hp → Prop} {k : List Item} {kn : List Nat} {fr : FT} {n : Nat} {objs : Objs}
theorem qwu {fr fr' : FT} {n n' : Nat} {objs objs' : Objs} (hid : ∀ s, s < p → rho objs' objs s = s) (hp : p ≤ n') (hf : leFT (rho objs' objs) n' fr fr') (ho : leOs (rho objs' objs) n' objs objs') : Less G N p (frT fr) ⟨n, objs⟩ (frT fr') ⟨n', objs'⟩ := qwt _ hid hp hf ho
theorem qqr {m : Nat} {x : AV} (h : x.closed = true) : x.un1 m = true := by
 cases x with
 | fn f caps =>
   have : caps = [] := List.isEmpty_iff.1 h
   subst this; rfl
 | _ => first | exact h | cases h
theorem qq5 {ι ρ : Nat → Nat} {x : AV} (h : x.closed = true) : x.mv1 ι ρ = x := by
 cases x with
 | fn f caps =>
   have : caps = [] := List.isEmpty_iff.1 h
   subst this; rfl
 | _ => first | rfl | cases h
theorem qcp {α : Type} {C : α → List AV} {sz : Nat} (hC : CellsOk C sz) (l : List α) : ∀ x ∈ (l.map C).flatten, x.closed = true := by
 intro x hx
 rw [List.mem_flatten] at hx
 obtain ⟨c, hc, hx⟩ := hx
 obtain ⟨a, _, rfl⟩ := List.mem_map.1 hc
 exact (hC.all a x hx).2
theorem qv3 {α : Type} {C : α → List AV} {sz m : Nat} {e : TypeId} (hC : CellsOk C sz) (l : List α) : Obj.un m (.row e (l.map C).flatten) = true :=
 List.all_eq_true.2 fun x hx => qqr (qcp hC l x hx)
theorem q0h {e : TypeId} (cs : List AV) : ((Obj.row e cs).live || (Obj.row e cs).ghost) = true := by cases cs <;> rfl
section
variable {d : Bool} {all : Array Oper} {os : List Oper} {u : Tmp} {ty : TypeId} {pos : String} {aft : Array Edge}
theorem qx5 {t : TypeId} {a i : Operand} {sz id s len : Nat} {κ : IntKind} {j : Int} {e : TypeId} {it : TI} (E : Env P T)
 (ha : ev G (frT fr) a = .bs sz id s 0 len) (hi : ev G (frT fr) i = .int κ j) (ht : T.get t = some it) (he : it.elem = some (e, sz)) (h0 : 0 ≤ j) (hl : j.toNat < len)
 (hc : Ok P G T N p Q (.go [(u, .ptr id s (j.toNat * sz))] (.ops d all os :: k) (unkn (some u) kn) fr n objs)) : Ok P G T N p Q (.gen ⟨some u, .indexAddr t a i, ty, pos, aft, none⟩ d all os k kn fr n objs) := by
 refine qcw (fun _ => rfl) ?_ hc
 simp only [evalOp, ha, hi, Zw, if_pos h0, (ti E.hT ht).elem _ he, Option.map_some]
 rw [if_pos ⟨trivial, hl⟩, Nat.zero_add]
 rfl
end
def frOs (r : Nat) : Objs → Prop
 | [] => True
 | (s, o) :: O => ((o.live || o.ghost) = true ∧ Nat.blt s r = true ∧ o.un r = true) ∧ frOs r O
def mvOs (ι ρ : Nat → Nat) : Objs → Objs → Prop
 | [], [] => True
 | (s, o) :: O, (s', o') :: O' => (s' = ρ s ∧ o' = o.mv ι ρ) ∧ mvOs ι ρ O O'
 | _, _ => False
def qbk : List Nat → Objs → Option Objs
 | [], _ => some []
 | i :: is, objs => match objs[i]? with
   | some q => (match qbk is objs with | some l => some (q :: l) | none => none)
   | none => none
theorem qjl {r : Nat} : ∀ (O : Objs), frOs r O → ∀ (i s : Nat) (o : Obj), O[i]? = some (s, o) → (o.live || o.ghost) = true ∧ s < r ∧ o.un r = true
 | [], _, i, s, o, h => by simp at h
 | (s1, o1) :: O, h, 0, s, o, hi => by
   simp only [List.getElem?_cons_zero, Option.some.injEq, Prod.mk.injEq] at hi
   obtain ⟨rfl, rfl⟩ := hi
   exact ⟨h.1.1, Nat.le_of_ble_eq_true h.1.2.1, h.1.2.2⟩
 | (s1, o1) :: O, h, i + 1, s, o, hi => qjl O h.2 i s o (by simpa using hi)
theorem qjc {ι ρ : Nat → Nat} : ∀ (O O' : Objs), mvOs ι ρ O O' → O'.length = O.length ∧ ∀ (i s : Nat) (o : Obj), O[i]? = some (s, o) → O'[i]? = some (ρ s, o.mv ι ρ)
 | [], [], _ => ⟨rfl, by simp⟩
 | [], _ :: _, h => h.elim
 | _ :: _, [], h => h.elim
 | (s, o) :: O, (s', o') :: O', h => by
   obtain ⟨h1, h2⟩ := qjc O O' h.2
   refine ⟨by simp [h1], fun i t q hi => ?_⟩
   cases i with
   | zero =>
     simp only [List.getElem?_cons_zero, Option.some.injEq, Prod.mk.injEq] at hi
     obtain ⟨rfl, rfl⟩ := hi
     rw [h.1.1, h.1.2]; rfl
   | succ i => simpa using h2 i t q (by simpa using hi)
theorem qd6 {objs : Objs} : ∀ (ids : List Nat) (l : Objs), qbk ids objs = some l → ∀ (j : Nat) (q : Nat × Obj), l[j]? = some q → ∃ i, ids[j]? = some i ∧ objs[i]? = some q
 | [], l, h, j, q, hj => by simp only [qbk, Option.some.injEq] at h; subst h; simp at hj
 | i :: is, l, h, j, q, hj => by
   simp only [qbk] at h
   split at h
   ·rename_i q0 h0
    split at h
    ·rename_i l0 hl
     cases h
     cases j with
     | zero => simp at hj; subst hj; exact ⟨i, rfl, h0⟩
     | succ j => simpa using qd6 is l0 hl j q (by simpa using hj)
    cases h
   cases h
theorem qo5 {ι ρ : Nat → Nat} : ∀ (O O' : Objs), mvOs ι ρ O O' → O' = O.map (fun q => (ρ q.1, q.2.mv ι ρ))
 | [], [], _ => rfl
 | [], _ :: _, h => h.elim
 | _ :: _, [], h => h.elim
 | (s, o) :: O, (s', o') :: O', h => by rw [List.map_cons, ← qo5 O O' h.2, h.1.1, h.1.2]
theorem y8 {r : Nat} : frOs r [] := trivial
theorem Yg {α : Type} {C : α → List AV} {sz r : Nat} {e : TypeId} {l : List α} {s : Nat} {O : Objs} (hC : CellsOk C sz) (hs : Nat.blt s r = true) (h : frOs r O) : frOs r ((s, .row e (l.map C).flatten) :: O) := ⟨⟨q0h _, hs, qv3 hC l⟩, h⟩
theorem yw {r : Nat} {t : TypeId} {cs : List AV} {s : Nat} {O : Objs} (hs : Nat.blt s r = true) (hu : cs.all (AV.un1 r) = true) (h : frOs r O) : frOs r ((s, .var t cs) :: O) := ⟨⟨rfl, hs, hu⟩, h⟩
def unOs (m : Nat) : Objs → Prop
 | [] => True
 | q :: O => q.2.un m = true ∧ unOs m O
theorem qob {m : Nat} : ∀ (O : Objs), unOs m O → O.all (fun q => q.2.un m) = true
 | [], _ => rfl
 | q :: O, h => by rw [List.all_cons, h.1, qob O h.2]; rfl
theorem y6 {m : Nat} : unOs m [] := trivial
theorem Ja {α : Type} {C : α → List AV} {sz m : Nat} {e : TypeId} {l : List α} {s : Nat} {O : Objs} (hC : CellsOk C sz) (h : unOs m O) : unOs m ((s, .row e (l.map C).flatten) :: O) := ⟨qv3 hC l, h⟩
theorem yv {m : Nat} {t : TypeId} {cs : List AV} {s : Nat} {O : Objs} (hu : cs.all (AV.un1 m) = true) (h : unOs m O) : unOs m ((s, .var t cs) :: O) := ⟨hu, h⟩
section
variable {f : FuncId} {xs xs0 : List AV} {x : AV} {r m' : Nat} {O O' O1 O2 objs2 : Objs} {n2 : Nat} {all : Array Oper} {os : List Oper} {u : Tmp}
theorem qu7 (ids st : List Nat) {y : AV} (h : ACalls P G f xs0 ⟨r, O⟩ x ⟨m', O'⟩) (hids : ids.length = O.length) (hl : O'.length = O.length) (hnd : ids.Nodup)
 (hst : st.length = r) (hstn : st.all (fun s => Nat.blt s n) = true) (hr : Nat.ble r m' = true)
 (hxs : mvdL (fun j => ids.getD j 0) (fun s => st.getD s 0) r xs0 xs) (hO : frOs r O) (hO1 : mvOs (fun j => ids.getD j 0) (fun s => st.getD s 0) O O1) (hg : qbk ids objs = some O1)
 (hx : Mvd (fun j => ids.getD j 0) (Wp (fun s => st.getD s 0) r n) m' x y) (hun : unOs m' O') (hO2 : mvOs (fun j => ids.getD j 0) (Wp (fun s => st.getD s 0) r n) O' O2) (hs : qf9 ids O2 objs = objs2) (hn : n + (m' - r) = n2) : ACalls P G f xs ⟨n, objs⟩ y ⟨n2, objs2⟩ := by
 obtain ⟨h1, h2⟩ := qjb _ _ hxs
 subst hn hs
 refine h.frame (ι := fun j => ids.getD j 0) (ι' := fun j => ids.getD j 0) (ρ := fun s => st.getD s 0) h1 h2 (fun j s o hj => ?_) (fun j j' hj hj' e => ?_) (fun s hs => ?_) (Nat.le_of_ble_eq_true hr) hx (fun j s o hj => List.all_eq_true.1 (qob _ hun) _ (List.mem_of_getElem? hj)) (fun i s o hi => ?_)
 ·obtain ⟨a1, a2, a3⟩ := qjl O hO j s o hj
  have := (qjc O O1 hO1).2 j s o hj
  obtain ⟨i, e1, e2⟩ := qd6 ids O1 hg j _ this
  refine ⟨a1, a2, ?_, a3⟩
  simp only [List.getD_eq_getElem?_getD, e1, Option.getD_some]
  simpa only [List.getD_eq_getElem?_getD] using e2
 ·rw [← hids] at hj hj'
  simp only [List.getD_eq_getElem?_getD, List.getElem?_eq_getElem hj, List.getElem?_eq_getElem hj', Option.getD_some] at e
  exact (List.getElem_inj hnd).1 e
 ·rw [← hst] at hs
  simp only [List.getD_eq_getElem?_getD, List.getElem?_eq_getElem hs, Option.getD_some]
  exact Nat.le_of_ble_eq_true (List.all_eq_true.1 hstn _ (List.getElem_mem hs))
 rw [qo5 O' O2 hO2] at hi
 rcases qiv ids _ _ (by rw [List.length_map, hl, hids]; exact Nat.le_refl _) i _ hi with ⟨j, e1, e2⟩ | ⟨e1, e2⟩
 ·rw [List.getElem?_map, Option.map_eq_some_iff] at e2
  obtain ⟨q, hq, e⟩ := e2
  simp only [Prod.mk.injEq] at e
  refine .inl ⟨j, q.1, q.2, hq, e.1.symm, e.2.symm, ?_⟩
  simp only [List.getD_eq_getElem?_getD, e1, Option.getD_some]
 refine .inr ⟨e1, fun j hj e => e2 j ?_⟩
 rw [← hids] at hj
 simp only [List.getD_eq_getElem?_getD, List.getElem?_eq_getElem hj, Option.getD_some] at e
 rw [List.getElem?_eq_getElem hj, e]
def qw0 (G : Nat → List AV) : List Oper → Fr → Objs → Objs → Prop
 | [], _, _, _ => True
 | l :: ls, fr, objs, objs2 => (match l.op with | .load _ a => (match ev G fr a with | .ptr id _ _ => objs2[id]? = objs[id]? | _ => True) | _ => True) ∧ qw0 G ls fr objs objs2
theorem qs3 {G : Nat → List AV} {n n2 : Nat} : ∀ {ls : List Oper} {fr : Fr} {objs objs2 : Objs}, qw0 G ls fr objs objs2 → qhe G ls fr ⟨n, objs⟩ ⟨n2, objs2⟩
 | [], _, _, _, _ => trivial
 | l :: ls, fr, objs, objs2, h => by
   refine ⟨?_, qs3 h.2⟩
   have h1 := h.1
   clear h
   revert h1
   cases l.op <;> intro h1 <;> first | trivial | skip
   case load t a =>
    simp only at h1 ⊢
    unfold Jy
    revert h1
    cases ev G fr a <;> intro h1 <;> first | (intro s t cs hi; simp only at h1; rw [h1]; exact hi) | trivial
theorem qb {d : Bool} {y : AV} (h : ACalls P G f xs ⟨n, objs⟩ y ⟨n2, objs2⟩) (hc : Ok P G T N p Q (.go [(u, y)] (.ops d all os :: k) (unkn (some u) kn) fr n2 objs2)) (hd : d = false ∨ ((cwOf all).1 = true ∧ qw0 G all.toList (frT fr) objs objs2) := by first | exact .inl rfl | exact .inr ⟨by kernel_rfl, by repeat' (first | exact trivial | exact rfl | refine And.intro ?_ ?_)⟩) : Ok P G T N p Q (.call f xs (some u) d all os k kn fr n objs) := by
 unfold Ok at hc ⊢
 exact fun hk => .inr (.inl ⟨y, _, (fun e => hd.elim (fun h => by rw [h] at e; cases e) (fun h => ⟨h.1, qs3 h.2⟩)), h, hc hk⟩)
theorem Kx (E : Env P T) {rs : List ResultVar} {y : AV} {K : AV → Hp → Prop} (h : qez T fr objs rs qdn = some y) (ht : K y ⟨n, objs⟩) : Ok P G T N p (Ret P rs K) (.fin .normal [] fr n objs) := by
 unfold Ok
 intro _
 obtain ⟨xs, h1, h2⟩ := qce (n := n) E.hT rs _ h
 refine ⟨y, ?_, ht⟩
 unfold vp
 rw [h1]
 unfold qdn at h2
 split at h2
 ·exact h2
 rename_i hne
 split
 ·rename_i x' hx'
  exact absurd (Option.some.inj hx') (hne x')
 ·rename_i xs' _ hx'
  cases hx'
  exact h2
 rename_i hx'; cases hx'
end
theorem qw9 {ρ : Nat → Nat} {m : Nat} (h : (List.range m).all (fun s => Nat.beq (ρ s) s) = true) : ∀ s, s < m → ρ s = s := fun s hs => Nat.eq_of_beq_eq_true (List.all_eq_true.1 h s (List.mem_range.2 hs))
section
variable {α : Type} {d : Bool} {all : Array Oper} {os : List Oper} {u : Tmp} {ty : TypeId} {pos : String} {aft : Array Edge}
end
end Go.Proofs.YtigmilhpeodhbaaDoorW.Ex
