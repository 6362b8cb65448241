/- A symbolic executor for the machine's code, part P: the rules for functions that are printed as functions on numbers, strings, lists and trees (Option: none where the program would not come to an end, or not by itself). General over the program; no conditions beside those in each theorem. -/
import Derived.Test.YtimdjillcaichaaDoorEx10
import Derived.KernelRfl
namespace Go.Proofs.YtimdjillcaichaaDoorW.Ex
set_option linter.all false
open Go
set_option linter.unusedVariables false
variable {G : Nat → List AV} {P : Program} {N p : Nat}

/-! ### What printed functions use -/
theorem ite_t {α : Type} {c : Bool} {A B : Option α} {r : α} (hc : c = true) (h : (if c then A else B) = some r) : A = some r := by rwa [if_pos hc] at h
theorem ite_f {α : Type} {c : Bool} {A B : Option α} {r : α} (hc : c = false) (h : (if c then A else B) = some r) : B = some r := by rwa [if_neg (by rw [hc]; simp)] at h
theorem bind_some {α β : Type} {x : Option α} {f : α → Option β} {r : β} (h : (x >>= f) = some r) : ∃ y, x = some y ∧ f y = some r := by
  cases x with
  | none => cases h
  | some y => exact ⟨y, rfl, h⟩
/-- An argument that is handed on as it is. -/
def nofix {α : Type} (x : α) : α := x
/-- An element. -/
def ix {α : Type} (l : List α) (i : Int) : Option α := if 0 ≤ i then l[i.toNat]? else none
theorem ix_some {α : Type} {l : List α} {i : Int} {x : α} (h : ix l i = some x) : i = ((i.toNat : Nat) : Int) ∧ l[i.toNat]? = some x := by
  unfold ix at h
  split at h
  · exact ⟨by omega, h⟩
  · cases h
theorem ix_nat {α : Type} (l : List α) (i : Nat) : ix l (i : Int) = l[i]? := by simp [ix]
/-- A byte of a string. -/
def sx (s : ByteArray) (i : Int) : Option Int := if 0 ≤ i then (s[i.toNat]?).map (fun b => (b.toNat : Int)) else none
/-- A part of a string. -/
def ssub (s : ByteArray) (a b : Int) : Option ByteArray := if 0 ≤ a ∧ a ≤ b ∧ b ≤ (s.size : Int) then some (s.extract a.toNat b.toNat) else none
/-- A part of a list. -/
def lsub {α : Type} (l : List α) (a b : Int) : Option (List α) := if 0 ≤ a ∧ a ≤ b ∧ b ≤ (l.length : Int) then some ((l.take b.toNat).drop a.toNat) else none
/-- One string behind the other. -/
def cat (a b : ByteArray) : Option ByteArray := if a.size + b.size ≤ 9223372036854775807 then some (a ++ b) else none
def quo (k : IntKind) (a b : Int) : Option Int := if b = 0 then none else some (k.wrap (a.tdiv b))
def rem (a b : Int) : Option Int := if b = 0 then none else some (a.tmod b)
/-- One list behind the other; by: the bytes of an element. -/
def app {α : Type} (by_ : Nat) (l m : List α) : Option (List α) := if (l.length + m.length) * by_ ≤ 140737488355328 ∧ l.length + m.length ≤ 9223372036854775807 then some (l ++ m) else none
theorem app_some {α : Type} {by_ : Nat} {l m r : List α} (h : app by_ l m = some r) : r = l ++ m ∧ (l.length + m.length) * by_ ≤ 140737488355328 ∧ l.length + m.length ≤ 9223372036854775807 := by
  unfold app at h
  split at h
  · rename_i hc; exact ⟨(Option.some.inj h).symm, hc⟩
  · cases h

theorem app_pos {α : Type} {by_ : Nat} {l m r : List α} (h : app by_ l m = some r) (hm : 0 < m.length) : 0 < r.length := by
  obtain ⟨rfl, _⟩ := app_some h
  rw [List.length_append]; omega

/-! ### Where a loop, and what is behind a test or a block, stands -/
def loopsK (bars : List Nat) : Code → List Item → List (Code × List Item)
  | .seq a b, k => loopsK bars a (.code b :: k) ++ loopsK bars b k
  | .cond c a b, k => barC bars c k fun k => loopsK bars a k ++ loopsK bars b k
  | .block id b, k => barB bars id k fun k => loopsK bars b (.blk id :: k)
  | .loop c, k => (c, k) :: loopsK bars c (.inl c :: k)
  | _, _ => []
def testK (bars : List Nat) : Code → Nat → List Item → Option (List Item)
  | .seq a b, t, k => match testK bars a t (.code b :: k) with | some x => some x | none => testK bars b t k
  | .cond c a b, t, k => match c with
    | .tmp u => bif Nat.beq u t then some k else barC bars c k fun k => match testK bars a t k with | some x => some x | none => testK bars b t k
    | _ => match testK bars a t k with | some x => some x | none => testK bars b t k
  | .block id b, t, k => barB bars id k fun k => testK bars b t (.blk id :: k)
  | .loop c, t, k => testK bars c t (.inl c :: k)
  | _, _, _ => none
def blockK (bars : List Nat) : Code → Nat → List Item → Option (List Item)
  | .seq a b, t, k => match blockK bars a t (.code b :: k) with | some x => some x | none => blockK bars b t k
  | .cond c a b, t, k => barC bars c k fun k => match blockK bars a t k with | some x => some x | none => blockK bars b t k
  | .block id b, t, k => bif Nat.beq id t then some k else barB bars id k fun k => blockK bars b t (.blk id :: k)
  | .loop c, t, k => blockK bars c t (.inl c :: k)
  | _, _, _ => none
def bodyOf (f : Func) : Code := match f.body with | some c => c | none => .skip
def loopOf (bars : List Nat) (f : Func) (i : Nat) : Code × List Item := ((loopsK bars (bodyOf f) [])[i]?).getD (.skip, [])
def testOf (bars : List Nat) (f : Func) (t : Nat) : List Item := (testK bars (bodyOf f) t []).getD []
def blockOf (bars : List Nat) (f : Func) (t : Nat) : List Item := (blockK bars (bodyOf f) t []).getD []
def codeNext : List Item → Bool
  | .code _ :: _ => true
  | .inl _ :: _ => true
  | .blk _ :: k => codeNext k
  | .bar :: k => codeNext k
  | _ => false

section
variable {T : TT} {Q : Exit → Fr → Hp → Prop} {k : List Item} {kn : List Nat} {fr : FT} {n : Nat} {objs : Objs}
theorem ALoop_less {c : Code} {f1 f2 : Fr} {H1 H2 : Hp} (h : Less G N p f1 H1 f2 H2) (k : ALoop P G N p c Q f2 H2) : ALoop P G N p c Q f1 H1 := by
  intro w S F β a hp hH hf
  unfold Less at h
  obtain ⟨S', β', hx, hp', hH', hf'⟩ := h w S F β a hp hH hf
  intro b ks cs
  obtain ⟨e, a', w', ⟨fr', H', S2, β2, q, hx2, r⟩, harr⟩ := k w S' F β' a hp' hH' hf' b ks cs
  exact ⟨e, a', w', ⟨fr', H', S2, β2, q, hx.trans hx2, r⟩, harr⟩
theorem QK_less {f1 f2 : Fr} {H1 H2 : Hp} (h : Less G N p f1 H1 f2 H2) : ∀ (k : List Item), codeNext k = true → QK P G N p Q k .normal f2 H2 → QK P G N p Q k .normal f1 H1
  | .code c :: k, _, q => AThen_normal (AWp_less h q)
  | .inl c :: k, _, q => AThen_normal (ALoop_less h q)
  | .blk i :: k, hk, q => AInBlock_normal (QK_less h k hk q)
  | .bar :: k, hk, q => QK_less h k hk q
/-- A loop met on the way: its head is told as its contract says. -/
theorem Ok_loop_to {c : Code} {fr1 : FT} {n1 : Nat} {objs1 : Objs} {K : Code × List Item} (hK : (c, k) = K) (hl : Less G N p (frT fr) ⟨n, objs⟩ (frT fr1) ⟨n1, objs1⟩) (h : Ok P G T N p Q (.again K.1 K.2 fr1 n1 objs1)) : Ok P G T N p Q (.loop c k kn fr n objs) := by
  subst hK
  unfold Ok at h ⊢
  exact fun hk => AWp_of_ALoop (ALoop_less hl (h hk))
/-- A round's end. -/
theorem Ok_again_to {c : Code} {fr1 : FT} {n1 : Nat} {objs1 : Objs} {K : Code × List Item} (hK : (c, k) = K) (hl : Less G N p (frT fr) ⟨n, objs⟩ (frT fr1) ⟨n1, objs1⟩) (h : Ok P G T N p Q (.again K.1 K.2 fr1 n1 objs1)) : Ok P G T N p Q (.again c k fr n objs) := by
  subst hK
  unfold Ok at h ⊢
  exact fun hk => ALoop_less hl (h hk)
/-- One round. -/
theorem Ok_unroll {c : Code} (h : Ok P G T N p Q (.go [] (.code c :: .inl c :: k) [] fr n objs)) : Ok P G T N p Q (.again c k fr n objs) := by
  unfold Ok at h ⊢
  intro hk
  simp only [itemsOk, Bool.and_eq_true] at hk
  exact ALoop_unroll (h (by simp only [itemsOk, hk.1, hk.2, Bool.and_self]))
/-- A place behind a test or a block: told as its contract says. -/
theorem Ok_bar_to {fr1 : FT} {n1 : Nat} {objs1 : Objs} {K : List Item} (hK : k = K) (hc : codeNext k = true) (hl : Less G N p (frT fr) ⟨n, objs⟩ (frT fr1) ⟨n1, objs1⟩) (h : Ok P G T N p Q (.go [] K [] fr1 n1 objs1)) : Ok P G T N p Q (.bar k fr n objs) := by
  subst hK
  unfold Ok at h ⊢
  intro hk
  exact QK_less hl k hc (h hk)
/-- A place behind a test that is gone through as it is. -/
theorem Ok_bar_on (h : Ok P G T N p Q (.go [] k [] fr n objs)) : Ok P G T N p Q (.bar k fr n objs) := by
  unfold Ok at h ⊢
  exact h
theorem Ok_go_of {K k' : List Item} (hK : K = k') (h : Ok P G T N p Q (.go [] k' [] fr n objs)) : Ok P G T N p Q (.go [] K [] fr n objs) := hK ▸ h
end

/-! ### Stops, in typed form -/
section
variable {T : TT} {Q : Exit → Fr → Hp → Prop} {k : List Item} {kn : List Nat} {fr : FT} {n : Nat} {objs : Objs} {d : Bool} {all : Array Oper} {os : List Oper} {u : Tmp} {ty : TypeId} {pos : String} {aft : Array Edge} {α : Type}
/-- An element of a list that is only read. -/
theorem Ok_ixT {t : TypeId} {a i : Operand} {sz : Nat} {full : Bool} {l : List α} {C : α → List AV} {κ : IntKind} {j : Int} {x : α} {c : List AV} {e : TypeId} {it : TI} (E : Env P T) (hx : ix l j = some x)
    (ha : ev G (frT fr) a = .sl sz full (l.map C)) (hi : ev G (frT fr) i = .int κ j) (ht : T.get t = some it) (he : it.elem = some (e, sz)) (hC : C x = c)
    (hc : Ok P G T N p Q (.go [(u, .rptr c)] (.ops d all os :: k) (unkn (some u) kn) fr n objs)) : Ok P G T N p Q (.gen ⟨some u, .indexAddr t a i, ty, pos, aft, none⟩ d all os k kn fr n objs) := by
  obtain ⟨h0, hl⟩ := ix_some hx
  exact Ok_ix E ha hi ht he h0 (by rw [List.getElem?_map, hl, Option.map_some, hC]) hc
/-- A byte of a string. -/
theorem Ok_sxT {t : TypeId} {a i : Operand} {κ : IntKind} {j x : Int} {s : ByteArray} {it : TI} (E : Env P T) (hx : sx s j = some x)
    (ha : ev G (frT fr) a = .str s) (hi : ev G (frT fr) i = .int κ j) (ht : T.get t = some it) (he : it.str = true)
    (hc : Ok P G T N p Q (.go [(u, .int .u8 x)] (.ops d all os :: k) (unkn (some u) kn) fr n objs)) : Ok P G T N p Q (.gen ⟨some u, .index t a i, ty, pos, aft, none⟩ d all os k kn fr n objs) := by
  unfold sx at hx
  split at hx
  · rename_i h0
    rw [Option.map_eq_some_iff] at hx
    obtain ⟨b, hb, rfl⟩ := hx
    exact Ok_ixs E ha hi ht he (show j = ((j.toNat : Nat) : Int) by omega) hb hc
  · cases hx
/-- A bound of a part: what it is if it is not said. -/
def bnd (x : Option AV) (d : Nat) (i : Int) : Prop := match x with
  | none => i = (d : Int)
  | some (.int _ j) => j = i
  | _ => False
theorem bnd_at {x : Option AV} {d : Nat} {i : Int} (h : bnd x d i) (h0 : 0 ≤ i) : boundAV x d = some i.toNat := by
  unfold bnd at h
  split at h
  · subst h; rfl
  · subst h; simp only [boundAV, if_pos h0]
  · exact h.elim
theorem Ok_ssubT {t : TypeId} {a : Operand} {lo hi : Option Operand} {s r : ByteArray} {i j : Int} {it : TI} (E : Env P T) (hx : ssub s i j = some r)
    (ha : ev G (frT fr) a = .str s) (ht : T.get t = some it) (he : it.str = true) (hl : bnd (lo.map (ev G (frT fr))) 0 i) (hh : bnd (hi.map (ev G (frT fr))) s.size j)
    (hc : Ok P G T N p Q (.go [(u, .str r)] (.ops d all os :: k) (unkn (some u) kn) fr n objs)) : Ok P G T N p Q (.gen ⟨some u, .slice t a lo hi none, ty, pos, aft, none⟩ d all os k kn fr n objs) := by
  unfold ssub at hx
  split at hx
  · rename_i hcond
    cases hx
    exact Ok_str E ha ht he (bnd_at hl (by omega)) (bnd_at hh (by omega)) (by omega) (by omega) hc
  · cases hx
theorem Ok_lsubT {t : TypeId} {a : Operand} {lo hi : Option Operand} {sz : Nat} {l r : List α} {C : α → List AV} {i j : Int} {e : TypeId} {it : TI} (E : Env P T) (hx : lsub l i j = some r)
    (ha : ev G (frT fr) a = .sl sz false (l.map C)) (ht : T.get t = some it) (he : it.elem = some (e, sz)) (hl : bnd (lo.map (ev G (frT fr))) 0 i) (hh : bnd (hi.map (ev G (frT fr))) (l.map C).length j)
    (hc : Ok P G T N p Q (.go [(u, .sl sz false (r.map C))] (.ops d all os :: k) (unkn (some u) kn) fr n objs)) : Ok P G T N p Q (.gen ⟨some u, .slice t a lo hi none, ty, pos, aft, none⟩ d all os k kn fr n objs) := by
  unfold lsub at hx
  split at hx
  · rename_i hcond
    cases hx
    refine Ok_sl E ha ht he (bnd_at hl (by omega)) (bnd_at hh (by omega)) (by omega) (by rw [List.length_map]; omega) ?_
    rw [List.map_drop, List.map_take] at hc
    exact hc
  · cases hx
/-- A part with a limit where it ends: there is no room left behind it. -/
theorem Ok_lsub3T {t : TypeId} {a hi mx : Operand} {lo : Option Operand} {sz : Nat} {full : Bool} {l r : List α} {C : α → List AV} {i j : Int} {e : TypeId} {it : TI} (E : Env P T) (hx : lsub l i j = some r)
    (ha : ev G (frT fr) a = .sl sz full (l.map C)) (ht : T.get t = some it) (he : it.elem = some (e, sz)) (hl : bnd (lo.map (ev G (frT fr))) 0 i) (hh : bnd (some (ev G (frT fr) hi)) (l.map C).length j) (hm : bnd (some (ev G (frT fr) mx)) 0 j)
    (hc : Ok P G T N p Q (.go [(u, .sl sz true (r.map C))] (.ops d all os :: k) (unkn (some u) kn) fr n objs)) : Ok P G T N p Q (.gen ⟨some u, .slice t a lo (some hi) (some mx), ty, pos, aft, none⟩ d all os k kn fr n objs) := by
  unfold lsub at hx
  split at hx
  · rename_i hcond
    cases hx
    refine Ok_sl3 E ha ht he (bnd_at hl (by omega)) (bnd_at hh (by omega)) (bnd_at hm (by omega)) (by omega) (Nat.le_refl _) (by rw [List.length_map]; omega) ?_
    rw [List.map_drop, List.map_take] at hc
    rw [decide_eq_true rfl]
    exact hc
  · cases hx
theorem Ok_catT {t t2 : TypeId} {a b : Operand} {s s2 r : ByteArray} (E : Env P T) (hx : cat s s2 = some r) (ha : ev G (frT fr) a = .str s) (hb : ev G (frT fr) b = .str s2)
    (hc : Ok P G T N p Q (.go [(u, .str r)] (.ops d all os :: k) (unkn (some u) kn) fr n objs)) : Ok P G T N p Q (.gen ⟨some u, .binOp .add t a b t2, ty, pos, aft, none⟩ d all os k kn fr n objs) := by
  unfold cat at hx
  split at hx
  · rename_i hcond
    cases hx
    refine Ok_gen (fun _ => rfl) ?_ hc
    simp only [evalOp, ha, hb, binAV, strBinAV, if_pos hcond, Option.map_some]
  · cases hx
theorem Ok_quoT {t t2 : TypeId} {a b : Operand} {κ : IntKind} {i j r : Int} (E : Env P T) (hx : quo κ i j = some r) (ha : ev G (frT fr) a = .int κ i) (hb : ev G (frT fr) b = .int κ j)
    (hc : Ok P G T N p Q (.go [(u, .int κ r)] (.ops d all os :: k) (unkn (some u) kn) fr n objs)) : Ok P G T N p Q (.gen ⟨some u, .binOp .quo t a b t2, ty, pos, aft, none⟩ d all os k kn fr n objs) := by
  unfold quo at hx
  split at hx
  · cases hx
  · rename_i hcond
    cases hx
    refine Ok_gen (fun _ => rfl) ?_ hc
    simp only [evalOp, ha, hb, binAV, if_true, intBinAV, if_neg hcond, Option.map_some]
theorem Ok_remT {t t2 : TypeId} {a b : Operand} {κ : IntKind} {i j r : Int} (E : Env P T) (hx : rem i j = some r) (ha : ev G (frT fr) a = .int κ i) (hb : ev G (frT fr) b = .int κ j)
    (hc : Ok P G T N p Q (.go [(u, .int κ r)] (.ops d all os :: k) (unkn (some u) kn) fr n objs)) : Ok P G T N p Q (.gen ⟨some u, .binOp .rem t a b t2, ty, pos, aft, none⟩ d all os k kn fr n objs) := by
  unfold rem at hx
  split at hx
  · cases hx
  · rename_i hcond
    cases hx
    refine Ok_gen (fun _ => rfl) ?_ hc
    simp only [evalOp, ha, hb, binAV, if_true, intBinAV, if_neg hcond, Option.map_some]

/-! ### Lists that the call makes -/
/-- Cells of which lists may consist. -/
structure CellsOk {α : Type} (C : α → List AV) (sz : Nat) : Prop where
  len : ∀ a, (C a).length = sz
  pos : 0 < sz
  all : ∀ a, ∀ z ∈ C a, z.one = true ∧ z.closed = true
theorem flat_len {C : α → List AV} {sz : Nat} (hC : ∀ a, (C a).length = sz) (l : List α) : (l.map C).flatten.length = l.length * sz := by
  induction l with
  | nil => simp
  | cons a l ih => rw [List.map_cons, List.flatten_cons, List.length_append, ih, hC, List.length_cons, Nat.add_mul]; omega
theorem flat_app {C : α → List AV} (l m : List α) : ((l ++ m).map C).flatten = (l.map C).flatten ++ (m.map C).flatten := by
  rw [List.map_append, List.flatten_append]
/-- Append to a list of the call's own. -/
theorem Ok_appO {a b : Operand} {t t1 e : TypeId} {sz by_ id s0 : Nat} {f2 : Bool} {l m r : List α} {C : α → List AV} {z : List AV} {it ie : TI} (E : Env P T) (hx : app by_ l m = some r)
    (ha : ev G (frT fr) a = .bs sz id s0 0 l.length) (hb : ev G (frT fr) b = .sl sz f2 (m.map C)) (hm : 0 < m.length) (hC : ∀ a, (C a).length = sz) (ht : T.get t = some it) (he : it.elem = some (e, sz)) (hie : T.get e = some ie) (hz : ie.zero = some z) (hzl : z.length = sz) (h0 : 0 < sz)
    (hby : bytesP P e = some by_) (hn : noIntP P t1 = true) (ho : objs[id]? = some (s0, .row e (l.map C).flatten))
    (hc : Ok P G T N p Q (.go [(u, .bs sz id n 0 r.length)] (.ops d all os :: k) (unkn (some u) kn) fr (n + 1) (objs.set id (n, .row e (r.map C).flatten)))) (hcp : d = false ∨ isCopyO a = false := by first | exact .inl rfl | exact .inr rfl) :
    Ok P G T N p Q (.gen ⟨some u, .call ⟨.builtin .append, #[a, b], #[t, t1]⟩, ty, pos, aft, none⟩ d all os k kn fr n objs) := by
  obtain ⟨rfl, h1, h2⟩ := app_some hx
  refine Ok_append_bs E ha hb ht he hie hz hzl h0 hby hn ho (flat_len hC l) (by rw [List.length_map]; exact h1) (by rw [List.length_map]; exact h2) ?_ hcp (by rw [List.length_map]; omega)
  rw [List.length_map, ← flat_app]
  rw [List.length_append] at hc
  exact hc
/-- Append to nil, or to what has no room left: a new list of the call's own. -/
theorem Ok_appN {a b : Operand} {t t1 e : TypeId} {sz s1 by_ : Nat} {f2 : Bool} {l m r : List α} {C : α → List AV} {z : List AV} {it ie : TI} (E : Env P T) (hx : app by_ l m = some r)
    (ha : ev G (frT fr) a = .sl s1 true (l.map C)) (hs1 : s1 = sz ∨ l.map C = []) (hb : ev G (frT fr) b = .sl sz f2 (m.map C)) (hm : 0 < m.length) (ht : T.get t = some it) (he : it.elem = some (e, sz)) (hie : T.get e = some ie) (hz : ie.zero = some z) (hzl : z.length = sz) (h0 : 0 < sz)
    (hby : bytesP P e = some by_) (hn : noIntP P t1 = true)
    (hc : Ok P G T N p Q (.go [(u, .bs sz objs.length n 0 r.length)] (.ops d all os :: k) (unkn (some u) kn) fr (n + 1) (objs ++ [(n, .row e (r.map C).flatten)]))) (hcp : d = false ∨ isCopyO a = false := by first | exact .inl rfl | exact .inr rfl) :
    Ok P G T N p Q (.gen ⟨some u, .call ⟨.builtin .append, #[a, b], #[t, t1]⟩, ty, pos, aft, none⟩ d all os k kn fr n objs) := by
  obtain ⟨rfl, h1, h2⟩ := app_some hx
  refine Ok_gen (app_step hcp) ?_ hc
  simp only [evalOp, callAV, builtinAV, List.map_cons, List.map_nil, ha, hb, appendAV, (ti E.hT ht).elem _ he, hby, (ti E.hT hie).zero _ hz]
  rw [if_pos ⟨h0, hzl, hn⟩]
  simp only [contentsAV, true_or, if_true, List.length_map]
  rw [if_pos ⟨trivial, hs1⟩, if_neg (by omega), if_pos ⟨h2, h1⟩, ← flat_app, List.length_append]
  rfl
/-- Append a list that may be empty to nil, or to what has no room left: a copy. -/
theorem Ok_appC {a b : Operand} {t t1 e : TypeId} {sz s1 s2 by_ : Nat} {f2 : Bool} {l m r : List α} {C : α → List AV} {z : List AV} {it ie : TI} (E : Env P T) (hx : app by_ l m = some r)
    (ha : ev G (frT fr) a = .sl s1 true (l.map C)) (hs1 : s1 = sz ∨ l.map C = []) (hb : ev G (frT fr) b = .sl s2 f2 (m.map C)) (hs2 : s2 = sz ∨ m.map C = []) (ht : T.get t = some it) (he : it.elem = some (e, sz)) (hie : T.get e = some ie) (hz : ie.zero = some z) (hzl : z.length = sz) (h0 : 0 < sz)
    (hby : bytesP P e = some by_) (hn : noIntP P t1 = true)
    (hc : Ok P G T N p Q (.go [(u, .sl sz false (r.map C))] (.ops d all os :: k) (unkn (some u) kn) fr n objs)) :
    Ok P G T N p Q (.gen ⟨some u, .call ⟨.builtin .append, #[a, b], #[t, t1]⟩, ty, pos, aft, none⟩ d all os k kn fr n objs) := by
  obtain ⟨rfl, h1, h2⟩ := app_some hx
  rw [List.map_append] at hc
  exact Ok_append_copy E ha hs1 hb hs2 ht he hie hz hzl h0 hby hn (by rw [List.length_map, List.length_map]; exact h2) (by rw [List.length_map, List.length_map]; exact h1) hc
/-- Append a list that may be empty to a list of the call's own that is not. -/
theorem Ok_appL {a b : Operand} {t t1 e : TypeId} {sz s2 by_ id s0 : Nat} {f2 : Bool} {l m r : List α} {C : α → List AV} {z : List AV} {it ie : TI} (E : Env P T) (hx : app by_ l m = some r)
    (ha : ev G (frT fr) a = .bs sz id s0 0 l.length) (hl : 0 < l.length) (hb : ev G (frT fr) b = .sl s2 f2 (m.map C)) (hs2 : s2 = sz ∨ m.map C = []) (hC : ∀ a, (C a).length = sz) (ht : T.get t = some it) (he : it.elem = some (e, sz)) (hie : T.get e = some ie) (hz : ie.zero = some z) (hzl : z.length = sz) (h0 : 0 < sz)
    (hby : bytesP P e = some by_) (hn : noIntP P t1 = true) (ho : objs[id]? = some (s0, .row e (l.map C).flatten))
    (hc : Ok P G T N p Q (.go [(u, .bs sz id n 0 r.length)] (.ops d all os :: k) (unkn (some u) kn) fr (n + 1) (objs.set id (n, .row e (r.map C).flatten)))) (hcp : d = false ∨ isCopyO a = false := by first | exact .inl rfl | exact .inr rfl) :
    Ok P G T N p Q (.gen ⟨some u, .call ⟨.builtin .append, #[a, b], #[t, t1]⟩, ty, pos, aft, none⟩ d all os k kn fr n objs) := by
  obtain ⟨rfl, h1, h2⟩ := app_some hx
  refine Ok_append_bsc E ha ht he hie hz hzl h0 hby hn (m := m.length) (news := (m.map C).flatten) (by rw [hb]; simp [contentsAV, hs2]; intro h; simpa using hs2.resolve_left h) ho (flat_len hC l) (by omega) h1 h2 ?_ hcp
  rw [← flat_app]
  rw [List.length_append] at hc
  exact hc
/-- A slot that holds nil is told as a list of the call's own without elements. -/
theorem less_own {t s1 : Nat} {sz : Nat} {e : TypeId} {fr' : FT} (hg : fr.get t = .sl s1 true []) (hs : FT.setK 10 fr t (.bs sz objs.length n 0 0) some = some fr') : Less G N p (frT fr) ⟨n, objs⟩ (frT fr') ⟨n + 1, objs ++ [(n, .row e [])]⟩ := by
  obtain ⟨fr2, h1, h2⟩ := FT.setK_ok _ _ _ _ _ hs
  cases h2
  unfold Less
  intro w S F β a hp hH hf
  refine ⟨S, β, ⟨rfl, rfl, rfl, Nat.le_refl _, Nat.le_refl _, fun _ _ => rfl, fun _ h => h, fun _ h => .inl h, fun _ _ => rfl, fun _ _ => rfl, fun _ _ h => h⟩, Nat.le_succ_of_le hp, ⟨hH.lts, hH.ltf, fun g => (hH.glob g).pure (.rptr _), fun i s o hi => ?_, fun i j si sj oi oj hi hj hne l1 l2 => ?_, fun i s o hi => ?_⟩, hf.size, hf.defers, fun q => ?_⟩
  · simp only [List.getElem?_append] at hi
    split at hi
    · exact Nat.lt_succ_of_lt (hH.ltn i s o hi)
    · have := List.mem_of_getElem? hi
      simp only [List.mem_singleton, Prod.mk.injEq] at this
      rw [this.1]; exact Nat.lt_succ_self _
  · have new : ∀ (i s : Nat) (o : Obj), (objs ++ [(n, Obj.row e [])])[i]? = some (s, o) → o.live = true → objs[i]? = some (s, o) := by
      intro i s o hi hl
      rw [List.getElem?_append] at hi
      split at hi
      · exact hi
      · have := List.mem_of_getElem? hi
        simp only [List.mem_singleton, Prod.mk.injEq] at this
        rw [this.2] at hl; cases hl
    exact hH.inj i j si sj oi oj (new _ _ _ hi l1) (new _ _ _ hj l2) hne l1 l2
  · simp only [List.getElem?_append] at hi
    split at hi
    · exact (hH.obj i s o hi).to (fun x v h => h.to (Nat.le_succ _) (fun _ _ => rfl) (fun _ h => h) (fun _ _ => rfl) (fun _ _ _ h => h)) rfl (fun h => h) (fun h => h) (fun h => h)
    · have := List.mem_of_getElem? hi
      simp only [List.mem_singleton, Prod.mk.injEq] at this
      rw [this.2]
      exact fun h => absurd rfl h
  · have hv := hf.val q
    show RV w S β (n + 1) (fr'.get q) _
    rw [h1 q]
    by_cases hq : q = t
    · subst hq
      rw [if_pos rfl]
      have hv' : RV w S β n (.sl s1 true []) (a.tmps.getD q Go.undef) := by rw [← hg]; exact hv
      generalize a.tmps.getD q Go.undef = v at hv'
      cases hv' with
      | sl _ _ _ A cap u hl hm hf0 =>
        have := hf0 rfl
        subst this
        exact .bs0 sz objs.length n 0 A (Nat.lt_succ_self _)
    · rw [if_neg hq]
      exact hv.to (Nat.le_succ _) (fun _ _ => rfl) (fun _ h => h) (fun _ _ => rfl) (fun _ _ _ h => h)
theorem Ok_own {c : Code} (t s1 sz : Nat) (e : TypeId) {fr' : FT} (hg : fr.get t = .sl s1 true []) (hs : FT.setK 10 fr t (.bs sz objs.length n 0 0) some = some fr') (h : Ok P G T N p Q (.loop c k kn fr' (n + 1) (objs ++ [(n, .row e [])]))) : Ok P G T N p Q (.loop c k kn fr n objs) := by
  unfold Ok at h ⊢
  exact fun hk => AWp_less (less_own hg hs) (h hk)
theorem Ok_ownB (t s1 sz : Nat) (e : TypeId) {fr' : FT} (hc : codeNext k = true) (hg : fr.get t = .sl s1 true []) (hs : FT.setK 10 fr t (.bs sz objs.length n 0 0) some = some fr') (h : Ok P G T N p Q (.bar k fr' (n + 1) (objs ++ [(n, .row e [])]))) : Ok P G T N p Q (.bar k fr n objs) := by
  unfold Ok at h ⊢
  exact fun hk => QK_less (less_own hg hs) k hc (h hk)
/-- A variable's field that holds nil is told as a list of the call's own without elements. -/
theorem less_ownF {i s1 si j : Nat} {sz : Nat} {e ty : TypeId} {cs : List AV} (ho : objs[i]? = some (si, .var ty cs)) (hg : cs[j]? = some (.sl s1 true [])) :
    Less G N p (frT fr) ⟨n, objs⟩ (frT fr) ⟨n + 1, objs.set i (si, .var ty (cs.set j (.bs sz objs.length n 0 0))) ++ [(n, .row e [])]⟩ := by
  unfold Less
  intro w S F β a hp hH hf
  have up : ∀ x v, RV w S β n x v → RV w S β (n + 1) x v := fun x v h => h.to (Nat.le_succ _) (fun _ _ => rfl) (fun _ h => h) (fun _ _ => rfl) (fun _ _ _ h => h)
  have hil := (List.getElem?_eq_some_iff.1 ho).1
  have hjl := (List.getElem?_eq_some_iff.1 hg).1
  have at_ : ∀ (q s : Nat) (o : Obj), (objs.set i (si, .var ty (cs.set j (.bs sz objs.length n 0 0))) ++ [(n, Obj.row e [])])[q]? = some (s, o) → (q = i ∧ s = si ∧ o = .var ty (cs.set j (.bs sz objs.length n 0 0))) ∨ (q ≠ i ∧ objs[q]? = some (s, o)) ∨ (q = objs.length ∧ s = n ∧ o = .row e []) := by
    intro q s o hq
    rw [List.getElem?_append] at hq
    split at hq
    · by_cases hqi : q = i
      · subst hqi
        rw [List.getElem?_set_self hil] at hq
        simp only [Option.some.injEq, Prod.mk.injEq] at hq
        exact .inl ⟨rfl, hq.1.symm, hq.2.symm⟩
      · rw [List.getElem?_set_ne (Ne.symm hqi)] at hq
        exact .inr (.inl ⟨hqi, hq⟩)
    · rename_i hge
      have h1 := List.mem_of_getElem? hq
      have h2 := (List.getElem?_eq_some_iff.1 hq).1
      simp only [List.mem_singleton, Prod.mk.injEq] at h1
      simp only [List.length_singleton] at h2
      rw [List.length_set] at h2 hge
      exact .inr (.inr ⟨by omega, h1.1, h1.2⟩)
  have old : ∀ (q s : Nat) (o : Obj), (objs.set i (si, .var ty (cs.set j (.bs sz objs.length n 0 0))) ++ [(n, Obj.row e [])])[q]? = some (s, o) → o.live = true → ∃ o', objs[q]? = some (s, o') ∧ o'.live = true := by
    intro q s o hq hl
    rcases at_ q s o hq with ⟨rfl, rfl, rfl⟩ | ⟨_, h⟩ | ⟨_, _, rfl⟩
    · exact ⟨_, ho, rfl⟩
    · exact ⟨o, h, hl⟩
    · cases hl
  refine ⟨S, β, ⟨rfl, rfl, rfl, Nat.le_refl _, Nat.le_refl _, fun _ _ => rfl, fun _ h => h, fun _ h => .inl h, fun _ _ => rfl, fun _ _ => rfl, fun _ _ h => h⟩, Nat.le_succ_of_le hp, ⟨hH.lts, hH.ltf, fun g => (hH.glob g).pure (.rptr _), fun q s o hq => ?_, fun q q' sq sq' oq oq' hq hq' hne l1 l2 => ?_, fun q s o hq => ?_⟩, hf.size, hf.defers, fun q => up _ _ (hf.val q)⟩
  · rcases at_ q s o hq with ⟨_, rfl, _⟩ | ⟨_, h⟩ | ⟨_, rfl, _⟩
    · exact Nat.lt_succ_of_lt (hH.ltn _ _ _ ho)
    · exact Nat.lt_succ_of_lt (hH.ltn _ _ _ h)
    · exact Nat.lt_succ_self _
  · obtain ⟨o1, a1, a2⟩ := old q sq oq hq l1
    obtain ⟨o2, b1, b2⟩ := old q' sq' oq' hq' l2
    exact hH.inj q q' sq sq' o1 o2 a1 b1 hne a2 b2
  · rcases at_ q s o hq with ⟨rfl, rfl, rfl⟩ | ⟨_, h⟩ | ⟨_, rfl, rfl⟩
    · obtain ⟨c, h1, h2, h3, h4, h5⟩ := hH.obj _ _ _ ho
      refine ⟨c, h1, by rw [List.length_set]; exact h2, h3, h4, fun m x hm => ?_⟩
      by_cases hmj : m = j
      · subst hmj
        rw [List.getElem?_set_self hjl] at hm
        simp only [Option.some.injEq] at hm
        subst hm
        refine ⟨rfl, ?_⟩
        obtain ⟨_, hv⟩ := h5 m _ hg
        generalize c.getD m Go.undef = v at hv
        cases hv with
        | sl _ _ _ A cap u hl hm hf0 =>
          have := hf0 rfl
          subst this
          exact .bs0 sz objs.length n 0 A (Nat.lt_succ_self _)
      · rw [List.getElem?_set_ne (Ne.symm hmj)] at hm
        exact ⟨(h5 m x hm).1, up _ _ (h5 m x hm).2⟩
    · exact (hH.obj _ _ _ h).to up rfl (fun h => h) (fun h => h) (fun h => h)
    · exact fun h => absurd rfl h
theorem Ok_ownF {c : Code} (i j sz : Nat) (e : TypeId) {s1 si : Nat} {ty : TypeId} {cs cs' : List AV} (ho : objs[i]? = some (si, .var ty cs)) (hg : cs[j]? = some (.sl s1 true [])) (hs : cs.set j (.bs sz objs.length n 0 0) = cs') (h : Ok P G T N p Q (.loop c k kn fr (n + 1) (objs.set i (si, .var ty cs') ++ [(n, .row e [])]))) : Ok P G T N p Q (.loop c k kn fr n objs) := by
  subst hs
  unfold Ok at h ⊢
  exact fun hk => AWp_less (less_ownF ho hg) (h hk)
theorem Ok_ownFB (i j sz : Nat) (e : TypeId) {s1 si : Nat} {ty : TypeId} {cs cs' : List AV} (hc : codeNext k = true) (ho : objs[i]? = some (si, .var ty cs)) (hg : cs[j]? = some (.sl s1 true [])) (hs : cs.set j (.bs sz objs.length n 0 0) = cs') (h : Ok P G T N p Q (.bar k fr (n + 1) (objs.set i (si, .var ty cs') ++ [(n, .row e [])]))) : Ok P G T N p Q (.bar k fr n objs) := by
  subst hs
  unfold Ok at h ⊢
  exact fun hk => QK_less (less_ownF ho hg) k hc (h hk)
theorem frzL_nil {f : Fr} {objs : Objs} {ids : List Nat} : frzL f objs ids [] := trivial
theorem frzL_cons {f : Fr} {objs : Objs} {ids : List Nat} {ps : List (Nat × AV)} {t id s : Nat} {ty : TypeId} {cs : List AV} (hf : f t = .ptr id s 0) (hi : ids.contains id = true) (ho : objs[id]? = some (s, .var ty cs)) (hc : cs.all AV.closed = true) (h : frzL f objs ids ps) : frzL f objs ids ((t, .rptr cs) :: ps) :=
  ⟨⟨id, s, ty, cs, hf, rfl, by simpa using hi, ho, List.all_eq_true.1 hc⟩, h⟩
/-- VARIABLES THAT DO NOT CHANGE ANY MORE, told as memory that is only read. -/
def killK (ids : List Nat) : Nat → Objs → (Objs → Option Objs) → Option Objs
  | _, [], k => k []
  | j, (s, o) :: l, k => killK ids (j + 1) l fun l => bif ids.any (Nat.beq j) then k ((s, .dead) :: l) else k ((s, o) :: l)
theorem killK_dead {ids : List Nat} : ∀ (l : Objs) (j : Nat) (r : Objs) (k : Objs → Option Objs), killK ids j l k = some r → ∃ l', deadL ids j l l' ∧ k l' = some r
  | [], j, r, k, h => ⟨[], trivial, h⟩
  | (s, o) :: l, j, r, k, h => by
    simp only [killK] at h
    obtain ⟨l', h1, h2⟩ := killK_dead l (j + 1) r _ h
    cases hb : ids.any (Nat.beq j) with
    | true =>
      rw [hb, cond_true] at h2
      exact ⟨(s, .dead) :: l', ⟨⟨rfl, .inl rfl⟩, h1⟩, h2⟩
    | false =>
      rw [hb, cond_false] at h2
      refine ⟨(s, o) :: l', ⟨⟨rfl, .inr ⟨rfl, fun hm => ?_⟩⟩, h1⟩, h2⟩
      have : ids.any (Nat.beq j) = true := List.any_eq_true.2 ⟨j, hm, Nat.beq_refl j⟩
      rw [hb] at this; cases this
theorem valsK_puts : ∀ (ps : List (Nat × AV)) (fr fr' : FT), valsK ps fr = some fr' → frT fr' = puts ps (frT fr)
  | [], fr, fr', h => by simp only [valsK, Option.some.injEq] at h; subst h; rfl
  | (t, x) :: ps, fr, fr', h => by
    simp only [valsK, forceV_eq] at h
    obtain ⟨fr2, h1, h2⟩ := FT.setK_ok _ _ _ _ _ h
    rw [valsK_puts ps fr2 fr' h2, h1.put]
    rfl
theorem Ok_freezeB {fr' : FT} {objs' : Objs} (ps : List (Nat × AV)) (ids : List Nat) (hk : codeNext k = true) (hps : frzL (frT fr) objs ids ps) (ho : killK ids 0 objs some = some objs') (hf : valsK ps fr = some fr') (hc : Ok P G T N p Q (.bar k fr' n objs')) : Ok P G T N p Q (.bar k fr n objs) := by
  unfold Ok at hc ⊢
  obtain ⟨l', ho, e⟩ := killK_dead _ _ _ _ ho
  cases e
  have := less_freeze (G := G) (N := N) (p := p) (n := n) ps ids hps ho
  rw [← valsK_puts ps fr fr' hf] at this
  exact fun h => QK_less this k hk (hc h)
/-- LISTS OF THE CALL'S OWN THAT ARE DONE, told as lists that are only read. -/
def viwL (f : Fr) (objs : Objs) (ids : List Nat) : List (Nat × AV) → Prop
  | [] => True
  | (t, x) :: ps => (∃ sz id s e l, f t = .bs sz id s 0 l.length ∧ x = .sl sz false l ∧ id ∈ ids ∧ 0 < sz ∧ objs[id]? = some (s, .row e l.flatten) ∧ ∀ c ∈ l, c.length = sz ∧ ∀ z ∈ c, z.one = true ∧ z.closed = true) ∧ viwL f objs ids ps
theorem viwL_get {f : Fr} {objs : Objs} {ids : List Nat} : ∀ (ps : List (Nat × AV)), viwL f objs ids ps → ∀ q ∈ ps, ∃ sz id s e l, f q.1 = .bs sz id s 0 l.length ∧ q.2 = .sl sz false l ∧ id ∈ ids ∧ 0 < sz ∧ objs[id]? = some (s, .row e l.flatten) ∧ ∀ c ∈ l, c.length = sz ∧ ∀ z ∈ c, z.one = true ∧ z.closed = true
  | [], _, q, hq => by cases hq
  | (t, x) :: ps, h, q, hq => by
    rcases List.mem_cons.1 hq with rfl | hq
    · exact h.1
    · exact viwL_get ps h.2 q hq
theorem viwL_cons {α : Type} {C : α → List AV} {f : Fr} {objs : Objs} {ids : List Nat} {ps : List (Nat × AV)} {t sz id s : Nat} {e : TypeId} {l : List α} (hC : CellsOk C sz) (hf : f t = .bs sz id s 0 l.length) (hi : ids.contains id = true) (ho : objs[id]? = some (s, .row e (l.map C).flatten)) (h : viwL f objs ids ps) : viwL f objs ids ((t, .sl sz false (l.map C)) :: ps) :=
  ⟨⟨sz, id, s, e, l.map C, by rw [List.length_map]; exact hf, rfl, by simpa using hi, hC.pos, ho, fun c hc => by
    obtain ⟨a, _, rfl⟩ := List.mem_map.1 hc
    exact ⟨hC.len a, hC.all a⟩⟩, h⟩
theorem viwL_nil {f : Fr} {objs : Objs} {ids : List Nat} : viwL f objs ids [] := trivial
theorem puts_mem {f : Fr} : ∀ (ps : List (Nat × AV)) (t : Nat), puts ps f t = f t ∨ ∃ q ∈ ps, q.1 = t ∧ puts ps f t = q.2 := by
  intro ps
  induction ps generalizing f with
  | nil => exact fun t => .inl rfl
  | cons q ps ih =>
    intro t
    obtain ⟨u, x⟩ := q
    simp only [puts]
    rcases ih (f := put (some u) x f) t with h | ⟨q, hq, e, h⟩
    · rw [h, put_some]
      by_cases hu : t = u
      · rw [if_pos hu]; exact .inr ⟨(u, x), List.mem_cons_self .., hu.symm, rfl⟩
      · rw [if_neg hu]; exact .inl rfl
    · exact .inr ⟨q, List.mem_cons_of_mem _ hq, e, h⟩
theorem less_view {f : Fr} {objs' : Objs} (ps : List (Nat × AV)) (ids : List Nat) (hps : viwL f objs ids ps) (ho : deadL ids 0 objs objs') : Less G N p f ⟨n, objs⟩ (puts ps f) ⟨n, objs'⟩ := by
  unfold Less
  intro w S F β a hp hH hf
  let S2 : Nat → Prop := fun k => S k ∨ ∃ (id s : Nat) (o : Obj), id ∈ ids ∧ objs[id]? = some (s, o) ∧ o.live = true ∧ β s = k
  have hS : ∀ k, S k → S2 k := fun k h => .inl h
  have rv : ∀ x v, RV w S β n x v → RV w S2 β n x v := fun x v h => h.to (Nat.le_refl _) (fun _ _ => rfl) hS (fun _ _ => rfl) (fun _ _ _ h => h)
  refine ⟨S2, β, ⟨rfl, rfl, rfl, Nat.le_refl _, Nat.le_refl _, fun _ _ => rfl, hS, ?_, fun _ _ => rfl, fun _ _ => rfl, fun _ _ h => h⟩, hp, ⟨?_, hH.ltf, fun g => ⟨rv _ _ (hH.glob g).rv, (hH.glob g).sh⟩, fun i s o hi => ?_, fun i j si sj oi oj hi hj hne h1 h2 => ?_, fun i s o hi => ?_⟩, hf.size, hf.defers, fun t => ?_⟩
  · rintro k (h | ⟨id, s, o, _, hi, hl, rfl⟩)
    · exact .inl h
    · exact .inr ((hH.obj id s _ hi).notS hl).2
  · rintro k (h | ⟨id, s, o, _, hi, hl, rfl⟩)
    · exact hH.lts k h
    · exact (hH.obj id s _ hi).lt hl
  · obtain ⟨o1, h1, _⟩ := deadL_get _ _ 0 ho i s o hi
    exact hH.ltn i s o1 h1
  · obtain ⟨o1, a1, a2⟩ := deadL_get _ _ 0 ho i si oi hi
    obtain ⟨o2, b1, b2⟩ := deadL_get _ _ 0 ho j sj oj hj
    rcases a2 with rfl | ⟨rfl, _⟩
    · cases h1
    · rcases b2 with rfl | ⟨rfl, _⟩
      · cases h2
      · exact hH.inj i j si sj _ _ a1 b1 hne h1 h2
  · obtain ⟨o1, a1, a2⟩ := deadL_get _ _ 0 ho i s o hi
    rcases a2 with rfl | ⟨rfl, hni⟩
    · trivial
    · rw [Nat.zero_add] at hni
      have hor := hH.obj i s _ a1
      cases hl : o.live with
      | false =>
        cases o with
        | dead => trivial
        | var t cs => cases hl
        | row t cs => exact OR.nil hl
        | froz t cs =>
          have h2 := hor
          obtain ⟨_, _, _, _, h2, _⟩ := h2
          exact hor.to rv rfl (fun h => absurd h2 h) (hS _) (fun h => h)
      | true =>
        refine hor.to rv rfl (fun hn hS' => ?_) (hS _) (fun h => h)
        rcases hS' with h | ⟨id, s2, o2, hid, hi2, hl2, e⟩
        · exact hn h
        · exact hH.inj i id s s2 _ _ a1 hi2 (fun e => hni (e ▸ hid)) hl hl2 e.symm
  · rcases puts_mem (f := f) ps t with h | ⟨q, hq, rfl, h⟩
    · rw [h]; exact rv _ _ (hf.val t)
    · rw [h]
      obtain ⟨sz, id, s, e, l, h1, h2, h3, h4, h5, h6⟩ := viwL_get ps hps q hq
      have hv := hf.val q.1
      rw [h1] at hv
      rw [h2]
      generalize a.tmps.getD q.1 Go.undef = v at hv ⊢
      generalize hln : l.length = ln at hv
      cases hv with
      | bs0 _ _ _ _ A hs =>
        have : l = [] := List.length_eq_zero_iff.1 hln
        subst this
        exact .sl sz false [] A 0 (fun _ _ => Go.undef) (Nat.le_refl _) (by omega) (fun h => by cases h) (fun h => absurd rfl h) (fun h => absurd rfl h) (fun _ _ _ h => absurd rfl h) (by simp) (by simp) (by simp) (by simp)
      | bs _ _ _ _ _ cap m' e' hs hsh hn hl hm h0 =>
        subst hln
        have hlen : ∀ c ∈ l, c.length = sz := fun c hc => (h6 c hc).1
        have hne : l.flatten ≠ [] := by
          intro e
          obtain ⟨c0, hc0⟩ : ∃ c0, l[0]? = some c0 := ⟨l[0], List.getElem?_eq_getElem h0⟩
          have := hlen c0 (List.mem_of_getElem? hc0)
          have h2 := flat_fwd l hlen 0 c0 0 c0[0] hc0 (List.getElem?_eq_getElem (by omega))
          rw [e] at h2
          simp at h2
        obtain ⟨c, hc, hcl2, hnS, hnF, hcells⟩ := hH.obj id s _ h5 hne
        refine .sl sz false l (some ⟨β s, 0, none⟩) cap (fun j i => c.getD (j * sz + i) Go.undef) hl hm (by simp) (fun _ a ha => by cases ha; rfl) (fun _ => rfl) (fun b o hb _ => ?_) hlen (fun c' hc' x hx => ((h6 c' hc').2 x hx).1) (fun b o hb j c' i x hj hi => ?_) (fun j c' i x hj hi => ?_)
        · simp only [Option.some.injEq, Addr.mk.injEq] at hb
          exact Or.inr ⟨id, s, _, h3, h5, live_row hne, hb.1⟩
        · simp only [Option.some.injEq, Addr.mk.injEq] at hb
          obtain ⟨rfl, rfl, _⟩ := hb
          have hx := flat_fwd l hlen j c' i x hj hi
          have hlt := (List.getElem?_eq_some_iff.1 hx).1
          simp only [World.cell?, hc, Nat.zero_add]
          exact get_some (by omega)
        · have hx := flat_fwd l hlen j c' i x hj hi
          exact ((hcells _ x hx).2.pure (closed_pure x ((h6 c' (List.mem_of_getElem? hj)).2 x (List.mem_of_getElem? hi)).2)).to (Nat.le_refl 0) (fun _ _ => rfl) (fun _ h => Or.inl h) (fun _ _ => rfl) (fun _ _ _ h => h)
theorem Ok_viewB {fr' : FT} {objs' : Objs} (ps : List (Nat × AV)) (ids : List Nat) (hk : codeNext k = true) (hps : viwL (frT fr) objs ids ps) (ho : killK ids 0 objs some = some objs') (hf : valsK ps fr = some fr') (hc : Ok P G T N p Q (.bar k fr' n objs')) : Ok P G T N p Q (.bar k fr n objs) := by
  unfold Ok at hc ⊢
  obtain ⟨l', ho, e⟩ := killK_dead _ _ _ _ ho
  cases e
  have := less_view (G := G) (N := N) (p := p) (n := n) ps ids hps ho
  rw [← valsK_puts ps fr fr' hf] at this
  exact fun h => QK_less this k hk (hc h)
end

/-! ### What a call returns, in typed form -/
theorem view_own {α : Type} {C : α → List AV} {sz id s : Nat} {l : List α} {objs : Objs} {e : TypeId} (hC : CellsOk C sz) (ho : objs[id]? = some (s, .row e (l.map C).flatten)) : view1 objs (.bs sz id s 0 l.length) (.sl sz false (l.map C)) := by
  refine ⟨rfl, rfl, hC.pos, e, _, ho, by rw [List.length_map], fun c hc => ?_, ?_, fun c hc z hz => ?_⟩
  · obtain ⟨a, _, rfl⟩ := List.mem_map.1 hc; exact hC.len a
  · rw [List.drop_zero, List.take_of_length_le (by rw [flat_len hC.len]; exact Nat.le_refl _)]
  · obtain ⟨a, _, rfl⟩ := List.mem_map.1 hc; exact hC.all a z hz
/-- The length of a list in memory. -/
theorem Ok_lenG {T : TT} {Q : Exit → Fr → Hp → Prop} {k : List Item} {kn : List Nat} {fr : FT} {n : Nat} {objs : Objs} {c : Code} (t : Nat) {sz : Nat} {full : Bool} {l : List (List AV)} (hg : fr.get t = .sl sz full l)
    (h : l.length ≤ 9223372036854775807 → Ok P G T N p Q (.loop c k kn fr n objs)) : Ok P G T N p Q (.loop c k kn fr n objs) := by
  unfold Ok at h ⊢
  intro hk w S F β a hp hH hf
  have hv := hf.val t
  have e : frT fr t = .sl sz full l := hg
  rw [e] at hv
  have hl : l.length ≤ 9223372036854775807 := by
    generalize a.tmps.getD t Go.undef = v at hv
    cases hv with
    | sl _ _ _ A cap u hl hm => exact Nat.le_trans hl hm
  exact h hl hk w S F β a hp hH hf

/-! ### Range loops -/
section
variable {α : Type} {l rest : List α} {j : Nat} {x : α} {C : α → List AV}
theorem range_nil (hl : l.drop j = []) (hj : j ≤ l.length) : decide (((j : Nat) : Int) < ((l.map C).length : Int)) = false := by
  have : l.length ≤ j := by simpa using hl
  rw [List.length_map]
  exact decide_eq_false (by omega)
theorem range_cons (hl : l.drop j = x :: rest) (hm : l.length ≤ 9223372036854775807) : decide (((j : Nat) : Int) < ((l.map C).length : Int)) = true ∧ l[j]? = some x ∧ l.drop (j + 1) = rest ∧ j + 1 ≤ l.length ∧ IntKind.i64.wrap ((j : Int) + 1) = ((j + 1 : Nat) : Int) := by
  have hlt : j < l.length := by
    rcases Nat.lt_or_ge j l.length with h | h
    · exact h
    · rw [List.drop_of_length_le h] at hl; cases hl
  rw [List.drop_eq_getElem_cons hlt] at hl
  injection hl with h1 h2
  refine ⟨?_, by rw [List.getElem?_eq_getElem hlt, h1], h2, hlt, ?_⟩
  · rw [List.length_map]
    exact decide_eq_true (by omega)
  · have e : ((j : Int) + 1) = ((j + 1 : Nat) : Int) := rfl
    rw [e]
    unfold IntKind.wrap
    simp [IntKind.bits, IntKind.signed]
    omega
theorem range_w (hj : j + 1 ≤ l.length) (hm : l.length ≤ 9223372036854775807) : IntKind.i64.wrap ((j : Int) + 1) = ((j + 1 : Nat) : Int) := by
  have e : ((j : Int) + 1) = ((j + 1 : Nat) : Int) := rfl
  rw [e]
  unfold IntKind.wrap
  simp [IntKind.bits, IntKind.signed]
  omega
theorem range_at {c : List AV} (hx : l[j]? = some x) (hC : C x = c) : (l.map C)[j]? = some c := by rw [List.getElem?_map, hx, Option.map_some, hC]
theorem len_map_le (h : (l.map C).length ≤ 9223372036854775807) : l.length ≤ 9223372036854775807 := by rwa [List.length_map] at h
end

/-! ### Told less -/
theorem less_at {fr fr' : FT} {n n' : Nat} {objs objs' : Objs} (hf : leFT (rho objs' objs) n' fr fr') (ho : leOs (rho objs' objs) n' objs objs') : Less G N 0 (frT fr) ⟨n, objs⟩ (frT fr') ⟨n', objs'⟩ := less_mk _ hf ho
theorem wk1_refl (x : AV) : wk1 x x := by
  unfold wk1
  cases x <;> first | rfl | exact ⟨rfl, .inl rfl, fun h => h⟩
theorem wkL_refl : ∀ l : List AV, wkL l l
  | [] => trivial
  | x :: l => ⟨wk1_refl x, wkL_refl l⟩
theorem wk_refl (x : AV) : wk x x := by
  unfold wk
  cases x <;> first | exact wk1_refl _ | exact wkL_refl _
theorem wkL_nil : wkL [] [] := trivial
theorem wkL_cons {x y : AV} {xs ys : List AV} (h : wk1 x y) (hs : wkL xs ys) : wkL (x :: xs) (y :: ys) := ⟨h, hs⟩
theorem wkLs_nil : wkLs [] [] := trivial
theorem wkLs_cons {x y : AV} {xs ys : List AV} (h : wk x y) (hs : wkLs xs ys) : wkLs (x :: xs) (y :: ys) := ⟨h, hs⟩
theorem wk1_sl {s1 sz : Nat} {f : Bool} {l : List (List AV)} (h : s1 = sz ∨ l = []) : wk1 (.sl s1 f l) (.sl sz false l) := ⟨rfl, h, fun e => by cases e⟩
theorem wk_sl {s1 sz : Nat} {f : Bool} {l : List (List AV)} (h : s1 = sz ∨ l = []) : wk (.sl s1 f l) (.sl sz false l) := wk1_sl h
theorem wk1_slE {s1 sz : Nat} {f : Bool} {l l' : List (List AV)} (h : s1 = sz ∨ l' = []) (e : l = l') : wk1 (.sl s1 f l) (.sl sz false l') := e ▸ wk1_sl (e ▸ h)
theorem wk_slE {s1 sz : Nat} {f : Bool} {l l' : List (List AV)} (h : s1 = sz ∨ l' = []) (e : l = l') : wk (.sl s1 f l) (.sl sz false l') := wk1_slE h e
theorem wk_agg {xs ys : List AV} (h : wkL xs ys) : wk (.agg xs) (.agg ys) := h
section
variable {objs : Objs}
theorem view1_of_wk {x y : AV} (h : wk1 x y) (hx : ∀ sz id s off len, x ≠ .bs sz id s off len) : view1 objs x y := by
  unfold view1
  split
  · exact absurd rfl (hx _ _ _ _ _)
  · exact h
theorem view1_sl {s1 sz : Nat} {f : Bool} {l : List (List AV)} (h : s1 = sz ∨ l = []) : view1 objs (.sl s1 f l) (.sl sz false l) := view1_of_wk (wk1_sl h) (by simp)
theorem view1_slE {s1 sz : Nat} {f : Bool} {l l' : List (List AV)} (h : s1 = sz ∨ l' = []) (e : l = l') : view1 objs (.sl s1 f l) (.sl sz false l') := e ▸ view1_sl (e ▸ h)
theorem view1_int {k : IntKind} {a b : Int} (h : a = b) : view1 objs (.int k a) (.int k b) := h ▸ view1_of_wk (wk1_refl _) (by simp)
theorem view1_bool {a b : Bool} (h : a = b) : view1 objs (.bool a) (.bool b) := h ▸ view1_of_wk (wk1_refl _) (by simp)
theorem view1_str {a b : ByteArray} (h : a = b) : view1 objs (.str a) (.str b) := h ▸ view1_of_wk (wk1_refl _) (by simp)
theorem viewL_nil : viewL objs [] [] := trivial
theorem viewL_cons {x y : AV} {xs ys : List AV} (h : view1 objs x y) (hs : viewL objs xs ys) : viewL objs (x :: xs) (y :: ys) := ⟨h, hs⟩
theorem viewLs_nil : viewLs objs [] [] := trivial
theorem viewLs_cons {x y : AV} {xs ys : List AV} (h : view objs x y) (hs : viewLs objs xs ys) : viewLs objs (x :: xs) (y :: ys) := ⟨h, hs⟩
theorem view_agg {xs ys : List AV} (h : viewL objs xs ys) : view objs (.agg xs) (.agg ys) := h
theorem view_one {x y : AV} (h : view1 objs x y) (hy : ∀ ds, y ≠ .agg ds) : view objs x y := by
  unfold view
  split
  · exact absurd rfl (hy _)
  · exact h
theorem viewT_tup {xs ys : List AV} (h : viewLs objs xs ys) : viewT objs (.tup xs) (.tup ys) := h
theorem viewT_one {x y : AV} (h : view objs x y) (hy : ∀ ds, y ≠ .tup ds) : viewT objs x y := by
  unfold viewT
  split
  · exact absurd rfl (hy _)
  · exact h
theorem viewL_of_wk : ∀ {xs ys : List AV}, wkL xs ys → (∀ x ∈ xs, ∀ sz id s off len, x ≠ .bs sz id s off len) → viewL objs xs ys
  | [], [], _, _ => trivial
  | [], _ :: _, h, _ => h.elim
  | _ :: _, [], h, _ => h.elim
  | x :: xs, y :: ys, h, hx => ⟨view1_of_wk h.1 (hx x (List.mem_cons_self ..)), viewL_of_wk h.2 (fun x hm => hx x (List.mem_cons_of_mem _ hm))⟩
end

def AV.closed3 : AV → Bool
  | .tup cs => cs.all AV.closed2
  | .fn _ cs => cs.all AV.closed
  | x => x.closed2
theorem closed3_pure (x : AV) (h : x.closed3 = true) : Pure x := by
  cases x with
  | tup cs => exact .tup cs (fun y hy => closed2_pure y (List.all_eq_true.1 h y hy))
  | fn f cs => exact .fn f cs (fun y hy => closed_pure y (List.all_eq_true.1 h y hy))
  | _ => exact closed2_pure _ h
theorem all_pure3 {xs : List AV} (h : xs.all AV.closed3 = true) : ∀ y ∈ xs, Pure y := fun y hy => closed3_pure y (List.all_eq_true.1 h y hy)

/-! ### Elements -/
def ic (k : Int) : List AV := [.int .i64 k]
def sc (s : ByteArray) : List AV := [.str s]
def boc (b : Bool) : List AV := [.bool b]
def slc {α : Type} (sz : Nat) (C : α → List AV) (l : List α) : List AV := [.sl sz false (l.map C)]
theorem ic_ok : CellsOk ic 1 := ⟨fun _ => rfl, by decide, fun a z hz => by simp [ic] at hz; subst hz; exact ⟨rfl, rfl⟩⟩
theorem sc_ok : CellsOk sc 1 := ⟨fun _ => rfl, by decide, fun a z hz => by simp [sc] at hz; subst hz; exact ⟨rfl, rfl⟩⟩
theorem boc_ok : CellsOk boc 1 := ⟨fun _ => rfl, by decide, fun a z hz => by simp [boc] at hz; subst hz; exact ⟨rfl, rfl⟩⟩
theorem slc_ok {α : Type} (sz : Nat) (C : α → List AV) : CellsOk (slc sz C) 1 := ⟨fun _ => rfl, by decide, fun a z hz => by simp [slc] at hz; subst hz; exact ⟨rfl, rfl⟩⟩
end Go.Proofs.YtimdjillcaichaaDoorW.Ex
