/- A symbolic executor for the machine's code, part 2: what each operation does to abstract values, and that it is so. General over the program; no conditions beside those in each theorem. -/
import Derived.Test.YtigmilhpeodhbaaGreatDoorEx1
import Derived.Laws.AppendOwn
import Derived.Deep.MidRow
import Derived.ChangeKeysEq
import Derived.Great.BuildSlice
namespace Go.Proofs.YtigmilhpeodhbaaGreatDoorW.Ex
set_option linter.all false
open Go
variable {D : List Deferred}
def szP (P : Program) (t : TypeId) : Option Nat := (P.info? t).map (·.size)
def aggP (P : Program) (t : TypeId) : Option Bool := (P.underlying t).map fun d => match d with | .struct _ | .array _ _ => true | _ => false
def elemP (P : Program) (t : TypeId) : Option (TypeId × Nat) :=
 match P.underlying t with
 | some (.slice e) => (szP P e).map (e, ·)
 | _ => none
def arrP (P : Program) (t : TypeId) : Option (Nat × TypeId × Nat) :=
 match P.underlying t with
 | some (.array len e) => (szP P e).map (len, e, ·)
 | _ => none
def fieldP (P : Program) (t : TypeId) (f : Nat) : Option (TypeId × Nat × Nat) :=
 match P.underlying t with
 | some (.struct fs) => (fs[f]?).bind fun x => (szP P x.type).map (x.type, x.offset, ·)
 | _ => none
def strP (P : Program) (t : TypeId) : Bool := match P.underlying t with | some .string => true | _ => false
def intP (P : Program) (t : TypeId) : Option IntKind := match P.underlying t with | some (.int k) => some k | _ => none
theorem Yi {P : Program} {t : TypeId} {k : Nat} (h : szP P t = some k) (w : World) : (sizeOf t).run P w = .ok k w := by
 unfold szP at h
 cases hi : P.info? t with
 | none => simp [hi] at h
 | some i => simp [hi] at h; simp [sizeOf, typeInfo, hi, h]
theorem qh0 {P : Program} {t : TypeId} {b : Bool} (h : aggP P t = some b) (w : World) : (isAgg t).run P w = .ok b w := by
 unfold aggP at h
 cases hu : P.underlying t with
 | none => simp [hu] at h
 | some d =>
   simp [hu] at h
   unfold isAgg
   rw [Sem.run_bind, run_underlying hu w]
   cases d <;> simp_all
def ofV1 : Value → AV
 | .bool b => .bool b
 | .int k n => .int k n
 | .string s => .str s
 | .slice none 0 0 => .sl 0 true []
 | .pointer none => .nilp
 | .nilFunc => .nilf
 | .nilIface => .nili
 | _ => .undef
def ofV : Value → AV
 | .agg vs => bif (vs.toList.map ofV1).all AV.one then .agg (vs.toList.map ofV1) else .undef
 | v => ofV1 v
variable {G : Nat → List AV} {P : Program} {w : World} {S F : Nat → Prop} {β : Nat → Nat} {n : Nat}
theorem RV.nilSl (sz : Nat) (full : Bool) : RV w S β n (.sl sz full []) (.slice none 0 0) :=
 .sl sz full [] none 0 (fun _ _ => Go.undef) (Nat.le_refl _) (by decide) (fun _ => rfl) (by simp) (by simp) (by simp) (by simp) (by simp) (by simp) (by simp) (by simp)
theorem qwd (v : Value) : RV w S β n (ofV1 v) v := by
 unfold ofV1
 split <;> first | exact RV.nilSl _ _ | constructor
theorem quy (v : Value) : RV w S β n (ofV v) v := by
 unfold ofV
 split
 ·rename_i vs
  cases hb : (vs.toList.map ofV1).all AV.one with
  | false => exact .undef _
  | true =>
    refine .agg _ vs (by simp) (fun x hx => List.all_eq_true.1 hb x hx) (fun i x hi => ?_)
    rw [List.getElem?_map, Option.map_eq_some_iff] at hi
    obtain ⟨y, hy, rfl⟩ := hi
    have : vs.getD i Go.undef = y := by
     rw [Array.getD_eq_getD_getElem?, ← Array.getElem?_toList, hy]; rfl
    rw [this]
    exact qwd y
 ·exact qwd v
abbrev Fr := Nat → AV
def put (d : Option Tmp) (x : AV) (fr : Fr) : Fr := match d with | none => fr | some t => fun i => if i = t then x else fr i
theorem qz4 (x : AV) (fr : Fr) : put none x fr = fr := rfl
theorem vi (d : Tmp) (x : AV) (fr : Fr) (i : Nat) : put (some d) x fr i = if i = d then x else fr i := rfl
def ev (G : Nat → List AV) (fr : Fr) : Operand → AV
 | .tmp t => fr t
 | .const v => ofV v
 | .global g => .rptr (G g)
 | .func f => .fn f []
structure FRx (D : List Deferred) (w : World) (S : Nat → Prop) (β : Nat → Nat) (n N : Nat) (fr : Fr) (a : Act) : Prop where
 size : a.tmps.size = N
 defers : a.defers = D
 val : ∀ t, RV w S β n (fr t) (a.tmps.getD t Go.undef)
theorem FRx.ext {w' : World} {S' : Nat → Prop} {β' : Nat → Nat} {n' N : Nat} {fr : Fr} {a : Act} (hx : Ext w S F β n w' S' β' n') (h : FRx D w S β n N fr a) : FRx D w' S' β' n' N fr a :=
 ⟨h.size, h.defers, fun t => (h.val t).ext hx⟩
theorem FRx.put {N : Nat} {fr : Fr} {a : Act} (h : FRx D w S β n N fr a) {d : Option Tmp} (hd : d.all (· < N) = true) {x : AV} {v : Value} (hv : RV w S β n x v) : FRx D w S β n N (put d x fr) (a.put d v) := by
 cases d with
 | none => exact h
 | some t =>
   refine ⟨by simp [Act.put, h.size], h.defers, fun i => ?_⟩
   have ht : t < a.tmps.size := by rw [h.size]; simpa using hd
   by_cases hi : i = t
   ·subst hi
    simp only [vi, if_true, Act.put]
    rw [Array.getD_eq_getD_getElem?, Array.getElem?_setIfInBounds_self_of_lt ht]
    exact hv
   ·simp only [vi, if_neg hi, Act.put]
    rw [Array.getD_eq_getD_getElem?, Array.getElem?_setIfInBounds_ne (Ne.symm hi), ← Array.getD_eq_getD_getElem?]
    exact h.val i
theorem qjx {N : Nat} {fr : Fr} {a : Act} {H : Hp} (hH : HR G w S F β H) (h : FRx D w S β H.n N fr a) (x : Operand) : RV w S β H.n (ev G fr x) (a.eval x) := by
 cases x with
 | tmp t => exact h.val t
 | const v => exact quy v
 | global g => exact (hH.glob g).rv
 | func f => exact .fn f [] #[] rfl (by simp)
def Ze (H : Hp) : AV → Option (List AV)
 | .rptr cs => some cs
 | .ptr id s off => match H.objs[id]? with
   | some (s', .var _ cs) | some (s', .row _ cs) | some (s', .froz _ cs) => if s' = s then some (cs.drop off) else none
   | _ => none
 | _ => none
def qgc (P : Program) (t : TypeId) (cs : List AV) : Option AV :=
 match aggP P t, szP P t with
 | some true, some k => if k ≤ cs.length then some (.agg (cs.take k)) else none
 | some false, _ => cs.head?
 | _, _ => none
/-- A pointer to cells that hold these. -/
def qtx (w : World) (S : Nat → Prop) (β : Nat → Nat) (n : Nat) (v : Value) (cs : List AV) : Prop :=
 ∃ b o, v = .pointer (some ⟨b, o, none⟩) ∧ ∀ (i : Nat) (y : AV), cs[i]? = some y → y.one = true ∧ ∃ u, w.cell? ⟨b, o + i, none⟩ = some u ∧ RV w S β n y u
theorem qtx.drop {v : Value} {cs : List AV} (h : qtx w S β n v cs) (k : Nat) : ∃ b o, v = .pointer (some ⟨b, o, none⟩) ∧ qtx w S β n (.pointer (some ⟨b, o + k, none⟩)) (cs.drop k) := by
 obtain ⟨b, o, rfl, h⟩ := h
 refine ⟨b, o, rfl, b, o + k, rfl, fun i y hy => ?_⟩
 rw [List.getElem?_drop] at hy
 have := h (k + i) y hy
 rwa [← Nat.add_assoc] at this
theorem qgq {H : Hp} (hH : HR G w S F β H) {x : AV} {v : Value} (h : RV w S β H.n x v) {cs : List AV} (hc : Ze H x = some cs) : qtx w S β H.n v cs := by
 cases h with
 | rptr cs' b o u hS h1 hcell hr =>
   simp only [Ze, Option.some.injEq] at hc
   subst hc
   exact ⟨b, o, rfl, fun i y hy => ⟨h1 i y hy, u i, hcell i y hy, (hr i y hy).zero⟩⟩
 | ptr id s off hs =>
   refine ⟨β s, off, rfl, fun i y hy => ?_⟩
   simp only [Ze] at hc
   have key : ∀ (s' : Nat) (o : Obj) (cs0 : List AV) (c : Array Value) (fr : Nat × Nat) (t : TypeId), H.objs[id]? = some (s', o) → s' = s → w.heap[β s]? = some (.cells c t fr) → cs0.length ≤ c.size →
    (∀ (i : Nat) (x : AV), cs0[i]? = some x → x.one = true ∧ RV w S β H.n x (c.getD i Go.undef)) → cs0.drop off = cs →
    y.one = true ∧ ∃ u, w.cell? ⟨β s, off + i, none⟩ = some u ∧ RV w S β H.n y u := by
    intro s' o cs0 c fr t _ _ hb hlen hall hd
    subst hd
    rw [List.getElem?_drop] at hy
    obtain ⟨h1, h2⟩ := hall _ _ hy
    have hlt := (List.getElem?_eq_some_iff.1 hy).1
    refine ⟨h1, c.getD (off + i) Go.undef, ?_, h2⟩
    simp only [World.cell?, hb]
    simp [Array.getD_eq_getD_getElem?, show off + i < c.size by omega]
   split at hc
   ·rename_i s' t cs0 ho
    split at hc
    ·rename_i e; simp only [Option.some.injEq] at hc
     obtain ⟨c, h1, h2, _, _, h5⟩ := hH.obj _ _ _ ho
     subst e
     exact key _ _ cs0 c _ _ ho rfl h1 (by omega) h5 hc
    ·cases hc
   ·rename_i s' t cs0 ho
    split at hc
    ·rename_i e; simp only [Option.some.injEq] at hc
     obtain ⟨c, h1, h2, _, _, h5⟩ := hH.obj _ _ _ ho (by intro e; subst e; rw [List.drop_nil] at hc; subst hc; simp at hy)
     subst e
     exact key _ _ cs0 c _ _ ho rfl h1 (by omega) h5 hc
    ·cases hc
   ·rename_i s' t cs0 ho
    split at hc
    ·rename_i e; simp only [Option.some.injEq] at hc
     obtain ⟨c, fr, h1, h2, _, h5⟩ := hH.obj _ _ _ ho
     subst e
     exact key _ _ cs0 c _ _ ho rfl h1 (by omega) h5 hc
    ·cases hc
   ·cases hc
 | _ => simp [Ze] at hc
theorem qo7 {v : Value} {cs : List AV} (h : qtx w S β n v cs) {t : TypeId} {x : AV} (hx : qgc P t cs = some x) :
 ∃ v', (Instr.loadAt t v).run P w = .ok v' w ∧ RV w S β n x v' := by
 obtain ⟨b, o, rfl, h⟩ := h
 unfold qgc at hx
 split at hx
 ·rename_i k hagg hsz
  split at hx
  ·rename_i hk
   simp only [Option.some.injEq] at hx
   subst hx
   let us : List Value := (List.range k).map fun i => (w.cell? ⟨b, o + i, none⟩).getD Go.undef
   have hat : w.rangeAt b o us := by
    intro j u hj
    have hlt := (List.getElem?_eq_some_iff.1 hj).1
    simp only [us, List.length_map, List.length_range] at hlt
    obtain ⟨y, hy⟩ : ∃ y, cs[j]? = some y := ⟨cs[j], by rw [List.getElem?_eq_getElem]⟩
    obtain ⟨_, u', hu', _⟩ := h j y hy
    simp [us, hlt, hu'] at hj
    rw [← hj]; exact hu'
   cases hu : P.underlying t with
   | none => simp [aggP, hu] at hagg
   | some d =>
     have hrun := run_loadVar_mid (P := P) w b o t us d hat hu (by simp [aggP, hu] at hagg; cases d <;> simp_all [TypeDesc.isRow]) (by simpa [szP, us] using hsz)
     refine ⟨.agg us.toArray, by simp only [Instr.loadAt, Instr.sureAddr, Sem.run_bind, Sem.run_pure, Result.andThen_ok, hrun], .agg _ _ (by simp [us]; omega) (fun x hx => ?_) (fun i x hi => ?_)⟩
     ·obtain ⟨i, hi⟩ := List.getElem?_of_mem hx
      rw [List.getElem?_take] at hi
      split at hi
      ·exact (h i x hi).1
      ·cases hi
     ·rw [List.getElem?_take] at hi
      split at hi
      ·rename_i hik
       obtain ⟨_, u, hu, hr⟩ := h i x hi
       simpa [us, Array.getD_eq_getD_getElem?, hik, hu] using hr
      ·cases hi
  ·cases hx
 ·rename_i hagg
  rw [List.head?_eq_getElem?] at hx
  obtain ⟨_, u, hu, hr⟩ := h 0 x hx
  refine ⟨u, ?_, hr⟩
  simp only [Nat.add_zero] at hu
  simp [Instr.loadAt, Instr.sureAddr, loadVar, qh0 hagg, hu]
 ·cases hx
def Yv (P : Program) (s : TypeId) (x : AV) (f : Nat) : Option AV :=
 match fieldP P s f with
 | some (_, o, k + 1) => match x with
   | .rptr cs => some (.rptr (cs.drop o))
   | .ptr id s off => some (.ptr id s (off + o))
   | _ => none
 | _ => none
theorem RV.rptr_drop {cs : List AV} {b o : Nat} (h : RV w S β n (.rptr cs) (.pointer (some ⟨b, o, none⟩))) (k : Nat) : RV w S β n (.rptr (cs.drop k)) (.pointer (some ⟨b, o + k, none⟩)) := by
 cases h with
 | rptr _ _ _ u hS h1 hc hr =>
   refine .rptr _ _ _ (fun i => u (k + i)) (fun hne => hS (by intro e; subst e; simp at hne)) (fun i x hi => h1 (k + i) x (by rwa [List.getElem?_drop] at hi)) (fun i x hi => ?_) (fun i x hi => hr (k + i) x (by rwa [List.getElem?_drop] at hi))
   rw [List.getElem?_drop] at hi
   rw [Nat.add_assoc]
   exact hc (k + i) x hi
theorem RV.rptr_take {cs : List AV} {b o : Nat} (h : RV w S β n (.rptr cs) (.pointer (some ⟨b, o, none⟩))) (k : Nat) : RV w S β n (.rptr (cs.take k)) (.pointer (some ⟨b, o, none⟩)) := by
 cases h with
 | rptr _ _ _ u hS h1 hc hr =>
   have key : ∀ (i : Nat) (x : AV), (cs.take k)[i]? = some x → cs[i]? = some x := by
    intro i x hi
    rw [List.getElem?_take] at hi
    split at hi
    ·exact hi
    ·cases hi
   exact .rptr _ _ _ u (fun hne => hS (by intro e; subst e; simp at hne)) (fun i x hi => h1 i x (key i x hi)) (fun i x hi => hc i x (key i x hi)) (fun i x hi => hr i x (key i x hi))
theorem qrd {s : TypeId} {f : Nat} {x x' : AV} {v : Value} (h : RV w S β n x v) (hx : Yv P s x f = some x') : ∃ v', (Instr.fieldAt s v f).run P w = .ok v' w ∧ RV w S β n x' v' := by
 unfold Yv at hx
 split at hx
 ·rename_i o k hf
  unfold fieldP at hf
  cases hu : P.underlying s with
  | none => simp [hu] at hf
  | some d =>
    cases d with
    | struct fs =>
      simp only [hu] at hf
      cases hfs : fs[f]? with
      | none => simp [hfs] at hf
      | some fd =>
        simp only [hfs, Option.bind_some, Option.map_eq_some_iff, Prod.mk.injEq] at hf
        obtain ⟨k', hk', _, ho, rfl⟩ := hf
        cases h with
        | rptr cs b oo u hS h1 hc hr =>
          simp only [Option.some.injEq] at hx
          subst hx
          refine ⟨.pointer (some ⟨b, oo + o, none⟩), ?_, RV.rptr_drop (.rptr cs b oo u hS h1 hc hr) o⟩
          simp [Instr.fieldAt, run_underlying hu, hfs, Instr.sureAddr, fieldPlace, Yi hk', Addr.add_lit, ho]
        | ptr id st off hs =>
          simp only [Option.some.injEq] at hx
          subst hx
          refine ⟨.pointer (some ⟨β st, off + o, none⟩), ?_, .ptr id st _ hs⟩
          simp [Instr.fieldAt, run_underlying hu, hfs, Instr.sureAddr, fieldPlace, Yi hk', Addr.add_lit, ho]
        | _ => simp at hx
    | _ => simp [hu] at hf
 ·cases hx
def Jo (P : Program) (t : TypeId) (x : AV) (i : AV) : Option AV :=
 match i with
 | .int _ i => if 0 ≤ i then match x with
   | .sl sz _ l => match elemP P t with
     | some (_, k) => if sz = k then (l[i.toNat]?).map .rptr else none
     | none => none
   | .bs sz id s off len => match elemP P t with
     | some (_, k) => if sz = k ∧ i.toNat < len then some (.ptr id s (off + i.toNat * k)) else none
     | none => none
   | .rptr cs => match arrP P t with
     | some (len, _, k) => if i.toNat < len then some (.rptr ((cs.drop (i.toNat * k)).take k)) else none
     | none => none
   | .ptr id s off => match arrP P t with
     | some (len, _, k) => if i.toNat < len then some (.ptr id s (off + i.toNat * k)) else none
     | none => none
   | _ => none
   else none
 | _ => none
theorem vp {t : TypeId} {e : TypeId} {k : Nat} (h : elemP P t = some (e, k)) : P.underlying t = some (.slice e) ∧ szP P e = some k := by
 unfold elemP at h
 split at h
 ·rename_i e' hu
  simp only [Option.map_eq_some_iff, Prod.mk.injEq] at h
  obtain ⟨k', h1, rfl, rfl⟩ := h
  exact ⟨hu, h1⟩
 ·cases h
theorem qfl {t : TypeId} {e : TypeId} {m k : Nat} (h : arrP P t = some (m, e, k)) : P.underlying t = some (.array m e) ∧ szP P e = some k := by
 unfold arrP at h
 split at h
 ·rename_i e' hu
  simp only [Option.map_eq_some_iff, Prod.mk.injEq] at h
  obtain ⟨k', h1, rfl, rfl, rfl⟩ := h
  exact ⟨hu, h1⟩
 ·cases h
theorem qq5 {t : TypeId} {x i x' : AV} {v iv : Value} (h : RV w S β n x v) (hi : RV w S β n i iv) (hx : Jo P t x i = some x') : ∃ v', (Instr.indexAt t v iv).run P w = .ok v' w ∧ RV w S β n x' v' := by
 unfold Jo at hx
 split at hx
 ·rename_i ki i
  cases hi
  split at hx
  ·rename_i h0
   split at hx
   ·rename_i sz full l
    split at hx
    ·rename_i e k he
     obtain ⟨hu, hk⟩ := vp he
     split at hx
     ·rename_i hsz
      subst hsz
      simp only [Option.map_eq_some_iff] at hx
      obtain ⟨c, hc, rfl⟩ := hx
      have hlt := (List.getElem?_eq_some_iff.1 hc).1
      have hne : l ≠ [] := by intro e; subst e; simp at hc
      cases h with
      | sl _ _ _ A cap u hl hm hf hA hA1 hS hsz h1 hcell hr =>
        obtain ⟨⟨b, o, sp⟩, rfl⟩ := Option.isSome_iff_exists.1 (hA1 hne)
        have hsp := hA hne _ rfl
        simp only at hsp
        subst hsp
        refine ⟨.pointer (some ⟨b, o + i.toNat * sz, none⟩), ?_, .rptr c b _ (u i.toNat) (fun _ => hS b o rfl hne) (fun j y hy => h1 c (List.mem_of_getElem? hc) y (List.mem_of_getElem? hy)) (fun j y hy => ?_) (fun j y hy => hr _ _ _ _ hc hy)⟩
        ·have : i < (l.length : Int) := by omega
         simp [Instr.indexAt, asIntOf, run_underlying hu, Yi hk, h0, this, Addr.add_lit]
        ·rw [Nat.add_assoc]; exact hcell b o rfl _ _ _ _ hc hy
     ·cases hx
    ·cases hx
   ·rename_i sz id s off len
    split at hx
    ·rename_i e k he
     obtain ⟨hu, hk⟩ := vp he
     split at hx
     ·rename_i hsz
      obtain ⟨rfl, hlt⟩ := hsz
      simp only [Option.some.injEq] at hx
      subst hx
      cases h with
      | bs0 => exact absurd hlt (Nat.not_lt_zero _)
      | bs _ _ _ _ _ cap m e' hs hsh hn hl hm =>
        refine ⟨.pointer (some ⟨β s, off + i.toNat * sz, none⟩), ?_, .ptr id s _ hs⟩
        have : i < (len : Int) := by omega
        simp [Instr.indexAt, asIntOf, run_underlying hu, Yi hk, h0, this, Addr.add_lit]
     ·cases hx
    ·cases hx
   ·rename_i cs
    split at hx
    ·rename_i len e k he
     obtain ⟨hu, hk⟩ := qfl he
     split at hx
     ·rename_i hlt
      simp only [Option.some.injEq] at hx
      subst hx
      cases h with
      | rptr _ b o u hS h1 hc hr =>
        refine ⟨.pointer (some ⟨b, o + i.toNat * k, none⟩), ?_, RV.rptr_take (RV.rptr_drop (.rptr cs b o u hS h1 hc hr) _) _⟩
        have : i < (len : Int) := by omega
        simp [Instr.indexAt, asIntOf, run_underlying hu, Yi hk, h0, this, Addr.add_lit, Instr.sureAddr]
     ·cases hx
    ·cases hx
   ·rename_i id s off
    split at hx
    ·rename_i len e k he
     obtain ⟨hu, hk⟩ := qfl he
     split at hx
     ·rename_i hlt
      simp only [Option.some.injEq] at hx
      subst hx
      cases h with
      | ptr _ _ _ hs =>
        refine ⟨.pointer (some ⟨β s, off + i.toNat * k, none⟩), ?_, .ptr id s _ hs⟩
        have : i < (len : Int) := by omega
        simp [Instr.indexAt, asIntOf, run_underlying hu, Yi hk, h0, this, Addr.add_lit, Instr.sureAddr]
     ·cases hx
    ·cases hx
   ·cases hx
  ·cases hx
 ·cases hx
end Go.Proofs.YtigmilhpeodhbaaGreatDoorW.Ex
