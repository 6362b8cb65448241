/- A symbolic executor for the machine's code, part 3: arithmetic, comparisons, strings, slices, parts of structs, on abstract values, and that it is so. General over the program; no conditions beside those in each theorem. -/
import Derived.Test.YtigmilhpeodhbaaGreatDoorEx2
import Derived.Laws.Strings
import Derived.Laws.StructEq
namespace Go.Proofs.YtigmilhpeodhbaaGreatDoorW.Ex
set_option linter.all false
open Go
variable {G : Nat → List AV} {P : Program} {w : World} {S F : Nat → Prop} {β : Nat → Nat} {n : Nat}
theorem Yb {vs : Array Value} {i : Nat} (h : i < vs.size) : vs[i]? = some (vs.getD i Go.undef) := by
 rw [Array.getElem?_eq_getElem h, Array.getD_eq_getD_getElem?, Array.getElem?_eq_getElem h, Option.getD_some]
theorem qq8 {vs : Array Value} {a b i : Nat} (h : a + i < vs.size) (hb : a + i < b) : (vs.extract a b).getD i Go.undef = vs.getD (a + i) Go.undef := by
 rw [Array.getD_eq_getD_getElem?, Array.getD_eq_getD_getElem?, Array.getElem?_extract, if_pos (by omega)]
def qhl (op : BinOp) (k : IntKind) (a b : Int) : Option AV :=
 match op with
 | .add => some (.int k (k.wrap (a + b)))
 | .sub => some (.int k (k.wrap (a - b)))
 | .mul => some (.int k (k.wrap (a * b)))
 | .quo => if b = 0 then none else some (.int k (k.wrap (a.tdiv b)))
 | .rem => if b = 0 then none else some (.int k (a.tmod b))
 | .eql => some (.bool (decide (a = b)))
 | .neq => some (.bool (!decide (a = b)))
 | .lss => some (.bool (decide (a < b)))
 | .leq => some (.bool (decide (a ≤ b)))
 | .gtr => some (.bool (decide (b < a)))
 | .geq => some (.bool (decide (b ≤ a)))
 | _ => none
def qei (op : BinOp) (a b : ByteArray) : Option AV :=
 match op with
 | .add => if a.size + b.size ≤ 9223372036854775807 then some (.str (a ++ b)) else none
 | .eql => some (.bool (decide (a = b)))
 | .neq => some (.bool (!decide (a = b)))
 | .lss => some (.bool (Op.bytesLess a.toList b.toList))
 | .leq => some (.bool (Op.bytesLess a.toList b.toList || decide (a = b)))
 | .gtr => some (.bool (!(Op.bytesLess a.toList b.toList || decide (a = b))))
 | .geq => some (.bool (!Op.bytesLess a.toList b.toList))
 | _ => none
def eqAV (x y : AV) : Option Bool :=
 match x, y with
 | .bool a, .bool b => some (a == b)
 | .nilp, .nilp => some true
 | .ptr _ _ _, .nilp => some false
 | .nilp, .ptr _ _ _ => some false
 | .rptr _, .nilp => some false
 | .nilp, .rptr _ => some false
 | .nilf, .nilf => some true
 | .fn _ _, .nilf => some false
 | .nilf, .fn _ _ => some false
 | _, _ => none
def eqTypeAV (P : Program) (t : TypeId) (x : AV) : Bool :=
 match P.underlying t, x with
 | some .bool, .bool _ => true
 | some (.pointer _), .ptr _ _ _ | some (.pointer _), .rptr _ | some (.pointer _), .nilp => true
 | some (.func _ _ _), .nilf | some (.func _ _ _), .fn _ _ => true
 | _, _ => false
/-- Structs of whole numbers, strings and bools, one cell a field, may be compared cell by cell. -/
inductive SK where | i | s | b
def skOf (P : Program) (t : TypeId) : Option SK := match P.underlying t with | some (.int _) => some .i | some .string => some .s | some .bool => some .b | _ => none
def qqf : SK → AV → AV → Option Bool
 | .i, .int k a, .int k' b => if k = k' then some (decide (a = b)) else none
 | .s, .str a, .str b => some (decide (a = b))
 | .b, .bool a, .bool b => some (a == b)
 | _, _, _ => none
def qbn : List SK → List AV → List AV → Option Bool
 | [], [], [] => some true
 | k :: ks, x :: xs, y :: ys => match qqf k x y, qbn ks xs ys with
   | some a, some b => some (a && b)
   | _, _ => none
 | _, _, _ => none
def qew (P : Program) : Nat → List Field → Option (List SK)
 | _, [] => some []
 | o, f :: fs => if f.offset = o ∧ f.name ≠ "_" then match skOf P f.type, qew P (o + 1) fs with
    | some k, some ks => some (k :: ks)
    | _, _ => none
   else none
def structSK (P : Program) (t : TypeId) : Option (List SK) :=
 match P.underlying t with
 | some (.struct fs) => if P.stoodInHeld t = false ∧ P.eqGuardType P.depth t = false then qew P 0 fs.toList else none
 | _ => none
def qhz (P : Program) (op : BinOp) (t : TypeId) (x y : AV) : Option AV :=
 match x, y with
 | .int k a, .int k' b => match op with
   | .shl => if b < 0 then none else some (.int k (k.wrap (a * 2 ^ min b.toNat k.bits)))
   | .shr => if b < 0 then none else some (.int k (a.fdiv (2 ^ min b.toNat k.bits)))
   | _ => if k = k' then qhl op k a b else none
 | .str a, .str b => qei op a b
 | .agg xs, .agg ys => match structSK P t with
   | some ks => match op with
     | .eql => (qbn ks xs ys).map .bool
     | .neq => (qbn ks xs ys).map fun b => .bool (!b)
     | _ => none
   | none => none
 | x, y => if eqTypeAV P t x then match op with
   | .eql => (eqAV x y).map .bool
   | .neq => (eqAV x y).map fun b => .bool (!b)
   | _ => none
   else none
theorem qpz (a b : ByteArray) : (a.toList == b.toList) = decide (a = b) := by
 rw [ByteArray.toList_eq, ByteArray.toList_eq]
 by_cases h : a = b
 ·subst h; simp
 ·simp only [h, decide_false, beq_eq_false_iff_ne, ne_eq]
  intro e
  apply h
  obtain ⟨⟨a⟩⟩ := a
  obtain ⟨⟨b⟩⟩ := b
  simp_all
theorem qx8 {t : TypeId} {k : SK} (h : skOf P t = some k) : aggP P t = some false := by
 unfold skOf at h
 unfold aggP
 split at h <;> first
  | (rename_i hu; rw [hu]; rfl)
  | cases h
theorem qzu {t : TypeId} {x y : AV} {v u : Value} {k : SK} {b : Bool} {d : Nat} (ht : skOf P t = some k) (hx : RV w S β n x v) (hy : RV w S β n y u) (h : qqf k x y = some b) : (Op.equalIn (d + 1) t v u).run P w = .ok b w := by
 unfold qqf at h
 unfold skOf at ht
 split at h
 ·cases hx; cases hy
  split at h
  ·rename_i hkk
   subst hkk
   simp only [Option.some.injEq] at h; subst h
   split at ht <;> first
    | (cases ht; done)
    | (rename_i hu; rw [run_equalIn_int w d t _ _ _ _ hu]; rfl)
  ·cases h
 ·cases hx; cases hy
  simp only [Option.some.injEq] at h; subst h
  split at ht <;> first
   | (cases ht; done)
   | (rename_i hu; rw [run_equalIn_string w d t _ _ hu, qpz])
 ·cases hx; cases hy
  simp only [Option.some.injEq] at h; subst h
  split at ht <;> first
   | (cases ht; done)
   | (rename_i hu; rw [run_equalIn_bool' w d t _ _ hu])
 ·cases h
theorem qhv {vs us : Array Value} {d : Nat} : ∀ (fs : List Field) (o : Nat) (ks : List SK) (xs ys : List AV) (b : Bool), qew P o fs = some ks → qbn ks xs ys = some b →
 (∀ (i : Nat) (x : AV), xs[i]? = some x → o + i < vs.size ∧ RV w S β n x (vs.getD (o + i) Go.undef)) → (∀ (i : Nat) (x : AV), ys[i]? = some x → o + i < us.size ∧ RV w S β n x (us.getD (o + i) Go.undef)) → (Op.eqFields (d + 1) vs us fs).run P w = .ok b w
 | [], o, ks, xs, ys, b, hf, he, _, _ => by
   simp only [qew, Option.some.injEq] at hf
   subst hf
   unfold qbn at he
   split at he
   ·simp only [Option.some.injEq] at he; subst he; rfl
   ·rename_i hk _ _; cases hk
   ·cases he
 | f :: fs, o, ks, xs, ys, b, hf, he, hx, hy => by
   simp only [qew] at hf
   split at hf
   ·rename_i hcond
    split at hf
    ·rename_i k ks' hk hks
     simp only [Option.some.injEq] at hf
     subst hf
     unfold qbn at he
     split at he
     ·rename_i hh; cases hh
     ·rename_i k0 ks0 x xs' y ys' hh
      simp only [List.cons.injEq] at hh
      obtain ⟨rfl, rfl⟩ := hh
      split at he
      ·rename_i a b' ha hb
       simp only [Option.some.injEq] at he; subst he
       obtain ⟨hxl, hxr⟩ := hx 0 x rfl
       obtain ⟨hyl, hyr⟩ := hy 0 y rfl
       simp only [Nat.add_zero] at hxl hxr hyl hyr
       have ih := qhv (vs := vs) (us := us) (d := d) fs (o + 1) ks' xs' ys' b' hks hb (fun i z hz => by have := hx (i + 1) z hz; rwa [show o + (i + 1) = o + 1 + i by omega] at this) (fun i z hz => by have := hy (i + 1) z hz; rwa [show o + (i + 1) = o + 1 + i by omega] at this)
       have hp : ∀ (vs : Array Value), o < vs.size → (part f.type vs f.offset).run P w = .ok (vs.getD o Go.undef) w := by
        intro vs hl
        rw [hcond.1]
        simp only [part, qh0 (qx8 hk), Sem.run_bind, Result.andThen_ok, Bool.false_eq_true, if_false, Yb hl, Sem.run_pure]
       simp only [Op.eqFields, hcond.2, ne_eq, not_false_eq_true, if_true, Sem.run_bind, hp vs hxl, hp us hyl, Result.andThen_ok, qzu hk hxr hyr ha]
       cases a with
       | false => simp
       | true => simpa using ih
      ·cases he
     ·cases he
    ·cases hf
   ·cases hf
theorem q4v {op : BinOp} {t : TypeId} {o1 o2 : Operand} {x y z : AV} {v u : Value} (hx : RV w S β n x v) (hy : RV w S β n y u) (h : qhz P op t x y = some z) :
 ∃ v', ((do eqGuard op t o1 o2 v u; binOp op t v u) : Sem Value).run P w = .ok v' w ∧ RV w S β n z v' := by
 unfold qhz at h
 split at h
 ·rename_i k a k' b
  cases hx; cases hy
  split at h
  ·split at h
   ·cases h
   ·rename_i h0
    simp only [Option.some.injEq] at h; subst h
    exact ⟨_, by simp [eqGuard_at_int, binOp, Op.shift, h0], .int _ _⟩
  ·split at h
   ·cases h
   ·rename_i h0
    simp only [Option.some.injEq] at h; subst h
    exact ⟨_, by simp [eqGuard_at_int, binOp, Op.shift, h0], .int _ _⟩
  ·rename_i hl hr
   split at h
   ·rename_i hk
    subst hk
    unfold qhl at h
    split at h <;> first
     | (cases h; done)
     | (simp only [Option.some.injEq] at h; subst h
        refine ⟨_, ?_, .int _ _⟩
        simp only [eqGuard_at_int, binOp, Op.intArith, Sem.run_bind, Sem.run_pure, Result.andThen_ok, ne_eq, not_true_eq_false, if_false]
        done)
     | (simp only [Option.some.injEq] at h; subst h
        refine ⟨_, ?_, .bool _⟩
        simp only [eqGuard_at_int, binOp, Op.intCmp, Sem.run_bind, Sem.run_pure, Result.andThen_ok, ne_eq, not_true_eq_false, if_false]
        first | done | rfl)
     | (split at h
        ·cases h
        ·rename_i h0
         simp only [Option.some.injEq] at h; subst h
         refine ⟨_, ?_, .int _ _⟩
         simp only [eqGuard_at_int, binOp, Op.intDiv, Sem.run_bind, Sem.run_pure, Result.andThen_ok, ne_eq, not_true_eq_false, if_false, h0])
   ·cases h
 ·rename_i a b
  cases hx; cases hy
  unfold qei at h
  split at h <;> first
   | (cases h; done)
   | (simp only [Option.some.injEq] at h; subst h
      refine ⟨_, ?_, .bool _⟩
      simp only [eqGuard_at_string, binOp, Op.stringOp, qpz, Sem.run_bind, Sem.run_pure, Result.andThen_ok]
      first | done | rfl)
   | (split at h
      ·rename_i h0
       simp only [Option.some.injEq] at h; subst h
       refine ⟨.string (a ++ b), ?_, .str _⟩
       have : ¬ ((a.size + b.size : Nat) : Int) > IntKind.i64.max := by rw [IntKind.max_i64]; omega
       simp only [eqGuard_at_string, binOp, Op.stringOp, Sem.run_bind, Sem.run_pure, Result.andThen_ok, this, if_false]
      ·cases h)
 ·rename_i xs ys
  split at h
  ·rename_i ks hks
   unfold structSK at hks
   split at hks
   ·rename_i fs hu
    split at hks
    ·rename_i hcond
     cases hx with
     | agg _ vs hs h1 hr =>
       cases hy with
       | agg _ us hs' h1' hr' =>
         have hfo : P.fieldsOf t = fs := by simp [Program.fieldsOf, hu]
         have main : ∀ b, qbn ks xs ys = some b → (Op.equalIn 10000 t (.agg vs) (.agg us)).run P w = .ok b w := by
          intro b hb
          rw [show (10000 : Nat) = 9999 + 1 from rfl, run_equalIn_struct w 9999 t vs us (by rw [hfo]; exact hu) hcond.1, hfo]
          exact qhv (d := 9998) fs.toList 0 ks xs ys b hks hb (fun i x hi => ⟨by have := (List.getElem?_eq_some_iff.1 hi).1; omega, by rw [Nat.zero_add]; exact hr i x hi⟩) (fun i x hi => ⟨by have := (List.getElem?_eq_some_iff.1 hi).1; omega, by rw [Nat.zero_add]; exact hr' i x hi⟩)
         split at h <;> first
          | (cases h; done)
          | (simp only [Option.map_eq_some_iff] at h
             obtain ⟨b, hb, rfl⟩ := h
             first
              | (refine ⟨.bool b, ?_, .bool _⟩; simp only [Sem.run_bind, run_eqGuard_agg w _ t o1 o2 vs us hcond.2, Result.andThen_ok, run_eql_struct, main b hb]; done)
              | (refine ⟨.bool (!b), ?_, .bool _⟩; simp only [Sem.run_bind, run_eqGuard_agg w _ t o1 o2 vs us hcond.2, Result.andThen_ok, run_neq_struct, main b hb]; done))
    ·cases hks
   ·cases hks
  ·cases h
 ·rename_i hni hns hna
  split at h
  ·rename_i ht
   have key : ∀ b, eqAV x y = some b → (eqGuard op t o1 o2 v u = pure ()) ∧ (Op.equal t v u).run P w = .ok b w ∧ (∀ z, binOp .eql t v u = z → z = (do pure (.bool (← Op.equal t v u)))) ∧ (∀ z, binOp .neq t v u = z → z = (do pure (.bool (!(← Op.equal t v u))))) := by
    intro b hb
    unfold eqTypeAV at ht
    unfold eqAV at hb
    cases hu : P.underlying t with
    | none => simp [hu] at ht
    | some d =>
      split at hb <;> first
       | (cases hb; done)
       | (cases hx; cases hy
          simp only [Option.some.injEq] at hb; subst hb
          cases d <;> simp only [hu] at ht <;> first
           | (cases ht; done)
           | (refine ⟨by cases op <;> rfl, ?_, fun z hz => by rw [← hz]; rfl, fun z hz => by rw [← hz]; rfl⟩
              show (Op.equalIn (9999 + 1) t _ _).run P w = _
              rw [Op.equalIn, Sem.run_bind, run_underlying hu, Result.andThen_ok]
              rfl))
   split at h <;> first
    | (cases h; done)
    | (simp only [Option.map_eq_some_iff] at h
       obtain ⟨b, hb, rfl⟩ := h
       obtain ⟨h1, h2, h3, h4⟩ := key b hb
       first
        | (refine ⟨.bool b, ?_, .bool _⟩; rw [h1, h3 _ rfl]; simp [h2]; done)
        | (refine ⟨.bool (!b), ?_, .bool _⟩; rw [h1, h4 _ rfl]; simp [h2]; done))
  ·cases h
def unAV (op : UnOp) (x : AV) : Option AV :=
 match op, x with
 | .not, .bool b => some (.bool (!b))
 | .neg, .int k m => some (.int k (k.wrap (0 - m)))
 | _, _ => none
theorem q5k {op : UnOp} {x z : AV} {v : Value} (hx : RV w S β n x v) (h : unAV op x = some z) : ∃ v', (Op.unary op v).run P w = .ok v' w ∧ RV w S β n z v' := by
 unfold unAV at h
 split at h
 ·cases hx; simp only [Option.some.injEq] at h; subst h; exact ⟨_, rfl, .bool _⟩
 ·cases hx; simp only [Option.some.injEq] at h; subst h; exact ⟨_, rfl, .int _ _⟩
 ·cases h
def qii (t : Bool) (x y : AV) : AV := if t = true then x else y
theorem qsr (x y : AV) : qii true x y = x := rfl
theorem qqp (x y : AV) : qii false x y = y := rfl
theorem qss (t a b : Bool) : qii t (.bool a) (.bool b) = .bool (if t = true then a else b) := by cases t <;> rfl
def qgp (P : Program) (src dst : TypeId) (x : AV) : Option AV :=
 match x with
 | .int _ m => match P.underlying src, intP P dst with
   | some _, some k => some (.int k (k.wrap m))
   | _, _ => none
 | .str s => match P.underlying src with
   | some _ => if strP P dst then some (.str s) else none
   | none => none
 | _ => none
theorem q2x {src dst : TypeId} {x z : AV} {v : Value} (hx : RV w S β n x v) (h : qgp P src dst x = some z) : ∃ v', (convert src dst v).run P w = .ok v' w ∧ RV w S β n z v' := by
 unfold qgp at h
 split at h
 ·cases hx
  split at h
  ·rename_i d k hs hd
   simp only [Option.some.injEq] at h; subst h
   unfold intP at hd
   split at hd
   ·rename_i k' hu
    simp only [Option.some.injEq] at hd; subst hd
    refine ⟨_, ?_, .int _ _⟩
    simp only [convert, Sem.run_bind, run_underlying hs, run_underlying hu, Result.andThen_ok]
    cases d <;> rfl
   ·cases hd
  ·cases h
 ·cases hx
  split at h
  ·rename_i d hs
   split at h
   ·rename_i hd
    simp only [Option.some.injEq] at h; subst h
    unfold strP at hd
    split at hd
    ·rename_i hu
     refine ⟨_, ?_, .str _⟩
     simp only [convert, Sem.run_bind, run_underlying hs, run_underlying hu, Result.andThen_ok]
     cases d <;> rfl
    ·cases hd
   ·cases h
  ·cases h
 ·cases h
def qgd (P : Program) (t : TypeId) (cs : List AV) (off : Nat) : Option AV :=
 match aggP P t, szP P t with
 | some true, some k => if off + k ≤ cs.length then some (.agg ((cs.drop off).take k)) else none
 | some false, _ => cs[off]?
 | _, _ => none
theorem qwb {t : TypeId} {cs : List AV} {vs : Array Value} {off : Nat} {x : AV} (h : RV w S β n (.agg cs) (.agg vs)) (hx : qgd P t cs off = some x) : ∃ v', (part t vs off).run P w = .ok v' w ∧ RV w S β n x v' := by
 cases h with
 | agg _ _ hs h1 hr =>
   unfold qgd at hx
   split at hx
   ·rename_i k hagg hsz
    split at hx
    ·rename_i hk
     simp only [Option.some.injEq] at hx; subst hx
     refine ⟨.agg (vs.extract off (off + k)), by simp [part, qh0 hagg, Yi hsz], .agg _ _ (by simp; omega) (fun x hx => h1 x (List.mem_of_mem_drop (List.mem_of_mem_take hx))) (fun i x hi => ?_)⟩
     rw [List.getElem?_take] at hi
     split at hi
     ·rename_i hik
      rw [List.getElem?_drop] at hi
      have := hr _ _ hi
      have hlt := (List.getElem?_eq_some_iff.1 hi).1
      rw [qq8 (by omega) (by omega)]
      exact this
     ·cases hi
    ·cases hx
   ·rename_i hagg
    have hlt := (List.getElem?_eq_some_iff.1 hx).1
    refine ⟨vs.getD off Go.undef, ?_, hr _ _ hx⟩
    have : vs[off]? = some (vs.getD off Go.undef) := Yb (by omega)
    simp only [part, qh0 hagg, Sem.run_bind, Result.andThen_ok, Bool.false_eq_true, if_false, this, Sem.run_pure]
   ·cases hx
def qfj (P : Program) (t : TypeId) (x : AV) (f : Nat) : Option AV :=
 match x, fieldP P t f with
 | .agg cs, some (ft, off, _) => qgd P ft cs off
 | _, _ => none
theorem qyr {t : TypeId} {f : Nat} {x z : AV} {v : Value} (hx : RV w S β n x v) (h : qfj P t x f = some z) : ∃ v', (Instr.field t v f).run P w = .ok v' w ∧ RV w S β n z v' := by
 unfold qfj at h
 split at h
 ·rename_i cs ft off k hf
  unfold fieldP at hf
  cases hu : P.underlying t with
  | none => simp [hu] at hf
  | some d =>
    cases d with
    | struct fs =>
      simp only [hu] at hf
      cases hfs : fs[f]? with
      | none => simp [hfs] at hf
      | some fd =>
        simp only [hfs, Option.bind_some, Option.map_eq_some_iff, Prod.mk.injEq] at hf
        obtain ⟨k', hk', rfl, rfl, rfl⟩ := hf
        cases hx with
        | agg _ vs hs h1 hr =>
          obtain ⟨v', hv, hR⟩ := qwb (P := P) (.agg cs vs hs h1 hr) h
          exact ⟨v', by simp [Instr.field, run_underlying hu, hfs, asAgg, hv], hR⟩
    | _ => simp [hu] at hf
 ·cases h
def qhm (P : Program) (t : TypeId) (x i : AV) : Option AV :=
 match i with
 | .int _ i => if 0 ≤ i then match x with
   | .str s => if strP P t then (s[i.toNat]?).map fun b => .int .u8 b.toNat else none
   | .agg cs => match arrP P t with
     | some (len, e, k) => if i.toNat < len then qgd P e cs (i.toNat * k) else none
     | none => none
   | _ => none
   else none
 | _ => none
theorem q0s {t : TypeId} {x i z : AV} {v iv : Value} (hx : RV w S β n x v) (hi : RV w S β n i iv) (h : qhm P t x i = some z) : ∃ v', (Instr.index t v iv).run P w = .ok v' w ∧ RV w S β n z v' := by
 unfold qhm at h
 split at h
 ·cases hi
  rename_i k i
  split at h
  ·rename_i h0
   split at h
   ·rename_i s
    cases hx
    split at h
    ·rename_i ht
     simp only [Option.map_eq_some_iff] at h
     obtain ⟨b, hb, rfl⟩ := h
     unfold strP at ht
     split at ht
     ·rename_i hu
      exact ⟨_, by simp [Instr.index, asIntOf, run_underlying hu, h0, hb], .int _ _⟩
     ·cases ht
    ·cases h
   ·rename_i cs
    split at h
    ·rename_i len e k he
     obtain ⟨hu, hk⟩ := qfl he
     split at h
     ·rename_i hlt
      cases hx with
      | agg _ vs hs h1 hr =>
        obtain ⟨v', hv, hR⟩ := qwb (P := P) (.agg cs vs hs h1 hr) h
        have : i < (len : Int) := by omega
        exact ⟨v', by simp [Instr.index, asIntOf, run_underlying hu, h0, this, Yi hk, hv], hR⟩
     ·cases h
    ·cases h
   ·cases h
  ·cases h
 ·cases h
def qcd (x : AV) (i : Nat) : Option AV := match x with | .tup cs => cs[i]? | _ => none
theorem qu8 {x z : AV} {i : Nat} {v : Value} (hx : RV w S β n x v) (h : qcd x i = some z) : ∃ v', (Instr.extract v i).run P w = .ok v' w ∧ RV w S β n z v' := by
 unfold qcd at h
 split at h
 ·cases hx with
  | tup cs vs hs hr =>
    have hlt := (List.getElem?_eq_some_iff.1 h).1
    refine ⟨vs.getD i Go.undef, ?_, hr _ _ h⟩
    have : vs[i]? = some (vs.getD i Go.undef) := Yb (by omega)
    simp only [Instr.extract, this, Sem.run_pure]
 ·cases h
def uk (x : Option AV) (d : Nat) : Option Nat := match x with | none => some d | some (.int _ i) => if 0 ≤ i then some i.toNat else none | _ => none
def qc8 (P : Program) (t : TypeId) (x : AV) (lo hi mx : Option AV) : Option AV :=
 match x with
 | .str s => if strP P t ∧ mx.isNone then match uk hi s.size with
   | some h => match uk lo 0 with
     | some l => if l ≤ h ∧ h ≤ s.size then some (.str (s.extract l h)) else none
     | none => none
   | none => none
   else none
 | .sl sz full xs => match elemP P t with
   | some (_, k) => if 0 < k ∧ (sz = k ∨ xs = []) then match uk hi xs.length with
     | some h => match uk lo 0 with
       | some l => match mx with
         | none => if l ≤ h ∧ h ≤ xs.length then some (.sl k (full && decide (h = xs.length)) ((xs.take h).drop l)) else none
         | some m => match hi, uk (some m) 0 with
           | some _, some m => if l ≤ h ∧ h ≤ m ∧ m ≤ xs.length then some (.sl k (decide (h = m)) ((xs.take h).drop l)) else none
           | _, _ => none
       | none => none
     | none => none
     else none
   | none => none
 | .bs sz id s off len => match elemP P t with
   | some (_, k) => if sz = k ∧ mx.isNone then match uk hi len with
     | some h => match uk lo 0 with
       | some l => if l < h ∧ h ≤ len then some (.bs sz id s (off + l * sz) (h - l)) else none
       | none => none
     | none => none
     else none
   | none => none
 | _ => none
def OptR (w : World) (S : Nat → Prop) (β : Nat → Nat) (n : Nat) : Option AV → Option Value → Prop
 | none, none => True
 | some a, some v => RV w S β n a v
 | _, _ => False
theorem qdr {x : Option AV} {d i : Nat} (h : uk x d = some i) (hr : OptR w S β n x none) : i = d := by
 cases x with
 | none => simpa [uk] using h.symm
 | some a => exact hr.elim
theorem Zw {x : Option AV} {u : Value} {d i y : Nat} {c : BoundsCode} (h : uk x d = some i) (hr : OptR w S β n x (some u)) (hy : i ≤ y) : (Instr.sliceBound u y c).run P w = .ok i w := by
 cases x with
 | none => exact hr.elim
 | some a =>
   have hu : RV w S β n a u := hr
   unfold uk at h
   split at h
   ·rename_i hh; cases hh
   ·rename_i k m hh
    simp only [Option.some.injEq] at hh; subst hh
    cases hu
    split at h
    ·rename_i h0
     simp only [Option.some.injEq] at h; subst h
     have : m ≤ (y : Int) := by omega
     simp [Instr.sliceBound, asIntOf, h0, this]
    ·cases h
   ·cases h
theorem qgs {lo hi : Option AV} {lv hv : Option Value} {b : Bool} {len cap l h : Nat} (hh : uk hi len = some h) (hl : uk lo 0 = some l) (rl : OptR w S β n lo lv) (rh : OptR w S β n hi hv)
 (h1 : l ≤ h) (h2 : h ≤ cap) : (Instr.sliceBounds b len cap lv hv none).run P w = .ok (l, h, cap) w := by
 cases lv with
 | none =>
   obtain rfl := qdr hl rl
   cases hv with
   | none => obtain rfl := qdr hh rh; simp [Instr.sliceBounds]
   | some u => simp [Instr.sliceBounds, Zw hh rh h2]
 | some a =>
   cases hv with
   | none => obtain rfl := qdr hh rh; simp [Instr.sliceBounds, Zw hl rl h1]
   | some u => simp [Instr.sliceBounds, Zw hh rh h2, Zw hl rl h1]
theorem qtr {lo hi mx : Option AV} {lv : Option Value} {hv mv : Value} {b : Bool} {len cap l h m : Nat} (hh : uk hi len = some h) (hl : uk lo 0 = some l) (hm : uk mx 0 = some m)
 (rl : OptR w S β n lo lv) (rh : OptR w S β n hi (some hv)) (rm : OptR w S β n mx (some mv)) (h1 : l ≤ h) (h2 : h ≤ m) (h3 : m ≤ cap) : (Instr.sliceBounds b len cap lv (some hv) (some mv)).run P w = .ok (l, h, m) w := by
 cases lv with
 | none => obtain rfl := qdr hl rl; simp [Instr.sliceBounds, Zw hh rh h2, Zw hm rm h3]
 | some a => simp [Instr.sliceBounds, Zw hh rh h2, Zw hl rl h1, Zw hm rm h3]
/-- A part of a slice that is only read. -/
theorem RV.sub {sz : Nat} {full f' : Bool} {xs : List (List AV)} {A : Option Addr} {cap l h m : Nat} (hx : RV w S β n (.sl sz full xs) (.slice A xs.length cap)) (hl : l ≤ h) (hh : h ≤ xs.length) (hm : h ≤ m) (hc : m ≤ cap)
 (hf : f' = true → m = h) (hz : 0 < sz) : RV w S β n (.sl sz f' ((xs.take h).drop l)) (.slice (if m = l then A else A.map (·.add (l * sz))) (h - l) (m - l)) := by
 generalize hV : Value.slice A xs.length cap = V at hx
 cases hx with
 | sl _ _ _ _ _ u hl' hm' hf' hA hA1 hS hsz h1 hcell hr =>
   injection hV with e1 e2 e3
   subst e1 e3
   have hlen : ((xs.take h).drop l).length = h - l := by simp; omega
   have hget : ∀ (j : Nat) (c : List AV), ((xs.take h).drop l)[j]? = some c → xs[l + j]? = some c := by
    intro j c hj
    rw [List.getElem?_drop, List.getElem?_take] at hj
    split at hj
    ·exact hj
    ·cases hj
   have hne : ((xs.take h).drop l) ≠ [] → xs ≠ [] := by intro hn e; subst e; simp at hn
   rw [← hlen]
   by_cases hml : m = l
   ·subst hml
    have h0 : ((xs.take h).drop m) = [] := by rw [← List.length_eq_zero_iff, hlen]; omega
    simp only [if_true, h0]
    exact .sl _ _ [] A _ u (by simp) (by omega) (fun hf1 => by have := hf hf1; simp) (fun h => absurd rfl h) (fun h => absurd rfl h) (fun _ _ _ h => absurd rfl h) (by simp) (by simp) (by simp) (by simp) (fun _ h => absurd h (Nat.ne_of_gt hz))
   ·simp only [if_neg hml]
    refine .sl _ _ _ _ _ (fun j i => u (l + j) i) (by omega) (by omega) (fun hf1 => by have := hf hf1; omega) (fun hn a ha => ?_) (fun hn => ?_) (fun b o hb hn => ?_) (fun c hc => ?_) (fun c hc => ?_) (fun b o hb j c i x hj hi => ?_) (fun j c i x hj hi => hr _ _ _ _ (hget j c hj) hi) (fun _ h => absurd h (Nat.ne_of_gt hz))
    ·simp only [Option.map_eq_some_iff] at ha
     obtain ⟨a0, ha0, rfl⟩ := ha
     unfold Addr.add; split
     ·exact hA (hne hn) _ ha0
     ·rfl
    ·simpa using hA1 (hne hn)
    ·simp only [Option.map_eq_some_iff] at hb
     obtain ⟨⟨b0, o0, sp⟩, ha0, hb⟩ := hb
     have := hA (hne hn) _ ha0; simp only at this; subst this
     rw [Addr.add_lit] at hb
     injection hb with e1 e2
     subst e1
     exact hS b0 o0 ha0 (hne hn)
    ·obtain ⟨j, hj⟩ := List.getElem?_of_mem hc
     exact hsz c (List.mem_of_getElem? (hget j c hj))
    ·obtain ⟨j, hj⟩ := List.getElem?_of_mem hc
     exact h1 c (List.mem_of_getElem? (hget j c hj))
    ·simp only [Option.map_eq_some_iff] at hb
     obtain ⟨⟨b0, o0, sp⟩, ha0, hb⟩ := hb
     have := hA (by intro e; subst e; simp at hj) _ ha0; simp only at this; subst this
     rw [Addr.add_lit] at hb
     injection hb with e1 e2
     subst e1 e2
     have := hcell b0 o0 ha0 (l + j) c i x (hget j c hj) hi
     rw [Nat.add_mul] at this
     rwa [Nat.add_assoc, ← Nat.add_assoc (l * sz)]
theorem qzs {t : TypeId} {x z : AV} {lo hi mx : Option AV} {v : Value} {lv hv mv : Option Value} (hx : RV w S β n x v) (rl : OptR w S β n lo lv) (rh : OptR w S β n hi hv) (rm : OptR w S β n mx mv)
 (h : qc8 P t x lo hi mx = some z) : ∃ v', (Instr.slice t v lv hv mv).run P w = .ok v' w ∧ RV w S β n z v' := by
 unfold qc8 at h
 split at h
 ·rename_i s
  cases hx
  split at h
  ·rename_i ht
   obtain ⟨ht, hmx⟩ := ht
   split at h
   ·rename_i hh hhi
    split at h
    ·rename_i l hlo
     split at h
     ·rename_i hle
      simp only [Option.some.injEq] at h; subst h
      unfold strP at ht
      split at ht
      ·rename_i hu
       have hmv : mv = none := by
        cases mx with
        | none => cases mv with
          | none => rfl
          | some _ => exact rm.elim
        | some _ => cases hmx
       subst hmv
       exact ⟨_, by simp [Instr.slice, run_underlying hu, qgs (P := P) hhi hlo rl rh hle.1 hle.2], .str _⟩
      ·cases ht
     ·cases h
    ·cases h
   ·cases h
  ·cases h
 ·rename_i sz full xs
  split at h
  ·rename_i e k he
   obtain ⟨hu, hk⟩ := vp he
   split at h
   ·rename_i hsz
    obtain ⟨hk0, hsz⟩ := hsz
    have hx' : RV w S β n (.sl k full xs) v := by
     rcases hsz with rfl | rfl
     ·exact hx
     ·cases hx with
      | sl _ _ _ A cap u hl hm hf hA hA1 hS hsz h1 hc hr hV => exact .sl k full [] A cap u hl hm hf hA hA1 hS (by simp) (by simp) (by simp) (by simp) (fun _ h => absurd h (Nat.ne_of_gt hk0))
    split at h
    ·rename_i hh hhi
     split at h
     ·rename_i l hlo
      split at h
      ·split at h
       ·rename_i hle
        simp only [Option.some.injEq] at h; subst h
        have hmv : mv = none := by cases mv with
         | none => rfl
         | some _ => exact rm.elim
        subst hmv
        have hx2 := hx'
        cases hx' with
        | sl _ _ _ A cap u hl hm hf hA hA1 hS hsz' h1 hc hr =>
          refine ⟨_, ?_, RV.sub hx2 hle.1 hle.2 (Nat.le_trans hle.2 hl) (Nat.le_refl _) (fun hf1 => ?_) hk0⟩
          ·simp [Instr.slice, run_underlying hu, Yi hk, qgs (P := P) (b := true) hhi hlo rl rh hle.1 (Nat.le_trans hle.2 hl)]
          ·simp only [Bool.and_eq_true, decide_eq_true_eq] at hf1
           rw [hf hf1.1, hf1.2]
       ·cases h
      ·rename_i m
       split at h
       ·rename_i m' hv0 m'' hmb
        split at h
        ·rename_i hle
         simp only [Option.some.injEq] at h; subst h
         cases mv with
         | none => exact rm.elim
         | some mv =>
           cases hv with
           | none => exact rh.elim
           | some hv =>
             have hx2 := hx'
             cases hx' with
             | sl _ _ _ A cap u hl hm hf hA hA1 hS hsz' h1 hc hr =>
               refine ⟨_, ?_, RV.sub hx2 hle.1 (Nat.le_trans hle.2.1 hle.2.2) hle.2.1 (Nat.le_trans hle.2.2 hl) (fun hf1 => (of_decide_eq_true hf1).symm) hk0⟩
               simp [Instr.slice, run_underlying hu, Yi hk, qtr (P := P) (b := true) hhi hlo hmb rl rh rm hle.1 hle.2.1 (Nat.le_trans hle.2.2 hl)]
        ·cases h
       ·cases h
     ·cases h
    ·cases h
   ·cases h
  ·cases h
 ·rename_i sz id s off len
  split at h
  ·rename_i e k he
   obtain ⟨hu, hk⟩ := vp he
   split at h
   ·rename_i hsz
    obtain ⟨rfl, hmx⟩ := hsz
    split at h
    ·rename_i hh hhi
     split at h
     ·rename_i l hlo
      split at h
      ·rename_i hle
       simp only [Option.some.injEq] at h; subst h
       have hmv : mv = none := by
        cases mx with
        | none => cases mv with
          | none => rfl
          | some _ => exact rm.elim
        | some _ => cases hmx
       subst hmv
       cases hx with
       | bs0 => exfalso; omega
       | bs _ _ _ _ _ cap m e' hs hsh hn hl hm h0 =>
         refine ⟨.slice (some ⟨β s, off + l * sz, none⟩) (hh - l) (cap - l), ?_, .bs _ _ _ _ _ (cap - l) m e' hs hsh ?_ (by omega) (by omega) (by omega)⟩
         ·have : ¬ cap = l := by omega
          simp [Instr.slice, run_underlying hu, Yi hk, qgs (P := P) (b := true) hhi hlo rl rh (Nat.le_of_lt hle.1) (Nat.le_trans hle.2 hl), this, Addr.add_lit]
         ·rw [← hn, Nat.add_assoc, ← Nat.add_mul]; congr 2; omega
      ·cases h
     ·cases h
    ·cases h
   ·cases h
  ·cases h
 ·cases h
def qjq (P : Program) (t : TypeId) (x : AV) : Option AV :=
 match x with
 | .str s => if strP P t then some (.int .i64 s.size) else none
 | .sl _ _ l => match elemP P t with | some _ => some (.int .i64 l.length) | none => none
 | .bs _ _ _ _ len => match elemP P t with | some _ => some (.int .i64 len) | none => none
 | _ => none
theorem q4e {t ty : TypeId} {ts : Array TypeId} {vs : Array Value} {x z : AV} {v : Value} (ht : ts[0]? = some t) (hv : vs[0]? = some v) (hx : RV w S β n x v) (h : qjq P t x = some z) :
 ∃ v', (Builtin.len_ ts ty vs).run P w = .ok v' w ∧ RV w S β n z v' := by
 unfold qjq at h
 split at h
 ·cases hx
  split at h
  ·rename_i hs
   simp only [Option.some.injEq] at h; subst h
   unfold strP at hs
   split at hs
   ·rename_i hu
    exact ⟨_, by simp [Builtin.len_, ht, hv, run_underlying hu, goInt], .int _ _⟩
   ·cases hs
  ·cases h
 ·split at h
  ·rename_i he
   simp only [Option.some.injEq] at h; subst h
   obtain ⟨hu, _⟩ := vp he
   cases hx with
   | sl _ _ _ A cap u => exact ⟨_, by simp [Builtin.len_, ht, hv, run_underlying hu, goInt], .int _ _⟩
  ·cases h
 ·split at h
  ·rename_i he
   simp only [Option.some.injEq] at h; subst h
   obtain ⟨hu, _⟩ := vp he
   cases hx <;> exact ⟨_, by simp [Builtin.len_, ht, hv, run_underlying hu, goInt], .int _ _⟩
  ·cases h
 ·cases h
end Go.Proofs.YtigmilhpeodhbaaGreatDoorW.Ex
