/- A symbolic executor for the machine's code, part T: runs by computation. General over the program; no conditions beside those in each theorem. -/
import Derived.Test.YtigmilhpeodhbaaDoorExS
namespace Go.Proofs.YtigmilhpeodhbaaDoorW.Ex
set_option linter.all false
open Go
set_option linter.unusedVariables false
set_option linter.unusedSimpArgs false
variable {G : Nat → List AV} {P : Program} {N p : Nat}
abbrev Objs := List (Nat × Obj)
inductive OpR where
 | no
 | val (x : AV)
 | lst (sz : Nat) (full : Bool) (l : List (List AV))
 | push (o : Obj)
 | store (id s : Nat) (o : Obj)
def ofO : Option AV → OpR
 | none => .no
 | some x => .val x
def nthO : Objs → Nat → Option (Nat × Obj)
 | [], _ => none
 | x :: l, i => bif Nat.beq i 0 then some x else nthO l (i - 1)
theorem qmy : ∀ (l : Objs) (i : Nat), nthO l i = l[i]?
 | [], i => by simp [nthO]
 | x :: l, 0 => rfl
 | x :: l, i + 1 => by simp only [nthO, show Nat.beq (i + 1) 0 = false from rfl, cond_false, Nat.add_sub_cancel, List.getElem?_cons_succ]; exact qmy l i
def qdp {α : Type} : Nat → List α → Bool
 | 0, _ => true
 | _ + 1, [] => false
 | k + 1, _ :: l => qdp k l
theorem qe6 {α : Type} : ∀ (k : Nat) (l : List α), qdp k l = true → k ≤ l.length
 | 0, _, _ => Nat.zero_le _
 | k + 1, [], h => by simp [qdp] at h
 | k + 1, _ :: l, h => by have := qe6 k l (by simpa [qdp] using h); simpa using this
def qj0 {α : Type} : Nat → List α → Bool
 | 0, [] => true
 | k + 1, _ :: l => qj0 k l
 | _, _ => false
theorem qpo {α : Type} : ∀ (k : Nat) (l : List α), qj0 k l = true → l.length = k
 | 0, [], _ => rfl
 | 0, _ :: _, h => by simp [qj0] at h
 | k + 1, [], h => by simp [qj0] at h
 | k + 1, _ :: l, h => by have := qpo k l (by simpa [qj0] using h); simpa using this
def qfn (objs : Objs) : AV → Option (List AV)
 | .rptr cs => some cs
 | .ptr id s off => match nthO objs id with
   | some (s', .var _ cs) => bif Nat.beq s' s then some (cs.drop off) else none
   | _ => none
 | _ => none
theorem qhj {n : Nat} {objs : Objs} {x : AV} {cs : List AV} (h : qfn objs x = some cs) : Qv ⟨n, objs⟩ x = some cs := by
 unfold qfn at h
 split at h
 ·exact h
 ·rename_i id s off
  split at h
  ·rename_i s' ty cs' ho
   rw [qmy] at ho
   cases hb : Nat.beq s' s with
   | false => rw [hb] at h; cases h
   | true =>
     rw [hb, cond_true] at h
     simp only [Qv, ho, if_pos (Nat.eq_of_beq_eq_true hb)]
     exact h
  cases h
 cases h
def qsi (T : TT) (t : TypeId) (cs : List AV) : Option AV :=
 match T.get t with
 | some i => match i.agg with
   | true => bif qdp i.sz cs then some (.agg (cs.take i.sz)) else none
   | false => cs.head?
 | none => none
def qqv (T : TT) (objs : Objs) (t : TypeId) (q x : AV) : OpR :=
 match q with
 | .ptr id s off => match Yi x with
   | some xs => match T.get t with
     | some i => bif qj0 i.sz xs then match nthO objs id with
        | some (s', .var ty cs) => bif Nat.beq s' s && qdp (off + i.sz) cs then .store id s (.var ty (Zm cs off xs)) else .no
        | _ => .no
       else .no
     | none => .no
   | none => .no
 | _ => .no
def binF (T : TT) (op : BinOp) (t : TypeId) (x y : AV) : Option AV :=
 match x with
 | .int k a => match y with
   | .int k' b => match op with
     | .shl => none
     | .shr => none
     | .quo => none
     | .rem => none
     | op => if k = k' then qe8 op k a b else none
   | _ => none
 | .str a => match y with
   | .str b => match op with
     | .add => none
     | op => qb9 op a b
   | _ => none
 | .agg xs => match y with
   | .agg ys => match T.get t with
     | some i => match i.sk with
       | some ks => match op with
         | .eql => (Wx ks xs ys).map .bool
         | .neq => (Wx ks xs ys).map fun b => .bool (!b)
         | _ => none
       | none => none
     | none => none
   | _ => none
 | x => match T.get t with
   | some i => bif eqtF i.eqt x then match op with
      | .eql => (eqAV x y).map .bool
      | .neq => (eqAV x y).map fun b => .bool (!b)
      | _ => none
     else none
   | none => none
def qxn (T : TT) (src dst : TypeId) (x : AV) : Option AV :=
 match T.get src with
 | some _ => match T.get dst with
   | some d => match x with
     | .int _ m => match d.int with
       | some k => some (.int k (k.wrap m))
       | none => none
     | .str s => bif d.str then some (.str s) else none
     | _ => none
   | none => none
 | none => none
def qeb (T : TT) (s : TypeId) (x : AV) (f : Nat) : Option AV :=
 match T.get s with
 | some i => match i.fields[f]? with
   | some (_, o, k + 1) => match x with
     | .rptr cs => some (.rptr (cs.drop o))
     | .ptr id s off => some (.ptr id s (off + o))
     | _ => none
   | _ => none
 | none => none
def qwh (T : TT) (t : TypeId) (cs : List AV) (off : Nat) : Option AV :=
 match T.get t with
 | some i => match i.agg with
   | true => bif qdp (off + i.sz) cs then some (.agg ((cs.drop off).take i.sz)) else none
   | false => cs[off]?
 | none => none
def qrb (T : TT) (s : TypeId) (x : AV) (f : Nat) : Option AV :=
 match x with
 | .agg cs => match T.get s with
   | some i => match i.fields[f]? with
     | some (ft, off, _) => qwh T ft cs off
     | none => none
   | none => none
 | _ => none
def lenF (T : TT) (t : TypeId) (x : AV) : Option AV :=
 match T.get t with
 | some i => match x with
   | .str s => bif i.str then some (.int .i64 s.size) else none
   | .sl _ _ l => match i.elem with | some _ => some (.int .i64 l.length) | none => none
   | .bs _ _ _ _ len => match i.elem with | some _ => some (.int .i64 len) | none => none
   | _ => none
 | none => none
def qri (T : TT) (t : TypeId) (ps : List (Nat × AV)) : Option AV :=
 match T.get t with
 | some i => match i.zero with
   | some z => match i.places with
     | some pl => match Q1 (pl[·]?) z ps with
       | some cs => bif cs.all (·.one) then some (.agg cs) else none
       | none => none
     | none => match i.arr with
       | some (_, _, k) => match Q1 (fun i => some (i * k, k)) z ps with
         | some cs => bif cs.all (·.one) then some (.agg cs) else none
         | none => none
       | none => none
   | none => none
 | none => none
def qcu (T : TT) (t : TypeId) (len : Nat) (ps : List (Nat × AV)) : OpR :=
 match T.get t with
 | some i => match i.elem with
   | some (e, k) => match T.get e with
     | some ie => bif Nat.ble (len * k) 16777216 && Nat.blt 0 (len * k) && ie.zero.isSome then
        match Q1 (fun i => some (i * k, k)) (List.replicate (len * k) .undef) ps with
        | some cs => bif cs.all (·.one) && cs.all (·.closed) then .lst k true (qao k len cs) else .no
        | none => .no
       else .no
     | none => .no
   | none => .no
 | none => .no
def qsm (t : Bool) (x y : AV) : Option AV :=
 match x with
 | .bool a => match y with
   | .bool b => some (.bool (if t = true then a else b))
   | _ => none
 | .int k a => match y with
   | .int k' b => if k = k' then some (.int k (if t = true then a else b)) else none
   | _ => none
 | .str a => match y with
   | .str b => some (.str (if t = true then a else b))
   | _ => none
 | _ => none
def qfo (T : TT) (b : Builtin) (ts : List TypeId) (xs : List AV) : Option AV :=
 match b with
 | .len => match ts with
   | [t] => match xs with
     | [x] => lenF T t x
     | _ => none
   | _ => none
 | .max => match xs with
   | [.int k a, .int k' b] => if k = k' then some (.int k (if b > a then b else a)) else none
   | _ => none
 | .min => match xs with
   | [.int k a, .int k' b] => if k = k' then some (.int k (if b < a then b else a)) else none
   | _ => none
 | _ => none
def qbv (kn : List Nat) : Operand → Bool
 | .const (.bool _) => true
 | .tmp t => kn.any (Nat.beq t)
 | _ => false
def opR (T : TT) (kn : List Nat) (e : Operand → AV) (objs : Objs) : Op → OpR
 | .move x => .val (e x)
 | .assign x => .val (e x)
 | .pick c a b => match e c with
   | .bool t => bif qbv kn c then (match t with | true => .val (e a) | false => .val (e b)) else ofO (qsm t (e a) (e b))
   | _ => .no
 | .alloc t => match T.get t with
   | some i => match i.zero with
     | some z => bif z.all (·.one) then .push (.var t z) else .no
     | none => .no
   | none => .no
 | .box t x => match Yi (e x) with
   | some cs => .push (.var t cs)
   | none => .no
 | .build t ps => ofO (qri T t (ps.toList.map fun q => (q.1, e q.2)))
 | .buildSlice t len ps => qcu T t len (ps.toList.map fun q => (q.1, e q.2))
 | .load t a => match qfn objs (e a) with
   | some cs => ofO (qsi T t cs)
   | none => .no
 | .store t a x => qqv T objs t (e a) (e x)
 | .nilCheck x => ofO (qbg (e x))
 | .binOp op t x y _ => ofO (binF T op t (e x) (e y))
 | .unOp op _ x => ofO (unAV op (e x))
 | .convert src dst x => ofO (qxn T src dst (e x))
 | .makeInterface t x => match T.get t with
   | some i => bif i.plain then .val (.iface t (e x)) else .no
   | none => .no
 | .makeFunc fn first caps => match fn with
   | .func f => match first.toList with
     | [] => .val (.fn f (caps.toList.map e))
     | _ => .no
   | _ => .no
 | .fieldAddr s x f => ofO (qeb T s (e x) f)
 | .field s x f => ofO (qrb T s (e x) f)
 | .extract x i => ofO (qai (e x) i)
 | .call c => match c.callee with
   | .builtin b => ofO (qfo T b c.argTypes.toList (c.args.toList.map e))
   | _ => .no
 | _ => .no
def OpR.is (n : Nat) (objs : Objs) : OpR → Option (AV × Hp) → Prop
 | .no, _ => True
 | .val x, r => r = some (x, ⟨n, objs⟩)
 | .lst sz full l, r => r = some (.sl sz full l, ⟨n, objs⟩)
 | .push o, r => r = some (.ptr objs.length n 0, ⟨n + 1, objs ++ [(n, o)]⟩)
 | .store id s o, r => r = some (.undef, ⟨n, objs.set id (s, o)⟩)
theorem qbc {n : Nat} {objs : Objs} {z : Option AV} {r : Option AV} (h : ∀ x, z = some x → r = some x) : (ofO z).is n objs (r.map (·, ⟨n, objs⟩)) := by
 cases z with
 | none => trivial
 | some x =>
   show r.map (·, (⟨n, objs⟩ : Hp)) = some (x, ⟨n, objs⟩)
   rw [h x rfl]; rfl
section
variable {T : TT} (hT : T.ok P fun t => t)
include hT
theorem ti {t : TypeId} {i : TI} (h : T.get t = some i) : TIok P t i := TT.get_ok T _ hT t i h
theorem qox {t : TypeId} {cs : List AV} {x : AV} (h : qsi T t cs = some x) : qd1 P t cs = some x := by
 unfold qsi at h
 split at h
 ·rename_i i hi
  have k := ti hT hi
  unfold qd1
  rw [k.agg, k.sz]
  split at h
  ·rename_i ha
   rw [ha]
   cases hl : qdp i.sz cs with
   | false => rw [hl] at h; cases h
   | true =>
     rw [hl, cond_true] at h
     simp only [if_pos (qe6 _ _ hl)]
     exact h
  rename_i ha
  rw [ha]; exact h
 cases h
theorem qua {n : Nat} {objs : Objs} {t : TypeId} {q x : AV} : (qqv T objs t q x).is n objs ((v8 P ⟨n, objs⟩ t q x).map fun H' => (AV.undef, H')) := by
 unfold qqv
 split
 ·rename_i id s off
  split
  ·rename_i xs hxs
   split
   ·rename_i i hi
    have k := ti hT hi
    cases hl : qj0 i.sz xs with
    | false => trivial
    | true =>
      rw [cond_true]
      have hlen := qpo _ _ hl
      split
      ·rename_i s' ty cs ho
       rw [qmy] at ho
       cases hb : Nat.beq s' s && qdp (off + i.sz) cs with
       | false => trivial
       | true =>
         simp only [Bool.and_eq_true] at hb
         have e1 := Nat.eq_of_beq_eq_true hb.1
         have e2 := qe6 _ _ hb.2
         subst e1
         show (v8 P ⟨n, objs⟩ t (.ptr id s' off) x).map (fun H' => (AV.undef, H')) = some (AV.undef, (⟨n, objs.set id (s', .var ty (Zm cs off xs))⟩ : Hp))
         unfold v8
         simp only [hxs, k.sz, hlen, ho, if_true]
         rw [if_pos ⟨trivial, by omega⟩]
         rfl
      trivial
   trivial
  trivial
 trivial
theorem qzh {op : BinOp} {t : TypeId} {x y z : AV} (h : binF T op t x y = some z) : qfq P op t x y = some z := by
 unfold binF at h
 split at h
 ·split at h
  ·split at h <;> first | (cases h; done) | skip
   split at h <;> first | (cases h; done) | skip
   rename_i hk
   subst hk
   cases op <;> first | (exfalso; rename_i n1 n2 n3 n4; first | exact n1 rfl | exact n2 rfl | exact n3 rfl | exact n4 rfl) | (simp only [qfq, if_true]; exact h)
  cases h
 ·split at h
  ·split at h <;> first | (cases h; done) | exact h
  cases h
 ·split at h
  ·split at h
   ·rename_i i hi
    split at h
    ·rename_i ks hks
     have := (ti hT hi).sk _ hks
     unfold qfq
     simp only [this]
     exact h
    cases h
   cases h
  cases h
 split at h
 ·rename_i hx1 hx2 hx3 _ i hi
  cases he : eqtF i.eqt x with
  | false => rw [he] at h; cases h
  | true =>
    rw [he, cond_true] at h
    have := (ti hT hi).eqt x he
    unfold qfq
    split
    ·exact absurd rfl (hx1 _ _)
    ·exact absurd rfl (hx2 _)
    ·exact absurd rfl (hx3 _)
    rw [if_pos this]; exact h
 cases h
theorem qxm {src dst : TypeId} {x z : AV} (h : qxn T src dst x = some z) : qed P src dst x = some z := by
 unfold qxn at h
 split at h
 ·rename_i i hi
  have hu : ∃ d, P.underlying src = some d := by
   have := (ti hT hi).agg
   unfold aggP at this
   cases hu : P.underlying src with
   | none => rw [hu] at this; cases this
   | some d => exact ⟨d, rfl⟩
  obtain ⟨d0, hu⟩ := hu
  split at h
  ·rename_i d hd
   split at h
   ·split at h
    ·rename_i k hk
     simp only [qed, hu, (ti hT hd).int _ hk]; exact h
    cases h
   ·cases hs : d.str with
    | false => rw [hs] at h; cases h
    | true =>
      rw [hs, cond_true] at h
      simp only [qed, hu, (ti hT hd).str hs, if_true]; exact h
   cases h
  cases h
 cases h
theorem qk1 {s : TypeId} {x z : AV} {f : Nat} (h : qeb T s x f = some z) : Jw P s x f = some z := by
 unfold qeb at h
 split at h
 ·rename_i i hi
  split at h
  ·rename_i ft o k hf
   unfold Jw
   simp only [(ti hT hi).fields _ _ hf]
   exact h
  cases h
 cases h
theorem qwg {t : TypeId} {cs : List AV} {off : Nat} {z : AV} (h : qwh T t cs off = some z) : qd2 P t cs off = some z := by
 unfold qwh at h
 split at h
 ·rename_i i hi
  have k := ti hT hi
  unfold qd2
  rw [k.agg, k.sz]
  split at h
  ·rename_i ha
   rw [ha]
   cases hl : qdp (off + i.sz) cs with
   | false => rw [hl] at h; cases h
   | true =>
     rw [hl, cond_true] at h
     simp only [if_pos (qe6 _ _ hl)]
     exact h
  rename_i ha
  rw [ha]; exact h
 cases h
theorem quz {s : TypeId} {x z : AV} {f : Nat} (h : qrb T s x f = some z) : qdb P s x f = some z := by
 unfold qrb at h
 split at h
 ·split at h
  ·rename_i i hi
   split at h
   ·rename_i ft off k hf
    unfold qdb
    simp only [(ti hT hi).fields _ _ hf]
    exact qwg hT h
   cases h
  cases h
 cases h
theorem qy0 {t : TypeId} {x z : AV} (h : lenF T t x = some z) : qhc P t x = some z := by
 unfold lenF at h
 split at h
 ·rename_i i hi
  have k := ti hT hi
  split at h
  ·cases hs : i.str with
   | false => rw [hs] at h; cases h
   | true => rw [hs, cond_true] at h; simp only [qhc, k.str hs, if_true]; exact h
  ·split at h
   ·rename_i e he; simp only [qhc, k.elem _ he]; exact h
   cases h
  ·split at h
   ·rename_i e he; simp only [qhc, k.elem _ he]; exact h
   cases h
  cases h
 cases h
theorem qu3 {t : TypeId} {ps : List (Nat × AV)} {z : AV} (h : qri T t ps = some z) : qdc P t ps = some z := by
 unfold qri at h
 split at h
 ·rename_i i hi
  have k := ti hT hi
  split at h
  ·rename_i zz hz
   unfold qdc
   simp only [k.zero _ hz]
   split at h
   ·rename_i pl hp
    simp only [k.places _ hp]
    split at h
    ·rename_i cs hc
     cases ha : cs.all (·.one) with
     | false => rw [ha] at h; cases h
     | true => rw [ha, cond_true] at h; simp only [hc, ha, if_true]; exact h
    cases h
   split at h
   ·rename_i m e kk he
    simp only [k.arr0 _ he, k.arr _ he]
    split at h
    ·rename_i cs hc
     cases ha : cs.all (·.one) with
     | false => rw [ha] at h; cases h
     | true => rw [ha, cond_true] at h; simp only [hc, ha, if_true]; exact h
    cases h
   cases h
  cases h
 cases h
theorem qj7 {n : Nat} {objs : Objs} {t : TypeId} {len : Nat} {ps : List (Nat × AV)} : (qcu T t len ps).is n objs ((Z0 P t len ps).map (·, ⟨n, objs⟩)) := by
 unfold qcu
 split
 ·rename_i i hi
  split
  ·rename_i e kk he
   split
   ·rename_i ie hie
    cases hc : Nat.ble (len * kk) 16777216 && Nat.blt 0 (len * kk) && ie.zero.isSome with
    | false => trivial
    | true =>
      rw [cond_true]
      simp only [Bool.and_eq_true] at hc
      obtain ⟨⟨c1, c2⟩, c3⟩ := hc
      have c1 := Nat.le_of_ble_eq_true c1
      have c2 : 0 < len * kk := Nat.le_of_ble_eq_true c2
      obtain ⟨zz, hzz⟩ := Option.isSome_iff_exists.1 c3
      unfold Z0
      simp only [(ti hT hi).elem _ he, (ti hT hie).zero _ hzz, Option.isSome_some]
      rw [if_pos ⟨c1, c2, trivial⟩]
      split
      ·rename_i cs hcs
       simp only [hcs]
       cases ha : cs.all (·.one) && cs.all (·.closed) with
       | false => trivial
       | true =>
         simp only [Bool.and_eq_true] at ha
         rw [if_pos ha]; rfl
      trivial
   trivial
  trivial
 trivial
omit hT in
theorem qwe {t : Bool} {x y z : AV} (h : qsm t x y = some z) : qgb t x y = z := by
 unfold qsm at h
 split at h
 ·split at h
  ·simp only [Option.some.injEq] at h; subst h; cases t <;> rfl
  cases h
 ·split at h
  ·split at h
   ·rename_i hk; subst hk
    simp only [Option.some.injEq] at h; subst h; cases t <;> rfl
   cases h
  cases h
 ·split at h
  ·simp only [Option.some.injEq] at h; subst h; cases t <;> rfl
  cases h
 cases h
theorem qpw {H : Hp} {b : Builtin} {ts : List TypeId} {xs : List AV} {z : AV} (h : qfo T b ts xs = some z) : u3 P H b ts xs = some (z, H) := by
 unfold qfo at h
 split at h
 ·split at h
  ·split at h
   ·simp only [u3, qy0 hT h, Option.map_some]
   cases h
  cases h
 ·split at h
  ·split at h
   ·rename_i hk; subst hk
    simp only [Option.some.injEq] at h; subst h
    simp only [u3, if_true]
   cases h
  cases h
 ·split at h
  ·split at h
   ·rename_i hk; subst hk
    simp only [Option.some.injEq] at h; subst h
    simp only [u3, if_true]
   cases h
  cases h
 cases h
theorem qwk {n : Nat} {objs : Objs} {fr : Fr} {kn : List Nat} {op : Op} : (opR T kn (ev G fr) objs op).is n objs (evalOp P G fr ⟨n, objs⟩ op) := by
 unfold opR
 split
 ·rfl
 ·rfl
 ·rename_i c a b
  simp only [evalOp]
  split
  ·rename_i t hc
   simp only [hc]
   cases qbv kn c with
   | true =>
     rw [cond_true]
     cases t <;> rfl
   | false =>
     rw [cond_false]
     cases hp : qsm t (ev G fr a) (ev G fr b) with
     | none => trivial
     | some z => rw [qwe hp]; rfl
  trivial
 ·simp only [evalOp]
  split
  ·rename_i i hi
   split
   ·rename_i z hz
    simp only [(ti hT hi).zero _ hz]
    cases ha : z.all (·.one) with
    | false => trivial
    | true => rw [if_pos rfl]; rfl
   trivial
  trivial
 ·simp only [evalOp]
  split
  ·rename_i cs hc; rw [hc]; rfl
  trivial
 ·exact qbc fun x hx => qu3 hT hx
 ·exact qj7 hT
 ·simp only [evalOp]
  split
  ·rename_i cs hc
   rw [qhj hc]
   exact qbc fun x hx => qox hT hx
  trivial
 ·exact qua hT
 ·exact qbc fun x hx => hx
 ·exact qbc fun x hx => qzh hT hx
 ·exact qbc fun x hx => hx
 ·exact qbc fun x hx => qxm hT hx
 ·simp only [evalOp]
  split
  ·rename_i i hi
   cases hp : i.plain with
   | false => trivial
   | true => rw [cond_true, if_pos ((ti hT hi).plain hp)]; rfl
  trivial
 ·simp only [evalOp]
  split
  ·split
   ·rename_i h; simp only [h]; rfl
   trivial
  trivial
 ·exact qbc fun x hx => qk1 hT hx
 ·exact qbc fun x hx => quz hT hx
 ·exact qbc fun x hx => hx
 ·rename_i c
  simp only [evalOp, Zo]
  split
  ·rename_i b hb
   simp only [hb]
   cases hz : qfo T b c.argTypes.toList (c.args.toList.map (ev G fr)) with
   | none => trivial
   | some z => rw [qpw hT hz]; rfl
  trivial
 trivial
end
end Go.Proofs.YtigmilhpeodhbaaDoorW.Ex
