/- A symbolic executor for the machine's code, part T: runs by computation. General over the program; no conditions beside those in each theorem. -/
import Derived.Test.YtpnkemogepoioaaGreatDoorExS
namespace Go.Proofs.YtpnkemogepoioaaGreatDoorW.Ex
set_option linter.all false
open Go
set_option linter.unusedVariables false
set_option linter.unusedSimpArgs false
variable {G:Nat→List AV} {P:Program} {N p:Nat}
abbrev Objs:=List (Nat × Obj)
inductive OpR where
 | no
 | val (x:AV)
 | lst (sz:Nat) (full:Bool) (l:List (List AV))
 | push (o:Obj)
 | store (id s:Nat) (o:Obj)
def ofO:Option AV→OpR
 | none=> .no
 | some x=> .val x
def nthO:Objs→Nat→Option (Nat × Obj)
 | [],_=>none
 | x::l,i=>bif Nat.beq i 0 then some x else nthO l (i - 1)
theorem qv9:∀(l:Objs) (i:Nat),nthO l i=l[i]?
 | [],i=>by simp [nthO]
 | x::l,0=>rfl
 | x::l,i+1=>by simp only [nthO,show Nat.beq (i+1) 0=false from rfl,cond_false,Nat.add_sub_cancel,Ba];exact qv9 l i
def qlj {α:Type}:Nat→List α→Bool
 | 0,_=>true
 | _+1, []=>false
 | k+1,_::l=>qlj k l
theorem qnb {α:Type}:∀(k:Nat) (l:List α),qlj k l=true→k≤l.length
 | 0,_,_=>Az _
 | k+1, [],h=>by simp [qlj] at h
 | k+1,_::l,h=>by have:=qnb k l (by simpa [qlj] using h);simpa using this
def qsg {α:Type}:Nat→List α→Bool
 | 0, []=>true
 | k+1,_::l=>qsg k l
 | _,_=>false
theorem qy4 {α:Type}:∀(k:Nat) (l:List α),qsg k l=true→l.length=k
 | 0, [],_=>rfl
 | 0,_::_,h=>by simp [qsg] at h
 | k+1, [],h=>by simp [qsg] at h
 | k+1,_::l,h=>by have:=qy4 k l (by simpa [qsg] using h);simpa using this
def qnu (objs:Objs):AV→Option (List AV)
 | .rptr cs=>some cs
 | .ptr id s off=>match nthO objs id with
   | some (s', .var _ cs)=>bif Nat.beq s' s then some (cs.drop off) else none
   | _=>none
 | _=>none
theorem qpm {n:Nat} {objs:Objs} {x:AV} {cs:List AV} (h:qnu objs x=some cs):Yp ⟨n,objs⟩ x=some cs:=by
 unfold qnu at h
 split at h
 ·exact h
 ·rename_i id s off
  split at h
  ·rename_i s' ty cs' ho
   rw [qv9] at ho
   cases hb:Nat.beq s' s with
   | false=>rw [hb] at h;cases h
   | true=>
     rw [hb,cond_true] at h
     simp only [Yp,ho,if_pos (AE hb)]
     exact h
  cases h
 cases h
def q17 (T:TT) (t:TypeId) (cs:List AV):Option AV:=
 match T.get t with
 | some i=>match i.agg with
   | true=>bif qlj i.sz cs then some (.agg (cs.take i.sz)) else none
   | false=>cs.head?
 | none=>none
def q0q (T:TT) (objs:Objs) (t:TypeId) (q x:AV):OpR:=
 match q with
 | .ptr id s off=>match W4 x with
   | some xs=>match T.get t with
     | some i=>bif qsg i.sz xs then match nthO objs id with
        | some (s', .var ty cs)=>bif Nat.beq s' s && qlj (off+i.sz) cs then .store id s (.var ty (Zl cs off xs)) else .no
        | _=> .no
       else .no
     | none=> .no
   | none=> .no
 | _=> .no
def binF (T:TT) (op:BinOp) (t:TypeId) (x y:AV):Option AV:=
 match x with
 | .int k a=>match y with
   | .int k' b=>match op with
     | .shl=>none
     | .shr=>none
     | .quo=>none
     | .rem=>none
     | op=>if k=k' then qnd op k a b else none
   | _=>none
 | .str a=>match y with
   | .str b=>match op with
     | .add=>none
     | op=>qjs op a b
   | _=>none
 | .agg xs=>match y with
   | .agg ys=>match T.get t with
     | some i=>match i.sk with
       | some ks=>match op with
         | .eql=>(Q9 ks xs ys).map .bool
         | .neq=>(Q9 ks xs ys).map fun b=> .bool (!b)
         | _=>none
       | none=>none
     | none=>none
   | _=>none
 | x =>match T.get t with
   | some i=>bif eqtF i.eqt x then match op with
      | .eql=>(eqAV x y).map .bool
      | .neq=>(eqAV x y).map fun b=> .bool (!b)
      | _=>none
     else none
   | none=>none
def q7g (T:TT) (src dst:TypeId) (x:AV):Option AV:=
 match T.get src with
 | some _=>match T.get dst with
   | some d=>match x with
     | .int _ m=>match d.int with
       | some k=>some (.int k (k.wrap m))
       | none=>none
     | .str s=>bif d.str then some (.str s) else none
     | _=>none
   | none=>none
 | none=>none
def qmg (T:TT) (s:TypeId) (x:AV) (f:Nat):Option AV:=
 match T.get s with
 | some i=>match i.fields[f]? with
   | some (_,o,k+1)=>match x with
     | .rptr cs=>some (.rptr (cs.drop o))
     | .ptr id s off=>some (.ptr id s (off+o))
     | _=>none
   | _=>none
 | none=>none
def q6d (T:TT) (t:TypeId) (cs:List AV) (off:Nat):Option AV:=
 match T.get t with
 | some i=>match i.agg with
   | true=>bif qlj (off+i.sz) cs then some (.agg ((cs.drop off).take i.sz)) else none
   | false=>cs[off]?
 | none=>none
def q1a (T:TT) (s:TypeId) (x:AV) (f:Nat):Option AV:=
 match x with
 | .agg cs=>match T.get s with
   | some i=>match i.fields[f]? with
     | some (ft,off,_)=>q6d T ft cs off
     | none=>none
   | none=>none
 | _=>none
def lenF (T:TT) (t:TypeId) (x:AV):Option AV:=
 match T.get t with
 | some i=>match x with
   | .str s=>bif i.str then some (.int .i64 s.size) else none
   | .sl _ _ l=>match i.elem with | some _=>some (.int .i64 l.length) | none=>none
   | .bs _ _ _ _ len=>match i.elem with | some _=>some (.int .i64 len) | none=>none
   | _=>none
 | none=>none
def q1h (T:TT) (t:TypeId) (ps:List (Nat × AV)):Option AV:=
 match T.get t with
 | some i =>match i.zero with
   | some z=>match i.places with
     | some pl=>match Yu (pl[·]?) z ps with
       | some cs=>bif cs.all (·.one) then some (.agg cs) else none
       | none=>none
     | none=>match i.arr with
       | some (_,_,k)=>match Yu (fun i=>some (i*k,k)) z ps with
         | some cs=>bif cs.all (·.one) then some (.agg cs) else none
         | none=>none
       | none=>none
   | none=>none
 | none=>none
def qj9 (T:TT) (t:TypeId) (len:Nat) (ps:List (Nat × AV)):OpR:=
 match T.get t with
 | some i=>match i.elem with
   | some (e,k)=>match T.get e with
     | some ie=>bif Nat.ble (len*k) 16777216 && Nat.blt 0 (len*k) && ie.zero.isSome then
        match Yu (fun i=>some (i*k,k)) (List.replicate (len*k) .undef) ps with
        | some cs=>bif cs.all (·.one) && cs.all (·.closed) then .lst k true (qhe k len cs) else .no
        | none=> .no
       else .no
     | none=> .no
   | none=> .no
 | none=> .no
def q2a (t:Bool) (x y:AV):Option AV:=
 match x with
 | .bool a=>match y with
   | .bool b=>some (.bool (if t=true then a else b))
   | _=>none
 | .int k a=>match y with
   | .int k' b=>if k=k' then some (.int k (if t=true then a else b)) else none
   | _=>none
 | .str a=>match y with
   | .str b=>some (.str (if t=true then a else b))
   | _=>none
 | _=>none
def qnv (T:TT) (b:Builtin) (ts:List TypeId) (xs:List AV):Option AV:=
 match b with
 | .len=>match ts with
   | [t]=>match xs with
     | [x]=>lenF T t x
     | _=>none
   | _=>none
 | .max=>match xs with
   | [.int k a, .int k' b]=>if k=k' then some (.int k (if b > a then b else a)) else none
   | _=>none
 | .min=>match xs with
   | [.int k a, .int k' b]=>if k=k' then some (.int k (if b < a then b else a)) else none
   | _=>none
 | _=>none
def qi4 (kn:List Nat):Operand→Bool
 | .const (.bool _)=>true
 | .tmp t=>kn.any (Nat.beq t)
 | _=>false
def opR (T:TT) (kn:List Nat) (e:Operand→AV) (objs:Objs):Op→OpR
 | .move x=> .val (e x)
 | .assign x=> .val (e x)
 | .pick c a b=>match e c with
   | .bool t=>bif qi4 kn c then (match t with | true=> .val (e a) | false=> .val (e b)) else ofO (q2a t (e a) (e b))
   | _=> .no
 | .alloc t=>match T.get t with
   | some i=>match i.zero with
     | some z=>bif z.all (·.one) then .push (.var t z) else .no
     | none=> .no
   | none=> .no
 | .box t x=>match W4 (e x) with
   | some cs=> .push (.var t cs)
   | none=> .no
 | .build t ps=>ofO (q1h T t (ps.toList.map fun q=>(q.1,e q.2)))
 | .buildSlice t len ps=>qj9 T t len (ps.toList.map fun q=>(q.1,e q.2))
 | .load t a=>match qnu objs (e a) with
   | some cs=>ofO (q17 T t cs)
   | none=> .no
 | .store t a x=>q0q T objs t (e a) (e x)
 | .nilCheck x=>ofO (qif (e x))
 | .binOp op t x y _=>ofO (binF T op t (e x) (e y))
 | .unOp op _ x=>ofO (unAV op (e x))
 | .convert src dst x=>ofO (q7g T src dst (e x))
 | .makeInterface t x=>match T.get t with
   | some i=>bif i.plain then .val (.iface t (e x)) else .no
   | none=> .no
 | .makeFunc fn first caps=>match fn with
   | .func f=>match first.toList with
     | []=> .val (.fn f (caps.toList.map e))
     | _=> .no
   | _=> .no
 | .fieldAddr s x f=>ofO (qmg T s (e x) f)
 | .field s x f=>ofO (q1a T s (e x) f)
 | .extract x i=>ofO (qha (e x) i)
 | .call c=>match c.callee with
   | .builtin b=>ofO (qnv T b c.argTypes.toList (c.args.toList.map e))
   | _=> .no
 | _=> .no
def OpR.is (n:Nat) (objs:Objs):OpR→Option (AV × Hp)→Prop
 | .no,_=>True
 | .val x,r=>r=some (x,⟨n,objs⟩)
 | .lst sz full l,r=>r=some (.sl sz full l,⟨n,objs⟩)
 | .push o,r=>r=some (.ptr objs.length n 0,⟨n+1,objs++ [(n,o)]⟩)
 | .store id s o,r=>r=some (.undef,⟨n,objs.set id (s,o)⟩)
theorem qie {n:Nat} {objs:Objs} {z:Option AV} {r:Option AV} (h:∀x,z=some x→r=some x):(ofO z).is n objs (r.map (·,⟨n,objs⟩)):=by
 cases z with
 | none=>trivial
 | some x=>
   show r.map (·,(⟨n,objs⟩:Hp))=some (x,⟨n,objs⟩)
   rw [h x rfl];rfl
section
variable {T:TT} (hT:T.ok P fun t=>t)
include hT
theorem ti {t:TypeId} {i:TI} (h:T.get t=some i):TIok P t i:=TT.get_ok T _ hT t i h
theorem qyi {t:TypeId} {cs:List AV} {x:AV} (h:q17 T t cs=some x):ql3 P t cs=some x:=by
 unfold q17 at h
 split at h
 ·rename_i i hi
  have k:=ti hT hi
  unfold ql3
  rw [k.agg,k.sz]
  split at h
  ·rename_i ha
   rw [ha]
   cases hl:qlj i.sz cs with
   | false=>rw [hl] at h;cases h
   | true=>
     rw [hl,cond_true] at h
     simp only [if_pos (qnb _ _ hl)]
     exact h
  rename_i ha
  rw [ha];exact h
 cases h
theorem q3x {n:Nat} {objs:Objs} {t:TypeId} {q x:AV}:(q0q T objs t q x).is n objs ((Zw P ⟨n,objs⟩ t q x).map fun H'=>(AV.undef,H')):=by
 unfold q0q
 split
 ·rename_i id s off
  split
  ·rename_i xs hxs
   split
   ·rename_i i hi
    have k:=ti hT hi
    cases hl:qsg i.sz xs with
    | false=>trivial
    | true=>
      rw [cond_true]
      have hlen:=qy4 _ _ hl
      split
      ·rename_i s' ty cs ho
       rw [qv9] at ho
       cases hb:Nat.beq s' s && qlj (off+i.sz) cs with
       | false=>trivial
       | true=>
         simp only [An] at hb
         have e1:=AE hb.1
         have e2:=qnb _ _ hb.2
         subst e1
         show (Zw P ⟨n,objs⟩ t (.ptr id s' off) x).map (fun H'=>(AV.undef,H'))=some (AV.undef,(⟨n,objs.set id (s', .var ty (Zl cs off xs))⟩:Hp))
         unfold Zw
         simp only [hxs,k.sz,hlen,ho,if_true]
         rw [if_pos ⟨trivial,by omega⟩]
         rfl
      trivial
   trivial
  trivial
 trivial
theorem q89 {op:BinOp} {t:TypeId} {x y z:AV} (h:binF T op t x y=some z):qnx P op t x y=some z:=by
 unfold binF at h
 split at h
 ·split at h
  ·split at h <;> first | (cases h;done) | skip
   split at h <;> first | (cases h;done) | skip
   rename_i hk
   subst hk
   cases op <;> first | (exfalso;rename_i n1 n2 n3 n4;first | exact n1 rfl | exact n2 rfl | exact n3 rfl | exact n4 rfl) | (simp only [qnx,if_true];exact h)
  cases h
 ·split at h
  ·split at h <;> first | (cases h;done) | exact h
  cases h
 ·split at h
  ·split at h
   ·rename_i i hi
    split at h
    ·rename_i ks hks
     have:=(ti hT hi).sk _ hks
     unfold qnx
     simp only [this]
     exact h
    cases h
   cases h
  cases h
 split at h
 ·rename_i hx1 hx2 hx3 _ i hi
  cases he:eqtF i.eqt x with
  | false=>rw [he] at h;cases h
  | true=>
    rw [he,cond_true] at h
    have:=(ti hT hi).eqt x he
    unfold qnx
    split
    ·exact absurd rfl (hx1 _ _)
    ·exact absurd rfl (hx2 _)
    ·exact absurd rfl (hx3 _)
    rw [if_pos this];exact h
 cases h
theorem q7f {src dst:TypeId} {x z:AV} (h:q7g T src dst x=some z):qmi P src dst x=some z:=by
 unfold q7g at h
 split at h
 ·rename_i i hi
  have hu:∃d,P.underlying src=some d:=by
   have:=(ti hT hi).agg
   unfold aggP at this
   cases hu:P.underlying src with
   | none=>rw [hu] at this;cases this
   | some d=>exact ⟨d,rfl⟩
  obtain ⟨d0,hu⟩:=hu
  split at h
  ·rename_i d hd
   split at h
   ·split at h
    ·rename_i k hk
     simp only [qmi,hu,(ti hT hd).int _ hk];exact h
    cases h
   ·cases hs:d.str with
    | false=>rw [hs] at h;cases h
    | true=>
      rw [hs,cond_true] at h
      simp only [qmi,hu,(ti hT hd).str hs,if_true];exact h
   cases h
  cases h
 cases h
theorem qtl {s:TypeId} {x z:AV} {f:Nat} (h:qmg T s x f=some z):qbd P s x f=some z:=by
 unfold qmg at h
 split at h
 ·rename_i i hi
  split at h
  ·rename_i ft o k hf
   unfold qbd
   simp only [(ti hT hi).fields _ _ hf]
   exact h
  cases h
 cases h
theorem q6c {t:TypeId} {cs:List AV} {off:Nat} {z:AV} (h:q6d T t cs off=some z):ql4 P t cs off=some z:=by
 unfold q6d at h
 split at h
 ·rename_i i hi
  have k:=ti hT hi
  unfold ql4
  rw [k.agg,k.sz]
  split at h
  ·rename_i ha
   rw [ha]
   cases hl:qlj (off+i.sz) cs with
   | false=>rw [hl] at h;cases h
   | true=>
     rw [hl,cond_true] at h
     simp only [if_pos (qnb _ _ hl)]
     exact h
  rename_i ha
  rw [ha];exact h
 cases h
theorem q4p {s:TypeId} {x z:AV} {f:Nat} (h:q1a T s x f=some z):qk2 P s x f=some z:=by
 unfold q1a at h
 split at h
 ·split at h
  ·rename_i i hi
   split at h
   ·rename_i ft off k hf
    unfold qk2
    simp only [(ti hT hi).fields _ _ hf]
    exact q6c hT h
   cases h
  cases h
 cases h
theorem q8v {t:TypeId} {x z:AV} (h:lenF T t x=some z):qpi P t x=some z:=by
 unfold lenF at h
 split at h
 ·rename_i i hi
  have k:=ti hT hi
  split at h
  ·cases hs:i.str with
   | false=>rw [hs] at h;cases h
   | true=>rw [hs,cond_true] at h;simp only [qpi,k.str hs,if_true];exact h
  ·split at h
   ·rename_i e he;simp only [qpi,k.elem _ he];exact h
   cases h
  ·split at h
   ·rename_i e he;simp only [qpi,k.elem _ he];exact h
   cases h
  cases h
 cases h
theorem q4v {t:TypeId} {ps:List (Nat × AV)} {z:AV} (h:q1h T t ps=some z):qk4 P t ps=some z:=by
 unfold q1h at h
 split at h
 ·rename_i i hi
  have k:=ti hT hi
  split at h
  ·rename_i zz hz
   unfold qk4
   simp only [k.zero _ hz]
   split at h
   ·rename_i pl hp
    simp only [k.places _ hp]
    split at h
    ·rename_i cs hc
     cases ha:cs.all (·.one) with
     | false=>rw [ha] at h;cases h
     | true=>rw [ha,cond_true] at h;simp only [hc,ha,if_true];exact h
    cases h
   split at h
   ·rename_i m e kk he
    simp only [k.arr0 _ he,k.arr _ he]
    split at h
    ·rename_i cs hc
     cases ha:cs.all (·.one) with
     | false=>rw [ha] at h;cases h
     | true=>rw [ha,cond_true] at h;simp only [hc,ha,if_true];exact h
    cases h
   cases h
  cases h
 cases h
theorem qsm {n:Nat} {objs:Objs} {t:TypeId} {len:Nat} {ps:List (Nat × AV)}:(qj9 T t len ps).is n objs ((W5 P t len ps).map (·,⟨n,objs⟩)):=by
 unfold qj9
 split
 ·rename_i i hi
  split
  ·rename_i e kk he
   split
   ·rename_i ie hie
    cases hc:Nat.ble (len*kk) 16777216 && Nat.blt 0 (len*kk) && ie.zero.isSome with
    | false=>trivial
    | true=>
      rw [cond_true]
      simp only [An] at hc
      obtain ⟨⟨c1,c2⟩,c3⟩:=hc
      have c1:=Ap c1
      have c2:0 < len*kk:=Ap c2
      obtain ⟨zz,hzz⟩:=BK.1 c3
      unfold W5
      simp only [(ti hT hi).elem _ he,(ti hT hie).zero _ hzz,Option.isSome_some]
      rw [if_pos ⟨c1,c2,trivial⟩]
      split
      ·rename_i cs hcs
       simp only [hcs]
       cases ha:cs.all (·.one) && cs.all (·.closed) with
       | false=>trivial
       | true=>
         simp only [An] at ha
         rw [if_pos ha];rfl
      trivial
   trivial
  trivial
 trivial
omit hT in
theorem q6a {t:Bool} {x y z:AV} (h:q2a t x y=some z):qoo t x y=z:=by
 unfold q2a at h
 split at h
 ·split at h
  ·simp only [Ac] at h;subst h;cases t <;> rfl
  cases h
 ·split at h
  ·split at h
   ·rename_i hk;subst hk
    simp only [Ac] at h;subst h;cases t <;> rfl
   cases h
  cases h
 ·split at h
  ·simp only [Ac] at h;subst h;cases t <;> rfl
  cases h
 cases h
theorem qzf {H:Hp} {b:Builtin} {ts:List TypeId} {xs:List AV} {z:AV} (h:qnv T b ts xs=some z):Qu P H b ts xs=some (z,H):=by
 unfold qnv at h
 split at h
 ·split at h
  ·split at h
   ·simp only [Qu,q8v hT h,AP]
   cases h
  cases h
 ·split at h
  ·split at h
   ·rename_i hk;subst hk
    simp only [Ac] at h;subst h
    simp only [Qu,if_true]
   cases h
  cases h
 ·split at h
  ·split at h
   ·rename_i hk;subst hk
    simp only [Ac] at h;subst h
    simp only [Qu,if_true]
   cases h
  cases h
 cases h
theorem q6e {n:Nat} {objs:Objs} {fr:Fr} {kn:List Nat} {op:Op}:(opR T kn (ev G fr) objs op).is n objs (evalOp P G fr ⟨n,objs⟩ op):=by
 unfold opR
 split
 ·rfl
 ·rfl
 ·rename_i c a b
  simp only [evalOp]
  split
  ·rename_i t hc
   simp only [hc]
   cases qi4 kn c with
   | true=>
     rw [cond_true]
     cases t <;> rfl
   | false=>
     rw [cond_false]
     cases hp:q2a t (ev G fr a) (ev G fr b) with
     | none=>trivial
     | some z=>rw [q6a hp];rfl
  trivial
 ·simp only [evalOp]
  split
  ·rename_i i hi
   split
   ·rename_i z hz
    simp only [(ti hT hi).zero _ hz]
    cases ha:z.all (·.one) with
    | false=>trivial
    | true=>rw [if_pos rfl];rfl
   trivial
  trivial
 ·simp only [evalOp]
  split
  ·rename_i cs hc;rw [hc];rfl
  trivial
 ·exact qie fun x hx=>q4v hT hx
 ·exact qsm hT
 ·simp only [evalOp]
  split
  ·rename_i cs hc
   rw [qpm hc]
   exact qie fun x hx=>qyi hT hx
  trivial
 ·exact q3x hT
 ·exact qie fun x hx=>hx
 ·exact qie fun x hx=>q89 hT hx
 ·exact qie fun x hx=>hx
 ·exact qie fun x hx=>q7f hT hx
 ·simp only [evalOp]
  split
  ·rename_i i hi
   cases hp:i.plain with
   | false=>trivial
   | true=>rw [cond_true,if_pos ((ti hT hi).plain hp)];rfl
  trivial
 ·simp only [evalOp]
  split
  ·split
   ·rename_i h;simp only [h];rfl
   trivial
  trivial
 ·exact qie fun x hx=>qtl hT hx
 ·exact qie fun x hx=>q4p hT hx
 ·exact qie fun x hx=>hx
 ·rename_i c
  simp only [evalOp,Kc]
  split
  ·rename_i b hb
   simp only [hb]
   cases hz:qnv T b c.argTypes.toList (c.args.toList.map (ev G fr)) with
   | none=>trivial
   | some z=>rw [qzf hT hz];rfl
  trivial
 trivial
end
end Go.Proofs.YtpnkemogepoioaaGreatDoorW.Ex
