/- A symbolic executor for the machine's code, part T: runs by computation. General over the program; no conditions beside those in each theorem. -/
import Derived.Test.YtpnkemogepoioaaGreatDoorExS
namespace Go.Proofs.YtpnkemogepoioaaGreatDoorW.Ex
set_option linter.all false
open Go
set_option linter.unusedVariables false
set_option linter.unusedSimpArgs false
variable {G:Nat→List AV} {P:Program} {N p:Nat}
abbrev Objs:=List (Nat × Obj)
inductive OpR where
 | no
 | val (x:AV)
 | lst (sz:Nat) (full:Bool) (l:List (List AV))
 | push (o:Obj)
 | store (id s:Nat) (o:Obj)
def ofO:Option AV→OpR
 | none=> .no
 | some x=> .val x
def nthO:Objs→Nat→Option (Nat × Obj)
 | [],_=>none
 | x::l,i=>bif Nat.beq i 0 then some x else nthO l (i - 1)
theorem qtw:∀(l:Objs) (i:Nat),nthO l i=l[i]?
 | [],i=>by simp [nthO]
 | x::l,0=>rfl
 | x::l,i+1=>by simp only [nthO,show Nat.beq (i+1) 0=false from rfl,cond_false,Nat.add_sub_cancel,Bc];exact qtw l i
def qi9 {α:Type}:Nat→List α→Bool
 | 0,_=>true
 | _+1, []=>false
 | k+1,_::l=>qi9 k l
theorem qkw {α:Type}:∀(k:Nat) (l:List α),qi9 k l=true→k≤l.length
 | 0,_,_=>AD _
 | k+1, [],h=>by simp [qi9] at h
 | k+1,_::l,h=>by have:=qkw k l (by simpa [qi9] using h);simpa using this
def qp3 {α:Type}:Nat→List α→Bool
 | 0, []=>true
 | k+1,_::l=>qp3 k l
 | _,_=>false
theorem qwz {α:Type}:∀(k:Nat) (l:List α),qp3 k l=true→l.length=k
 | 0, [],_=>rfl
 | 0,_::_,h=>by simp [qp3] at h
 | k+1, [],h=>by simp [qp3] at h
 | k+1,_::l,h=>by have:=qwz k l (by simpa [qp3] using h);simpa using this
def qlc (objs:Objs):AV→Option (List AV)
 | .rptr cs=>some cs
 | .ptr id s off=>match nthO objs id with
   | some (s', .var _ cs)=>bif Nat.beq s' s then some (cs.drop off) else none
   | _=>none
 | _=>none
theorem qnc {n:Nat} {objs:Objs} {x:AV} {cs:List AV} (h:qlc objs x=some cs):Js ⟨n,objs⟩ x=some cs:=by
 unfold qlc at h
 split at h
 ·exact h
 ·rename_i id s off
  split at h
  ·rename_i s' ty cs' ho
   rw [qtw] at ho
   cases hb:Nat.beq s' s with
   | false=>rw [hb] at h;cases h
   | true=>
     rw [hb,cond_true] at h
     simp only [Js,ho,if_pos (AF hb)]
     exact h
  cases h
 cases h
def qzp (T:TT) (t:TypeId) (cs:List AV):Option AV:=
 match T.get t with
 | some i=>match i.agg with
   | true=>bif qi9 i.sz cs then some (.agg (cs.take i.sz)) else none
   | false=>cs.head?
 | none=>none
def qx3 (T:TT) (objs:Objs) (t:TypeId) (q x:AV):OpR:=
 match q with
 | .ptr id s off=>match K1 x with
   | some xs=>match T.get t with
     | some i=>bif qp3 i.sz xs then match nthO objs id with
        | some (s', .var ty cs)=>bif Nat.beq s' s && qi9 (off+i.sz) cs then .store id s (.var ty (Qu cs off xs)) else .no
        | _=> .no
       else .no
     | none=> .no
   | none=> .no
 | _=> .no
def binF (T:TT) (op:BinOp) (t:TypeId) (x y:AV):Option AV:=
 match x with
 | .int k a=>match y with
   | .int k' b=>match op with
     | .shl=>none
     | .shr=>none
     | .quo=>none
     | .rem=>none
     | op=>if k=k' then qky op k a b else none
   | _=>none
 | .str a=>match y with
   | .str b=>match op with
     | .add=>none
     | op=>qhh op a b
   | _=>none
 | .agg xs=>match y with
   | .agg ys=>match T.get t with
     | some i=>match i.sk with
       | some ks=>match op with
         | .eql=>(Qo ks xs ys).map .bool
         | .neq=>(Qo ks xs ys).map fun b=> .bool (!b)
         | _=>none
       | none=>none
     | none=>none
   | _=>none
 | x =>match T.get t with
   | some i=>bif eqtF i.eqt x then match op with
      | .eql=>(eqAV x y).map .bool
      | .neq=>(eqAV x y).map fun b=> .bool (!b)
      | _=>none
     else none
   | none=>none
def q5f (T:TT) (src dst:TypeId) (x:AV):Option AV:=
 match T.get src with
 | some _=>match T.get dst with
   | some d=>match x with
     | .int _ m=>match d.int with
       | some k=>some (.int k (k.wrap m))
       | none=>none
     | .str s=>bif d.str then some (.str s) else none
     | _=>none
   | none=>none
 | none=>none
def qj1 (T:TT) (s:TypeId) (x:AV) (f:Nat):Option AV:=
 match T.get s with
 | some i=>match i.fields[f]? with
   | some (_,o,k+1)=>match x with
     | .rptr cs=>some (.rptr (cs.drop o))
     | .ptr id s off=>some (.ptr id s (off+o))
     | _=>none
   | _=>none
 | none=>none
def q38 (T:TT) (t:TypeId) (cs:List AV) (off:Nat):Option AV:=
 match T.get t with
 | some i=>match i.agg with
   | true=>bif qi9 (off+i.sz) cs then some (.agg ((cs.drop off).take i.sz)) else none
   | false=>cs[off]?
 | none=>none
def qyo (T:TT) (s:TypeId) (x:AV) (f:Nat):Option AV:=
 match x with
 | .agg cs=>match T.get s with
   | some i=>match i.fields[f]? with
     | some (ft,off,_)=>q38 T ft cs off
     | none=>none
   | none=>none
 | _=>none
def lenF (T:TT) (t:TypeId) (x:AV):Option AV:=
 match T.get t with
 | some i=>match x with
   | .str s=>bif i.str then some (.int .i64 s.size) else none
   | .sl _ _ l=>match i.elem with | some _=>some (.int .i64 l.length) | none=>none
   | .bs _ _ _ _ len=>match i.elem with | some _=>some (.int .i64 len) | none=>none
   | _=>none
 | none=>none
def qyx (T:TT) (t:TypeId) (ps:List (Nat × AV)):Option AV:=
 match T.get t with
 | some i =>match i.zero with
   | some z=>match i.places with
     | some pl=>match Jv (pl[·]?) z ps with
       | some cs=>bif cs.all (·.one) then some (.agg cs) else none
       | none=>none
     | none=>match i.arr with
       | some (_,_,k)=>match Jv (fun i=>some (i*k,k)) z ps with
         | some cs=>bif cs.all (·.one) then some (.agg cs) else none
         | none=>none
       | none=>none
   | none=>none
 | none=>none
def qh1 (T:TT) (t:TypeId) (len:Nat) (ps:List (Nat × AV)):OpR:=
 match T.get t with
 | some i=>match i.elem with
   | some (e,k)=>match T.get e with
     | some ie=>bif Nat.ble (len*k) 16777216 && Nat.blt 0 (len*k) && ie.zero.isSome then
        match Jv (fun i=>some (i*k,k)) (List.replicate (len*k) .undef) ps with
        | some cs=>bif cs.all (·.one) && cs.all (·.closed) then .lst k true (qfi k len cs) else .no
        | none=> .no
       else .no
     | none=> .no
   | none=> .no
 | none=> .no
def qzs (t:Bool) (x y:AV):Option AV:=
 match x with
 | .bool a=>match y with
   | .bool b=>some (.bool (if t=true then a else b))
   | _=>none
 | .int k a=>match y with
   | .int k' b=>if k=k' then some (.int k (if t=true then a else b)) else none
   | _=>none
 | .str a=>match y with
   | .str b=>some (.str (if t=true then a else b))
   | _=>none
 | _=>none
def qld (T:TT) (b:Builtin) (ts:List TypeId) (xs:List AV):Option AV:=
 match b with
 | .len=>match ts with
   | [t]=>match xs with
     | [x]=>lenF T t x
     | _=>none
   | _=>none
 | .max=>match xs with
   | [.int k a, .int k' b]=>if k=k' then some (.int k (if b > a then b else a)) else none
   | _=>none
 | .min=>match xs with
   | [.int k a, .int k' b]=>if k=k' then some (.int k (if b < a then b else a)) else none
   | _=>none
 | _=>none
def qg1 (kn:List Nat):Operand→Bool
 | .const (.bool _)=>true
 | .tmp t=>kn.any (Nat.beq t)
 | _=>false
def opR (T:TT) (kn:List Nat) (e:Operand→AV) (objs:Objs):Op→OpR
 | .move x=> .val (e x)
 | .assign x=> .val (e x)
 | .pick c a b=>match e c with
   | .bool t=>bif qg1 kn c then (match t with | true=> .val (e a) | false=> .val (e b)) else ofO (qzs t (e a) (e b))
   | _=> .no
 | .alloc t=>match T.get t with
   | some i=>match i.zero with
     | some z=>bif z.all (·.one) then .push (.var t z) else .no
     | none=> .no
   | none=> .no
 | .box t x=>match K1 (e x) with
   | some cs=> .push (.var t cs)
   | none=> .no
 | .build t ps=>ofO (qyx T t (ps.toList.map fun q=>(q.1,e q.2)))
 | .buildSlice t len ps=>qh1 T t len (ps.toList.map fun q=>(q.1,e q.2))
 | .load t a=>match qlc objs (e a) with
   | some cs=>ofO (qzp T t cs)
   | none=> .no
 | .store t a x=>qx3 T objs t (e a) (e x)
 | .nilCheck x=>ofO (qf9 (e x))
 | .binOp op t x y _=>ofO (binF T op t (e x) (e y))
 | .unOp op _ x=>ofO (unAV op (e x))
 | .convert src dst x=>ofO (q5f T src dst (e x))
 | .makeInterface t x=>match T.get t with
   | some i=>bif i.plain then .val (.iface t (e x)) else .no
   | none=> .no
 | .makeFunc fn first caps=>match fn with
   | .func f=>match first.toList with
     | []=> .val (.fn f (caps.toList.map e))
     | _=> .no
   | _=> .no
 | .fieldAddr s x f=>ofO (qj1 T s (e x) f)
 | .field s x f=>ofO (qyo T s (e x) f)
 | .extract x i=>ofO (qfe (e x) i)
 | .call c=>match c.callee with
   | .builtin b=>ofO (qld T b c.argTypes.toList (c.args.toList.map e))
   | _=> .no
 | _=> .no
def OpR.is (n:Nat) (objs:Objs):OpR→Option (AV × Hp)→Prop
 | .no,_=>True
 | .val x,r=>r=some (x,⟨n,objs⟩)
 | .lst sz full l,r=>r=some (.sl sz full l,⟨n,objs⟩)
 | .push o,r=>r=some (.ptr objs.length n 0,⟨n+1,objs++ [(n,o)]⟩)
 | .store id s o,r=>r=some (.undef,⟨n,objs.set id (s,o)⟩)
theorem qf8 {n:Nat} {objs:Objs} {z:Option AV} {r:Option AV} (h:∀x,z=some x→r=some x):(ofO z).is n objs (r.map (·,⟨n,objs⟩)):=by
 cases z with
 | none=>trivial
 | some x=>
   show r.map (·,(⟨n,objs⟩:Hp))=some (x,⟨n,objs⟩)
   rw [h x rfl];rfl
section
variable {T:TT} (hT:T.ok P fun t=>t)
include hT
theorem ti {t:TypeId} {i:TI} (h:T.get t=some i):TIok P t i:=TT.get_ok T _ hT t i h
theorem qv5 {t:TypeId} {cs:List AV} {x:AV} (h:qzp T t cs=some x):qjp P t cs=some x:=by
 unfold qzp at h
 split at h
 ·rename_i i hi
  have k:=ti hT hi
  unfold qjp
  rw [k.agg,k.sz]
  split at h
  ·rename_i ha
   rw [ha]
   cases hl:qi9 i.sz cs with
   | false=>rw [hl] at h;cases h
   | true=>
     rw [hl,cond_true] at h
     simp only [if_pos (qkw _ _ hl)]
     exact h
  rename_i ha
  rw [ha];exact h
 cases h
theorem q1s {n:Nat} {objs:Objs} {t:TypeId} {q x:AV}:(qx3 T objs t q x).is n objs ((Q6 P ⟨n,objs⟩ t q x).map fun H'=>(AV.undef,H')):=by
 unfold qx3
 split
 ·rename_i id s off
  split
  ·rename_i xs hxs
   split
   ·rename_i i hi
    have k:=ti hT hi
    cases hl:qp3 i.sz xs with
    | false=>trivial
    | true=>
      rw [cond_true]
      have hlen:=qwz _ _ hl
      split
      ·rename_i s' ty cs ho
       rw [qtw] at ho
       cases hb:Nat.beq s' s && qi9 (off+i.sz) cs with
       | false=>trivial
       | true=>
         simp only [An] at hb
         have e1:=AF hb.1
         have e2:=qkw _ _ hb.2
         subst e1
         show (Q6 P ⟨n,objs⟩ t (.ptr id s' off) x).map (fun H'=>(AV.undef,H'))=some (AV.undef,(⟨n,objs.set id (s', .var ty (Qu cs off xs))⟩:Hp))
         unfold Q6
         simp only [hxs,k.sz,hlen,ho,if_true]
         rw [if_pos ⟨trivial,by omega⟩]
         rfl
      trivial
   trivial
  trivial
 trivial
theorem q7f {op:BinOp} {t:TypeId} {x y z:AV} (h:binF T op t x y=some z):qlf P op t x y=some z:=by
 unfold binF at h
 split at h
 ·split at h
  ·split at h <;> first | (cases h;done) | skip
   split at h <;> first | (cases h;done) | skip
   rename_i hk
   subst hk
   cases op <;> first | (exfalso;rename_i n1 n2 n3 n4;first | exact n1 rfl | exact n2 rfl | exact n3 rfl | exact n4 rfl) | (simp only [qlf,if_true];exact h)
  cases h
 ·split at h
  ·split at h <;> first | (cases h;done) | exact h
  cases h
 ·split at h
  ·split at h
   ·rename_i i hi
    split at h
    ·rename_i ks hks
     have:=(ti hT hi).sk _ hks
     unfold qlf
     simp only [this]
     exact h
    cases h
   cases h
  cases h
 split at h
 ·rename_i hx1 hx2 hx3 _ i hi
  cases he:eqtF i.eqt x with
  | false=>rw [he] at h;cases h
  | true=>
    rw [he,cond_true] at h
    have:=(ti hT hi).eqt x he
    unfold qlf
    split
    ·exact absurd rfl (hx1 _ _)
    ·exact absurd rfl (hx2 _)
    ·exact absurd rfl (hx3 _)
    rw [if_pos this];exact h
 cases h
theorem q5e {src dst:TypeId} {x z:AV} (h:q5f T src dst x=some z):qj3 P src dst x=some z:=by
 unfold q5f at h
 split at h
 ·rename_i i hi
  have hu:∃d,P.underlying src=some d:=by
   have:=(ti hT hi).agg
   unfold aggP at this
   cases hu:P.underlying src with
   | none=>rw [hu] at this;cases this
   | some d=>exact ⟨d,rfl⟩
  obtain ⟨d0,hu⟩:=hu
  split at h
  ·rename_i d hd
   split at h
   ·split at h
    ·rename_i k hk
     simp only [qj3,hu,(ti hT hd).int _ hk];exact h
    cases h
   ·cases hs:d.str with
    | false=>rw [hs] at h;cases h
    | true=>
      rw [hs,cond_true] at h
      simp only [qj3,hu,(ti hT hd).str hs,if_true];exact h
   cases h
  cases h
 cases h
theorem qrf {s:TypeId} {x z:AV} {f:Nat} (h:qj1 T s x f=some z):W8 P s x f=some z:=by
 unfold qj1 at h
 split at h
 ·rename_i i hi
  split at h
  ·rename_i ft o k hf
   unfold W8
   simp only [(ti hT hi).fields _ _ hf]
   exact h
  cases h
 cases h
theorem q37 {t:TypeId} {cs:List AV} {off:Nat} {z:AV} (h:q38 T t cs off=some z):qjq P t cs off=some z:=by
 unfold q38 at h
 split at h
 ·rename_i i hi
  have k:=ti hT hi
  unfold qjq
  rw [k.agg,k.sz]
  split at h
  ·rename_i ha
   rw [ha]
   cases hl:qi9 (off+i.sz) cs with
   | false=>rw [hl] at h;cases h
   | true=>
     rw [hl,cond_true] at h
     simp only [if_pos (qkw _ _ hl)]
     exact h
  rename_i ha
  rw [ha];exact h
 cases h
theorem q2j {s:TypeId} {x z:AV} {f:Nat} (h:qyo T s x f=some z):qis P s x f=some z:=by
 unfold qyo at h
 split at h
 ·split at h
  ·rename_i i hi
   split at h
   ·rename_i ft off k hf
    unfold qis
    simp only [(ti hT hi).fields _ _ hf]
    exact q37 hT h
   cases h
  cases h
 cases h
theorem q6x {t:TypeId} {x z:AV} (h:lenF T t x=some z):qm5 P t x=some z:=by
 unfold lenF at h
 split at h
 ·rename_i i hi
  have k:=ti hT hi
  split at h
  ·cases hs:i.str with
   | false=>rw [hs] at h;cases h
   | true=>rw [hs,cond_true] at h;simp only [qm5,k.str hs,if_true];exact h
  ·split at h
   ·rename_i e he;simp only [qm5,k.elem _ he];exact h
   cases h
  ·split at h
   ·rename_i e he;simp only [qm5,k.elem _ he];exact h
   cases h
  cases h
 cases h
theorem q2o {t:TypeId} {ps:List (Nat × AV)} {z:AV} (h:qyx T t ps=some z):qiu P t ps=some z:=by
 unfold qyx at h
 split at h
 ·rename_i i hi
  have k:=ti hT hi
  split at h
  ·rename_i zz hz
   unfold qiu
   simp only [k.zero _ hz]
   split at h
   ·rename_i pl hp
    simp only [k.places _ hp]
    split at h
    ·rename_i cs hc
     cases ha:cs.all (·.one) with
     | false=>rw [ha] at h;cases h
     | true=>rw [ha,cond_true] at h;simp only [hc,ha,if_true];exact h
    cases h
   split at h
   ·rename_i m e kk he
    simp only [k.arr0 _ he,k.arr _ he]
    split at h
    ·rename_i cs hc
     cases ha:cs.all (·.one) with
     | false=>rw [ha] at h;cases h
     | true=>rw [ha,cond_true] at h;simp only [hc,ha,if_true];exact h
    cases h
   cases h
  cases h
 cases h
theorem qqe {n:Nat} {objs:Objs} {t:TypeId} {len:Nat} {ps:List (Nat × AV)}:(qh1 T t len ps).is n objs ((K2 P t len ps).map (·,⟨n,objs⟩)):=by
 unfold qh1
 split
 ·rename_i i hi
  split
  ·rename_i e kk he
   split
   ·rename_i ie hie
    cases hc:Nat.ble (len*kk) 16777216 && Nat.blt 0 (len*kk) && ie.zero.isSome with
    | false=>trivial
    | true=>
      rw [cond_true]
      simp only [An] at hc
      obtain ⟨⟨c1,c2⟩,c3⟩:=hc
      have c1:=Ao c1
      have c2:0 < len*kk:=Ao c2
      obtain ⟨zz,hzz⟩:=BE.1 c3
      unfold K2
      simp only [(ti hT hi).elem _ he,(ti hT hie).zero _ hzz,Option.isSome_some]
      rw [if_pos ⟨c1,c2,trivial⟩]
      split
      ·rename_i cs hcs
       simp only [hcs]
       cases ha:cs.all (·.one) && cs.all (·.closed) with
       | false=>trivial
       | true=>
         simp only [An] at ha
         rw [if_pos ha];rfl
      trivial
   trivial
  trivial
 trivial
omit hT in
theorem q35 {t:Bool} {x y z:AV} (h:qzs t x y=some z):ql6 t x y=z:=by
 unfold qzs at h
 split at h
 ·split at h
  ·simp only [Ab] at h;subst h;cases t <;> rfl
  cases h
 ·split at h
  ·split at h
   ·rename_i hk;subst hk
    simp only [Ab] at h;subst h;cases t <;> rfl
   cases h
  cases h
 ·split at h
  ·simp only [Ab] at h;subst h;cases t <;> rfl
  cases h
 cases h
theorem qw9 {H:Hp} {b:Builtin} {ts:List TypeId} {xs:List AV} {z:AV} (h:qld T b ts xs=some z):v6 P H b ts xs=some (z,H):=by
 unfold qld at h
 split at h
 ·split at h
  ·split at h
   ·simp only [v6,q6x hT h,Ba]
   cases h
  cases h
 ·split at h
  ·split at h
   ·rename_i hk;subst hk
    simp only [Ab] at h;subst h
    simp only [v6,if_true]
   cases h
  cases h
 ·split at h
  ·split at h
   ·rename_i hk;subst hk
    simp only [Ab] at h;subst h
    simp only [v6,if_true]
   cases h
  cases h
 cases h
theorem q39 {n:Nat} {objs:Objs} {fr:Fr} {kn:List Nat} {op:Op}:(opR T kn (ev G fr) objs op).is n objs (evalOp P G fr ⟨n,objs⟩ op):=by
 unfold opR
 split
 ·rfl
 ·rfl
 ·rename_i c a b
  simp only [evalOp]
  split
  ·rename_i t hc
   simp only [hc]
   cases qg1 kn c with
   | true=>
     rw [cond_true]
     cases t <;> rfl
   | false=>
     rw [cond_false]
     cases hp:qzs t (ev G fr a) (ev G fr b) with
     | none=>trivial
     | some z=>rw [q35 hp];rfl
  trivial
 ·simp only [evalOp]
  split
  ·rename_i i hi
   split
   ·rename_i z hz
    simp only [(ti hT hi).zero _ hz]
    cases ha:z.all (·.one) with
    | false=>trivial
    | true=>rw [if_pos rfl];rfl
   trivial
  trivial
 ·simp only [evalOp]
  split
  ·rename_i cs hc;rw [hc];rfl
  trivial
 ·exact qf8 fun x hx=>q2o hT hx
 ·exact qqe hT
 ·simp only [evalOp]
  split
  ·rename_i cs hc
   rw [qnc hc]
   exact qf8 fun x hx=>qv5 hT hx
  trivial
 ·exact q1s hT
 ·exact qf8 fun x hx=>hx
 ·exact qf8 fun x hx=>q7f hT hx
 ·exact qf8 fun x hx=>hx
 ·exact qf8 fun x hx=>q5e hT hx
 ·simp only [evalOp]
  split
  ·rename_i i hi
   cases hp:i.plain with
   | false=>trivial
   | true=>rw [cond_true,if_pos ((ti hT hi).plain hp)];rfl
  trivial
 ·simp only [evalOp]
  split
  ·split
   ·rename_i h;simp only [h];rfl
   trivial
  trivial
 ·exact qf8 fun x hx=>qrf hT hx
 ·exact qf8 fun x hx=>q2j hT hx
 ·exact qf8 fun x hx=>hx
 ·rename_i c
  simp only [evalOp,Jx]
  split
  ·rename_i b hb
   simp only [hb]
   cases hz:qld T b c.argTypes.toList (c.args.toList.map (ev G fr)) with
   | none=>trivial
   | some z=>rw [qw9 hT hz];rfl
  trivial
 trivial
end
end Go.Proofs.YtpnkemogepoioaaGreatDoorW.Ex
