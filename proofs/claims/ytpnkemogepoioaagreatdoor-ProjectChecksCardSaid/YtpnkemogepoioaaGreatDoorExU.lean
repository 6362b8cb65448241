/- A symbolic executor for the machine's code, part U: runs of code by computation, and the rules at the places where a run stops. General over the program; no conditions beside those in each theorem. -/
import Derived.Test.YtpnkemogepoioaaGreatDoorExT
namespace Go.Proofs.YtpnkemogepoioaaGreatDoorW.Ex
set_option linter.all false
open Go
variable {D:List Deferred}
set_option linter.unusedVariables false
set_option linter.unusedSimpArgs false
variable {G:Nat→List AV} {P:Program} {N p:Nat}
section
variable {α:Type}
def qaf (n:Nat) (k:Nat→α):α:=match n with
 | 0=>k 0
 | m+1=>k (m+1)
theorem qcv (n:Nat) (k:Nat→α):qaf n k=k n:=by cases n <;> rfl
def qsc (x:AV) (k:AV→α):α:=match x with
 | .undef=>k .undef
 | .bool b=>k (.bool b)
 | .int a b=>k (.int a b)
 | .str a=>k (.str a)
 | .nilp=>k .nilp
 | .ptr i s o=>qaf i fun i=>qaf s fun s=>k (.ptr i s o)
 | .optr i s o=>qaf i fun i=>qaf s fun s=>k (.optr i s o)
 | .rptr cs=>k (.rptr cs)
 | .bs a i s o l=>qaf a fun a=>qaf i fun i=>qaf s fun s=>k (.bs a i s o l)
 | .sl a b c=>qaf a fun a=>k (.sl a b c)
 | .fn f c=>k (.fn f c)
 | .nilf=>k .nilf
 | .agg cs=>k (.agg cs)
 | .tup vs=>k (.tup vs)
 | .iface t v=>k (.iface t v)
 | .nili=>k .nili
 | .mp a b l=>k (.mp a b l)
theorem qu2 (x:AV) (k:AV→α):qsc x k=k x:=by cases x <;> simp only [qsc,qcv]
def qme:List AV→(List AV→α)→α
 | [],k=>k []
 | x::xs,k=>qsc x fun x=>qme xs fun xs=>k (x::xs)
theorem qk1:∀(l:List AV) (k:List AV→α),qme l k=k l
 | [],_=>rfl
 | x::xs,k=>by simp only [qme,qu2,qk1 xs]
def qsb (x:AV) (k:AV→α):α:=match x with
 | .agg cs=>qme cs fun cs=>k (.agg cs)
 | .fn f c=>qme c fun c=>k (.fn f c)
 | .iface t v=>qsc v fun v=>k (.iface t v)
 | x=>qsc x k
theorem qos (x:AV) (k:AV→α):qsb x k=k x:=by cases x <;> simp only [qsb,qu2,qk1]
def qnl:List AV→(List AV→α)→α
 | [],k=>k []
 | x::xs,k=>qsb x fun x=>qnl xs fun xs=>k (x::xs)
theorem qmd:∀(l:List AV) (k:List AV→α),qnl l k=k l
 | [],_=>rfl
 | x::xs,k=>by simp only [qnl,qos,qmd xs]
def qmc (x:AV) (k:AV→α):α:=match x with
 | .tup vs=>qnl vs fun vs=>k (.tup vs)
 | x=>qsb x k
theorem qk0 (x:AV) (k:AV→α):qmc x k=k x:=by cases x <;> simp only [qmc,qos,qmd]
def qqo:List (List AV)→(List (List AV)→α)→α
 | [],k=>k []
 | x::xs,k=>qme x fun x=>qqo xs fun xs=>k (x::xs)
theorem qsa:∀(l:List (List AV)) (k:List (List AV)→α),qqo l k=k l
 | [],_=>rfl
 | x::xs,k=>by simp only [qqo,qk1,qsa xs]
def qr8 (o:Obj) (k:Obj→α):α:=match o with
 | .dead=>k .dead
 | .var t cs=>qme cs fun cs=>k (.var t cs)
 | .row t cs=>k (.row t cs)
 | .froz t cs=>k (.froz t cs)
theorem qor (o:Obj) (k:Obj→α):qr8 o k=k o:=by cases o <;> simp only [qr8,qk1]
def qqn:List Nat→(List Nat→α)→α
 | [],k=>k []
 | n::l,k=>qaf n fun n=>qqn l fun l=>k (n::l)
theorem qr9:∀(l:List Nat) (k:List Nat→α),qqn l k=k l
 | [],_=>rfl
 | x::xs,k=>by simp only [qqn,qcv,qr9 xs]
def lenK:Objs→Nat→(Nat→α)→α
 | [],a,k=>k a
 | _::l,a,k=>qaf (a+1) fun a=>lenK l a k
theorem q2j:∀(l:Objs) (a:Nat) (k:Nat→α),lenK l a k=k (a+l.length)
 | [],a,k=>rfl
 | x::l,a,k=>by simp only [lenK,qcv,q2j l,Af,BE,Nat.add_comm 1]
def q1z:Objs→Nat × Obj→(Objs→α)→α
 | [],x,k=>k [x]
 | y::l,x,k=>q1z l x fun l=>k (y::l)
theorem qx8:∀(l:Objs) (x:Nat × Obj) (k:Objs→α),q1z l x k=k (l++ [x])
 | [],x,k=>rfl
 | y::l,x,k=>by simp only [q1z,qx8 l,Bq]
def qun:Objs→Nat→Nat × Obj→(Objs→α)→α
 | [],_,_,k=>k []
 | y::l,i,x,k=>bif Nat.beq i 0 then k (x::l) else qun l (i - 1) x fun l=>k (y::l)
theorem qrd:∀(l:Objs) (i:Nat) (x:Nat × Obj) (k:Objs→α),qun l i x k=k (l.set i x)
 | [],i,x,k=>rfl
 | y::l,0,x,k=>rfl
 | y::l,i+1,x,k=>by simp only [qun,show Nat.beq (i+1) 0=false from rfl,cond_false,Nat.add_sub_cancel,qrd l,List.set_cons_succ]
end
section
variable {Q:Exit→Fr→Hp→Prop} {fr:Fr} {H:Hp}
def zbn (P:Program) (c:Code) (Q:Exit→Act→World→Prop) (a:Act) (w:World):Prop:=
 ∀(b:Frame) (k:List Go.Item) (cs:List Frame),∃e a' w',Q e a' w'∧Arrives P (lone (b.at a (.code c:: .inLoop c::k)) cs w) b k cs e a' w'
def qtd (P:Program) (G:Nat→List AV) (N p:Nat) (c:Code) (Q:Exit→Fr→Hp→Prop) (fr:Fr) (H:Hp):Prop:=
 ∀D w S F β a,p≤H.n→HR G w S F β H→FRx D w S β H.n N fr a→zbn P c (fun e a' w'=>∃fr' H' S' β',Q e fr' H'∧Ext w S F β p w' S' β' p∧p≤H'.n∧HR G w' S' F β' H'∧FRx D w' S' β' H'.n N fr' a') a w
theorem qxl {c:Code} (h:qtd P G N p c Q fr H):AWp P G N p (.loop c) Q fr H:=by
 intro D w S F β a hp hH hf b k cs
 obtain ⟨e,a',w',q,harr⟩:=h D w S F β a hp hH hf b k cs
 exact ⟨e,a',w',q, .of_steps (.one step_loop) harr⟩
theorem qxm {c:Code} (h:AWp P G N p c (qap (qtd P G N p c Q) Q) fr H):qtd P G N p c Q fr H:=by
 intro D w S F β a hp hH hf b k cs
 obtain ⟨e,a1,w1,⟨fr1,H1,S1,β1,q,hx1,hp1,hH1,hf1⟩,harr⟩:=h D w S F β a hp hH hf b (.inLoop c::k) cs
 cases e with
 | normal=>
   obtain ⟨e2,a2,w2,⟨fr2,H2,S2,β2,q2,hx2,r2⟩,harr2⟩:=q D w1 S1 F β1 a1 hp1 hH1 hf1 b k cs
   exact ⟨e2,a2,w2,⟨fr2,H2,S2,β2,q2,hx1.trans hx2,r2⟩, .of_steps (Steps.trans harr (.one step_inLoop)) harr2⟩
 | exit id=>exact ⟨_,a1,w1,⟨fr1,H1,S1,β1,q,hx1,hp1,hH1,hf1⟩, .pass (x:= .inLoop c) rfl (fun _ _=> .inl (by simp)) harr⟩
 | goto l=>exact ⟨_,a1,w1,⟨fr1,H1,S1,β1,q,hx1,hp1,hH1,hf1⟩, .pass (x:= .inLoop c) rfl (fun _ _=> .inl (by simp)) harr⟩
 | ret=>exact ⟨_,a1,w1,⟨fr1,H1,S1,β1,q,hx1,hp1,hH1,hf1⟩, .pass (x:= .inLoop c) rfl (fun _ _=> .inl (by simp)) harr⟩
 | panic ch=>exact ⟨_,a1,w1,⟨fr1,H1,S1,β1,q,hx1,hp1,hH1,hf1⟩, .pass (x:= .inLoop c) rfl (fun _ _=> .inl (by simp)) harr⟩
 | outgrown=>exact ⟨_,a1,w1,⟨fr1,H1,S1,β1,q,hx1,hp1,hH1,hf1⟩, .pass (x:= .inLoop c) rfl (fun _ _=> .inl (by simp)) harr⟩
end
inductive Item where
 | code (c:Code)
 | blk (id:Nat)
 | ops (d:Bool) (all:Array Oper) (os:List Oper)
 | bar
 | inl (c:Code)
def wpX (P:Program) (G:Nat→List AV) (d:Bool) (ops:Array Oper) (os:List Oper) (fr:Fr) (H:Hp) (K:Exit→Fr→Hp→Prop):Prop:=
 match d with
 | true=>wpD P G ops os fr H (K .normal)
 | false=>wpL P G ops os fr H K
def QK (P:Program) (G:Nat→List AV) (N p:Nat) (Q:Exit→Fr→Hp→Prop):List Item→Exit→Fr→Hp→Prop
 | []=>Q
 | .code c::k=>qap (AWp P G N p c (QK P G N p Q k)) (QK P G N p Q k)
 | .blk id::k=>qaq id (QK P G N p Q k)
 | .bar::k=>QK P G N p Q k
 | .inl c::k=>qap (qtd P G N p c (QK P G N p Q k)) (QK P G N p Q k)
 | .ops d all os::k=>fun e fr H=>match e with
   | .normal=>wpX P G d all os fr H (QK P G N p Q k)
   | _=>False
def Jj (N:Nat):Code→Bool
 | .region _ ops d=>ops.toList.all (fun o=>o.dst.all (· < N)) && (!d || qsh ops)
 | .seq a b=>Jj N a && Jj N b
 | .cond _ a b=>Jj N a && Jj N b
 | .block _ b=>Jj N b
 | .loop b=>Jj N b
 | _=>true
def wd (N:Nat):List Item→Bool
 | []=>true
 | .code c::k=>Jj N c && wd N k
 | .inl c::k=>Jj N c && wd N k
 | _::k=>wd N k
def puts:List (Nat × AV)→Fr→Fr
 | [],fr=>fr
 | (t,x)::ps,fr=>puts ps (put (some t) x fr)
def putB (u:Option Tmp) (b:Bool) (fr:Fr):Fr:=match u with
 | some t=>put (some t) (.bool b) fr
 | none=>fr
def putP (u:Option Tmp) (b:Bool):List (Nat × AV):=match u with
 | some t=> [(t, .bool b)]
 | none=> []
def q19 (u:Option Tmp) (kn:List Nat):List Nat:=match u with
 | some t=>t::kn
 | none=>kn
def q1y:Operand→Option Tmp
 | .tmp t=>some t
 | _=>none
def q63 (all:Array Oper) (j:Nat):Option Tmp:=(all[j]?).bind (·.dst)
inductive Cfg where
 | go (ps:List (Nat × AV)) (k:List Item) (kn:List Nat) (fr:FT) (n:Nat) (objs:Objs)
 | cond (b:Bool) (u:Option Tmp) (x y:Code) (k:List Item) (kn:List Nat) (fr:FT) (n:Nat) (objs:Objs)
 | guard (b want:Bool) (t:Tmp) (d:Bool) (all:Array Oper) (o:Oper) (os:List Oper) (k:List Item) (kn:List Nat) (fr:FT) (n:Nat) (objs:Objs)
 | call (f:FuncId) (xs:List AV) (dst:Option Tmp) (d:Bool) (all:Array Oper) (os:List Oper) (k:List Item) (kn:List Nat) (fr:FT) (n:Nat) (objs:Objs)
 | gen (o:Oper) (d:Bool) (all:Array Oper) (os:List Oper) (k:List Item) (kn:List Nat) (fr:FT) (n:Nat) (objs:Objs)
 | loop (c:Code) (k:List Item) (kn:List Nat) (fr:FT) (n:Nat) (objs:Objs)
 | again (c:Code) (k:List Item) (fr:FT) (n:Nat) (objs:Objs)
 | bar (k:List Item) (fr:FT) (n:Nat) (objs:Objs)
 | fin (e:Exit) (k:List Item) (fr:FT) (n:Nat) (objs:Objs)
def okIf (N:Nat) (k:List Item) (h:Prop):Prop:=wd N k=true→h
def Ok (P:Program) (G:Nat→List AV) (T:TT) (N p:Nat) (Q:Exit→Fr→Hp→Prop):Cfg→Prop
 | .go ps k kn fr n objs=>okIf N k (QK P G N p Q k .normal (puts ps (frT fr)) ⟨n,objs⟩)
 | .cond b u x y k kn fr n objs=>okIf N (.code x:: .code y::k) ((b=true→AWp P G N p x (QK P G N p Q k) (putB u true (frT fr)) ⟨n,objs⟩)∧(b=false→AWp P G N p y (QK P G N p Q k) (putB u false (frT fr)) ⟨n,objs⟩))
 | .guard b want t d all o os k kn fr n objs=>okIf N k ((b=want→wpX P G d all (Oper.free o::os) (put (some t) (.bool want) (frT fr)) ⟨n,objs⟩ (QK P G N p Q k))∧
    (b= !want→wpX P G d all os (put o.dst (.tup []) (put (some t) (.bool (!want)) (frT fr))) ⟨n,objs⟩ (QK P G N p Q k)))
 | .call f xs dst d all os k kn fr n objs=>okIf N k ((∃x,Fn P G f xs x∧wpX P G d all os (put dst x (frT fr)) ⟨n,objs⟩ (QK P G N p Q k))∨
    (∃x H',(d=true→(cwOf all).1=true∧qpk G all.toList (frT fr) ⟨n,objs⟩ H')∧ACalls P G f xs ⟨n,objs⟩ x H'∧wpX P G d all os (put dst x (frT fr)) H' (QK P G N p Q k))∨(∃ch,d=false∧FCalls P G f xs ⟨n,objs⟩ ch∧QK P G N p Q k (.panic ch) (frT fr) ⟨n, []⟩))
 | .gen o d all os k kn fr n objs=>okIf N k ((∃x H',(d=true→qd2 G all (frT fr) objs o.op=true)∧evalOp P G (frT fr) ⟨n,objs⟩ o.op=some (x,H')∧wpX P G d all os (put o.dst x (frT fr)) H' (QK P G N p Q k))∨
    (∃c x,o.op= .call c∧Yv P G (frT fr) c=some x∧wpX P G d all os (put o.dst x (frT fr)) ⟨n,objs⟩ (QK P G N p Q k))∨
    (∃x H',d=false∧qsx P G (frT fr) ⟨n,objs⟩ o.op x H'∧wpX P G d all os (put o.dst x (frT fr)) H' (QK P G N p Q k))∨
    (∃x t k' i,d=false∧o.op= .panic x∧ev G (frT fr) x= .iface t (.int k' i)∧QK P G N p Q k (.panic [{v:= .iface t (.int k' i),recovered:=false}]) (frT fr) ⟨n, []⟩))
 | .loop c k kn fr n objs=>okIf N (.code c::k) (AWp P G N p (.loop c) (QK P G N p Q k) (frT fr) ⟨n,objs⟩)
 | .again c k fr n objs=>okIf N (.code c::k) (qtd P G N p c (QK P G N p Q k) (frT fr) ⟨n,objs⟩)
 | .bar k fr n objs=>okIf N k (QK P G N p Q k .normal (frT fr) ⟨n,objs⟩)
 | .fin e k fr n objs=>okIf N k (QK P G N p Q k e (frT fr) ⟨n,objs⟩)
def setD {α:Type} (d:Option Tmp) (fr:FT) (x:AV) (k:FT→Option α):Option α:=match d with
 | none=>k fr
 | some t=>FT.setK 10 fr t x k
theorem qib {α:Type} {c:α} {d:Option Tmp} {fr:FT} {x:AV} {k:FT→Option α} (h:setD d fr x k=some c):∃fr',frT fr'=put d x (frT fr)∧k fr'=some c:=by
 unfold setD at h
 cases d with
 | none=>exact ⟨fr,rfl,h⟩
 | some t=>
   obtain ⟨fr',h1,h2⟩:=FT.setK_ok _ _ _ _ _ h
   exact ⟨fr',h1.put,h2⟩
def unkn (d:Option Tmp) (kn:List Nat):List Nat:=match d with
 | none=>kn
 | some t=>kn.filter fun u=> !Nat.beq t u
def q8z (kn:List Nat) (e:Operand→AV):Op→Bool
 | .move x=>qi4 kn x
 | .assign x=>qi4 kn x
 | .unOp _ _ x=>qi4 kn x
 | .pick c a b=>bif qi4 kn c then (match e c with | .bool true=>qi4 kn a | .bool false=>qi4 kn b | _=>false) else false
 | _=>false
def zaz (kn:List Nat) (e:Operand→AV) (o:Oper):List Nat:=match o.dst with
 | none=>kn
 | some t=>match q8z kn e o.op with
   | true=>t::kn
   | false=>match kn with
     | []=> []
     | kn=>kn.filter fun u=> !Nat.beq t u
def qhc (id:Nat):List Item→Option (List Item)
 | .blk i::k=>bif Nat.beq id i then some k else qhc id k
 | .code _::k=>qhc id k
 | .bar::k=>qhc id k
 | .inl _::k=>qhc id k
 | _=>none
def barC {α:Type} (bars:List Nat) (c:Operand) (k:List Item) (j:List Item→α):α:=match bars with
 | []=>j k
 | bars=>match c with
   | .tmp t=>bif bars.any (Nat.beq t) then j (.bar::k) else j k
   | _=>j k
def barB {α:Type} (bars:List Nat) (id:Nat) (k:List Item) (j:List Item→α):α:=match bars with
 | []=>j k
 | bars=>bif bars.any (Nat.beq (1000000+id)) then j (.bar::k) else j k
theorem q9b {α:Type} {bars:List Nat} {c:Operand} {k:List Item} {j:List Item→α}:barC bars c k j=j k∨barC bars c k j=j (.bar::k):=by
 unfold barC
 split
 ·exact .inl rfl
 split
 ·cases List.any _ _ with
  | true=>exact .inr rfl
  | false=>exact .inl rfl
 exact .inl rfl
theorem q9c {α:Type} {bars:List Nat} {id:Nat} {k:List Item} {j:List Item→α}:barB bars id k j=j k∨barB bars id k j=j (.bar::k):=by
 unfold barB
 split
 ·exact .inl rfl
 cases List.any _ _ with
 | true=>exact .inr rfl
 | false=>exact .inl rfl
def barR {α:Type} (bars:List Nat) (id:Nat) (k:List Item) (j:List Item→α):α:=match bars with
 | []=>j k
 | bars=>bif bars.any (Nat.beq (2000000+id)) then j (.bar::k) else j k
theorem q9a {α:Type} {bars:List Nat} {id:Nat} {k:List Item} {j:List Item→α}:barR bars id k j=j k∨barR bars id k j=j (.bar::k):=by
 unfold barR
 split
 ·exact .inl rfl
 cases List.any _ _ with
 | true=>exact .inr rfl
 | false=>exact .inl rfl
def barO (bars:List Nat) (d:Option Tmp):Bool:=match bars with
 | []=>false
 | bars=>match d with
   | some t=>bars.any (Nat.beq (3000000+t))
   | none=>false
def runK (T:TT) (G:Nat→List AV) (bars:List Nat):Nat→List (Nat × AV)→List Item→List Nat→FT→Nat→Objs→Option Cfg
 | 0,ps,k,kn,fr,n,objs=>none
 | m+1,(t,x)::ps,k,kn,fr,n,objs=>qmc x fun x=>FT.setK 10 fr t x fun fr=>runK T G bars m ps k kn fr n objs
 | m+1, [], [],kn,fr,n,objs=>some (.fin .normal [] fr n objs)
 | m+1, [], .blk _::k,kn,fr,n,objs=>runK T G bars m [] k kn fr n objs
 | m+1, [], .bar::k,kn,fr,n,objs=>some (.bar k fr n objs)
 | m+1, [], .inl c::k,kn,fr,n,objs=>some (.again c k fr n objs)
 | m +1, [], .code c::k,kn,fr,n,objs=>match c with
   | .skip=>runK T G bars m [] k kn fr n objs
   | .seq a b=>runK T G bars m [] (.code a:: .code b::k) kn fr n objs
   | .block id b=>barB bars id k fun k=>runK T G bars m [] (.code b:: .blk id::k) kn fr n objs
   | .region id ops d=>barR bars id k fun k=>runK T G bars m [] (.ops d ops ops.toList::k) kn fr n objs
   | .cond c a b=>match ev G (frT fr) c with
     | .bool t=>barC bars c k fun k=>bif qi4 kn c then (match t with | true=>runK T G bars m [] (.code a::k) kn fr n objs | false=>runK T G bars m [] (.code b::k) kn fr n objs) else some (.cond t (q1y c) a b k kn fr n objs)
     | _=>none
   | .loop b=>some (.loop b k kn fr n objs)
   | .exit id=>match qhc id k with
     | some k'=>runK T G bars m [] k' kn fr n objs
     | none=>some (.fin (.exit id) k fr n objs)
   | .ret=>some (.fin .ret k fr n objs)
   | _=>none
 | m+1, [], .ops d all []::k,kn,fr,n,objs=>runK T G bars m [] k kn fr n objs
 | m + 1, [], .ops d all (o::os)::k,kn,fr,n,objs=>match o.guard with
   | some (j,want)=>match q63 all j with
     | some t=>match fr.get t with
       | .bool b=>bif kn.any (Nat.beq t) then (match b,want with
          | true,true=>runK T G bars m [] (.ops d all (⟨o.dst,o.op,o.type,o.pos,o.after,none⟩::os)::k) kn fr n objs
          | false,false=>runK T G bars m [] (.ops d all (⟨o.dst,o.op,o.type,o.pos,o.after,none⟩::os)::k) kn fr n objs
          | _,_=>setD o.dst fr (.tup []) fun fr=>runK T G bars m [] (.ops d all os::k) (unkn o.dst kn) fr n objs)
         else some (.guard b want t d all o os k kn fr n objs)
       | .tup []=>setD o.dst fr (.tup []) fun fr=>runK T G bars m [] (.ops d all os::k) (unkn o.dst kn) fr n objs
       | _=>none
     | none=>none
   | none =>bif (d && !qd2 G all (frT fr) objs o.op) || barO bars o.dst then some (.gen o d all os k kn fr n objs) else match opR T kn (ev G (frT fr)) objs o.op with
     | .val x=>qqn (zaz kn (ev G (frT fr)) o) fun kn=>qmc x fun x=>setD o.dst fr x fun fr=>runK T G bars m [] (.ops d all os::k) kn fr n objs
     | .lst sz full l=>qaf sz fun sz=>qqo l fun l=>setD o.dst fr (.sl sz full l) fun fr=>runK T G bars m [] (.ops d all os::k) (unkn o.dst kn) fr n objs
     | .push ob=>qr8 ob fun ob=>lenK objs 0 fun i=>q1z objs (n,ob) fun objs=>qaf (n+1) fun n'=>setD o.dst fr (.ptr i n 0) fun fr=>runK T G bars m [] (.ops d all os::k) kn fr n' objs
     | .store id s ob=>qr8 ob fun ob=>qun objs id (s,ob) fun objs=>setD o.dst fr .undef fun fr=>runK T G bars m [] (.ops d all os::k) kn fr n objs
     | .no=>match o.op with
       | .call c=>match wr G (frT fr) c with
         | some (f,xs)=>qnl xs fun xs=>some (.call f xs o.dst d all os k kn fr n objs)
         | none=>some (.gen o d all os k kn fr n objs)
       | _=>some (.gen o d all os k kn fr n objs)
section
variable {T:TT} {Q:Exit→Fr→Hp→Prop}
theorem qqu {d:Bool} {all:Array Oper} {o:Oper} {os:List Oper} {fr:Fr} {H H':Hp} {K:Exit→Fr→Hp→Prop} {x:AV} (hg:o.guard=none) (hs:d=true→qd2 G all fr H.objs o.op=true) (h:evalOp P G fr H o.op=some (x,H')) (hk:wpX P G d all os (put o.dst x fr) H' K):wpX P G d all (o::os) fr H K:=by
 cases d
 ·exact zah hg h hk
 exact zai hg (hs rfl) h hk
theorem q47 {d:Bool} {all:Array Oper} {o:Oper} {os:List Oper} {fr:Fr} {H:Hp} {K:Exit→Fr→Hp→Prop} {c:Call} {x:AV} (hg:o.guard=none) (ho:o.op= .call c) (h:Yv P G fr c=some x) (hk:wpX P G d all os (put o.dst x fr) H K):wpX P G d all (o::os) fr H K:=by
 cases d
 ·exact q49 hg ho h hk
 exact q5b hg ho h hk
theorem q48 {d:Bool} {all:Array Oper} {o:Oper} {os:List Oper} {fr:Fr} {H:Hp} {K:Exit→Fr→Hp→Prop} {c:Call} {f:FuncId} {xs:List AV} {x:AV} (hg:o.guard=none) (ho:o.op= .call c) (hc:wr G fr c=some (f,xs)) (h:Fn P G f xs x) (hk:wpX P G d all os (put o.dst x fr) H K):wpX P G d all (o::os) fr H K:=by
 cases d
 ·exact q5a hg ho hc h hk
 exact q5c hg ho hc h hk
theorem qrm {fr:Fr} {t:Nat} {x:AV} (h:fr t=x):put (some t) x fr=fr:=funext fun i=>by
 rw [u1]
 by_cases hi:i=t
 ·rw [if_pos hi,hi,h]
 rw [if_neg hi]
theorem qus {fr:Fr} {c:Operand} {b:Bool} (h:ev G fr c= .bool b):putB (q1y c) b fr=fr:=by
 cases c with
 | tmp t=>exact qrm h
 | _=>rfl
theorem qg0 {d want b:Bool} {t j:Nat} {all:Array Oper} {o:Oper} {os:List Oper} {fr:Fr} {H:Hp} {K:Exit→Fr→Hp→Prop} (hg:o.guard=some (j,want)) (ht:(all[j]?).bind (·.dst)=some t) (hb:fr t= .bool b)
 (hy:b=want→wpX P G d all (Oper.free o::os) fr H K) (hn:b= !want→wpX P G d all os (put o.dst (.tup []) fr) H K):wpX P G d all (o::os) fr H K:=by
 cases d
 ·cases want
  ·exact qxp hg ht hb hy hn
  exact qxo hg ht hb hy hn
 cases want
 ·exact qxs hg ht hb hy hn
 exact qxr hg ht hb hy hn
theorem q0a {d want:Bool} {t j:Nat} {all:Array Oper} {o:Oper} {os:List Oper} {fr:Fr} {H:Hp} {K:Exit→Fr→Hp→Prop} (hg:o.guard=some (j,want)) (ht:(all[j]?).bind (·.dst)=some t) (hb:fr t= .tup [])
 (h:wpX P G d all os (put o.dst (.tup []) fr) H K):wpX P G d all (o::os) fr H K:=by
 cases d
 ·exact q0c hg ht hb h
 exact q0g hg ht hb h
theorem qoi {next:Fr→Hp→Prop} {e:Exit} {fr:Fr} {H:Hp} (he:e≠ .normal) (h:Q e fr H):qap next Q e fr H:=by
 cases e <;> first | exact absurd rfl he | exact h
theorem qhb {id:Nat} {fr:Fr} {H:Hp}:∀(k k':List Item),qhc id k=some k'→(wd N k=true→wd N k'=true)∧(QK P G N p Q k' .normal fr H→QK P G N p Q k (.exit id) fr H)
 | [],_,h=>by simp [qhc] at h
 | .ops _ _ _::_,_,h=>by simp [qhc] at h
 | .code c::k,k',h=>by
   obtain ⟨h1,h2⟩:=qhb k k' (by simpa [qhc] using h)
   exact ⟨fun hk=>h1 (by simp only [wd,An] at hk;exact hk.2),fun q=>qi2 (h2 q)⟩
 | .inl c::k,k',h=>by
   obtain ⟨h1,h2⟩:=qhb k k' (by simpa [qhc] using h)
   exact ⟨fun hk=>h1 (by simp only [wd,An] at hk;exact hk.2),fun q=>qi2 (h2 q)⟩
 | .bar::k,k',h=>by
   obtain ⟨h1,h2⟩:=qhb k k' (by simpa [qhc] using h)
   exact ⟨h1,h2⟩
 | .blk i::k,k',h=>by
   simp only [qhc] at h
   cases hb:Nat.beq id i with
   | true=>
     have:=AE hb;subst this
     rw [hb,cond_true] at h
     cases h
     exact ⟨fun hk=>hk,fun q=>qt8 q⟩
   | false=>
     rw [hb,cond_false] at h
     obtain ⟨h1,h2⟩:=qhb k k' h
     exact ⟨fun hk=>h1 hk,fun q=>qkq (by rw [←hb]) (h2 q)⟩
theorem Jx {bars:List Nat} (hT:T.ok P fun t=>t) (hm:P.follows .mixedOrders=true):∀(m:Nat) (ps:List (Nat × AV)) (k:List Item) (kn:List Nat) (fr:FT) (n:Nat) (objs:Objs) (c:Cfg),
 runK T G bars m ps k kn fr n objs=some c→Ok P G T N p Q c→Ok P G T N p Q (.go ps k kn fr n objs)
 | 0,ps,k,kn,fr,n,objs,c,h,hc=>by simp [runK] at h
 | m+1,(t,x)::ps,k,kn,fr,n,objs,c,h,hc=>by
   simp only [runK,qk0] at h
   obtain ⟨fr',h1,h2⟩:=FT.setK_ok _ _ _ _ _ h
   have:=Jx hT hm m ps k kn fr' n objs c h2 hc
   intro hk
   have:=this hk
   simp only [puts]
   rw [←h1.put]
   exact this
 | m+1, [], [],kn,fr,n,objs,c,h,hc=>by
   simp only [runK,Ac] at h
   subst h
   exact hc
 | m+1, [], .blk id::k,kn,fr,n,objs,c,h,hc=>by
   have:=Jx hT hm m [] k kn fr n objs c (by simpa only [runK] using h) hc
   exact fun hk=>qjc (this hk)
 | m+1, [], .bar::k,kn,fr,n,objs,c,h,hc=>by
   simp only [runK,Ac] at h
   subst h
   exact hc
 | m+1, [], .inl b::k,kn,fr,n,objs,c,h,hc=>by
   simp only [runK,Ac] at h
   subst h
   exact hc
 | m+1, [], .ops d all []::k,kn,fr,n,objs,c,h,hc=>by
   have:=Jx hT hm m [] k kn fr n objs c (by simpa only [runK] using h) hc
   intro hk
   have:=this hk
   cases d
   ·exact this
   exact this
 | m + 1, [], .code cd::k,kn,fr,n,objs,c,h,hc=>by
   intro hk
   have hk':Jj N cd=true∧wd N k=true:=by simpa only [wd,An] using hk
   show qap (AWp P G N p cd (QK P G N p Q k)) (QK P G N p Q k) .normal (puts [] (frT fr)) ⟨n,objs⟩
   refine qae ?_
   show AWp P G N p cd (QK P G N p Q k) (frT fr) ⟨n,objs⟩
   cases cd with
   | skip=>
     have:=Jx hT hm m [] k kn fr n objs c (by simpa only [runK] using h) hc
     exact qz7 (this hk'.2)
   | seq a b=>
     have:=Jx hT hm m [] (.code a:: .code b::k) kn fr n objs c (by simpa only [runK] using h) hc
     have hab:Jj N a=true∧Jj N b=true:=by simpa only [Jj,An] using hk'.1
     exact qxk (this (by simp only [wd,hab.1,hab.2,hk'.2,Bm]))
   | block id b=>
     simp only [runK] at h
     rcases q9c (bars:=bars) (id:=id) (k:=k) (j:=fun k=>runK T G bars m [] (.code b:: .blk id::k) kn fr n objs) with e | e
     ·rw [e] at h
      have:=Jx hT hm m [] (.code b:: .blk id::k) kn fr n objs c h hc
      exact qvm (this (by simp only [wd,show Jj N b=true from hk'.1,hk'.2,Bm]))
     rw [e] at h
     have:=Jx hT hm m [] (.code b:: .blk id:: .bar::k) kn fr n objs c h hc
     exact qvm (this (by simp only [wd,show Jj N b=true from hk'.1,hk'.2,Bm]))
   | region id ops d=>
     simp only [runK] at h
     have hw:wpX P G d ops ops.toList (frT fr) ⟨n,objs⟩ (QK P G N p Q k):=by
      rcases q9a (bars:=bars) (id:=id) (k:=k) (j:=fun k=>runK T G bars m [] (.ops d ops ops.toList::k) kn fr n objs) with e | e
      ·rw [e] at h
       exact Jx hT hm m [] (.ops d ops ops.toList::k) kn fr n objs c h hc hk'.2
      rw [e] at h
      exact Jx hT hm m [] (.ops d ops ops.toList:: .bar::k) kn fr n objs c h hc hk'.2
     have h1:=hk'.1
     simp only [Jj,An,Bu,Bool.not_eq_true'] at h1
     obtain ⟨ops⟩:=ops
     cases d with
     | false=>exact q1s h1.1 hw
     | true=>exact q8f hm h1.1 (h1.2.resolve_left (by simp)) hw
   | cond o a b=>
     have hab:Jj N a=true∧Jj N b=true:=by simpa only [Jj,An] using hk'.1
     simp only [runK] at h
     split at h
     ·rename_i t ht
      have key:∀k',QK P G N p Q k'=QK P G N p Q k→wd N k'=true→
       (bif qi4 kn o then (match t with | true=>runK T G bars m [] (.code a::k') kn fr n objs | false=>runK T G bars m [] (.code b::k') kn fr n objs) else some (.cond t (q1y o) a b k' kn fr n objs))=some c→
       AWp P G N p (.cond o a b) (QK P G N p Q k) (frT fr) ⟨n,objs⟩:=by
       intro k' hq hk2 h
       rw [←hq]
       cases hkn:qi4 kn o with
       | true=>
         rw [hkn,cond_true] at h
         cases t with
         | true=>
           have:=Jx hT hm m [] (.code a::k') kn fr n objs c h hc
           exact qt7 ht (this (by simp only [wd,hab.1,hk2,Bm]))
         | false=>
           have:=Jx hT hm m [] (.code b::k') kn fr n objs c h hc
           exact qtc ht (this (by simp only [wd,hab.2,hk2,Bm]))
       | false=>
         rw [hkn,cond_false] at h
         simp only [Ac] at h
         subst h
         obtain ⟨h1,h2⟩:=hc (by simp only [wd,hab.1,hab.2,hk2,Bm])
         refine qoh ht (fun e=> ?_) (fun e=> ?_)
         ·have:=h1 e
          rwa [qus (by rw [←e];exact ht)] at this
         have:=h2 e
         rwa [qus (by rw [←e];exact ht)] at this
      rcases q9b (bars:=bars) (c:=o) (k:=k) (j:=fun k=>bif qi4 kn o then (match t with | true=>runK T G bars m [] (.code a::k) kn fr n objs | false=>runK T G bars m [] (.code b::k) kn fr n objs) else some (.cond t (q1y o) a b k kn fr n objs)) with e | e
      ·rw [e] at h
       exact key k rfl hk'.2 h
      rw [e] at h
      exact key (.bar::k) rfl hk'.2 h
     cases h
   | loop b=>
     simp only [runK,Ac] at h
     subst h
     exact hc (by simp only [wd,show Jj N b=true from hk'.1,hk'.2,Bm])
   | exit id=>
     simp only [runK] at h
     split at h
     ·rename_i k' hx
      obtain ⟨h1,h2⟩:=qhb (P:=P) (G:=G) (N:=N) (p:=p) (Q:=Q) (fr:=frT fr) (H:=⟨n,objs⟩) k k' hx
      have:=Jx hT hm m [] k' kn fr n objs c h hc
      exact qz8 (h2 (this (h1 hk'.2)))
     simp only [Ac] at h
     subst h
     exact qz8 (hc hk'.2)
   | ret=>
     simp only [runK,Ac] at h
     subst h
     exact q3j (hc hk'.2)
   | _=>simp [runK] at h
 | m + 1, [], .ops d all (o::os)::k,kn,fr,n,objs,c,h,hc=>by
   intro hk
   have hk:wd N k=true:=hk
   show wpX P G d all (o::os) (frT fr) ⟨n,objs⟩ (QK P G N p Q k)
   simp only [runK] at h
   split at h
   ·rename_i j want hg
    split at h
    ·rename_i t ht
     split at h
     ·rename_i b hb
      cases hkn:kn.any (Nat.beq t) with
      | true=>
        rw [hkn,cond_true] at h
        have free:runK T G bars m [] (.ops d all (⟨o.dst,o.op,o.type,o.pos,o.after,none⟩::os)::k) kn fr n objs=some c→wpX P G d all (Oper.free o::os) (frT fr) ⟨n,objs⟩ (QK P G N p Q k):=fun h=>
         Jx hT hm m [] (.ops d all (⟨o.dst,o.op,o.type,o.pos,o.after,none⟩::os)::k) kn fr n objs c h hc hk
        have skip:(setD o.dst fr (.tup []) fun fr=>runK T G bars m [] (.ops d all os::k) (unkn o.dst kn) fr n objs)=some c→wpX P G d all os (put o.dst (.tup []) (frT fr)) ⟨n,objs⟩ (QK P G N p Q k):=fun h=>by
         obtain ⟨fr',e,h'⟩:=qib h
         rw [←e]
         exact Jx hT hm m [] (.ops d all os::k) (unkn o.dst kn) fr' n objs c h' hc hk
        cases b <;> cases want
        ·exact qg0 hg ht hb (fun _=>free h) (fun h=>by cases h)
        ·exact qg0 hg ht hb (fun h=>by cases h) (fun _=>skip h)
        ·exact qg0 hg ht hb (fun h=>by cases h) (fun _=>skip h)
        exact qg0 hg ht hb (fun _=>free h) (fun h=>by cases h)
      | false=>
        rw [hkn,cond_false] at h
        simp only [Ac] at h
        subst h
        obtain ⟨h1,h2⟩:=hc hk
        refine qg0 hg ht hb (fun e=> ?_) (fun e=> ?_)
        ·have:=h1 e
         rwa [qrm (by rw [←e];exact hb)] at this
        have:=h2 e
        rwa [qrm (t:=t) (x:= .bool (!want)) (by rw [←e];exact hb)] at this
     ·rename_i hb
      obtain ⟨fr',e,h'⟩:=qib h
      refine q0a hg ht hb ?_
      rw [←e]
      exact Jx hT hm m [] (.ops d all os::k) (unkn o.dst kn) fr' n objs c h' hc hk
     cases h
    cases h
   rename_i hg
   have gen:some (Cfg.gen o d all os k kn fr n objs)=some c→wpX P G d all (o::os) (frT fr) ⟨n,objs⟩ (QK P G N p Q k):=fun h=>by
    simp only [Ac] at h
    subst h
    rcases hc hk with ⟨x,H',h0,h1,h2⟩ | ⟨cl,x,h0,h1,h2⟩ | ⟨x,H',rfl,h1,h2⟩ | ⟨x,t,k',i,rfl,h0,h1,h2⟩
    ·exact qqu hg h0 h1 h2
    ·exact q47 hg h0 h1 h2
    ·exact q8h hg h1 h2
    exact q3k hg h0 h1 h2
   have hop:=q6e (G:=G) hT (n:=n) (objs:=objs) (fr:=frT fr) (kn:=kn) (op:=o.op)
   cases hds:((d && !qd2 G all (frT fr) objs o.op) || barO bars o.dst) with
   | true=>
     rw [hds,cond_true] at h
     exact gen h
   | false=>
   rw [hds,cond_false] at h
   have hs:d=true→qd2 G all (frT fr) objs o.op=true:=fun e=>by
    subst e
    simp only [Bh,Bool.or_eq_false_iff,Bool.not_eq_false'] at hds
    exact hds.1
   split at h
   ·rename_i x hx
    rw [hx] at hop
    simp only [qk0,qr9] at h
    obtain ⟨fr',e,h'⟩:=qib h
    refine qqu hg hs hop ?_
    rw [←e]
    exact Jx hT hm m [] (.ops d all os::k) _ fr' n objs c h' hc hk
   ·rename_i sz full l hx
    rw [hx] at hop
    simp only [qcv,qsa] at h
    obtain ⟨fr',e,h'⟩:=qib h
    refine qqu hg hs hop ?_
    rw [←e]
    exact Jx hT hm m [] (.ops d all os::k) _ fr' n objs c h' hc hk
   ·rename_i ob hx
    rw [hx] at hop
    simp only [qor,q2j,qx8,qcv,AO] at h
    obtain ⟨fr',e,h'⟩:=qib h
    refine qqu hg hs hop ?_
    rw [←e]
    exact Jx hT hm m [] (.ops d all os::k) _ fr' _ _ c h' hc hk
   ·rename_i id s ob hx
    rw [hx] at hop
    simp only [qor,qrd] at h
    obtain ⟨fr',e,h'⟩:=qib h
    refine qqu hg hs hop ?_
    rw [←e]
    exact Jx hT hm m [] (.ops d all os::k) _ fr' _ _ c h' hc hk
   split at h
   ·rename_i cl hcl
    split at h
    ·rename_i f xs hf
     simp only [qmd,Ac] at h
     subst h
     rcases hc hk with ⟨x,h1,h2⟩ | ⟨x,H',hd,h1,h2⟩ | ⟨ch,rfl,h1,h2⟩
     rotate_right
     ·exact q3l hg hcl hf h1 h2
     ·exact q48 hg hcl hf h1 h2
     cases d with
     | true=>exact q3m hg hcl hf h1 (hd rfl).1 (hd rfl).2 h2
     | false=>exact qua hg hcl hf h1 h2
    exact gen h
   exact gen h
variable {ps:List (Nat × AV)} {k:List Item} {kn:List Nat} {fr:FT} {n:Nat} {objs:Objs} {d:Bool} {all:Array Oper} {o:Oper} {os:List Oper} {dst:Option Tmp}
structure Env (P:Program) (T:TT):Prop where
 hT:T.ok P fun t=>t
 hm:P.follows .mixedOrders=true
theorem ji (E:Env P T) {c:Cfg} (h:runK T G [] 2000 ps k kn fr n objs=some c) (hc:Ok P G T N p Q c):Ok P G T N p Q (.go ps k kn fr n objs):=Jx E.hT E.hm 2000 ps k kn fr n objs c h hc
theorem q9q (E:Env P T) (bars:List Nat) {c:Cfg} (h:runK T G bars 2000 ps k kn fr n objs=some c) (hc:Ok P G T N p Q c):Ok P G T N p Q (.go ps k kn fr n objs):=Jx E.hT E.hm 2000 ps k kn fr n objs c h hc
theorem qd {b:Bool} {u:Option Tmp} {x y:Code} (h1:b=true→Ok P G T N p Q (.go (putP u true) (.code x::k) (q19 u kn) fr n objs)) (h2:b=false→Ok P G T N p Q (.go (putP u false) (.code y::k) (q19 u kn) fr n objs)):Ok P G T N p Q (.cond b u x y k kn fr n objs):=by
 intro hk
 simp only [wd,An] at hk
 cases u with
 | none=>exact ⟨fun hb=>h1 hb (by simp only [wd,hk,Bm]),fun hb=>h2 hb (by simp only [wd,hk,Bm])⟩
 | some t=>exact ⟨fun hb=>h1 hb (by simp only [wd,hk,Bm]),fun hb=>h2 hb (by simp only [wd,hk,Bm])⟩
theorem qn {b:Bool} {u:Option Tmp} {x y:Code} (hb:b=true) (h:Ok P G T N p Q (.go (putP u true) (.code x::k) (q19 u kn) fr n objs)):Ok P G T N p Q (.cond b u x y k kn fr n objs):=qd (fun _=>h) (fun e=>by rw [hb] at e;cases e)
theorem qo {b:Bool} {u:Option Tmp} {x y:Code} (hb:b=false) (h:Ok P G T N p Q (.go (putP u false) (.code y::k) (q19 u kn) fr n objs)):Ok P G T N p Q (.cond b u x y k kn fr n objs):=qd (fun e=>by rw [hb] at e;cases e) (fun _=>h)
section
variable {op:Op} {ty:TypeId} {pos:String} {aft:Array Edge} {g:Option (Nat × Bool)} {u t:Nat} {b:Bool}
theorem qyy {want:Bool} {dst:Option Tmp} (h1:b=want→Ok P G T N p Q (.go [(t, .bool want)] (.ops d all (⟨dst,op,ty,pos,aft,none⟩::os)::k) (t::kn) fr n objs))
 (h2:b= !want→Ok P G T N p Q (.go (match dst with | some u=> [(t, .bool (!want)),(u, .tup [])] | none=> [(t, .bool (!want))]) (.ops d all os::k) (t::kn) fr n objs)):Ok P G T N p Q (.guard b want t d all ⟨dst,op,ty,pos,aft,g⟩ os k kn fr n objs):=by
 intro hk
 refine ⟨fun hb=>h1 hb hk,fun hb=> ?_⟩
 have:=h2 hb
 cases dst with
 | some u=>exact this hk
 | none=>exact this hk
theorem qq (h1:b=true→Ok P G T N p Q (.go [(t, .bool true)] (.ops d all (⟨some u,op,ty,pos,aft,none⟩::os)::k) (t::kn) fr n objs))
 (h2:b=false→Ok P G T N p Q (.go [(t, .bool false),(u, .tup [])] (.ops d all os::k) (t::kn) fr n objs)):Ok P G T N p Q (.guard b true t d all ⟨some u,op,ty,pos,aft,g⟩ os k kn fr n objs):=qyy h1 h2
theorem qw (h1:b=false→Ok P G T N p Q (.go [(t, .bool false)] (.ops d all (⟨some u,op,ty,pos,aft,none⟩::os)::k) (t::kn) fr n objs))
 (h2:b=true→Ok P G T N p Q (.go [(t, .bool true),(u, .tup [])] (.ops d all os::k) (t::kn) fr n objs)):Ok P G T N p Q (.guard b false t d all ⟨some u,op,ty,pos,aft,g⟩ os k kn fr n objs):=qyy h1 h2
theorem qf (hb:b=true) (h:Ok P G T N p Q (.go [(t, .bool true)] (.ops d all (⟨some u,op,ty,pos,aft,none⟩::os)::k) (t::kn) fr n objs)):Ok P G T N p Q (.guard b true t d all ⟨some u,op,ty,pos,aft,g⟩ os k kn fr n objs):=
 qq (fun _=>h) (fun e=>by rw [hb] at e;cases e)
theorem qg (hb:b=false) (h:Ok P G T N p Q (.go [(t, .bool false),(u, .tup [])] (.ops d all os::k) (t::kn) fr n objs)):Ok P G T N p Q (.guard b true t d all ⟨some u,op,ty,pos,aft,g⟩ os k kn fr n objs):=
 qq (fun e=>by rw [hb] at e;cases e) (fun _=>h)
theorem qi (hb:b=false) (h:Ok P G T N p Q (.go [(t, .bool false)] (.ops d all (⟨some u,op,ty,pos,aft,none⟩::os)::k) (t::kn) fr n objs)):Ok P G T N p Q (.guard b false t d all ⟨some u,op,ty,pos,aft,g⟩ os k kn fr n objs):=
 qw (fun _=>h) (fun e=>by rw [hb] at e;cases e)
theorem qh (hb:b=true) (h:Ok P G T N p Q (.go [(t, .bool true),(u, .tup [])] (.ops d all os::k) (t::kn) fr n objs)):Ok P G T N p Q (.guard b false t d all ⟨some u,op,ty,pos,aft,g⟩ os k kn fr n objs):=
 qw (fun e=>by rw [hb] at e;cases e) (fun _=>h)
end
theorem qk {f:FuncId} {xs:List AV} {x:AV} {u:Tmp} (h:Fn P G f xs x) (hc:Ok P G T N p Q (.go [(u,x)] (.ops d all os::k) (unkn (some u) kn) fr n objs)):Ok P G T N p Q (.call f xs (some u) d all os k kn fr n objs):=
 fun hk=> .inl ⟨x,h,hc hk⟩
theorem qgs {x:AV} {n':Nat} {objs':Objs} {u:Tmp} {op:Op} {ty:TypeId} {pos:String} {aft:Array Edge} (hs:d=true→qd2 G all (frT fr) objs op=true) (h:evalOp P G (frT fr) ⟨n,objs⟩ op=some (x,⟨n',objs'⟩)) (hc:Ok P G T N p Q (.go [(u,x)] (.ops d all os::k) (unkn (some u) kn) fr n' objs')):
 Ok P G T N p Q (.gen ⟨some u,op,ty,pos,aft,none⟩ d all os k kn fr n objs):=fun hk=> .inl ⟨x,_,hs,h,hc hk⟩
theorem q78 {f:FuncId} {xs:List AV} {x:AV} (h:Fn P G f xs x) (hc:Ok P G T N p Q (.go [] (.ops d all os::k) kn fr n objs)):Ok P G T N p Q (.call f xs none d all os k kn fr n objs):=
 fun hk=> .inl ⟨x,h,hc hk⟩
theorem qzt {u:Tmp} {t:TypeId} {len:Nat} {ps:Array (Nat × Operand)} {ty:TypeId} {pos:String} {aft:Array Edge} {e:TypeId} {sz:Nat} {it ie:TI} {cs:List AV} {z:List AV} (E:Env P T)
 (hd:d=false) (ht:T.get t=some it) (he:it.elem=some (e,sz)) (hie:T.get e=some ie) (hz:ie.zero=some z) (hl:(Nat.ble (len*sz) 16777216 && Nat.blt 0 (len*sz))=true)
 (hf:Yu (fun i=>some (i*sz,sz)) (List.replicate (len*sz) .undef) (ps.toList.map fun q=>(q.1,ev G (frT fr) q.2))=some cs) (h1:cs.all (·.one)=true)
 (hc:Ok P G T N p Q (.go [(u, .bs sz objs.length n 0 len)] (.ops d all os::k) (unkn (some u) kn) fr (n+1) (objs++ [(n, .row e cs)]))):Ok P G T N p Q (.gen ⟨some u, .buildSlice t len ps,ty,pos,aft,none⟩ d all os k kn fr n objs):=by
 intro hk
 refine .inr (.inr (.inl ⟨.bs sz objs.length n 0 len,Hp.push ⟨n,objs⟩ (.row e cs),hd,⟨e,sz,cs,?_,rfl,rfl⟩,hc hk⟩))
 simp only [An] at hl
 have c1:=Ap hl.1
 have c2:0 < len*sz:=Ap hl.2
 unfold qio
 simp only [(ti E.hT ht).elem _ he,(ti E.hT hie).zero _ hz,Option.isSome_some]
 rw [if_pos ⟨c1,c2,trivial⟩]
 simp only [hf,h1,if_true]
theorem Y5 {u:Tmp} {t:TypeId} {a i:Operand} {ty:TypeId} {pos:String} {aft:Array Edge} {sz:Nat} {full:Bool} {l:List (List AV)} {κ:IntKind} {j:Int} {c:List AV} {e:TypeId} {it:TI} (E:Env P T)
 (ha:ev G (frT fr) a= .sl sz full l) (hi:ev G (frT fr) i= .int κ j) (ht:T.get t=some it) {m:Nat} (he:it.elem=some (e,sz)) (h0:j=(m:Int)) (hl:l[m]? =some c)
 (hc:Ok P G T N p Q (.go [(u, .rptr c)] (.ops d all os::k) (unkn (some u) kn) fr n objs)):Ok P G T N p Q (.gen ⟨some u, .indexAddr t a i,ty,pos,aft,none⟩ d all os k kn fr n objs):=by
 refine qgs (fun _=>rfl) ?_ hc
 subst h0
 simp only [evalOp,ha,hi,Wh,if_pos (BV m),Bi,(ti E.hT ht).elem _ he,if_true,hl,AP]
theorem qoy {u:Tmp} {t:TypeId} {a i:Operand} {ty:TypeId} {pos:String} {aft:Array Edge} {sz len:Nat} {κ:IntKind} {j:Int} {cs c:List AV} {e:TypeId} {it:TI} (E:Env P T)
 (ha:ev G (frT fr) a= .rptr cs) (hi:ev G (frT fr) i= .int κ j) (ht:T.get t=some it) (he:it.arr=some (len,e,sz)) (h0:0≤j) (h1:j.toNat < len) (hl:(cs.drop (j.toNat*sz)).take sz=c)
 (hc:Ok P G T N p Q (.go [(u, .rptr c)] (.ops d all os::k) (unkn (some u) kn) fr n objs)):Ok P G T N p Q (.gen ⟨some u, .indexAddr t a i,ty,pos,aft,none⟩ d all os k kn fr n objs):=by
 refine qgs (fun _=>rfl) ?_ hc
 subst hl
 simp only [evalOp,ha,hi,Wh,if_pos h0,(ti E.hT ht).arr _ he,if_pos h1,AP]
theorem qiu {u:Tmp} {t:TypeId} {a i:Operand} {ty:TypeId} {pos:String} {aft:Array Edge} {κ:IntKind} {j:Int} {s:ByteArray} {b:UInt8} {it:TI} (E:Env P T)
 (ha:ev G (frT fr) a= .str s) (hi:ev G (frT fr) i= .int κ j) (ht:T.get t=some it) {m:Nat} (he:it.str=true) (h0:j=(m:Int)) (hl:s[m]? =some b)
 (hc:Ok P G T N p Q (.go [(u, .int .u8 b.toNat)] (.ops d all os::k) (unkn (some u) kn) fr n objs)):Ok P G T N p Q (.gen ⟨some u, .index t a i,ty,pos,aft,none⟩ d all os k kn fr n objs):=by
 refine qgs (fun _=>rfl) ?_ hc
 subst h0
 simp only [evalOp,ha,hi,qne,if_pos (BV m),Bi,(ti E.hT ht).str he,if_true,hl,AP]
theorem qw0 {u:Tmp} {t:TypeId} {a:Operand} {lo hi:Option Operand} {ty:TypeId} {pos:String} {aft:Array Edge} {s:ByteArray} {l h:Nat} {it:TI} (E:Env P T)
 (ha:ev G (frT fr) a= .str s) (ht:T.get t=some it) (he:it.str=true) (hl:vw (lo.map (ev G (frT fr))) 0=some l) (hh:vw (hi.map (ev G (frT fr))) s.size=some h) (h1:l≤h) (h2:h≤s.size)
 (hc:Ok P G T N p Q (.go [(u, .str (s.extract l h))] (.ops d all os::k) (unkn (some u) kn) fr n objs)):Ok P G T N p Q (.gen ⟨some u, .slice t a lo hi none,ty,pos,aft,none⟩ d all os k kn fr n objs):=by
 refine qgs (fun _=>rfl) ?_ hc
 simp only [evalOp,ha,Option.map_none,qh9,(ti E.hT ht).str he,Option.isNone_none,and_self,if_true,hl,hh]
 rw [if_pos ⟨h1,h2⟩]
 rfl
theorem qnw {κ:IntKind} {i:Int} {d m:Nat} (h:i=(m:Int)):vw (some (.int κ i)) d=some m:=by
 subst h
 simp only [vw,if_pos (BV m),Bi]
theorem qmp {H:Hp} {f:Fr}:∀(k:List Item),(∀i∈k,match i with | .ops _ _ _=>False | _=>True)→Q .ret f H→QK P G N p Q k .ret f H
 | [],_,h=>h
 | .code c::k,hk,h=>qvn (qmp k (fun i hi=>hk i (AA _ hi)) h)
 | .blk id::k,hk,h=>qxn (qmp k (fun i hi=>hk i (AA _ hi)) h)
 | .bar::k,hk,h=>qmp k (fun i hi=>hk i (AA _ hi)) h
 | .inl c::k,hk,h=>qvn (qmp k (fun i hi=>hk i (AA _ hi)) h)
 | .ops d a o::k,hk,h=>(hk _ (AX ..)).elim
def qlg:List Item→Bool
 | []=>true
 | .ops _ _ _::_=>false
 | _::k=>qlg k
theorem qal:∀(k:List Item),qlg k=true→∀i∈k,match i with | .ops _ _ _=>False | _=>True
 | [],_,i,hi=>by cases hi
 | .code c::k,h,i,hi=>by
   rcases AQ.1 hi with rfl | hi
   ·trivial
   exact qal k h i hi
 | .blk c::k,h,i,hi=>by
   rcases AQ.1 hi with rfl | hi
   ·trivial
   exact qal k h i hi
 | .bar::k,h,i,hi=>by
   rcases AQ.1 hi with rfl | hi
   ·trivial
   exact qal k h i hi
 | .inl c::k,h,i,hi=>by
   rcases AQ.1 hi with rfl | hi
   ·trivial
   exact qal k h i hi
 | .ops _ _ _::k,h,i,hi=>by simp [qlg] at h
def Told (P:Program) (G:Nat→List AV) (H:Hp) (y x:AV):Prop:=
 ∀w S F β v,HR G w S F β H→RV w S β H.n y v→∃S',Ext w S F β 0 w S' β 0∧(∀k,S' k→k < w.heap.size)∧RV w S' β H.n x v
theorem Told.refl {H:Hp} {x:AV}:Told P G H x x:=fun w S F β v hH hv=>⟨S, .refl ..,hH.lts,hv⟩
theorem qz {H:Hp} {y x:AV} (h:y=x):Told P G H y x:=h ▸ Told.refl
def resK (T:TT) (fr:FT) (objs:Objs):ResultVar→Option AV
 | .tmp t=>some (fr.get t)
 | .cell t ty=>match qnu objs (fr.get t) with
   | some cs=>q17 T ty cs
   | none=>none
def qm2 (T:TT) (fr:FT) (objs:Objs):List ResultVar→(List AV→Option AV)→Option AV
 | [],k=>k []
 | r::rs,k=>match resK T fr objs r with
   | some x=>qsb x fun x=>qm2 T fr objs rs fun xs=>k (x::xs)
   | none=>none
def qlf:List AV→Option AV
 | [x]=>some x
 | xs=>some (.tup xs)
theorem qjv (hT:T.ok P fun t=>t) {y:AV}:∀(rs:List ResultVar) (g:List AV→Option AV),qm2 T fr objs rs g=some y→∃xs,rs.mapM (qm3 P (frT fr) ⟨n,objs⟩)=some xs∧g xs=some y
 | [],g,h=>⟨[],rfl,h⟩
 | r :: rs,g,h=>by
   simp only [qm2] at h
   split at h
   ·rename_i x hx
    simp only [qos] at h
    obtain ⟨xs,h1,h2⟩:=qjv hT rs _ h
    refine ⟨x::xs,?_,h2⟩
    have :qm3 P (frT fr) ⟨n,objs⟩ r=some x:=by
     cases r with
     | tmp t=>exact hx
     | cell t ty=>
       simp only [resK] at hx
       split at hx
       ·rename_i cs hcs
        simp only [qm3]
        rw [show Yp ⟨n,objs⟩ (frT fr t)=some cs from qpm hcs]
        exact qyi hT hx
       cases hx
    simp only [List.mapM_cons,this,h1,Option.bind_eq_bind,BB,Option.pure_def]
   cases h
theorem zb (E:Env P T) {rs:List ResultVar} {x y:AV} (hk:qlg k=true) (h:qm2 T fr objs rs qlf=some y) (ht:Told P G ⟨n,objs⟩ y x):Ok P G T N p (Ret P rs (fun y H=>Told P G H y x)) (.fin .ret k fr n objs):=by
 intro _
 refine qmp k (qal k hk) ?_
 obtain ⟨xs,h1,h2⟩:=qjv (n:=n) E.hT rs _ h
 refine ⟨y,?_,ht⟩
 unfold Ji
 rw [h1]
 unfold qlf at h2
 split at h2
 ·exact h2
 rename_i hne
 split
 ·rename_i x' hx'
  exact absurd (Bf hx') (hne x')
 ·rename_i xs' _ hx'
  cases hx'
  exact h2
 rename_i hx';cases hx'
theorem zn (E:Env P T) {rs:List ResultVar} {x y:AV} (h:qm2 T fr objs rs qlf=some y) (ht:Told P G ⟨n,objs⟩ y x):Ok P G T N p (Ret P rs (fun y H=>Told P G H y x)) (.fin .normal [] fr n objs):=by
 intro _
 obtain ⟨xs,h1,h2⟩:=qjv (n:=n) E.hT rs _ h
 refine ⟨y,?_,ht⟩
 unfold Ji
 rw [h1]
 unfold qlf at h2
 split at h2
 ·exact h2
 rename_i hne
 split
 ·rename_i x' hx'
  exact absurd (Bf hx') (hne x')
 ·rename_i xs' _ hx'
  cases hx'
  exact h2
 rename_i hx';cases hx'
def qll:Nat→List AV→List (Nat × AV)
 | _, []=> []
 | i,x::xs=>(i,x)::qll (i+1) xs
theorem qrl:∀(xs:List AV) (i:Nat) (fr:Fr) (t:Nat),puts (qll i xs) fr t=if i≤t∧t < i+xs.length then xs.getD (t - i) .undef else fr t
 | [],i,fr,t=>by simp [qll,puts];omega
 | x ::xs,i,fr,t=>by
   simp only [qll,puts]
   rw [qrl xs (i+1) _ t]
   by_cases h1:i+1≤t∧t < i+1+xs.length
   ·rw [if_pos h1,if_pos (by simp only [Af];omega)]
    obtain ⟨m,hm⟩:∃m,t - i=m+1:=⟨t - i - 1,by omega⟩
    rw [hm,show t - (i+1)=m by omega,List.getD_cons_succ]
   rw [if_neg h1,u1]
   by_cases h2:t=i
   ·subst h2
    rw [if_pos rfl,if_pos (by simp),B3,Ck]
   rw [if_neg h2,if_neg (by simp only [Af];omega)]
theorem qgc (xs:List AV):puts (qll 0 xs) (frT .z)=qby xs:=funext fun t=>by
 rw [qrl]
 simp only [Az,true_and,AO,Nat.sub_zero,qby]
 split
 ·rfl
 rename_i h
 rw [Ax,List.getElem?_eq_none (by omega)]
 rfl
def AV.closed2:AV→Bool
 | .agg cs=>cs.all AV.closed
 | .tup cs=>cs.all AV.closed
 | x=>x.closed
theorem qy (x:AV) (h:x.closed2=true):Pure x:=by
 cases x with
 | agg cs=>exact .agg cs (fun y hy=>yi y (As.1 h y hy))
 | tup cs=>exact .tup cs (fun y hy=>yi y (As.1 h y hy))
 | _=>exact yi _ h
theorem zg {f:Nat} {fn:Func} {c:Code} {rs:List ResultVar} {xs:List AV} {x:AV} (hcall:∀vs w,(callFunc f vs).run P w= .ok (.enter f vs) w) (hf:P.funcs[f]? =some fn) (hb:fn.body=some c) (hN:fn.ntmps=N) (hr:fn.results.toList=rs) (hle:Nat.ble xs.length N=true)
 (hok:Jj N c=true) (hxs:∀y∈xs,Pure y) (hx:Pure x) (h:Ok P G T N 0 (Ret P rs (fun y H=>Told P G H y x)) (.go (qll 0 xs) [.code c] [] .z 0 [])):Fn P G f xs x:=by
 subst hN hr
 intro w S β n vs hH hv
 rw [hcall]
 show Calls P f vs w _
 have hA:AWp P G fn.ntmps 0 c (Ret P fn.results.toList (fun y H=>Told P G H y x)) (qby xs) ⟨0, []⟩:=by
  have:=h (by simp only [wd,hok,Bm])
  rw [qgc] at this
  exact this
 have hH0:HR G w S (· < w.heap.size) β ⟨0, []⟩:=⟨hH.lts,hH.ltf,fun g=>(hH.glob g).pure (.rptr _),by simp,by simp,by simp⟩
 have hv0:RVs w S β 0 xs vs:=⟨hv.1,fun i y hi=>(hv.2 i y hi).pure (hxs y (Ah hi))⟩
 refine calls_of_wp hf hb (wp_mono (hA [] w S _ β _ (Ak _) hH0 (qnr hv0 (Ap hle))) ?_)
 rintro e a' w' ⟨fr',H',S',β',q,hx1,_,hH',hf'⟩
 have fin:∀y,Ji P fn.results.toList fr' H'=some y→Told P G H' y x→a'.defers= []∧∃v,(results fn a'.tmps).run P w'= .ok v w'∧∃u,Ending.returned v= .returned u∧∃S',Ext w S (· < w.heap.size) β n w' S' β n∧(∀k,S' k→k < w'.heap.size)∧RV w' S' β n x u:=by
  intro y hy ht
  obtain ⟨v,hrun,hR⟩:=ql1 (P:=P) hH' hf' hy
  obtain ⟨S2,hx2,hlt,hR2⟩:=ht w' S' _ β' v hH' hR
  have hx3:=hx1.trans hx2
  exact ⟨hf'.defers,v,hrun,v,rfl,S2,⟨hx3.os,hx3.tape,hx3.output,hx3.size,Ak _,fun _ _=>rfl,hx3.sub,hx3.new,hx3.same,hx3.fsame,hx3.shape⟩,hlt,hR2.pure hx⟩
 cases e <;> first
  | exact q.elim
  | (obtain ⟨y,hy,hyx⟩:=q
     exact fin y hy hyx)
end
theorem zm {xs:List AV} (h:xs.all AV.closed2=true):∀y∈xs,Pure y:=fun y hy=>qy y (As.1 h y hy)
theorem qtb {f:Nat} {x:AV} (hcall:∀vs w,(callFunc f vs).run P w= .ok (.enter f vs) w) {w:World} {S:Nat→Prop} {β:Nat→Nat} {n:Nat} {vs:Array Value} (hH:HR G w S (· < w.heap.size) β ⟨n, []⟩)
 (h:Calls P f vs w fun e w'=>(∃v,e= .returned v∧∀S' β' n',RV w' S' β' n' x v)∧RowKit.Below w.heap.size w w'):Up P (fun v w'=>∃S',Ext w S (· < w.heap.size) β n w' S' β n∧(∀k,S' k→k < w'.heap.size)∧RV w' S' β n x v) ((callFunc f vs).run P w):=by
 rw [hcall]
 show Calls P f vs w _
 refine h.mono ?_
 rintro e w' ⟨⟨v,rfl,hR⟩,hb⟩
 refine ⟨v,rfl,S,⟨hb.os,hb.tape,hb.output,hb.size,Ak _,fun _ _=>rfl,fun _ h=>h,fun _ h=> .inl h,fun k hk=>hb.block k (hH.lts k hk),fun k hk=>hb.block k hk,fun k y hy=> ?_⟩,fun k hk=>AU (hH.lts k hk) hb.size,hR S β n⟩
 have hlt:k < w.heap.size:=by
  rcases Bt k w.heap.size with h | h
  ·exact h
  unfold World.shape? at hy
  rw [BN h] at hy
  cases hy
 unfold World.shape? at hy ⊢
 rw [hb.block k hlt]
 exact hy
theorem qof {f:Nat} {xs:List AV} {x:AV} (hcall:∀vs w,(callFunc f vs).run P w= .ok (.enter f vs) w) (h:∀w S β n vs,(∀g,GV w S β n g (G g))→RVs w S β n xs vs→Calls P f vs w fun e w'=>(∃v,e= .returned v∧∀S' β' n',RV w' S' β' n' x v)∧RowKit.Below w.heap.size w w'):Fn P G f xs x:=fun w S β n vs hH hv=>qtb hcall hH (h w S β n vs hH.glob hv)
theorem qgj {f:Nat} {xs:List AV} {x:AV} (hcall:∀vs w,(callFunc f vs).run P w= .ok (.enter f vs) w) (h:∀w S β n vs,RVs w S β n xs vs→Calls P f vs w fun e w'=>(∃v,e= .returned v∧∀S' β' n',RV w' S' β' n' x v)∧RowKit.Below w.heap.size w w'):Fn P G f xs x:=
 qof hcall fun w S β n vs _ hv=>h w S β n vs hv
def wk0 (x y:AV):Prop:=match y with
 | .sl sz' full' l'=>(match x with | .sl sz full l=>l=l'∧(sz=sz'∨l'= [])∧(full'=true→full=true∧(sz=sz'∨0 < sz')) | _=>False)
 | y=>x=y
def wk0L:List AV→List AV→Prop
 | [], []=>True
 | x::xs,y::ys=>wk0 x y∧wk0L xs ys
 | _,_=>False
def q5f:List (List AV)→List (List AV)→Prop
 | [], []=>True
 | x::xs,y::ys=>wk0L x y∧q5f xs ys
 | _,_=>False
def wk1 (x y:AV):Prop:=match y with
 | .sl sz' full' l'=>(match x with | .sl sz full l=>(l=l'∨q5f l l')∧(sz=sz'∨l'= [])∧(full'=true→full=true∧(sz=sz'∨0 < sz')) | _=>False)
 | y=>x=y
def wkL:List AV→List AV→Prop
 | [], []=>True
 | x::xs,y::ys=>wk1 x y∧wkL xs ys
 | _,_=>False
def wk (x y:AV):Prop:=match y with
 | .agg ds=>(match x with | .agg cs=>wkL cs ds | _=>False)
 | y=>wk1 x y
def wkLs:List AV→List AV→Prop
 | [], []=>True
 | x::xs,y::ys=>wk x y∧wkLs xs ys
 | _,_=>False
section
variable {w:World} {S:Nat→Prop} {β:Nat→Nat} {n:Nat}
theorem q5e {x y:AV} {v:Value} (h:wk0 x y) (hv:RV w S β n x v):RV w S β n y v:=by
 unfold wk0 at h
 split at h
 ·split at h
  ·obtain ⟨rfl,hs,hf⟩:=h
   cases hv with
   | sl _ _ _ A cap u hl hm hf0 hA hA1 hS hsz h1 hc hr hV=>
     rcases hs with rfl | rfl
     ·exact .sl _ _ _ A cap u hl hm (fun e=>hf0 (hf e).1) hA hA1 hS hsz h1 hc hr (fun e=>hV (hf e).1)
     exact .sl _ _ [] A cap u hl hm (fun e=>hf0 (hf e).1) hA hA1 hS (by simp) (by simp) (by simp) (by simp) (fun e h=>(hf e).2.elim (fun h2=>hV (hf e).1 (h2.trans h)) (fun h2=>absurd h (Nat.ne_of_gt h2)))
  exact h.elim
 subst h;exact hv
theorem q8i {x y:AV} (h:wk0 x y):y.one=x.one:=by
 unfold wk0 at h
 split at h
 ·split at h
  ·rfl
  exact h.elim
 rw [h]
theorem qjn:∀(cs ds:List AV),wk0L cs ds→cs.length=ds.length∧∀(i:Nat) (y:AV),ds[i]? =some y→∃x,cs[i]? =some x∧wk0 x y
 | [], [],_=>⟨rfl,by simp⟩
 | [],_::_,h=>h.elim
 | _::_, [],h=>h.elim
 | x::xs,y::ys,h=>by
   obtain ⟨h1,h2⟩:=qjn xs ys h.2
   refine ⟨by simp [h1],fun i z hi=> ?_⟩
   cases i with
   | zero=>simp at hi;subst hi;exact ⟨x,rfl,h.1⟩
   | succ i=>simpa using h2 i z (by simpa using hi)
theorem qub:∀(cs ds:List (List AV)),q5f cs ds→cs.length=ds.length∧∀(i:Nat) (y:List AV),ds[i]? =some y→∃x,cs[i]? =some x∧wk0L x y
 | [], [],_=>⟨rfl,by simp⟩
 | [],_::_,h=>h.elim
 | _::_, [],h=>h.elim
 | x::xs,y::ys,h=>by
   obtain ⟨h1,h2⟩:=qub xs ys h.2
   refine ⟨by simp [h1],fun i z hi=> ?_⟩
   cases i with
   | zero=>simp at hi;subst hi;exact ⟨x,rfl,h.1⟩
   | succ i=>simpa using h2 i z (by simpa using hi)
theorem qol {x y:AV} {v:Value} (h:wk1 x y) (hv:RV w S β n x v):RV w S β n y v:=by
 unfold wk1 at h
 split at h
 ·split at h
  ·rename_i sz' full' l' _ sz full l
   obtain ⟨he,hs,hf⟩:=h
   rcases he with rfl | hl
   ·exact q5e (x:= .sl sz full l) (y:= .sl sz' full' l) ⟨rfl,hs,hf⟩ hv
   obtain ⟨h1,h2⟩:=qub _ _ hl
   cases hv with
   | sl _ _ _ A cap u hl0 hm hf0 hA hA1 hS hsz h1' hc hr hV=>
     have hne:l'≠ []→l≠ []:=by intro h e;subst e;exact h (AK.1 h1.symm)
     rw [h1]
     refine .sl sz' full' l' A cap u (by omega) hm (fun e=>by rw [←h1];exact hf0 (hf e).1) (fun h=>hA (hne h)) (fun h=>hA1 (hne h)) (fun b o hb hn=>hS b o hb (hne hn)) (fun c hc=> ?_) (fun c hc x hx=> ?_) (fun b o hb j c i x hj hi=> ?_) (fun j c i x hj hi=> ?_) (fun e h=>(hf e).2.elim (fun h2=>hV (hf e).1 (h2.trans h)) (fun h2=>absurd h (Nat.ne_of_gt h2)))
     ·obtain ⟨j,hj⟩:=AF hc
      obtain ⟨c0,hc0,hk⟩:=h2 j c hj
      rw [←(qjn _ _ hk).1,hsz c0 (Ah hc0)]
      exact hs.resolve_right (by intro e;rw [e] at hc;cases hc)
     ·obtain ⟨j,hj⟩:=AF hc
      obtain ⟨c0,hc0,hk⟩:=h2 j c hj
      obtain ⟨i,hi⟩:=AF hx
      obtain ⟨x0,hx0,hk0⟩:=(qjn _ _ hk).2 i x hi
      rw [q8i hk0];exact h1' c0 (Ah hc0) x0 (Ah hx0)
     ·obtain ⟨c0,hc0,hk⟩:=h2 j c hj
      obtain ⟨x0,hx0,hk0⟩:=(qjn _ _ hk).2 i x hi
      rw [←hs.resolve_right (by intro e;rw [e] at hj;simp at hj)]
      exact hc b o hb j c0 i x0 hc0 hx0
     obtain ⟨c0,hc0,hk⟩:=h2 j c hj
     obtain ⟨x0,hx0,hk0⟩:=(qjn _ _ hk).2 i x hi
     exact q5e hk0 (hr j c0 i x0 hc0 hx0)
  exact h.elim
 subst h;exact hv
theorem qku {x y:AV} (h:wk1 x y):y.one=x.one:=by
 unfold wk1 at h
 split at h
 ·split at h
  ·rfl
  exact h.elim
 rw [h]
theorem qf3:∀(cs ds:List AV),wkL cs ds→cs.length=ds.length∧∀(i:Nat) (y:AV),ds[i]? =some y→∃x,cs[i]? =some x∧wk1 x y
 | [], [],_=>⟨rfl,by simp⟩
 | [],_::_,h=>h.elim
 | _::_, [],h=>h.elim
 | x::xs,y::ys,h=>by
   obtain ⟨h1,h2⟩:=qf3 xs ys h.2
   refine ⟨by simp [h1],fun i z hi=> ?_⟩
   cases i with
   | zero=>simp at hi;subst hi;exact ⟨x,rfl,h.1⟩
   | succ i=>simpa using h2 i z (by simpa using hi)
theorem q9t {x y:AV} {v:Value} (h:wk x y) (hv:RV w S β n x v):RV w S β n y v:=by
 unfold wk at h
 split at h
 ·split at h
  ·rename_i ds _ cs
   obtain ⟨hl,hg⟩:=qf3 cs ds h
   cases hv with
   | agg _ vs hs h1 hr=>
     refine .agg ds vs (by rw [hs,hl]) (fun z hz=> ?_) (fun i z hi=> ?_)
     ·obtain ⟨i,hi⟩:=AF hz
      obtain ⟨x,hx,hw⟩:=hg i z hi
      rw [qku hw];exact h1 x (Ah hx)
     obtain ⟨x,hx,hw⟩:=hg i z hi
     exact qol hw (hr i x hx)
  exact h.elim
 exact qol h hv
theorem qqy:∀(cs ds:List AV),wkLs cs ds→cs.length=ds.length∧∀(i:Nat) (y:AV),ds[i]? =some y→∃x,cs[i]? =some x∧wk x y
 | [], [],_=>⟨rfl,by simp⟩
 | [],_::_,h=>h.elim
 | _::_, [],h=>h.elim
 | x::xs,y::ys,h=>by
   obtain ⟨h1,h2⟩:=qqy xs ys h.2
   refine ⟨by simp [h1],fun i z hi=> ?_⟩
   cases i with
   | zero=>simp at hi;subst hi;exact ⟨x,rfl,h.1⟩
   | succ i=>simpa using h2 i z (by simpa using hi)
end
theorem Fn.wk {f:FuncId} {xs ys:List AV} {x:AV} (h:Fn P G f ys x) (hw:wkLs xs ys):Fn P G f xs x:=by
 intro w S β n vs hH hv
 obtain ⟨hl,hg⟩:=qqy xs ys hw
 refine h w S β n vs hH ⟨by rw [hv.1,hl],fun i y hi=> ?_⟩
 obtain ⟨z,hz,hk⟩:=hg i y hi
 exact q9t hk (hv.2 i z hz)
def Less (G:Nat→List AV) (N p:Nat) (fr:Fr) (H:Hp) (fr':Fr) (H':Hp):Prop:=
 ∀D w S F β a,p≤H.n→HR G w S F β H→FRx D w S β H.n N fr a→∃S' β',Ext w S F β p w S' β' p∧p≤H'.n∧HR G w S' F β' H'∧FRx D w S' β' H'.n N fr' a
theorem Less.trans {f1 f2 f3:Fr} {H1 H2 H3:Hp} (h:Less G N p f1 H1 f2 H2) (k:Less G N p f2 H2 f3 H3):Less G N p f1 H1 f3 H3:=by
 intro D w S F β a hp hH hf
 obtain ⟨S',β',hx,hp',hH',hf'⟩:=h D w S F β a hp hH hf
 obtain ⟨S2,β2,hx2,hp2,hH2,hf2⟩:=k D w S' F β' a hp' hH' hf'
 exact ⟨S2,β2,hx.trans hx2,hp2,hH2,hf2⟩
theorem qko {c:Code} {Q:Exit→Fr→Hp→Prop} {f1 f2:Fr} {H1 H2:Hp} (h:Less G N p f1 H1 f2 H2) (k:AWp P G N p c Q f2 H2):AWp P G N p c Q f1 H1:=by
 intro D w S F β a hp hH hf
 obtain ⟨S',β',hx,hp',hH',hf'⟩:=h D w S F β a hp hH hf
 refine wp_mono (k D w S' F β' a hp' hH' hf') ?_
 rintro e a' w' ⟨fr',H',S2,β2,q,hx2,r⟩
 exact ⟨fr',H',S2,β2,q,hx.trans hx2,r⟩
def AV.ren0 (ρ:Nat→Nat):AV→AV
 | .ptr i s o=> .ptr i (ρ s) o
 | .optr i s o=> .optr i (ρ s) o
 | .bs a i s o l=> .bs a i (ρ s) o l
 | x=>x
def AV.ren1 (ρ:Nat→Nat):AV→AV
 | .ptr i s o=> .ptr i (ρ s) o
 | .optr i s o=> .optr i (ρ s) o
 | .bs a i s o l=> .bs a i (ρ s) o l
 | .fn f cs=> .fn f (cs.map (AV.ren0 ρ))
 | x=>x
def AV.renA (ρ:Nat→Nat):AV→AV
 | .agg cs=> .agg (cs.map (AV.ren1 ρ))
 | x=>x.ren1 ρ
def AV.ren (ρ:Nat→Nat):AV→AV
 | .agg cs=> .agg (cs.map (AV.ren1 ρ))
 | .tup cs=> .tup (cs.map (AV.renA ρ))
 | .fn f cs=> .fn f (cs.map (AV.ren1 ρ))
 | x=>x.ren1 ρ
def AV.un0 (m:Nat):AV→Bool
 | .ptr _ s _=>Nat.blt s m
 | .optr _ s _=>Nat.blt s m
 | .bs _ _ s _ _=>Nat.blt s m
 | x=>x.closed
def AV.un1 (m:Nat):AV→Bool
 | .ptr _ s _=>Nat.blt s m
 | .optr _ s _=>Nat.blt s m
 | .bs _ _ s _ _=>Nat.blt s m
 | .fn _ cs=>cs.all (AV.un0 m)
 | x=>x.closed
def AV.unA (m:Nat):AV→Bool
 | .agg cs=>cs.all (AV.un1 m)
 | x=>x.un1 m
def AV.un (m:Nat):AV→Bool
 | .agg cs=>cs.all (AV.un1 m)
 | .tup cs=>cs.all (AV.unA m)
 | .fn _ cs=>cs.all (AV.un1 m)
 | x=>x.un1 m
theorem qqg {w:World} {S:Nat→Prop} {β:Nat→Nat} {n m:Nat} {ρ:Nat→Nat} {x:AV} {v:Value} (h:RV w S β n (x.ren0 ρ) v) (hu:x.un0 m=true):RV w S (fun s=>β (ρ s)) m x v:=by
 cases x with
 | ptr i s o=>cases h with | ptr _ _ _ hs=>exact .ptr i s o (Ap hu)
 | optr i s o=>cases h with | optr _ _ _ _ hs hv=>exact .optr i s o _ (Ap hu) hv
 | bs a i s o l=>cases h with
   | bs _ _ _ _ _ cap m' e hs hsh hn hl hm h0=>exact .bs a i s o l cap m' e (Ap hu) hsh hn hl hm h0
   | bs0 _ _ _ _ A hs hV=>exact .bs0 a i s o A (Ap hu) hV
 | _=>exact h.pure (yi _ hu)
theorem qic {w:World} {S:Nat→Prop} {β:Nat→Nat} {n m:Nat} {ρ:Nat→Nat} {x:AV} {v:Value} (h:RV w S β n (x.ren1 ρ) v) (hu:x.un1 m=true):RV w S (fun s=>β (ρ s)) m x v:=by
 cases x with
 | ptr i s o=>exact qqg (x:= .ptr i s o) h hu
 | optr i s o=>exact qqg (x:= .optr i s o) h hu
 | bs a i s o l=>exact qqg (x:= .bs a i s o l) h hu
 | fn f cs=>
   cases h with
   | fn _ _ vs hs hr=>exact .fn f cs vs (by simpa using hs) (fun i y hi=>qqg (hr i (y.ren0 ρ) (by rw [Ar,hi];rfl)) (As.1 hu y (Ah hi)))
 | _=>exact h.pure (yi _ hu)
theorem zaq {w:World} {S:Nat→Prop} {β:Nat→Nat} {n m:Nat} {ρ:Nat→Nat} {x:AV} {v:Value} (h:RV w S β n (x.ren ρ) v) (hu:x.un m=true):RV w S (fun s=>β (ρ s)) m x v:=by
 have key:∀(cs:List AV) (u:Nat→Value),cs.all (AV.un1 m)=true→(∀(i:Nat) (y:AV),(cs.map (AV.ren1 ρ))[i]? =some y→RV w S β n y (u i))→∀(i:Nat) (y:AV),cs[i]? =some y→RV w S (fun s=>β (ρ s)) m y (u i):=by
  intro cs u hu hr i y hi
  refine qic (hr i (y.ren1 ρ) (by rw [Ar,hi];rfl)) (As.1 hu y (Ah hi))
 have one:∀y:AV,(y.ren1 ρ).one=y.one:=by intro y;cases y <;> rfl
 have keyA:∀(y:AV) (u:Value),y.unA m=true→RV w S β n (y.renA ρ) u→RV w S (fun s=>β (ρ s)) m y u:=by
  intro y u hu hr
  cases y with
  | agg cs=>
    cases hr with
    | agg _ vs hs h1 hr=>exact .agg cs vs (by simpa using hs) (fun y hy=>by rw [←one];exact h1 _ (Cl hy)) (key cs _ hu hr)
  | _=>exact qic hr hu
 cases x with
 | agg cs=>
   cases h with
   | agg _ vs hs h1 hr=>exact .agg cs vs (by simpa using hs) (fun y hy=>by rw [←one];exact h1 _ (Cl hy)) (key cs _ hu hr)
 | tup cs=>
   cases h with
   | tup _ vs hs hr=>exact .tup cs vs (by simpa using hs) (fun i y hi=>keyA y _ (As.1 hu y (Ah hi)) (hr i (y.renA ρ) (by rw [Ar,hi];rfl)))
 | fn f cs=>
   cases h with
   | fn _ _ vs hs hr=>exact .fn f cs vs (by simpa using hs) (key cs _ hu hr)
 | ptr i s o=>exact qic (x:= .ptr i s o) h hu
 | optr i s o=>exact qic (x:= .optr i s o) h hu
 | bs a i s o l=>exact qic (x:= .bs a i s o l) h hu
 | _=>exact h.pure (yi _ hu)
def wkS (v u:AV):Prop:=match u with
 | .sl sz false l=>(match v with | .sl s1 _ l1=>l1=l∧(s1=sz∨l= []) | _=>False)
 | _=>False
theorem qqx {w:World} {S:Nat→Prop} {β β':Nat→Nat} {n m:Nat} {v u:AV} {x:Value} (h:wkS v u) (hv:RV w S β n v x):RV w S β' m u x:=by
 unfold wkS at h
 split at h
 ·split at h
  ·obtain ⟨rfl,h2⟩:=h
   exact (hv.loose h2).pure (.sl _ _ _)
  exact h.elim
 exact h.elim
theorem qvp {v u:AV} (h:wkS v u):v.one=true∧u.one=true:=by
 unfold wkS at h
 split at h
 ·split at h
  ·exact ⟨rfl,rfl⟩
  exact h.elim
 exact h.elim
def leV (ρ:Nat→Nat) (m:Nat) (v u:AV):Prop:=match u with
 | .undef=>True
 | u=>(v=u.ren ρ∧u.un m=true)∨wkS v u
def leFT (ρ:Nat→Nat) (m:Nat):FT→FT→Prop
 | _, .z=>True
 | .z, .n u l r=>leV ρ m .undef u∧leFT ρ m .z l∧leFT ρ m .z r
 | .n v l r, .n u l' r'=>leV ρ m v u∧leFT ρ m l l'∧leFT ρ m r r'
def leC (ρ:Nat→Nat) (m:Nat):List AV→List AV→Prop
 | [], []=>True
 | v::vs,u::us=>((v=u.ren1 ρ∧u.un1 m=true)∨wkS v u)∧leC ρ m vs us
 | _,_=>False
def leO (ρ:Nat→Nat) (m:Nat) (o o':Obj):Prop:=match o' with
 | .dead=>True
 | .var t cs=>match o with
   | .var t' cs'=>t'=t∧leC ρ m cs' cs
   | _=>False
 | .row t cs=>match o with
   | .row t' cs'=>t'=t∧cs'=cs∧∀x∈cs,x.closed=true
   | _=>False
 | .froz t cs=>match o with
   | .froz t' cs'=>t'=t∧cs'=cs∧∀x∈cs,x.closed=true
   | _=>False
def leOs (ρ:Nat→Nat) (m:Nat):Objs→Objs→Prop
 | _, []=>True
 | (s,o)::l,(s',o')::l'=>(s=ρ s'∧Nat.blt s' m=true∧leO ρ m o o')∧leOs ρ m l l'
 | [],_::_=>False
def rho:Objs→Objs→Nat→Nat
 | (s',_)::l',(s,_)::l,t=>if t=s' then s else rho l' l t
 | _,_,t=>t
theorem q6r {w:World} {S:Nat→Prop} {β:Nat→Nat} {n m:Nat} {ρ:Nat→Nat} {v u:AV} {x:Value} (h:leV ρ m v u) (hv:RV w S β n v x):RV w S (fun s=>β (ρ s)) m u x:=by
 unfold leV at h
 split at h
 ·exact .undef _
 rename_i hne
 rcases h with ⟨rfl,hu⟩ | h
 ·exact zaq hv hu
 exact qqx h hv
theorem qg6 {ρ:Nat→Nat} {m:Nat}:∀(t t':FT),leFT ρ m t t'→∀i,leV ρ m (t.get i) (t'.get i)
 | t, .z,_,i=>by simp only [FT.get,leV]
 | .z, .n u l r,h,i=>by
   obtain ⟨h1,h2,h3⟩:=h
   simp only [FT.get]
   cases Nat.beq i 0
   ·cases Nat.beq (i % 2) 1
    ·exact qg6 .z r h3 (i / 2 - 1)
    exact qg6 .z l h2 (i / 2)
   exact h1
 | .n v l r, .n u l' r',h,i=>by
   obtain ⟨h1,h2,h3⟩:=h
   simp only [FT.get]
   cases Nat.beq i 0
   ·cases Nat.beq (i % 2) 1
    ·exact qg6 r r' h3 (i / 2 - 1)
    exact qg6 l l' h2 (i / 2)
   exact h1
theorem qbu {ρ:Nat→Nat} {m:Nat}:∀(l l':Objs),leOs ρ m l l'→∀(i s':Nat) (o':Obj),l'[i]? =some (s',o')→∃s o,l[i]? =some (s,o)∧s=ρ s'∧s' < m∧leO ρ m o o'
 | _, [],_,i,s',o',h=>by simp at h
 | [],_::_,h,_,_,_,_=>h.elim
 | (s,o)::l,(t,q)::l',h,0,s',o',hi=>by
   simp only [Au,Ac,Al] at hi
   obtain ⟨rfl,rfl⟩:=hi
   exact ⟨s,o,rfl,h.1.1,Ap h.1.2.1,h.1.2.2⟩
 | (s,o)::l,(t,q)::l',h,i+1,s',o',hi=>by
   obtain ⟨s2,o2,h1,h2⟩:=qbu l l' h.2 i s' o' (by simpa using hi)
   exact ⟨s2,o2,by simpa using h1,h2⟩
theorem qwf {ρ:Nat→Nat} {m:Nat}:∀(l l':List AV),leC ρ m l l'→l.length=l'.length∧∀(i:Nat) (u:AV),l'[i]? =some u→∃v,l[i]? =some v∧((v=u.ren1 ρ∧u.un1 m=true)∨wkS v u)
 | [], [],_=>⟨rfl,fun i u h=>by simp at h⟩
 | [],_::_,h=>h.elim
 | _::_, [],h=>h.elim
 | v::l,u::l',h=>by
   obtain ⟨h1,h2⟩:=qwf l l' h.2
   refine ⟨by simp [h1],fun i x hi=> ?_⟩
   cases i with
   | zero=>simp at hi;subst hi;exact ⟨v,rfl,h.1⟩
   | succ i=>simpa using h2 i x (by simpa using hi)
theorem qwe {fr fr':FT} {n n':Nat} {objs objs':Objs} (ρ:Nat→Nat) (hf:leFT ρ n' fr fr') (ho:leOs ρ n' objs objs'):Less G N 0 (frT fr) ⟨n,objs⟩ (frT fr') ⟨n',objs'⟩:=by
 intro D w S F β a _ hH hfr
 have rv1:∀(x:AV) (v:Value),RV w S β n (x.ren1 ρ) v→x.un1 n'=true→RV w S (fun s=>β (ρ s)) n' x v:=fun x v h hu=>qic h hu
 refine ⟨S,fun s=>β (ρ s),⟨rfl,rfl,rfl,Ak _,Ak _,fun s hs=>absurd hs (B9 s),fun _ h=>h,fun _ h=> .inl h,fun _ _=>rfl,fun _ _=>rfl,fun _ _ h=>h⟩,Az _,?_,?_⟩
 ·refine ⟨hH.lts,hH.ltf,fun g=>(hH.glob g).pure (.rptr _),fun i s o hi=> ?_,fun i j si sj oi oj hi hj hne h1 h2=> ?_,fun i s o hi=> ?_⟩
  ·obtain ⟨_,_,_,_,h,_⟩:=qbu _ _ ho i s o hi;exact h
  ·obtain ⟨s1,o1,e1,rfl,_,l1⟩:=qbu _ _ ho i si oi hi
   obtain ⟨s2,o2,e2,rfl,_,l2⟩:=qbu _ _ ho j sj oj hj
   have live:∀o o',leO ρ n' o o'→o'.live=true→o.live=true:=by
    intro o o' h hl
    unfold leO at h
    split at h
    ·cases hl
    ·split at h
     ·rfl
     exact h.elim
    ·split at h
     ·obtain ⟨rfl,rfl,_⟩:=h;exact hl
     exact h.elim
    cases hl
   exact hH.inj i j _ _ o1 o2 e1 e2 hne (live _ _ l1 h1) (live _ _ l2 h2)
  obtain ⟨s1,o1,e1,rfl,_,l1⟩:=qbu _ _ ho i s o hi
  have h:=hH.obj i _ o1 e1
  unfold leO at l1
  split at l1
  ·trivial
  ·split at l1
   ·rename_i cs _ t' cs'
    obtain ⟨rfl,hc⟩:=l1
    obtain ⟨hl,hg⟩:=qwf _ _ hc
    obtain ⟨c,h1,h2,h3,h4,h5⟩:=h
    refine ⟨c,h1,by rw [h2,hl],h3,h4,fun i x hi=> ?_⟩
    obtain ⟨v,hv,hvu⟩:=hg i x hi
    obtain ⟨ho1,hR⟩:=h5 i _ hv
    rcases hvu with ⟨rfl,hu⟩ | hvu
    ·exact ⟨by rw [←ho1];cases x <;> rfl,rv1 x _ hR hu⟩
    exact ⟨(qvp hvu).2,qqx hvu hR⟩
   exact l1.elim
  ·split at l1
   ·obtain ⟨rfl,rfl,hc⟩:=l1
    intro hne
    obtain ⟨c,h1,h2,h3,h4,h5⟩:=h hne
    exact ⟨c,h1,h2,h3,h4,fun i x hi=>⟨(h5 i x hi).1,(h5 i x hi).2.pure (yi x (hc x (Ah hi)))⟩⟩
   exact l1.elim
  split at l1
  ·obtain ⟨rfl,rfl,hc⟩:=l1
   obtain ⟨c,f,h1,h2,h3,h5⟩:=h
   exact ⟨c,f,h1,h2,h3,fun i x hi=>⟨(h5 i x hi).1,(h5 i x hi).2.pure (yi x (hc x (Ah hi)))⟩⟩
  exact l1.elim
 exact ⟨hfr.size,hfr.defers,fun t=>q6r (qg6 _ _ hf t) (hfr.val t)⟩
def asgs:Code→List Nat
 | .region _ ops _=>ops.toList.filterMap (·.dst)
 | .seq a b=>asgs a++asgs b
 | .cond _ a b=>asgs a++asgs b
 | .block _ b=>asgs b
 | .loop b=>asgs b
 | _=> []
def q5j:List Nat→FT→(FT→Option FT)→Option FT
 | [],fr,k=>k fr
 | t::ts,fr,k=>FT.setK 10 fr t .undef fun fr=>q5j ts fr k
def qug:List (Nat × AV)→FT→Option FT
 | [],fr=>some fr
 | (t,x)::ps,fr=>qmc x fun x=>FT.setK 10 fr t x fun fr=>qug ps fr
def zbx (c:Code) (fr:FT) (vs:List (Nat × AV)):Option FT:=q5j (asgs c) fr fun fr=>qug vs fr
def upsK:List (Nat × Nat × Obj)→Objs→(Objs→Option Objs)→Option Objs
 | [],objs,k=>k objs
 | (i,s,o)::us,objs,k=>qun objs i (s,o) fun objs=>upsK us objs k
section
variable {T:TT} {Q:Exit→Fr→Hp→Prop} {k:List Item} {kn:List Nat} {fr:FT} {n:Nat} {objs:Objs} {α:Type}
def qvk (P:Program) (G:Nat→List AV) (N p:Nat) (J:α→Prop) (μ:α→Nat) (fr1:α→FT) (n1:Nat) (objs1:α→Objs) (a:α) (k:List Item) (Q:Exit→Fr→Hp→Prop):Exit→Fr→Hp→Prop:=
 qap (fun fr H=>∃a',J a'∧μ a' < μ a∧Less G N p fr H (frT (fr1 a')) ⟨n1,objs1 a'⟩) (fun e fr H=>wd N k=true→QK P G N p Q k e fr H)
theorem q1t {next next':Fr→Hp→Prop} {Q Q':Exit→Fr→Hp→Prop} (h1:∀fr H,next fr H→next' fr H) (h2:∀e fr H,Q e fr H→Q' e fr H):∀e fr H,qap next Q e fr H→qap next' Q' e fr H:=by
 intro e fr H h
 cases e <;> first | exact h1 _ _ h | exact h2 _ _ _ h
theorem q1m {c:Code} (J:α→Prop) (μ:α→Nat) (fr1:α→FT) (n1:Nat) (objs1:α→Objs) (a0:α) (h0:J a0) (hl:Less G N p (frT fr) ⟨n,objs⟩ (frT (fr1 a0)) ⟨n1,objs1 a0⟩)
 (round:∀a,J a→Ok P G T N p (qvk P G N p J μ fr1 n1 objs1 a k Q) (.go [] [.code c] [] (fr1 a) n1 (objs1 a))):Ok P G T N p Q (.loop c k kn fr n objs):=by
 intro hk
 simp only [wd,An] at hk
 refine q8e (fun m fr H=>∃a,J a∧μ a=m∧Less G N p fr H (frT (fr1 a)) ⟨n1,objs1 a⟩) (μ a0) ⟨a0,h0,rfl,hl⟩ ?_
 rintro m fr' H' ⟨a,hJ,rfl,hL⟩
 refine qko hL ?_
 have:=round a hJ (by simp only [wd,hk.1,Bm])
 refine AWp.mono (show AWp P G N p c (qvk P G N p J μ fr1 n1 objs1 a k Q) (frT (fr1 a)) ⟨n1,objs1 a⟩ from this) ?_
 refine q1t ?_ (fun e fr H h=>h hk.2)
 rintro fr H ⟨a',h1,h2,h3⟩
 exact ⟨μ a',h2,a',h1,rfl,h3⟩
theorem Kf {c:Code} (J:α→Prop) (μ:α→Nat) (vals:α→List (Nat × AV)) (ups:α→List (Nat × Nat × Obj)) (a0:α) {fr1:α→FT} {objs1:α→Objs} (hs:∀a,zbx c fr (vals a)=some (fr1 a)) (ho:∀a,upsK (ups a) objs some=some (objs1 a)) (h0:J a0)
 (hlf:leFT (rho (objs1 a0) objs) n fr (fr1 a0)) (hlo:leOs (rho (objs1 a0) objs) n objs (objs1 a0))
 (round:∀a,J a→Ok P G T N 0 (qvk P G N 0 J μ fr1 n objs1 a k Q) (.go [] [.code c] [] (fr1 a) n (objs1 a))):Ok P G T N 0 Q (.loop c k kn fr n objs):=
 q1m J μ fr1 n objs1 a0 h0 (qwe _ hlf hlo) round
theorem Yq {J:α→Prop} {μ:α→Nat} {fr1:α→FT} {n1:Nat} {objs1:α→Objs} {a:α} (a':α) (h1:J a') (h2:μ a' < μ a) (hlf:leFT (rho (objs1 a') objs) n1 fr (fr1 a')) (hlo:leOs (rho (objs1 a') objs) n1 objs (objs1 a')):
 Ok P G T N 0 (qvk P G N 0 J μ fr1 n1 objs1 a k Q) (.fin .normal [] fr n objs):=
 fun _=>⟨a',h1,h2,qwe _ hlf hlo⟩
theorem Ke {J:α→Prop} {μ:α→Nat} {fr1:α→FT} {n1:Nat} {objs1:α→Objs} {a:α} {k':List Item} (hk:qlg k'=true) (h:Ok P G T N p Q (.fin .ret k fr n objs)):Ok P G T N p (qvk P G N p J μ fr1 n1 objs1 a k Q) (.fin .ret k' fr n objs):=
 fun _=>qmp k' (qal k' hk) (fun hi=>h hi)
def qpg (id:Nat):List Item→Bool
 | []=>true
 | .blk i::k=> !Nat.beq i id && qpg id k
 | .code _::k=>qpg id k
 | .bar::k=>qpg id k
 | .inl _::k=>qpg id k
 | _=>false
theorem qn1 {H:Hp} {f:Fr} {id:Nat}:∀(k:List Item),qpg id k=true→Q (.exit id) f H→QK P G N p Q k (.exit id) f H
 | [],_,h=>h
 | .code c::k,hk,h=>qi2 (qn1 k hk h)
 | .bar::k,hk,h=>qn1 k hk h
 | .inl c::k,hk,h=>qi2 (qn1 k hk h)
 | .blk i::k,hk,h=>by
   simp only [qpg,An,Bool.not_eq_true'] at hk
   refine qkq ?_ (qn1 k hk.2 h)
   cases hb:Nat.beq id i with
   | false=>rfl
   | true=>have:=AE hb;subst this;rw [hb] at hk;cases hk.1
 | .ops d a o::k,hk,h=>by simp [qpg] at hk
theorem Jk {J:α→Prop} {μ:α→Nat} {fr1:α→FT} {n1:Nat} {objs1:α→Objs} {a:α} {k' k2:List Item} {id:Nat} (hk:qpg id k'=true) (hx:qhc id k=some k2) (h:Ok P G T N p Q (.go [] k2 [] fr n objs)):
 Ok P G T N p (qvk P G N p J μ fr1 n1 objs1 a k Q) (.fin (.exit id) k' fr n objs):=by
 intro _
 obtain ⟨h1,h2⟩:=qhb (P:=P) (G:=G) (N:=N) (p:=p) (Q:=Q) (fr:=frT fr) (H:=⟨n,objs⟩) k k2 hx
 exact qn1 k' hk (fun hi=>h2 (h (h1 hi)))
end
attribute [irreducible] Ok Told Less
attribute [go_sem] leFT leV leOs leO leC rho AV.ren AV.renA AV.ren1 AV.ren0 AV.un AV.unA AV.un1 AV.un0 AV.closed Ay AN BX List.all_nil Bool.and_true Bh and_true true_and and_self List.isEmpty_nil
end Go.Proofs.YtpnkemogepoioaaGreatDoorW.Ex
