/- A symbolic executor for the machine's code, part U: runs of code by computation, and the rules at the places where a run stops. General over the program; no conditions beside those in each theorem. -/
import Derived.Test.YtpnkemogepoioaaGreatDoorExT
namespace Go.Proofs.YtpnkemogepoioaaGreatDoorW.Ex
set_option linter.all false
open Go
variable {D:List Deferred}
set_option linter.unusedVariables false
set_option linter.unusedSimpArgs false
variable {G:Nat→List AV} {P:Program} {N p:Nat}
section
variable {α:Type}
def Wg (n:Nat) (k:Nat→α):α:=match n with
 | 0=>k 0
 | m+1=>k (m+1)
theorem qbk (n:Nat) (k:Nat→α):Wg n k=k n:=by cases n <;> rfl
def qpy (x:AV) (k:AV→α):α:=match x with
 | .undef=>k .undef
 | .bool b=>k (.bool b)
 | .int a b=>k (.int a b)
 | .str a=>k (.str a)
 | .nilp=>k .nilp
 | .ptr i s o=>Wg i fun i=>Wg s fun s=>k (.ptr i s o)
 | .optr i s o=>Wg i fun i=>Wg s fun s=>k (.optr i s o)
 | .rptr cs=>k (.rptr cs)
 | .bs a i s o l=>Wg a fun a=>Wg i fun i=>Wg s fun s=>k (.bs a i s o l)
 | .sl a b c=>Wg a fun a=>k (.sl a b c)
 | .fn f c=>k (.fn f c)
 | .nilf=>k .nilf
 | .agg cs=>k (.agg cs)
 | .tup vs=>k (.tup vs)
 | .iface t v=>k (.iface t v)
 | .nili=>k .nili
 | .mp a b l=>k (.mp a b l)
theorem qsq (x:AV) (k:AV→α):qpy x k=k x:=by cases x <;> simp only [qpy,qbk]
def qjz:List AV→(List AV→α)→α
 | [],k=>k []
 | x::xs,k=>qpy x fun x=>qjz xs fun xs=>k (x::xs)
theorem qir:∀(l:List AV) (k:List AV→α),qjz l k=k l
 | [],_=>rfl
 | x::xs,k=>by simp only [qjz,qsq,qir xs]
def qpx (x:AV) (k:AV→α):α:=match x with
 | .agg cs=>qjz cs fun cs=>k (.agg cs)
 | .fn f c=>qjz c fun c=>k (.fn f c)
 | .iface t v=>qpy v fun v=>k (.iface t v)
 | x=>qpy x k
theorem qmd (x:AV) (k:AV→α):qpx x k=k x:=by cases x <;> simp only [qpx,qsq,qir]
def qk5:List AV→(List AV→α)→α
 | [],k=>k []
 | x::xs,k=>qpx x fun x=>qk5 xs fun xs=>k (x::xs)
theorem qjy:∀(l:List AV) (k:List AV→α),qk5 l k=k l
 | [],_=>rfl
 | x::xs,k=>by simp only [qk5,qmd,qjy xs]
def qjx (x:AV) (k:AV→α):α:=match x with
 | .tup vs=>qk5 vs fun vs=>k (.tup vs)
 | x=>qpx x k
theorem qiq (x:AV) (k:AV→α):qjx x k=k x:=by cases x <;> simp only [qjx,qmd,qjy]
def qn6:List (List AV)→(List (List AV)→α)→α
 | [],k=>k []
 | x::xs,k=>qjz x fun x=>qn6 xs fun xs=>k (x::xs)
theorem qpw:∀(l:List (List AV)) (k:List (List AV)→α),qn6 l k=k l
 | [],_=>rfl
 | x::xs,k=>by simp only [qn6,qir,qpw xs]
def qpu (o:Obj) (k:Obj→α):α:=match o with
 | .dead=>k .dead
 | .var t cs=>qjz cs fun cs=>k (.var t cs)
 | .row t cs=>k (.row t cs)
 | .froz t cs=>k (.froz t cs)
theorem qmc (o:Obj) (k:Obj→α):qpu o k=k o:=by cases o <;> simp only [qpu,qir]
def qn5:List Nat→(List Nat→α)→α
 | [],k=>k []
 | n::l,k=>Wg n fun n=>qn5 l fun l=>k (n::l)
theorem qpv:∀(l:List Nat) (k:List Nat→α),qn5 l k=k l
 | [],_=>rfl
 | x::xs,k=>by simp only [qn5,qbk,qpv xs]
def lenK:Objs→Nat→(Nat→α)→α
 | [],a,k=>k a
 | _::l,a,k=>Wg (a+1) fun a=>lenK l a k
theorem qz7:∀(l:Objs) (a:Nat) (k:Nat→α),lenK l a k=k (a+l.length)
 | [],a,k=>rfl
 | x::l,a,k=>by simp only [lenK,qbk,qz7 l,Ae,BB,Nat.add_comm 1]
def qzj:Objs→Nat × Obj→(Objs→α)→α
 | [],x,k=>k [x]
 | y::l,x,k=>qzj l x fun l=>k (y::l)
theorem qvt:∀(l:Objs) (x:Nat × Obj) (k:Objs→α),qzj l x k=k (l++ [x])
 | [],x,k=>rfl
 | y::l,x,k=>by simp only [qzj,qvt l,AJ]
def qsb:Objs→Nat→Nat × Obj→(Objs→α)→α
 | [],_,_,k=>k []
 | y::l,i,x,k=>bif Nat.beq i 0 then k (x::l) else qsb l (i - 1) x fun l=>k (y::l)
theorem qou:∀(l:Objs) (i:Nat) (x:Nat × Obj) (k:Objs→α),qsb l i x k=k (l.set i x)
 | [],i,x,k=>rfl
 | y::l,0,x,k=>rfl
 | y::l,i+1,x,k=>by simp only [qsb,show Nat.beq (i+1) 0=false from rfl,cond_false,Nat.add_sub_cancel,qou l,List.set_cons_succ]
end
section
variable {Q:Exit→Fr→Hp→Prop} {fr:Fr} {H:Hp}
def zab (P:Program) (c:Code) (Q:Exit→Act→World→Prop) (a:Act) (w:World):Prop:=
 ∀(b:Frame) (k:List Go.Item) (cs:List Frame),∃e a' w',Q e a' w'∧Arrives P (lone (b.at a (.code c:: .inLoop c::k)) cs w) b k cs e a' w'
def qq6 (P:Program) (G:Nat→List AV) (N p:Nat) (c:Code) (Q:Exit→Fr→Hp→Prop) (fr:Fr) (H:Hp):Prop:=
 ∀D w S F β a,p≤H.n→HR G w S F β H→FRx D w S β H.n N fr a→zab P c (fun e a' w'=>∃fr' H' S' β',Q e fr' H'∧Ext w S F β p w' S' β' p∧p≤H'.n∧HR G w' S' F β' H'∧FRx D w' S' β' H'.n N fr' a') a w
theorem qu3 {c:Code} (h:qq6 P G N p c Q fr H):AWp P G N p (.loop c) Q fr H:=by
 intro D w S F β a hp hH hf b k cs
 obtain ⟨e,a',w',q,harr⟩:=h D w S F β a hp hH hf b k cs
 exact ⟨e,a',w',q, .of_steps (.one step_loop) harr⟩
theorem qu4 {c:Code} (h:AWp P G N p c (Wq (qq6 P G N p c Q) Q) fr H):qq6 P G N p c Q fr H:=by
 intro D w S F β a hp hH hf b k cs
 obtain ⟨e,a1,w1,⟨fr1,H1,S1,β1,q,hx1,hp1,hH1,hf1⟩,harr⟩:=h D w S F β a hp hH hf b (.inLoop c::k) cs
 cases e with
 | normal=>
   obtain ⟨e2,a2,w2,⟨fr2,H2,S2,β2,q2,hx2,r2⟩,harr2⟩:=q D w1 S1 F β1 a1 hp1 hH1 hf1 b k cs
   exact ⟨e2,a2,w2,⟨fr2,H2,S2,β2,q2,hx1.trans hx2,r2⟩, .of_steps (Steps.trans harr (.one step_inLoop)) harr2⟩
 | exit id=>exact ⟨_,a1,w1,⟨fr1,H1,S1,β1,q,hx1,hp1,hH1,hf1⟩, .pass (x:= .inLoop c) rfl (fun _ _=> .inl (by simp)) harr⟩
 | goto l=>exact ⟨_,a1,w1,⟨fr1,H1,S1,β1,q,hx1,hp1,hH1,hf1⟩, .pass (x:= .inLoop c) rfl (fun _ _=> .inl (by simp)) harr⟩
 | ret=>exact ⟨_,a1,w1,⟨fr1,H1,S1,β1,q,hx1,hp1,hH1,hf1⟩, .pass (x:= .inLoop c) rfl (fun _ _=> .inl (by simp)) harr⟩
 | panic ch=>exact ⟨_,a1,w1,⟨fr1,H1,S1,β1,q,hx1,hp1,hH1,hf1⟩, .pass (x:= .inLoop c) rfl (fun _ _=> .inl (by simp)) harr⟩
 | outgrown=>exact ⟨_,a1,w1,⟨fr1,H1,S1,β1,q,hx1,hp1,hH1,hf1⟩, .pass (x:= .inLoop c) rfl (fun _ _=> .inl (by simp)) harr⟩
end
inductive Item where
 | code (c:Code)
 | blk (id:Nat)
 | ops (d:Bool) (all:Array Oper) (os:List Oper)
 | bar
 | inl (c:Code)
def wpX (P:Program) (G:Nat→List AV) (d:Bool) (ops:Array Oper) (os:List Oper) (fr:Fr) (H:Hp) (K:Exit→Fr→Hp→Prop):Prop:=
 match d with
 | true=>wpD P G ops os fr H (K .normal)
 | false=>wpL P G ops os fr H K
def QK (P:Program) (G:Nat→List AV) (N p:Nat) (Q:Exit→Fr→Hp→Prop):List Item→Exit→Fr→Hp→Prop
 | []=>Q
 | .code c::k=>Wq (AWp P G N p c (QK P G N p Q k)) (QK P G N p Q k)
 | .blk id::k=>Wr id (QK P G N p Q k)
 | .bar::k=>QK P G N p Q k
 | .inl c::k=>Wq (qq6 P G N p c (QK P G N p Q k)) (QK P G N p Q k)
 | .ops d all os::k=>fun e fr H=>match e with
   | .normal=>wpX P G d all os fr H (QK P G N p Q k)
   | _=>False
def Zn (N:Nat):Code→Bool
 | .region _ ops d=>ops.toList.all (fun o=>o.dst.all (· < N)) && (!d || qp7 ops)
 | .seq a b=>Zn N a && Zn N b
 | .cond _ a b=>Zn N a && Zn N b
 | .block _ b=>Zn N b
 | .loop b=>Zn N b
 | _=>true
def wa (N:Nat):List Item→Bool
 | []=>true
 | .code c::k=>Zn N c && wa N k
 | .inl c::k=>Zn N c && wa N k
 | _::k=>wa N k
def puts:List (Nat × AV)→Fr→Fr
 | [],fr=>fr
 | (t,x)::ps,fr=>puts ps (put (some t) x fr)
def putB (u:Option Tmp) (b:Bool) (fr:Fr):Fr:=match u with
 | some t=>put (some t) (.bool b) fr
 | none=>fr
def putP (u:Option Tmp) (b:Bool):List (Nat × AV):=match u with
 | some t=> [(t, .bool b)]
 | none=> []
def qzr (u:Option Tmp) (kn:List Nat):List Nat:=match u with
 | some t=>t::kn
 | none=>kn
def qzh:Operand→Option Tmp
 | .tmp t=>some t
 | _=>none
def q4w (all:Array Oper) (j:Nat):Option Tmp:=(all[j]?).bind (·.dst)
inductive Cfg where
 | go (ps:List (Nat × AV)) (k:List Item) (kn:List Nat) (fr:FT) (n:Nat) (objs:Objs)
 | cond (b:Bool) (u:Option Tmp) (x y:Code) (k:List Item) (kn:List Nat) (fr:FT) (n:Nat) (objs:Objs)
 | guard (b want:Bool) (t:Tmp) (d:Bool) (all:Array Oper) (o:Oper) (os:List Oper) (k:List Item) (kn:List Nat) (fr:FT) (n:Nat) (objs:Objs)
 | call (f:FuncId) (xs:List AV) (dst:Option Tmp) (d:Bool) (all:Array Oper) (os:List Oper) (k:List Item) (kn:List Nat) (fr:FT) (n:Nat) (objs:Objs)
 | gen (o:Oper) (d:Bool) (all:Array Oper) (os:List Oper) (k:List Item) (kn:List Nat) (fr:FT) (n:Nat) (objs:Objs)
 | loop (c:Code) (k:List Item) (kn:List Nat) (fr:FT) (n:Nat) (objs:Objs)
 | again (c:Code) (k:List Item) (fr:FT) (n:Nat) (objs:Objs)
 | bar (k:List Item) (fr:FT) (n:Nat) (objs:Objs)
 | fin (e:Exit) (k:List Item) (fr:FT) (n:Nat) (objs:Objs)
def okIf (N:Nat) (k:List Item) (h:Prop):Prop:=wa N k=true→h
def Ok (P:Program) (G:Nat→List AV) (T:TT) (N p:Nat) (Q:Exit→Fr→Hp→Prop):Cfg→Prop
 | .go ps k kn fr n objs=>okIf N k (QK P G N p Q k .normal (puts ps (frT fr)) ⟨n,objs⟩)
 | .cond b u x y k kn fr n objs=>okIf N (.code x:: .code y::k) ((b=true→AWp P G N p x (QK P G N p Q k) (putB u true (frT fr)) ⟨n,objs⟩)∧(b=false→AWp P G N p y (QK P G N p Q k) (putB u false (frT fr)) ⟨n,objs⟩))
 | .guard b want t d all o os k kn fr n objs=>okIf N k ((b=want→wpX P G d all (Oper.free o::os) (put (some t) (.bool want) (frT fr)) ⟨n,objs⟩ (QK P G N p Q k))∧
    (b= !want→wpX P G d all os (put o.dst (.tup []) (put (some t) (.bool (!want)) (frT fr))) ⟨n,objs⟩ (QK P G N p Q k)))
 | .call f xs dst d all os k kn fr n objs=>okIf N k ((∃x,Fn P G f xs x∧wpX P G d all os (put dst x (frT fr)) ⟨n,objs⟩ (QK P G N p Q k))∨
    (∃x H',(d=true→(cwOf all).1=true∧qm8 G all.toList (frT fr) ⟨n,objs⟩ H')∧ACalls P G f xs ⟨n,objs⟩ x H'∧wpX P G d all os (put dst x (frT fr)) H' (QK P G N p Q k))∨(∃ch,d=false∧FCalls P G f xs ⟨n,objs⟩ ch∧QK P G N p Q k (.panic ch) (frT fr) ⟨n, []⟩))
 | .gen o d all os k kn fr n objs=>okIf N k ((∃x H',(d=true→qch G all (frT fr) objs o.op=true)∧evalOp P G (frT fr) ⟨n,objs⟩ o.op=some (x,H')∧wpX P G d all os (put o.dst x (frT fr)) H' (QK P G N p Q k))∨
    (∃c x,o.op= .call c∧Jw P G (frT fr) c=some x∧wpX P G d all os (put o.dst x (frT fr)) ⟨n,objs⟩ (QK P G N p Q k))∨
    (∃x H',d=false∧qqp P G (frT fr) ⟨n,objs⟩ o.op x H'∧wpX P G d all os (put o.dst x (frT fr)) H' (QK P G N p Q k))∨
    (∃x t k' i,d=false∧o.op= .panic x∧ev G (frT fr) x= .iface t (.int k' i)∧QK P G N p Q k (.panic [{v:= .iface t (.int k' i),recovered:=false}]) (frT fr) ⟨n, []⟩))
 | .loop c k kn fr n objs=>okIf N (.code c::k) (AWp P G N p (.loop c) (QK P G N p Q k) (frT fr) ⟨n,objs⟩)
 | .again c k fr n objs=>okIf N (.code c::k) (qq6 P G N p c (QK P G N p Q k) (frT fr) ⟨n,objs⟩)
 | .bar k fr n objs=>okIf N k (QK P G N p Q k .normal (frT fr) ⟨n,objs⟩)
 | .fin e k fr n objs=>okIf N k (QK P G N p Q k e (frT fr) ⟨n,objs⟩)
def setD {α:Type} (d:Option Tmp) (fr:FT) (x:AV) (k:FT→Option α):Option α:=match d with
 | none=>k fr
 | some t=>FT.setK 10 fr t x k
theorem qf4 {α:Type} {c:α} {d:Option Tmp} {fr:FT} {x:AV} {k:FT→Option α} (h:setD d fr x k=some c):∃fr',frT fr'=put d x (frT fr)∧k fr'=some c:=by
 unfold setD at h
 cases d with
 | none=>exact ⟨fr,rfl,h⟩
 | some t=>
   obtain ⟨fr',h1,h2⟩:=FT.setK_ok _ _ _ _ _ h
   exact ⟨fr',h1.put,h2⟩
def unkn (d:Option Tmp) (kn:List Nat):List Nat:=match d with
 | none=>kn
 | some t=>kn.filter fun u=> !Nat.beq t u
def q61 (kn:List Nat) (e:Operand→AV):Op→Bool
 | .move x=>qg1 kn x
 | .assign x=>qg1 kn x
 | .unOp _ _ x=>qg1 kn x
 | .pick c a b=>bif qg1 kn c then (match e c with | .bool true=>qg1 kn a | .bool false=>qg1 kn b | _=>false) else false
 | _=>false
def q88 (kn:List Nat) (e:Operand→AV) (o:Oper):List Nat:=match o.dst with
 | none=>kn
 | some t=>match q61 kn e o.op with
   | true=>t::kn
   | false=>match kn with
     | []=> []
     | kn=>kn.filter fun u=> !Nat.beq t u
def qfg (id:Nat):List Item→Option (List Item)
 | .blk i::k=>bif Nat.beq id i then some k else qfg id k
 | .code _::k=>qfg id k
 | .bar::k=>qfg id k
 | .inl _::k=>qfg id k
 | _=>none
def barC {α:Type} (bars:List Nat) (c:Operand) (k:List Item) (j:List Item→α):α:=match bars with
 | []=>j k
 | bars=>match c with
   | .tmp t=>bif bars.any (Nat.beq t) then j (.bar::k) else j k
   | _=>j k
def barB {α:Type} (bars:List Nat) (id:Nat) (k:List Item) (j:List Item→α):α:=match bars with
 | []=>j k
 | bars=>bif bars.any (Nat.beq (1000000+id)) then j (.bar::k) else j k
theorem q7h {α:Type} {bars:List Nat} {c:Operand} {k:List Item} {j:List Item→α}:barC bars c k j=j k∨barC bars c k j=j (.bar::k):=by
 unfold barC
 split
 ·exact .inl rfl
 split
 ·cases List.any _ _ with
  | true=>exact .inr rfl
  | false=>exact .inl rfl
 exact .inl rfl
theorem q7i {α:Type} {bars:List Nat} {id:Nat} {k:List Item} {j:List Item→α}:barB bars id k j=j k∨barB bars id k j=j (.bar::k):=by
 unfold barB
 split
 ·exact .inl rfl
 cases List.any _ _ with
 | true=>exact .inr rfl
 | false=>exact .inl rfl
def barR {α:Type} (bars:List Nat) (id:Nat) (k:List Item) (j:List Item→α):α:=match bars with
 | []=>j k
 | bars=>bif bars.any (Nat.beq (2000000+id)) then j (.bar::k) else j k
theorem q7g {α:Type} {bars:List Nat} {id:Nat} {k:List Item} {j:List Item→α}:barR bars id k j=j k∨barR bars id k j=j (.bar::k):=by
 unfold barR
 split
 ·exact .inl rfl
 cases List.any _ _ with
 | true=>exact .inr rfl
 | false=>exact .inl rfl
def barO (bars:List Nat) (d:Option Tmp):Bool:=match bars with
 | []=>false
 | bars=>match d with
   | some t=>bars.any (Nat.beq (3000000+t))
   | none=>false
def runK (T:TT) (G:Nat→List AV) (bars:List Nat):Nat→List (Nat × AV)→List Item→List Nat→FT→Nat→Objs→Option Cfg
 | 0,ps,k,kn,fr,n,objs=>none
 | m+1,(t,x)::ps,k,kn,fr,n,objs=>qjx x fun x=>FT.setK 10 fr t x fun fr=>runK T G bars m ps k kn fr n objs
 | m+1, [], [],kn,fr,n,objs=>some (.fin .normal [] fr n objs)
 | m+1, [], .blk _::k,kn,fr,n,objs=>runK T G bars m [] k kn fr n objs
 | m+1, [], .bar::k,kn,fr,n,objs=>some (.bar k fr n objs)
 | m+1, [], .inl c::k,kn,fr,n,objs=>some (.again c k fr n objs)
 | m +1, [], .code c::k,kn,fr,n,objs=>match c with
   | .skip=>runK T G bars m [] k kn fr n objs
   | .seq a b=>runK T G bars m [] (.code a:: .code b::k) kn fr n objs
   | .block id b=>barB bars id k fun k=>runK T G bars m [] (.code b:: .blk id::k) kn fr n objs
   | .region id ops d=>barR bars id k fun k=>runK T G bars m [] (.ops d ops ops.toList::k) kn fr n objs
   | .cond c a b=>match ev G (frT fr) c with
     | .bool t=>barC bars c k fun k=>bif qg1 kn c then (match t with | true=>runK T G bars m [] (.code a::k) kn fr n objs | false=>runK T G bars m [] (.code b::k) kn fr n objs) else some (.cond t (qzh c) a b k kn fr n objs)
     | _=>none
   | .loop b=>some (.loop b k kn fr n objs)
   | .exit id=>match qfg id k with
     | some k'=>runK T G bars m [] k' kn fr n objs
     | none=>some (.fin (.exit id) k fr n objs)
   | .ret=>some (.fin .ret k fr n objs)
   | _=>none
 | m+1, [], .ops d all []::k,kn,fr,n,objs=>runK T G bars m [] k kn fr n objs
 | m + 1, [], .ops d all (o::os)::k,kn,fr,n,objs=>match o.guard with
   | some (j,want)=>match q4w all j with
     | some t=>match fr.get t with
       | .bool b=>bif kn.any (Nat.beq t) then (match b,want with
          | true,true=>runK T G bars m [] (.ops d all (⟨o.dst,o.op,o.type,o.pos,o.after,none⟩::os)::k) kn fr n objs
          | false,false=>runK T G bars m [] (.ops d all (⟨o.dst,o.op,o.type,o.pos,o.after,none⟩::os)::k) kn fr n objs
          | _,_=>setD o.dst fr (.tup []) fun fr=>runK T G bars m [] (.ops d all os::k) (unkn o.dst kn) fr n objs)
         else some (.guard b want t d all o os k kn fr n objs)
       | .tup []=>setD o.dst fr (.tup []) fun fr=>runK T G bars m [] (.ops d all os::k) (unkn o.dst kn) fr n objs
       | _=>none
     | none=>none
   | none =>bif (d && !qch G all (frT fr) objs o.op) || barO bars o.dst then some (.gen o d all os k kn fr n objs) else match opR T kn (ev G (frT fr)) objs o.op with
     | .val x=>qn5 (q88 kn (ev G (frT fr)) o) fun kn=>qjx x fun x=>setD o.dst fr x fun fr=>runK T G bars m [] (.ops d all os::k) kn fr n objs
     | .lst sz full l=>Wg sz fun sz=>qn6 l fun l=>setD o.dst fr (.sl sz full l) fun fr=>runK T G bars m [] (.ops d all os::k) (unkn o.dst kn) fr n objs
     | .push ob=>qpu ob fun ob=>lenK objs 0 fun i=>qzj objs (n,ob) fun objs=>Wg (n+1) fun n'=>setD o.dst fr (.ptr i n 0) fun fr=>runK T G bars m [] (.ops d all os::k) kn fr n' objs
     | .store id s ob=>qpu ob fun ob=>qsb objs id (s,ob) fun objs=>setD o.dst fr .undef fun fr=>runK T G bars m [] (.ops d all os::k) kn fr n objs
     | .no=>match o.op with
       | .call c=>match wq G (frT fr) c with
         | some (f,xs)=>qk5 xs fun xs=>some (.call f xs o.dst d all os k kn fr n objs)
         | none=>some (.gen o d all os k kn fr n objs)
       | _=>some (.gen o d all os k kn fr n objs)
section
variable {T:TT} {Q:Exit→Fr→Hp→Prop}
theorem qob {d:Bool} {all:Array Oper} {o:Oper} {os:List Oper} {fr:Fr} {H H':Hp} {K:Exit→Fr→Hp→Prop} {x:AV} (hg:o.guard=none) (hs:d=true→qch G all fr H.objs o.op=true) (h:evalOp P G fr H o.op=some (x,H')) (hk:wpX P G d all os (put o.dst x fr) H' K):wpX P G d all (o::os) fr H K:=by
 cases d
 ·exact q8k hg h hk
 exact q8l hg (hs rfl) h hk
theorem q2y {d:Bool} {all:Array Oper} {o:Oper} {os:List Oper} {fr:Fr} {H:Hp} {K:Exit→Fr→Hp→Prop} {c:Call} {x:AV} (hg:o.guard=none) (ho:o.op= .call c) (h:Jw P G fr c=some x) (hk:wpX P G d all os (put o.dst x fr) H K):wpX P G d all (o::os) fr H K:=by
 cases d
 ·exact q20 hg ho h hk
 exact q23 hg ho h hk
theorem q2z {d:Bool} {all:Array Oper} {o:Oper} {os:List Oper} {fr:Fr} {H:Hp} {K:Exit→Fr→Hp→Prop} {c:Call} {f:FuncId} {xs:List AV} {x:AV} (hg:o.guard=none) (ho:o.op= .call c) (hc:wq G fr c=some (f,xs)) (h:Fn P G f xs x) (hk:wpX P G d all os (put o.dst x fr) H K):wpX P G d all (o::os) fr H K:=by
 cases d
 ·exact q21 hg ho hc h hk
 exact q24 hg ho hc h hk
theorem qo3 {fr:Fr} {t:Nat} {x:AV} (h:fr t=x):put (some t) x fr=fr:=funext fun i=>by
 rw [ur]
 by_cases hi:i=t
 ·rw [if_pos hi,hi,h]
 rw [if_neg hi]
theorem qsf {fr:Fr} {c:Operand} {b:Bool} (h:ev G fr c= .bool b):putB (qzh c) b fr=fr:=by
 cases c with
 | tmp t=>exact qo3 h
 | _=>rfl
theorem qe0 {d want b:Bool} {t j:Nat} {all:Array Oper} {o:Oper} {os:List Oper} {fr:Fr} {H:Hp} {K:Exit→Fr→Hp→Prop} (hg:o.guard=some (j,want)) (ht:(all[j]?).bind (·.dst)=some t) (hb:fr t= .bool b)
 (hy:b=want→wpX P G d all (Oper.free o::os) fr H K) (hn:b= !want→wpX P G d all os (put o.dst (.tup []) fr) H K):wpX P G d all (o::os) fr H K:=by
 cases d
 ·cases want
  ·exact qu8 hg ht hb hy hn
  exact qu7 hg ht hb hy hn
 cases want
 ·exact qvb hg ht hb hy hn
 exact qva hg ht hb hy hn
theorem qxp {d want:Bool} {t j:Nat} {all:Array Oper} {o:Oper} {os:List Oper} {fr:Fr} {H:Hp} {K:Exit→Fr→Hp→Prop} (hg:o.guard=some (j,want)) (ht:(all[j]?).bind (·.dst)=some t) (hb:fr t= .tup [])
 (h:wpX P G d all os (put o.dst (.tup []) fr) H K):wpX P G d all (o::os) fr H K:=by
 cases d
 ·exact qxr hg ht hb h
 exact qxv hg ht hb h
theorem qlx {next:Fr→Hp→Prop} {e:Exit} {fr:Fr} {H:Hp} (he:e≠ .normal) (h:Q e fr H):Wq next Q e fr H:=by
 cases e <;> first | exact absurd rfl he | exact h
theorem qff {id:Nat} {fr:Fr} {H:Hp}:∀(k k':List Item),qfg id k=some k'→(wa N k=true→wa N k'=true)∧(QK P G N p Q k' .normal fr H→QK P G N p Q k (.exit id) fr H)
 | [],_,h=>by simp [qfg] at h
 | .ops _ _ _::_,_,h=>by simp [qfg] at h
 | .code c::k,k',h=>by
   obtain ⟨h1,h2⟩:=qff k k' (by simpa [qfg] using h)
   exact ⟨fun hk=>h1 (by simp only [wa,An] at hk;exact hk.2),fun q=>qgz (h2 q)⟩
 | .inl c::k,k',h=>by
   obtain ⟨h1,h2⟩:=qff k k' (by simpa [qfg] using h)
   exact ⟨fun hk=>h1 (by simp only [wa,An] at hk;exact hk.2),fun q=>qgz (h2 q)⟩
 | .bar::k,k',h=>by
   obtain ⟨h1,h2⟩:=qff k k' (by simpa [qfg] using h)
   exact ⟨h1,h2⟩
 | .blk i::k,k',h=>by
   simp only [qfg] at h
   cases hb:Nat.beq id i with
   | true=>
     have:=AF hb;subst this
     rw [hb,cond_true] at h
     cases h
     exact ⟨fun hk=>hk,fun q=>qru q⟩
   | false=>
     rw [hb,cond_false] at h
     obtain ⟨h1,h2⟩:=qff k k' h
     exact ⟨fun hk=>h1 hk,fun q=>qif (by rw [←hb]) (h2 q)⟩
theorem Z3 {bars:List Nat} (hT:T.ok P fun t=>t) (hm:P.follows .mixedOrders=true):∀(m:Nat) (ps:List (Nat × AV)) (k:List Item) (kn:List Nat) (fr:FT) (n:Nat) (objs:Objs) (c:Cfg),
 runK T G bars m ps k kn fr n objs=some c→Ok P G T N p Q c→Ok P G T N p Q (.go ps k kn fr n objs)
 | 0,ps,k,kn,fr,n,objs,c,h,hc=>by simp [runK] at h
 | m+1,(t,x)::ps,k,kn,fr,n,objs,c,h,hc=>by
   simp only [runK,qiq] at h
   obtain ⟨fr',h1,h2⟩:=FT.setK_ok _ _ _ _ _ h
   have:=Z3 hT hm m ps k kn fr' n objs c h2 hc
   intro hk
   have:=this hk
   simp only [puts]
   rw [←h1.put]
   exact this
 | m+1, [], [],kn,fr,n,objs,c,h,hc=>by
   simp only [runK,Ab] at h
   subst h
   exact hc
 | m+1, [], .blk id::k,kn,fr,n,objs,c,h,hc=>by
   have:=Z3 hT hm m [] k kn fr n objs c (by simpa only [runK] using h) hc
   exact fun hk=>qg5 (this hk)
 | m+1, [], .bar::k,kn,fr,n,objs,c,h,hc=>by
   simp only [runK,Ab] at h
   subst h
   exact hc
 | m+1, [], .inl b::k,kn,fr,n,objs,c,h,hc=>by
   simp only [runK,Ab] at h
   subst h
   exact hc
 | m+1, [], .ops d all []::k,kn,fr,n,objs,c,h,hc=>by
   have:=Z3 hT hm m [] k kn fr n objs c (by simpa only [runK] using h) hc
   intro hk
   have:=this hk
   cases d
   ·exact this
   exact this
 | m + 1, [], .code cd::k,kn,fr,n,objs,c,h,hc=>by
   intro hk
   have hk':Zn N cd=true∧wa N k=true:=by simpa only [wa,An] using hk
   show Wq (AWp P G N p cd (QK P G N p Q k)) (QK P G N p Q k) .normal (puts [] (frT fr)) ⟨n,objs⟩
   refine Wb ?_
   show AWp P G N p cd (QK P G N p Q k) (frT fr) ⟨n,objs⟩
   cases cd with
   | skip=>
     have:=Z3 hT hm m [] k kn fr n objs c (by simpa only [runK] using h) hc
     exact qxm (this hk'.2)
   | seq a b=>
     have:=Z3 hT hm m [] (.code a:: .code b::k) kn fr n objs c (by simpa only [runK] using h) hc
     have hab:Zn N a=true∧Zn N b=true:=by simpa only [Zn,An] using hk'.1
     exact qu2 (this (by simp only [wa,hab.1,hab.2,hk'.2,Bm]))
   | block id b=>
     simp only [runK] at h
     rcases q7i (bars:=bars) (id:=id) (k:=k) (j:=fun k=>runK T G bars m [] (.code b:: .blk id::k) kn fr n objs) with e | e
     ·rw [e] at h
      have:=Z3 hT hm m [] (.code b:: .blk id::k) kn fr n objs c h hc
      exact qs8 (this (by simp only [wa,show Zn N b=true from hk'.1,hk'.2,Bm]))
     rw [e] at h
     have:=Z3 hT hm m [] (.code b:: .blk id:: .bar::k) kn fr n objs c h hc
     exact qs8 (this (by simp only [wa,show Zn N b=true from hk'.1,hk'.2,Bm]))
   | region id ops d=>
     simp only [runK] at h
     have hw:wpX P G d ops ops.toList (frT fr) ⟨n,objs⟩ (QK P G N p Q k):=by
      rcases q7g (bars:=bars) (id:=id) (k:=k) (j:=fun k=>runK T G bars m [] (.ops d ops ops.toList::k) kn fr n objs) with e | e
      ·rw [e] at h
       exact Z3 hT hm m [] (.ops d ops ops.toList::k) kn fr n objs c h hc hk'.2
      rw [e] at h
      exact Z3 hT hm m [] (.ops d ops ops.toList:: .bar::k) kn fr n objs c h hc hk'.2
     have h1:=hk'.1
     simp only [Zn,An,Bp,Bool.not_eq_true'] at h1
     obtain ⟨ops⟩:=ops
     cases d with
     | false=>exact qy7 h1.1 hw
     | true=>exact q6a hm h1.1 (h1.2.resolve_left (by simp)) hw
   | cond o a b=>
     have hab:Zn N a=true∧Zn N b=true:=by simpa only [Zn,An] using hk'.1
     simp only [runK] at h
     split at h
     ·rename_i t ht
      have key:∀k',QK P G N p Q k'=QK P G N p Q k→wa N k'=true→
       (bif qg1 kn o then (match t with | true=>runK T G bars m [] (.code a::k') kn fr n objs | false=>runK T G bars m [] (.code b::k') kn fr n objs) else some (.cond t (qzh o) a b k' kn fr n objs))=some c→
       AWp P G N p (.cond o a b) (QK P G N p Q k) (frT fr) ⟨n,objs⟩:=by
       intro k' hq hk2 h
       rw [←hq]
       cases hkn:qg1 kn o with
       | true=>
         rw [hkn,cond_true] at h
         cases t with
         | true=>
           have:=Z3 hT hm m [] (.code a::k') kn fr n objs c h hc
           exact qrt ht (this (by simp only [wa,hab.1,hk2,Bm]))
         | false=>
           have:=Z3 hT hm m [] (.code b::k') kn fr n objs c h hc
           exact qq5 ht (this (by simp only [wa,hab.2,hk2,Bm]))
       | false=>
         rw [hkn,cond_false] at h
         simp only [Ab] at h
         subst h
         obtain ⟨h1,h2⟩:=hc (by simp only [wa,hab.1,hab.2,hk2,Bm])
         refine qlw ht (fun e=> ?_) (fun e=> ?_)
         ·have:=h1 e
          rwa [qsf (by rw [←e];exact ht)] at this
         have:=h2 e
         rwa [qsf (by rw [←e];exact ht)] at this
      rcases q7h (bars:=bars) (c:=o) (k:=k) (j:=fun k=>bif qg1 kn o then (match t with | true=>runK T G bars m [] (.code a::k) kn fr n objs | false=>runK T G bars m [] (.code b::k) kn fr n objs) else some (.cond t (qzh o) a b k kn fr n objs)) with e | e
      ·rw [e] at h
       exact key k rfl hk'.2 h
      rw [e] at h
      exact key (.bar::k) rfl hk'.2 h
     cases h
   | loop b=>
     simp only [runK,Ab] at h
     subst h
     exact hc (by simp only [wa,show Zn N b=true from hk'.1,hk'.2,Bm])
   | exit id=>
     simp only [runK] at h
     split at h
     ·rename_i k' hx
      obtain ⟨h1,h2⟩:=qff (P:=P) (G:=G) (N:=N) (p:=p) (Q:=Q) (fr:=frT fr) (H:=⟨n,objs⟩) k k' hx
      have:=Z3 hT hm m [] k' kn fr n objs c h hc
      exact qxn (h2 (this (h1 hk'.2)))
     simp only [Ab] at h
     subst h
     exact qxn (hc hk'.2)
   | ret=>
     simp only [runK,Ab] at h
     subst h
     exact q1c (hc hk'.2)
   | _=>simp [runK] at h
 | m + 1, [], .ops d all (o::os)::k,kn,fr,n,objs,c,h,hc=>by
   intro hk
   have hk:wa N k=true:=hk
   show wpX P G d all (o::os) (frT fr) ⟨n,objs⟩ (QK P G N p Q k)
   simp only [runK] at h
   split at h
   ·rename_i j want hg
    split at h
    ·rename_i t ht
     split at h
     ·rename_i b hb
      cases hkn:kn.any (Nat.beq t) with
      | true=>
        rw [hkn,cond_true] at h
        have free:runK T G bars m [] (.ops d all (⟨o.dst,o.op,o.type,o.pos,o.after,none⟩::os)::k) kn fr n objs=some c→wpX P G d all (Oper.free o::os) (frT fr) ⟨n,objs⟩ (QK P G N p Q k):=fun h=>
         Z3 hT hm m [] (.ops d all (⟨o.dst,o.op,o.type,o.pos,o.after,none⟩::os)::k) kn fr n objs c h hc hk
        have skip:(setD o.dst fr (.tup []) fun fr=>runK T G bars m [] (.ops d all os::k) (unkn o.dst kn) fr n objs)=some c→wpX P G d all os (put o.dst (.tup []) (frT fr)) ⟨n,objs⟩ (QK P G N p Q k):=fun h=>by
         obtain ⟨fr',e,h'⟩:=qf4 h
         rw [←e]
         exact Z3 hT hm m [] (.ops d all os::k) (unkn o.dst kn) fr' n objs c h' hc hk
        cases b <;> cases want
        ·exact qe0 hg ht hb (fun _=>free h) (fun h=>by cases h)
        ·exact qe0 hg ht hb (fun h=>by cases h) (fun _=>skip h)
        ·exact qe0 hg ht hb (fun h=>by cases h) (fun _=>skip h)
        exact qe0 hg ht hb (fun _=>free h) (fun h=>by cases h)
      | false=>
        rw [hkn,cond_false] at h
        simp only [Ab] at h
        subst h
        obtain ⟨h1,h2⟩:=hc hk
        refine qe0 hg ht hb (fun e=> ?_) (fun e=> ?_)
        ·have:=h1 e
         rwa [qo3 (by rw [←e];exact hb)] at this
        have:=h2 e
        rwa [qo3 (t:=t) (x:= .bool (!want)) (by rw [←e];exact hb)] at this
     ·rename_i hb
      obtain ⟨fr',e,h'⟩:=qf4 h
      refine qxp hg ht hb ?_
      rw [←e]
      exact Z3 hT hm m [] (.ops d all os::k) (unkn o.dst kn) fr' n objs c h' hc hk
     cases h
    cases h
   rename_i hg
   have gen:some (Cfg.gen o d all os k kn fr n objs)=some c→wpX P G d all (o::os) (frT fr) ⟨n,objs⟩ (QK P G N p Q k):=fun h=>by
    simp only [Ab] at h
    subst h
    rcases hc hk with ⟨x,H',h0,h1,h2⟩ | ⟨cl,x,h0,h1,h2⟩ | ⟨x,H',rfl,h1,h2⟩ | ⟨x,t,k',i,rfl,h0,h1,h2⟩
    ·exact qob hg h0 h1 h2
    ·exact q2y hg h0 h1 h2
    ·exact q6c hg h1 h2
    exact q1d hg h0 h1 h2
   have hop:=q39 (G:=G) hT (n:=n) (objs:=objs) (fr:=frT fr) (kn:=kn) (op:=o.op)
   cases hds:((d && !qch G all (frT fr) objs o.op) || barO bars o.dst) with
   | true=>
     rw [hds,cond_true] at h
     exact gen h
   | false=>
   rw [hds,cond_false] at h
   have hs:d=true→qch G all (frT fr) objs o.op=true:=fun e=>by
    subst e
    simp only [Bv,Bool.or_eq_false_iff,Bool.not_eq_false'] at hds
    exact hds.1
   split at h
   ·rename_i x hx
    rw [hx] at hop
    simp only [qiq,qpv] at h
    obtain ⟨fr',e,h'⟩:=qf4 h
    refine qob hg hs hop ?_
    rw [←e]
    exact Z3 hT hm m [] (.ops d all os::k) _ fr' n objs c h' hc hk
   ·rename_i sz full l hx
    rw [hx] at hop
    simp only [qbk,qpw] at h
    obtain ⟨fr',e,h'⟩:=qf4 h
    refine qob hg hs hop ?_
    rw [←e]
    exact Z3 hT hm m [] (.ops d all os::k) _ fr' n objs c h' hc hk
   ·rename_i ob hx
    rw [hx] at hop
    simp only [qmc,qz7,qvt,qbk,AN] at h
    obtain ⟨fr',e,h'⟩:=qf4 h
    refine qob hg hs hop ?_
    rw [←e]
    exact Z3 hT hm m [] (.ops d all os::k) _ fr' _ _ c h' hc hk
   ·rename_i id s ob hx
    rw [hx] at hop
    simp only [qmc,qou] at h
    obtain ⟨fr',e,h'⟩:=qf4 h
    refine qob hg hs hop ?_
    rw [←e]
    exact Z3 hT hm m [] (.ops d all os::k) _ fr' _ _ c h' hc hk
   split at h
   ·rename_i cl hcl
    split at h
    ·rename_i f xs hf
     simp only [qjy,Ab] at h
     subst h
     rcases hc hk with ⟨x,h1,h2⟩ | ⟨x,H',hd,h1,h2⟩ | ⟨ch,rfl,h1,h2⟩
     rotate_right
     ·exact q1e hg hcl hf h1 h2
     ·exact q2z hg hcl hf h1 h2
     cases d with
     | true=>exact q1f hg hcl hf h1 (hd rfl).1 (hd rfl).2 h2
     | false=>exact qrw hg hcl hf h1 h2
    exact gen h
   exact gen h
variable {ps:List (Nat × AV)} {k:List Item} {kn:List Nat} {fr:FT} {n:Nat} {objs:Objs} {d:Bool} {all:Array Oper} {o:Oper} {os:List Oper} {dst:Option Tmp}
structure Env (P:Program) (T:TT):Prop where
 hT:T.ok P fun t=>t
 hm:P.follows .mixedOrders=true
theorem ky (E:Env P T) {c:Cfg} (h:runK T G [] 2000 ps k kn fr n objs=some c) (hc:Ok P G T N p Q c):Ok P G T N p Q (.go ps k kn fr n objs):=Z3 E.hT E.hm 2000 ps k kn fr n objs c h hc
theorem qc5 (E:Env P T) (bars:List Nat) {c:Cfg} (h:runK T G bars 2000 ps k kn fr n objs=some c) (hc:Ok P G T N p Q c):Ok P G T N p Q (.go ps k kn fr n objs):=Z3 E.hT E.hm 2000 ps k kn fr n objs c h hc
theorem qe {b:Bool} {u:Option Tmp} {x y:Code} (h1:b=true→Ok P G T N p Q (.go (putP u true) (.code x::k) (qzr u kn) fr n objs)) (h2:b=false→Ok P G T N p Q (.go (putP u false) (.code y::k) (qzr u kn) fr n objs)):Ok P G T N p Q (.cond b u x y k kn fr n objs):=by
 intro hk
 simp only [wa,An] at hk
 cases u with
 | none=>exact ⟨fun hb=>h1 hb (by simp only [wa,hk,Bm]),fun hb=>h2 hb (by simp only [wa,hk,Bm])⟩
 | some t=>exact ⟨fun hb=>h1 hb (by simp only [wa,hk,Bm]),fun hb=>h2 hb (by simp only [wa,hk,Bm])⟩
theorem qy {b:Bool} {u:Option Tmp} {x y:Code} (hb:b=true) (h:Ok P G T N p Q (.go (putP u true) (.code x::k) (qzr u kn) fr n objs)):Ok P G T N p Q (.cond b u x y k kn fr n objs):=qe (fun _=>h) (fun e=>by rw [hb] at e;cases e)
theorem qz {b:Bool} {u:Option Tmp} {x y:Code} (hb:b=false) (h:Ok P G T N p Q (.go (putP u false) (.code y::k) (qzr u kn) fr n objs)):Ok P G T N p Q (.cond b u x y k kn fr n objs):=qe (fun e=>by rw [hb] at e;cases e) (fun _=>h)
section
variable {op:Op} {ty:TypeId} {pos:String} {aft:Array Edge} {g:Option (Nat × Bool)} {u t:Nat} {b:Bool}
theorem qwp {want:Bool} {dst:Option Tmp} (h1:b=want→Ok P G T N p Q (.go [(t, .bool want)] (.ops d all (⟨dst,op,ty,pos,aft,none⟩::os)::k) (t::kn) fr n objs))
 (h2:b= !want→Ok P G T N p Q (.go (match dst with | some u=> [(t, .bool (!want)),(u, .tup [])] | none=> [(t, .bool (!want))]) (.ops d all os::k) (t::kn) fr n objs)):Ok P G T N p Q (.guard b want t d all ⟨dst,op,ty,pos,aft,g⟩ os k kn fr n objs):=by
 intro hk
 refine ⟨fun hb=>h1 hb hk,fun hb=> ?_⟩
 have:=h2 hb
 cases dst with
 | some u=>exact this hk
 | none=>exact this hk
theorem qr (h1:b=true→Ok P G T N p Q (.go [(t, .bool true)] (.ops d all (⟨some u,op,ty,pos,aft,none⟩::os)::k) (t::kn) fr n objs))
 (h2:b=false→Ok P G T N p Q (.go [(t, .bool false),(u, .tup [])] (.ops d all os::k) (t::kn) fr n objs)):Ok P G T N p Q (.guard b true t d all ⟨some u,op,ty,pos,aft,g⟩ os k kn fr n objs):=qwp h1 h2
theorem q9 (h1:b=false→Ok P G T N p Q (.go [(t, .bool false)] (.ops d all (⟨some u,op,ty,pos,aft,none⟩::os)::k) (t::kn) fr n objs))
 (h2:b=true→Ok P G T N p Q (.go [(t, .bool true),(u, .tup [])] (.ops d all os::k) (t::kn) fr n objs)):Ok P G T N p Q (.guard b false t d all ⟨some u,op,ty,pos,aft,g⟩ os k kn fr n objs):=qwp h1 h2
theorem qt (hb:b=true) (h:Ok P G T N p Q (.go [(t, .bool true)] (.ops d all (⟨some u,op,ty,pos,aft,none⟩::os)::k) (t::kn) fr n objs)):Ok P G T N p Q (.guard b true t d all ⟨some u,op,ty,pos,aft,g⟩ os k kn fr n objs):=
 qr (fun _=>h) (fun e=>by rw [hb] at e;cases e)
theorem qu (hb:b=false) (h:Ok P G T N p Q (.go [(t, .bool false),(u, .tup [])] (.ops d all os::k) (t::kn) fr n objs)):Ok P G T N p Q (.guard b true t d all ⟨some u,op,ty,pos,aft,g⟩ os k kn fr n objs):=
 qr (fun e=>by rw [hb] at e;cases e) (fun _=>h)
theorem qw (hb:b=false) (h:Ok P G T N p Q (.go [(t, .bool false)] (.ops d all (⟨some u,op,ty,pos,aft,none⟩::os)::k) (t::kn) fr n objs)):Ok P G T N p Q (.guard b false t d all ⟨some u,op,ty,pos,aft,g⟩ os k kn fr n objs):=
 q9 (fun _=>h) (fun e=>by rw [hb] at e;cases e)
theorem qv (hb:b=true) (h:Ok P G T N p Q (.go [(t, .bool true),(u, .tup [])] (.ops d all os::k) (t::kn) fr n objs)):Ok P G T N p Q (.guard b false t d all ⟨some u,op,ty,pos,aft,g⟩ os k kn fr n objs):=
 q9 (fun e=>by rw [hb] at e;cases e) (fun _=>h)
end
theorem qn {f:FuncId} {xs:List AV} {x:AV} {u:Tmp} (h:Fn P G f xs x) (hc:Ok P G T N p Q (.go [(u,x)] (.ops d all os::k) (unkn (some u) kn) fr n objs)):Ok P G T N p Q (.call f xs (some u) d all os k kn fr n objs):=
 fun hk=> .inl ⟨x,h,hc hk⟩
theorem qdy {x:AV} {n':Nat} {objs':Objs} {u:Tmp} {op:Op} {ty:TypeId} {pos:String} {aft:Array Edge} (hs:d=true→qch G all (frT fr) objs op=true) (h:evalOp P G (frT fr) ⟨n,objs⟩ op=some (x,⟨n',objs'⟩)) (hc:Ok P G T N p Q (.go [(u,x)] (.ops d all os::k) (unkn (some u) kn) fr n' objs')):
 Ok P G T N p Q (.gen ⟨some u,op,ty,pos,aft,none⟩ d all os k kn fr n objs):=fun hk=> .inl ⟨x,_,hs,h,hc hk⟩
theorem q53 {f:FuncId} {xs:List AV} {x:AV} (h:Fn P G f xs x) (hc:Ok P G T N p Q (.go [] (.ops d all os::k) kn fr n objs)):Ok P G T N p Q (.call f xs none d all os k kn fr n objs):=
 fun hk=> .inl ⟨x,h,hc hk⟩
theorem qxj {u:Tmp} {t:TypeId} {len:Nat} {ps:Array (Nat × Operand)} {ty:TypeId} {pos:String} {aft:Array Edge} {e:TypeId} {sz:Nat} {it ie:TI} {cs:List AV} {z:List AV} (E:Env P T)
 (hd:d=false) (ht:T.get t=some it) (he:it.elem=some (e,sz)) (hie:T.get e=some ie) (hz:ie.zero=some z) (hl:(Nat.ble (len*sz) 16777216 && Nat.blt 0 (len*sz))=true)
 (hf:Jv (fun i=>some (i*sz,sz)) (List.replicate (len*sz) .undef) (ps.toList.map fun q=>(q.1,ev G (frT fr) q.2))=some cs) (h1:cs.all (·.one)=true)
 (hc:Ok P G T N p Q (.go [(u, .bs sz objs.length n 0 len)] (.ops d all os::k) (unkn (some u) kn) fr (n+1) (objs++ [(n, .row e cs)]))):Ok P G T N p Q (.gen ⟨some u, .buildSlice t len ps,ty,pos,aft,none⟩ d all os k kn fr n objs):=by
 intro hk
 refine .inr (.inr (.inl ⟨.bs sz objs.length n 0 len,Hp.push ⟨n,objs⟩ (.row e cs),hd,⟨e,sz,cs,?_,rfl,rfl⟩,hc hk⟩))
 simp only [An] at hl
 have c1:=Ao hl.1
 have c2:0 < len*sz:=Ao hl.2
 unfold qgk
 simp only [(ti E.hT ht).elem _ he,(ti E.hT hie).zero _ hz,Option.isSome_some]
 rw [if_pos ⟨c1,c2,trivial⟩]
 simp only [hf,h1,if_true]
theorem qay {u:Tmp} {t:TypeId} {a i:Operand} {ty:TypeId} {pos:String} {aft:Array Edge} {sz:Nat} {full:Bool} {l:List (List AV)} {κ:IntKind} {j:Int} {c:List AV} {e:TypeId} {it:TI} (E:Env P T)
 (ha:ev G (frT fr) a= .sl sz full l) (hi:ev G (frT fr) i= .int κ j) (ht:T.get t=some it) {m:Nat} (he:it.elem=some (e,sz)) (h0:j=(m:Int)) (hl:l[m]? =some c)
 (hc:Ok P G T N p Q (.go [(u, .rptr c)] (.ops d all os::k) (unkn (some u) kn) fr n objs)):Ok P G T N p Q (.gen ⟨some u, .indexAddr t a i,ty,pos,aft,none⟩ d all os k kn fr n objs):=by
 refine qdy (fun _=>rfl) ?_ hc
 subst h0
 simp only [evalOp,ha,hi,Kc,if_pos (BL m),Bj,(ti E.hT ht).elem _ he,if_true,hl,Ba]
theorem qmj {u:Tmp} {t:TypeId} {a i:Operand} {ty:TypeId} {pos:String} {aft:Array Edge} {sz len:Nat} {κ:IntKind} {j:Int} {cs c:List AV} {e:TypeId} {it:TI} (E:Env P T)
 (ha:ev G (frT fr) a= .rptr cs) (hi:ev G (frT fr) i= .int κ j) (ht:T.get t=some it) (he:it.arr=some (len,e,sz)) (h0:0≤j) (h1:j.toNat < len) (hl:(cs.drop (j.toNat*sz)).take sz=c)
 (hc:Ok P G T N p Q (.go [(u, .rptr c)] (.ops d all os::k) (unkn (some u) kn) fr n objs)):Ok P G T N p Q (.gen ⟨some u, .indexAddr t a i,ty,pos,aft,none⟩ d all os k kn fr n objs):=by
 refine qdy (fun _=>rfl) ?_ hc
 subst hl
 simp only [evalOp,ha,hi,Kc,if_pos h0,(ti E.hT ht).arr _ he,if_pos h1,Ba]
theorem q52 {u:Tmp} {t:TypeId} {a i:Operand} {ty:TypeId} {pos:String} {aft:Array Edge} {κ:IntKind} {j:Int} {s:ByteArray} {b:UInt8} {it:TI} (E:Env P T)
 (ha:ev G (frT fr) a= .str s) (hi:ev G (frT fr) i= .int κ j) (ht:T.get t=some it) {m:Nat} (he:it.str=true) (h0:j=(m:Int)) (hl:s[m]? =some b)
 (hc:Ok P G T N p Q (.go [(u, .int .u8 b.toNat)] (.ops d all os::k) (unkn (some u) kn) fr n objs)):Ok P G T N p Q (.gen ⟨some u, .index t a i,ty,pos,aft,none⟩ d all os k kn fr n objs):=by
 refine qdy (fun _=>rfl) ?_ hc
 subst h0
 simp only [evalOp,ha,hi,qkz,if_pos (BL m),Bj,(ti E.hT ht).str he,if_true,hl,Ba]
theorem qut {u:Tmp} {t:TypeId} {a:Operand} {lo hi:Option Operand} {ty:TypeId} {pos:String} {aft:Array Edge} {s:ByteArray} {l h:Nat} {it:TI} (E:Env P T)
 (ha:ev G (frT fr) a= .str s) (ht:T.get t=some it) (he:it.str=true) (hl:vp (lo.map (ev G (frT fr))) 0=some l) (hh:vp (hi.map (ev G (frT fr))) s.size=some h) (h1:l≤h) (h2:h≤s.size)
 (hc:Ok P G T N p Q (.go [(u, .str (s.extract l h))] (.ops d all os::k) (unkn (some u) kn) fr n objs)):Ok P G T N p Q (.gen ⟨some u, .slice t a lo hi none,ty,pos,aft,none⟩ d all os k kn fr n objs):=by
 refine qdy (fun _=>rfl) ?_ hc
 simp only [evalOp,ha,Option.map_none,qf3,(ti E.hT ht).str he,Option.isNone_none,and_self,if_true,hl,hh]
 rw [if_pos ⟨h1,h2⟩]
 rfl
theorem qle {κ:IntKind} {i:Int} {d m:Nat} (h:i=(m:Int)):vp (some (.int κ i)) d=some m:=by
 subst h
 simp only [vp,if_pos (BL m),Bj]
theorem qj8 {H:Hp} {f:Fr}:∀(k:List Item),(∀i∈k,match i with | .ops _ _ _=>False | _=>True)→Q .ret f H→QK P G N p Q k .ret f H
 | [],_,h=>h
 | .code c::k,hk,h=>qs9 (qj8 k (fun i hi=>hk i (Ay _ hi)) h)
 | .blk id::k,hk,h=>qu5 (qj8 k (fun i hi=>hk i (Ay _ hi)) h)
 | .bar::k,hk,h=>qj8 k (fun i hi=>hk i (Ay _ hi)) h
 | .inl c::k,hk,h=>qs9 (qj8 k (fun i hi=>hk i (Ay _ hi)) h)
 | .ops d a o::k,hk,h=>(hk _ (AK ..)).elim
def qi7:List Item→Bool
 | []=>true
 | .ops _ _ _::_=>false
 | _::k=>qi7 k
theorem Wm:∀(k:List Item),qi7 k=true→∀i∈k,match i with | .ops _ _ _=>False | _=>True
 | [],_,i,hi=>by cases hi
 | .code c::k,h,i,hi=>by
   rcases AE.1 hi with rfl | hi
   ·trivial
   exact Wm k h i hi
 | .blk c::k,h,i,hi=>by
   rcases AE.1 hi with rfl | hi
   ·trivial
   exact Wm k h i hi
 | .bar::k,h,i,hi=>by
   rcases AE.1 hi with rfl | hi
   ·trivial
   exact Wm k h i hi
 | .inl c::k,h,i,hi=>by
   rcases AE.1 hi with rfl | hi
   ·trivial
   exact Wm k h i hi
 | .ops _ _ _::k,h,i,hi=>by simp [qi7] at h
def Told (P:Program) (G:Nat→List AV) (H:Hp) (y x:AV):Prop:=
 ∀w S F β v,HR G w S F β H→RV w S β H.n y v→∃S',Ext w S F β 0 w S' β 0∧(∀k,S' k→k < w.heap.size)∧RV w S' β H.n x v
theorem Told.refl {H:Hp} {x:AV}:Told P G H x x:=fun w S F β v hH hv=>⟨S, .refl ..,hH.lts,hv⟩
theorem zl {H:Hp} {y x:AV} (h:y=x):Told P G H y x:=h ▸ Told.refl
def resK (T:TT) (fr:FT) (objs:Objs):ResultVar→Option AV
 | .tmp t=>some (fr.get t)
 | .cell t ty=>match qlc objs (fr.get t) with
   | some cs=>qzp T ty cs
   | none=>none
def qkp (T:TT) (fr:FT) (objs:Objs):List ResultVar→(List AV→Option AV)→Option AV
 | [],k=>k []
 | r::rs,k=>match resK T fr objs r with
   | some x=>qpx x fun x=>qkp T fr objs rs fun xs=>k (x::xs)
   | none=>none
def qi6:List AV→Option AV
 | [x]=>some x
 | xs=>some (.tup xs)
theorem qhm (hT:T.ok P fun t=>t) {y:AV}:∀(rs:List ResultVar) (g:List AV→Option AV),qkp T fr objs rs g=some y→∃xs,rs.mapM (qkq P (frT fr) ⟨n,objs⟩)=some xs∧g xs=some y
 | [],g,h=>⟨[],rfl,h⟩
 | r :: rs,g,h=>by
   simp only [qkp] at h
   split at h
   ·rename_i x hx
    simp only [qmd] at h
    obtain ⟨xs,h1,h2⟩:=qhm hT rs _ h
    refine ⟨x::xs,?_,h2⟩
    have :qkq P (frT fr) ⟨n,objs⟩ r=some x:=by
     cases r with
     | tmp t=>exact hx
     | cell t ty=>
       simp only [resK] at hx
       split at hx
       ·rename_i cs hcs
        simp only [qkq]
        rw [show Js ⟨n,objs⟩ (frT fr t)=some cs from qnc hcs]
        exact qv5 hT hx
       cases hx
    simp only [List.mapM_cons,this,h1,Option.bind_eq_bind,Bt,Option.pure_def]
   cases h
theorem yg (E:Env P T) {rs:List ResultVar} {x y:AV} (hk:qi7 k=true) (h:qkp T fr objs rs qi6=some y) (ht:Told P G ⟨n,objs⟩ y x):Ok P G T N p (Ret P rs (fun y H=>Told P G H y x)) (.fin .ret k fr n objs):=by
 intro _
 refine qj8 k (Wm k hk) ?_
 obtain ⟨xs,h1,h2⟩:=qhm (n:=n) E.hT rs _ h
 refine ⟨y,?_,ht⟩
 unfold Zm
 rw [h1]
 unfold qi6 at h2
 split at h2
 ·exact h2
 rename_i hne
 split
 ·rename_i x' hx'
  exact absurd (Bh hx') (hne x')
 ·rename_i xs' _ hx'
  cases hx'
  exact h2
 rename_i hx';cases hx'
theorem jp (E:Env P T) {rs:List ResultVar} {x y:AV} (h:qkp T fr objs rs qi6=some y) (ht:Told P G ⟨n,objs⟩ y x):Ok P G T N p (Ret P rs (fun y H=>Told P G H y x)) (.fin .normal [] fr n objs):=by
 intro _
 obtain ⟨xs,h1,h2⟩:=qhm (n:=n) E.hT rs _ h
 refine ⟨y,?_,ht⟩
 unfold Zm
 rw [h1]
 unfold qi6 at h2
 split at h2
 ·exact h2
 rename_i hne
 split
 ·rename_i x' hx'
  exact absurd (Bh hx') (hne x')
 ·rename_i xs' _ hx'
  cases hx'
  exact h2
 rename_i hx';cases hx'
def qjb:Nat→List AV→List (Nat × AV)
 | _, []=> []
 | i,x::xs=>(i,x)::qjb (i+1) xs
theorem qo2:∀(xs:List AV) (i:Nat) (fr:Fr) (t:Nat),puts (qjb i xs) fr t=if i≤t∧t < i+xs.length then xs.getD (t - i) .undef else fr t
 | [],i,fr,t=>by simp [qjb,puts];omega
 | x ::xs,i,fr,t=>by
   simp only [qjb,puts]
   rw [qo2 xs (i+1) _ t]
   by_cases h1:i+1≤t∧t < i+1+xs.length
   ·rw [if_pos h1,if_pos (by simp only [Ae];omega)]
    obtain ⟨m,hm⟩:∃m,t - i=m+1:=⟨t - i - 1,by omega⟩
    rw [hm,show t - (i+1)=m by omega,List.getD_cons_succ]
   rw [if_neg h1,ur]
   by_cases h2:t=i
   ·subst h2
    rw [if_pos rfl,if_pos (by simp),Nat.sub_self,List.getD_cons_zero]
   rw [if_neg h2,if_neg (by simp only [Ae];omega)]
theorem qef (xs:List AV):puts (qjb 0 xs) (frT .z)=qas xs:=funext fun t=>by
 rw [qo2]
 simp only [AD,true_and,AN,Nat.sub_zero,qas]
 split
 ·rfl
 rename_i h
 rw [Ax,List.getElem?_eq_none (by omega)]
 rfl
def AV.closed2:AV→Bool
 | .agg cs=>cs.all AV.closed
 | .tup cs=>cs.all AV.closed
 | x=>x.closed
theorem zf (x:AV) (h:x.closed2=true):Pure x:=by
 cases x with
 | agg cs=>exact .agg cs (fun y hy=>j9 y (Aw.1 h y hy))
 | tup cs=>exact .tup cs (fun y hy=>j9 y (Aw.1 h y hy))
 | _=>exact j9 _ h
theorem z8 {f:Nat} {fn:Func} {c:Code} {rs:List ResultVar} {xs:List AV} {x:AV} (hcall:∀vs w,(callFunc f vs).run P w= .ok (.enter f vs) w) (hf:P.funcs[f]? =some fn) (hb:fn.body=some c) (hN:fn.ntmps=N) (hr:fn.results.toList=rs) (hle:Nat.ble xs.length N=true)
 (hok:Zn N c=true) (hxs:∀y∈xs,Pure y) (hx:Pure x) (h:Ok P G T N 0 (Ret P rs (fun y H=>Told P G H y x)) (.go (qjb 0 xs) [.code c] [] .z 0 [])):Fn P G f xs x:=by
 subst hN hr
 intro w S β n vs hH hv
 rw [hcall]
 show Calls P f vs w _
 have hA:AWp P G fn.ntmps 0 c (Ret P fn.results.toList (fun y H=>Told P G H y x)) (qas xs) ⟨0, []⟩:=by
  have:=h (by simp only [wa,hok,Bm])
  rw [qef] at this
  exact this
 have hH0:HR G w S (· < w.heap.size) β ⟨0, []⟩:=⟨hH.lts,hH.ltf,fun g=>(hH.glob g).pure (.rptr _),by simp,by simp,by simp⟩
 have hv0:RVs w S β 0 xs vs:=⟨hv.1,fun i y hi=>(hv.2 i y hi).pure (hxs y (Af hi))⟩
 refine calls_of_wp hf hb (wp_mono (hA [] w S _ β _ (Aj _) hH0 (qlb hv0 (Ao hle))) ?_)
 rintro e a' w' ⟨fr',H',S',β',q,hx1,_,hH',hf'⟩
 have fin:∀y,Zm P fn.results.toList fr' H'=some y→Told P G H' y x→a'.defers= []∧∃v,(results fn a'.tmps).run P w'= .ok v w'∧∃u,Ending.returned v= .returned u∧∃S',Ext w S (· < w.heap.size) β n w' S' β n∧(∀k,S' k→k < w'.heap.size)∧RV w' S' β n x u:=by
  intro y hy ht
  obtain ⟨v,hrun,hR⟩:=qjn (P:=P) hH' hf' hy
  obtain ⟨S2,hx2,hlt,hR2⟩:=ht w' S' _ β' v hH' hR
  have hx3:=hx1.trans hx2
  exact ⟨hf'.defers,v,hrun,v,rfl,S2,⟨hx3.os,hx3.tape,hx3.output,hx3.size,Aj _,fun _ _=>rfl,hx3.sub,hx3.new,hx3.same,hx3.fsame,hx3.shape⟩,hlt,hR2.pure hx⟩
 cases e <;> first
  | exact q.elim
  | (obtain ⟨y,hy,hyx⟩:=q
     exact fin y hy hyx)
end
theorem jo {xs:List AV} (h:xs.all AV.closed2=true):∀y∈xs,Pure y:=fun y hy=>zf y (Aw.1 h y hy)
theorem qq4 {f:Nat} {x:AV} (hcall:∀vs w,(callFunc f vs).run P w= .ok (.enter f vs) w) {w:World} {S:Nat→Prop} {β:Nat→Nat} {n:Nat} {vs:Array Value} (hH:HR G w S (· < w.heap.size) β ⟨n, []⟩)
 (h:Calls P f vs w fun e w'=>(∃v,e= .returned v∧∀S' β' n',RV w' S' β' n' x v)∧RowKit.Below w.heap.size w w'):Up P (fun v w'=>∃S',Ext w S (· < w.heap.size) β n w' S' β n∧(∀k,S' k→k < w'.heap.size)∧RV w' S' β n x v) ((callFunc f vs).run P w):=by
 rw [hcall]
 show Calls P f vs w _
 refine h.mono ?_
 rintro e w' ⟨⟨v,rfl,hR⟩,hb⟩
 refine ⟨v,rfl,S,⟨hb.os,hb.tape,hb.output,hb.size,Aj _,fun _ _=>rfl,fun _ h=>h,fun _ h=> .inl h,fun k hk=>hb.block k (hH.lts k hk),fun k hk=>hb.block k hk,fun k y hy=> ?_⟩,fun k hk=>AU (hH.lts k hk) hb.size,hR S β n⟩
 have hlt:k < w.heap.size:=by
  rcases Br k w.heap.size with h | h
  ·exact h
  unfold World.shape? at hy
  rw [BN h] at hy
  cases hy
 unfold World.shape? at hy ⊢
 rw [hb.block k hlt]
 exact hy
theorem qlv {f:Nat} {xs:List AV} {x:AV} (hcall:∀vs w,(callFunc f vs).run P w= .ok (.enter f vs) w) (h:∀w S β n vs,(∀g,GV w S β n g (G g))→RVs w S β n xs vs→Calls P f vs w fun e w'=>(∃v,e= .returned v∧∀S' β' n',RV w' S' β' n' x v)∧RowKit.Below w.heap.size w w'):Fn P G f xs x:=fun w S β n vs hH hv=>qq4 hcall hH (h w S β n vs hH.glob hv)
theorem qcd {f:Nat} {xs:List AV} {x:AV} (hcall:∀vs w,(callFunc f vs).run P w= .ok (.enter f vs) w) (h:∀w S β n vs,RVs w S β n xs vs→Calls P f vs w fun e w'=>(∃v,e= .returned v∧∀S' β' n',RV w' S' β' n' x v)∧RowKit.Below w.heap.size w w'):Fn P G f xs x:=
 qlv hcall fun w S β n vs _ hv=>h w S β n vs hv
def wk0 (x y:AV):Prop:=match y with
 | .sl sz' full' l'=>(match x with | .sl sz full l=>l=l'∧(sz=sz'∨l'= [])∧(full'=true→full=true∧(sz=sz'∨0 < sz')) | _=>False)
 | y=>x=y
def wk0L:List AV→List AV→Prop
 | [], []=>True
 | x::xs,y::ys=>wk0 x y∧wk0L xs ys
 | _,_=>False
def q27:List (List AV)→List (List AV)→Prop
 | [], []=>True
 | x::xs,y::ys=>wk0L x y∧q27 xs ys
 | _,_=>False
def wk1 (x y:AV):Prop:=match y with
 | .sl sz' full' l'=>(match x with | .sl sz full l=>(l=l'∨q27 l l')∧(sz=sz'∨l'= [])∧(full'=true→full=true∧(sz=sz'∨0 < sz')) | _=>False)
 | y=>x=y
def wkL:List AV→List AV→Prop
 | [], []=>True
 | x::xs,y::ys=>wk1 x y∧wkL xs ys
 | _,_=>False
def wk (x y:AV):Prop:=match y with
 | .agg ds=>(match x with | .agg cs=>wkL cs ds | _=>False)
 | y=>wk1 x y
def wkLs:List AV→List AV→Prop
 | [], []=>True
 | x::xs,y::ys=>wk x y∧wkLs xs ys
 | _,_=>False
section
variable {w:World} {S:Nat→Prop} {β:Nat→Nat} {n:Nat}
theorem q26 {x y:AV} {v:Value} (h:wk0 x y) (hv:RV w S β n x v):RV w S β n y v:=by
 unfold wk0 at h
 split at h
 ·split at h
  ·obtain ⟨rfl,hs,hf⟩:=h
   cases hv with
   | sl _ _ _ A cap u hl hm hf0 hA hA1 hS hsz h1 hc hr hV=>
     rcases hs with rfl | rfl
     ·exact .sl _ _ _ A cap u hl hm (fun e=>hf0 (hf e).1) hA hA1 hS hsz h1 hc hr (fun e=>hV (hf e).1)
     exact .sl _ _ [] A cap u hl hm (fun e=>hf0 (hf e).1) hA hA1 hS (by simp) (by simp) (by simp) (by simp) (fun e h=>(hf e).2.elim (fun h2=>hV (hf e).1 (h2.trans h)) (fun h2=>absurd h (Nat.ne_of_gt h2)))
  exact h.elim
 subst h;exact hv
theorem q6d {x y:AV} (h:wk0 x y):y.one=x.one:=by
 unfold wk0 at h
 split at h
 ·split at h
  ·rfl
  exact h.elim
 rw [h]
theorem qhd:∀(cs ds:List AV),wk0L cs ds→cs.length=ds.length∧∀(i:Nat) (y:AV),ds[i]? =some y→∃x,cs[i]? =some x∧wk0 x y
 | [], [],_=>⟨rfl,by simp⟩
 | [],_::_,h=>h.elim
 | _::_, [],h=>h.elim
 | x::xs,y::ys,h=>by
   obtain ⟨h1,h2⟩:=qhd xs ys h.2
   refine ⟨by simp [h1],fun i z hi=> ?_⟩
   cases i with
   | zero=>simp at hi;subst hi;exact ⟨x,rfl,h.1⟩
   | succ i=>simpa using h2 i z (by simpa using hi)
theorem qrx:∀(cs ds:List (List AV)),q27 cs ds→cs.length=ds.length∧∀(i:Nat) (y:List AV),ds[i]? =some y→∃x,cs[i]? =some x∧wk0L x y
 | [], [],_=>⟨rfl,by simp⟩
 | [],_::_,h=>h.elim
 | _::_, [],h=>h.elim
 | x::xs,y::ys,h=>by
   obtain ⟨h1,h2⟩:=qrx xs ys h.2
   refine ⟨by simp [h1],fun i z hi=> ?_⟩
   cases i with
   | zero=>simp at hi;subst hi;exact ⟨x,rfl,h.1⟩
   | succ i=>simpa using h2 i z (by simpa using hi)
theorem ql1 {x y:AV} {v:Value} (h:wk1 x y) (hv:RV w S β n x v):RV w S β n y v:=by
 unfold wk1 at h
 split at h
 ·split at h
  ·rename_i sz' full' l' _ sz full l
   obtain ⟨he,hs,hf⟩:=h
   rcases he with rfl | hl
   ·exact q26 (x:= .sl sz full l) (y:= .sl sz' full' l) ⟨rfl,hs,hf⟩ hv
   obtain ⟨h1,h2⟩:=qrx _ _ hl
   cases hv with
   | sl _ _ _ A cap u hl0 hm hf0 hA hA1 hS hsz h1' hc hr hV=>
     have hne:l'≠ []→l≠ []:=by intro h e;subst e;exact h (AZ.1 h1.symm)
     rw [h1]
     refine .sl sz' full' l' A cap u (by omega) hm (fun e=>by rw [←h1];exact hf0 (hf e).1) (fun h=>hA (hne h)) (fun h=>hA1 (hne h)) (fun b o hb hn=>hS b o hb (hne hn)) (fun c hc=> ?_) (fun c hc x hx=> ?_) (fun b o hb j c i x hj hi=> ?_) (fun j c i x hj hi=> ?_) (fun e h=>(hf e).2.elim (fun h2=>hV (hf e).1 (h2.trans h)) (fun h2=>absurd h (Nat.ne_of_gt h2)))
     ·obtain ⟨j,hj⟩:=AB hc
      obtain ⟨c0,hc0,hk⟩:=h2 j c hj
      rw [←(qhd _ _ hk).1,hsz c0 (Af hc0)]
      exact hs.resolve_right (by intro e;rw [e] at hc;cases hc)
     ·obtain ⟨j,hj⟩:=AB hc
      obtain ⟨c0,hc0,hk⟩:=h2 j c hj
      obtain ⟨i,hi⟩:=AB hx
      obtain ⟨x0,hx0,hk0⟩:=(qhd _ _ hk).2 i x hi
      rw [q6d hk0];exact h1' c0 (Af hc0) x0 (Af hx0)
     ·obtain ⟨c0,hc0,hk⟩:=h2 j c hj
      obtain ⟨x0,hx0,hk0⟩:=(qhd _ _ hk).2 i x hi
      rw [←hs.resolve_right (by intro e;rw [e] at hj;simp at hj)]
      exact hc b o hb j c0 i x0 hc0 hx0
     obtain ⟨c0,hc0,hk⟩:=h2 j c hj
     obtain ⟨x0,hx0,hk0⟩:=(qhd _ _ hk).2 i x hi
     exact q26 hk0 (hr j c0 i x0 hc0 hx0)
  exact h.elim
 subst h;exact hv
theorem qij {x y:AV} (h:wk1 x y):y.one=x.one:=by
 unfold wk1 at h
 split at h
 ·split at h
  ·rfl
  exact h.elim
 rw [h]
theorem qd9:∀(cs ds:List AV),wkL cs ds→cs.length=ds.length∧∀(i:Nat) (y:AV),ds[i]? =some y→∃x,cs[i]? =some x∧wk1 x y
 | [], [],_=>⟨rfl,by simp⟩
 | [],_::_,h=>h.elim
 | _::_, [],h=>h.elim
 | x::xs,y::ys,h=>by
   obtain ⟨h1,h2⟩:=qd9 xs ys h.2
   refine ⟨by simp [h1],fun i z hi=> ?_⟩
   cases i with
   | zero=>simp at hi;subst hi;exact ⟨x,rfl,h.1⟩
   | succ i=>simpa using h2 i z (by simpa using hi)
theorem q7z {x y:AV} {v:Value} (h:wk x y) (hv:RV w S β n x v):RV w S β n y v:=by
 unfold wk at h
 split at h
 ·split at h
  ·rename_i ds _ cs
   obtain ⟨hl,hg⟩:=qd9 cs ds h
   cases hv with
   | agg _ vs hs h1 hr=>
     refine .agg ds vs (by rw [hs,hl]) (fun z hz=> ?_) (fun i z hi=> ?_)
     ·obtain ⟨i,hi⟩:=AB hz
      obtain ⟨x,hx,hw⟩:=hg i z hi
      rw [qij hw];exact h1 x (Af hx)
     obtain ⟨x,hx,hw⟩:=hg i z hi
     exact ql1 hw (hr i x hx)
  exact h.elim
 exact ql1 h hv
theorem qoh:∀(cs ds:List AV),wkLs cs ds→cs.length=ds.length∧∀(i:Nat) (y:AV),ds[i]? =some y→∃x,cs[i]? =some x∧wk x y
 | [], [],_=>⟨rfl,by simp⟩
 | [],_::_,h=>h.elim
 | _::_, [],h=>h.elim
 | x::xs,y::ys,h=>by
   obtain ⟨h1,h2⟩:=qoh xs ys h.2
   refine ⟨by simp [h1],fun i z hi=> ?_⟩
   cases i with
   | zero=>simp at hi;subst hi;exact ⟨x,rfl,h.1⟩
   | succ i=>simpa using h2 i z (by simpa using hi)
end
theorem Fn.wk {f:FuncId} {xs ys:List AV} {x:AV} (h:Fn P G f ys x) (hw:wkLs xs ys):Fn P G f xs x:=by
 intro w S β n vs hH hv
 obtain ⟨hl,hg⟩:=qoh xs ys hw
 refine h w S β n vs hH ⟨by rw [hv.1,hl],fun i y hi=> ?_⟩
 obtain ⟨z,hz,hk⟩:=hg i y hi
 exact q7z hk (hv.2 i z hz)
def Less (G:Nat→List AV) (N p:Nat) (fr:Fr) (H:Hp) (fr':Fr) (H':Hp):Prop:=
 ∀D w S F β a,p≤H.n→HR G w S F β H→FRx D w S β H.n N fr a→∃S' β',Ext w S F β p w S' β' p∧p≤H'.n∧HR G w S' F β' H'∧FRx D w S' β' H'.n N fr' a
theorem Less.trans {f1 f2 f3:Fr} {H1 H2 H3:Hp} (h:Less G N p f1 H1 f2 H2) (k:Less G N p f2 H2 f3 H3):Less G N p f1 H1 f3 H3:=by
 intro D w S F β a hp hH hf
 obtain ⟨S',β',hx,hp',hH',hf'⟩:=h D w S F β a hp hH hf
 obtain ⟨S2,β2,hx2,hp2,hH2,hf2⟩:=k D w S' F β' a hp' hH' hf'
 exact ⟨S2,β2,hx.trans hx2,hp2,hH2,hf2⟩
theorem qid {c:Code} {Q:Exit→Fr→Hp→Prop} {f1 f2:Fr} {H1 H2:Hp} (h:Less G N p f1 H1 f2 H2) (k:AWp P G N p c Q f2 H2):AWp P G N p c Q f1 H1:=by
 intro D w S F β a hp hH hf
 obtain ⟨S',β',hx,hp',hH',hf'⟩:=h D w S F β a hp hH hf
 refine wp_mono (k D w S' F β' a hp' hH' hf') ?_
 rintro e a' w' ⟨fr',H',S2,β2,q,hx2,r⟩
 exact ⟨fr',H',S2,β2,q,hx.trans hx2,r⟩
def AV.ren0 (ρ:Nat→Nat):AV→AV
 | .ptr i s o=> .ptr i (ρ s) o
 | .optr i s o=> .optr i (ρ s) o
 | .bs a i s o l=> .bs a i (ρ s) o l
 | x=>x
def AV.ren1 (ρ:Nat→Nat):AV→AV
 | .ptr i s o=> .ptr i (ρ s) o
 | .optr i s o=> .optr i (ρ s) o
 | .bs a i s o l=> .bs a i (ρ s) o l
 | .fn f cs=> .fn f (cs.map (AV.ren0 ρ))
 | x=>x
def AV.renA (ρ:Nat→Nat):AV→AV
 | .agg cs=> .agg (cs.map (AV.ren1 ρ))
 | x=>x.ren1 ρ
def AV.ren (ρ:Nat→Nat):AV→AV
 | .agg cs=> .agg (cs.map (AV.ren1 ρ))
 | .tup cs=> .tup (cs.map (AV.renA ρ))
 | .fn f cs=> .fn f (cs.map (AV.ren1 ρ))
 | x=>x.ren1 ρ
def AV.un0 (m:Nat):AV→Bool
 | .ptr _ s _=>Nat.blt s m
 | .optr _ s _=>Nat.blt s m
 | .bs _ _ s _ _=>Nat.blt s m
 | x=>x.closed
def AV.un1 (m:Nat):AV→Bool
 | .ptr _ s _=>Nat.blt s m
 | .optr _ s _=>Nat.blt s m
 | .bs _ _ s _ _=>Nat.blt s m
 | .fn _ cs=>cs.all (AV.un0 m)
 | x=>x.closed
def AV.unA (m:Nat):AV→Bool
 | .agg cs=>cs.all (AV.un1 m)
 | x=>x.un1 m
def AV.un (m:Nat):AV→Bool
 | .agg cs=>cs.all (AV.un1 m)
 | .tup cs=>cs.all (AV.unA m)
 | .fn _ cs=>cs.all (AV.un1 m)
 | x=>x.un1 m
theorem qnx {w:World} {S:Nat→Prop} {β:Nat→Nat} {n m:Nat} {ρ:Nat→Nat} {x:AV} {v:Value} (h:RV w S β n (x.ren0 ρ) v) (hu:x.un0 m=true):RV w S (fun s=>β (ρ s)) m x v:=by
 cases x with
 | ptr i s o=>cases h with | ptr _ _ _ hs=>exact .ptr i s o (Ao hu)
 | optr i s o=>cases h with | optr _ _ _ _ hs hv=>exact .optr i s o _ (Ao hu) hv
 | bs a i s o l=>cases h with
   | bs _ _ _ _ _ cap m' e hs hsh hn hl hm h0=>exact .bs a i s o l cap m' e (Ao hu) hsh hn hl hm h0
   | bs0 _ _ _ _ A hs hV=>exact .bs0 a i s o A (Ao hu) hV
 | _=>exact h.pure (j9 _ hu)
theorem qf7 {w:World} {S:Nat→Prop} {β:Nat→Nat} {n m:Nat} {ρ:Nat→Nat} {x:AV} {v:Value} (h:RV w S β n (x.ren1 ρ) v) (hu:x.un1 m=true):RV w S (fun s=>β (ρ s)) m x v:=by
 cases x with
 | ptr i s o=>exact qnx (x:= .ptr i s o) h hu
 | optr i s o=>exact qnx (x:= .optr i s o) h hu
 | bs a i s o l=>exact qnx (x:= .bs a i s o l) h hu
 | fn f cs=>
   cases h with
   | fn _ _ vs hs hr=>exact .fn f cs vs (by simpa using hs) (fun i y hi=>qnx (hr i (y.ren0 ρ) (by rw [Av,hi];rfl)) (Aw.1 hu y (Af hi)))
 | _=>exact h.pure (j9 _ hu)
theorem q8t {w:World} {S:Nat→Prop} {β:Nat→Nat} {n m:Nat} {ρ:Nat→Nat} {x:AV} {v:Value} (h:RV w S β n (x.ren ρ) v) (hu:x.un m=true):RV w S (fun s=>β (ρ s)) m x v:=by
 have key:∀(cs:List AV) (u:Nat→Value),cs.all (AV.un1 m)=true→(∀(i:Nat) (y:AV),(cs.map (AV.ren1 ρ))[i]? =some y→RV w S β n y (u i))→∀(i:Nat) (y:AV),cs[i]? =some y→RV w S (fun s=>β (ρ s)) m y (u i):=by
  intro cs u hu hr i y hi
  refine qf7 (hr i (y.ren1 ρ) (by rw [Av,hi];rfl)) (Aw.1 hu y (Af hi))
 have one:∀y:AV,(y.ren1 ρ).one=y.one:=by intro y;cases y <;> rfl
 have keyA:∀(y:AV) (u:Value),y.unA m=true→RV w S β n (y.renA ρ) u→RV w S (fun s=>β (ρ s)) m y u:=by
  intro y u hu hr
  cases y with
  | agg cs=>
    cases hr with
    | agg _ vs hs h1 hr=>exact .agg cs vs (by simpa using hs) (fun y hy=>by rw [←one];exact h1 _ (Ck hy)) (key cs _ hu hr)
  | _=>exact qf7 hr hu
 cases x with
 | agg cs=>
   cases h with
   | agg _ vs hs h1 hr=>exact .agg cs vs (by simpa using hs) (fun y hy=>by rw [←one];exact h1 _ (Ck hy)) (key cs _ hu hr)
 | tup cs=>
   cases h with
   | tup _ vs hs hr=>exact .tup cs vs (by simpa using hs) (fun i y hi=>keyA y _ (Aw.1 hu y (Af hi)) (hr i (y.renA ρ) (by rw [Av,hi];rfl)))
 | fn f cs=>
   cases h with
   | fn _ _ vs hs hr=>exact .fn f cs vs (by simpa using hs) (key cs _ hu hr)
 | ptr i s o=>exact qf7 (x:= .ptr i s o) h hu
 | optr i s o=>exact qf7 (x:= .optr i s o) h hu
 | bs a i s o l=>exact qf7 (x:= .bs a i s o l) h hu
 | _=>exact h.pure (j9 _ hu)
def wkS (v u:AV):Prop:=match u with
 | .sl sz false l=>(match v with | .sl s1 _ l1=>l1=l∧(s1=sz∨l= []) | _=>False)
 | _=>False
theorem qof {w:World} {S:Nat→Prop} {β β':Nat→Nat} {n m:Nat} {v u:AV} {x:Value} (h:wkS v u) (hv:RV w S β n v x):RV w S β' m u x:=by
 unfold wkS at h
 split at h
 ·split at h
  ·obtain ⟨rfl,h2⟩:=h
   exact (hv.loose h2).pure (.sl _ _ _)
  exact h.elim
 exact h.elim
theorem qtb {v u:AV} (h:wkS v u):v.one=true∧u.one=true:=by
 unfold wkS at h
 split at h
 ·split at h
  ·exact ⟨rfl,rfl⟩
  exact h.elim
 exact h.elim
def leV (ρ:Nat→Nat) (m:Nat) (v u:AV):Prop:=match u with
 | .undef=>True
 | u=>(v=u.ren ρ∧u.un m=true)∨wkS v u
def leFT (ρ:Nat→Nat) (m:Nat):FT→FT→Prop
 | _, .z=>True
 | .z, .n u l r=>leV ρ m .undef u∧leFT ρ m .z l∧leFT ρ m .z r
 | .n v l r, .n u l' r'=>leV ρ m v u∧leFT ρ m l l'∧leFT ρ m r r'
def leC (ρ:Nat→Nat) (m:Nat):List AV→List AV→Prop
 | [], []=>True
 | v::vs,u::us=>((v=u.ren1 ρ∧u.un1 m=true)∨wkS v u)∧leC ρ m vs us
 | _,_=>False
def leO (ρ:Nat→Nat) (m:Nat) (o o':Obj):Prop:=match o' with
 | .dead=>True
 | .var t cs=>match o with
   | .var t' cs'=>t'=t∧leC ρ m cs' cs
   | _=>False
 | .row t cs=>match o with
   | .row t' cs'=>t'=t∧cs'=cs∧∀x∈cs,x.closed=true
   | _=>False
 | .froz t cs=>match o with
   | .froz t' cs'=>t'=t∧cs'=cs∧∀x∈cs,x.closed=true
   | _=>False
def leOs (ρ:Nat→Nat) (m:Nat):Objs→Objs→Prop
 | _, []=>True
 | (s,o)::l,(s',o')::l'=>(s=ρ s'∧Nat.blt s' m=true∧leO ρ m o o')∧leOs ρ m l l'
 | [],_::_=>False
def rho:Objs→Objs→Nat→Nat
 | (s',_)::l',(s,_)::l,t=>if t=s' then s else rho l' l t
 | _,_,t=>t
theorem q4k {w:World} {S:Nat→Prop} {β:Nat→Nat} {n m:Nat} {ρ:Nat→Nat} {v u:AV} {x:Value} (h:leV ρ m v u) (hv:RV w S β n v x):RV w S (fun s=>β (ρ s)) m u x:=by
 unfold leV at h
 split at h
 ·exact .undef _
 rename_i hne
 rcases h with ⟨rfl,hu⟩ | h
 ·exact q8t hv hu
 exact qof h hv
theorem qe8 {ρ:Nat→Nat} {m:Nat}:∀(t t':FT),leFT ρ m t t'→∀i,leV ρ m (t.get i) (t'.get i)
 | t, .z,_,i=>by simp only [FT.get,leV]
 | .z, .n u l r,h,i=>by
   obtain ⟨h1,h2,h3⟩:=h
   simp only [FT.get]
   cases Nat.beq i 0
   ·cases Nat.beq (i % 2) 1
    ·exact qe8 .z r h3 (i / 2 - 1)
    exact qe8 .z l h2 (i / 2)
   exact h1
 | .n v l r, .n u l' r',h,i=>by
   obtain ⟨h1,h2,h3⟩:=h
   simp only [FT.get]
   cases Nat.beq i 0
   ·cases Nat.beq (i % 2) 1
    ·exact qe8 r r' h3 (i / 2 - 1)
    exact qe8 l l' h2 (i / 2)
   exact h1
theorem qan {ρ:Nat→Nat} {m:Nat}:∀(l l':Objs),leOs ρ m l l'→∀(i s':Nat) (o':Obj),l'[i]? =some (s',o')→∃s o,l[i]? =some (s,o)∧s=ρ s'∧s' < m∧leO ρ m o o'
 | _, [],_,i,s',o',h=>by simp at h
 | [],_::_,h,_,_,_,_=>h.elim
 | (s,o)::l,(t,q)::l',h,0,s',o',hi=>by
   simp only [Aq,Ab,Al] at hi
   obtain ⟨rfl,rfl⟩:=hi
   exact ⟨s,o,rfl,h.1.1,Ao h.1.2.1,h.1.2.2⟩
 | (s,o)::l,(t,q)::l',h,i+1,s',o',hi=>by
   obtain ⟨s2,o2,h1,h2⟩:=qan l l' h.2 i s' o' (by simpa using hi)
   exact ⟨s2,o2,by simpa using h1,h2⟩
theorem qt6 {ρ:Nat→Nat} {m:Nat}:∀(l l':List AV),leC ρ m l l'→l.length=l'.length∧∀(i:Nat) (u:AV),l'[i]? =some u→∃v,l[i]? =some v∧((v=u.ren1 ρ∧u.un1 m=true)∨wkS v u)
 | [], [],_=>⟨rfl,fun i u h=>by simp at h⟩
 | [],_::_,h=>h.elim
 | _::_, [],h=>h.elim
 | v::l,u::l',h=>by
   obtain ⟨h1,h2⟩:=qt6 l l' h.2
   refine ⟨by simp [h1],fun i x hi=> ?_⟩
   cases i with
   | zero=>simp at hi;subst hi;exact ⟨v,rfl,h.1⟩
   | succ i=>simpa using h2 i x (by simpa using hi)
theorem qt3 {fr fr':FT} {n n':Nat} {objs objs':Objs} (ρ:Nat→Nat) (hf:leFT ρ n' fr fr') (ho:leOs ρ n' objs objs'):Less G N 0 (frT fr) ⟨n,objs⟩ (frT fr') ⟨n',objs'⟩:=by
 intro D w S F β a _ hH hfr
 have rv1:∀(x:AV) (v:Value),RV w S β n (x.ren1 ρ) v→x.un1 n'=true→RV w S (fun s=>β (ρ s)) n' x v:=fun x v h hu=>qf7 h hu
 refine ⟨S,fun s=>β (ρ s),⟨rfl,rfl,rfl,Aj _,Aj _,fun s hs=>absurd hs (BW s),fun _ h=>h,fun _ h=> .inl h,fun _ _=>rfl,fun _ _=>rfl,fun _ _ h=>h⟩,AD _,?_,?_⟩
 ·refine ⟨hH.lts,hH.ltf,fun g=>(hH.glob g).pure (.rptr _),fun i s o hi=> ?_,fun i j si sj oi oj hi hj hne h1 h2=> ?_,fun i s o hi=> ?_⟩
  ·obtain ⟨_,_,_,_,h,_⟩:=qan _ _ ho i s o hi;exact h
  ·obtain ⟨s1,o1,e1,rfl,_,l1⟩:=qan _ _ ho i si oi hi
   obtain ⟨s2,o2,e2,rfl,_,l2⟩:=qan _ _ ho j sj oj hj
   have live:∀o o',leO ρ n' o o'→o'.live=true→o.live=true:=by
    intro o o' h hl
    unfold leO at h
    split at h
    ·cases hl
    ·split at h
     ·rfl
     exact h.elim
    ·split at h
     ·obtain ⟨rfl,rfl,_⟩:=h;exact hl
     exact h.elim
    cases hl
   exact hH.inj i j _ _ o1 o2 e1 e2 hne (live _ _ l1 h1) (live _ _ l2 h2)
  obtain ⟨s1,o1,e1,rfl,_,l1⟩:=qan _ _ ho i s o hi
  have h:=hH.obj i _ o1 e1
  unfold leO at l1
  split at l1
  ·trivial
  ·split at l1
   ·rename_i cs _ t' cs'
    obtain ⟨rfl,hc⟩:=l1
    obtain ⟨hl,hg⟩:=qt6 _ _ hc
    obtain ⟨c,h1,h2,h3,h4,h5⟩:=h
    refine ⟨c,h1,by rw [h2,hl],h3,h4,fun i x hi=> ?_⟩
    obtain ⟨v,hv,hvu⟩:=hg i x hi
    obtain ⟨ho1,hR⟩:=h5 i _ hv
    rcases hvu with ⟨rfl,hu⟩ | hvu
    ·exact ⟨by rw [←ho1];cases x <;> rfl,rv1 x _ hR hu⟩
    exact ⟨(qtb hvu).2,qof hvu hR⟩
   exact l1.elim
  ·split at l1
   ·obtain ⟨rfl,rfl,hc⟩:=l1
    intro hne
    obtain ⟨c,h1,h2,h3,h4,h5⟩:=h hne
    exact ⟨c,h1,h2,h3,h4,fun i x hi=>⟨(h5 i x hi).1,(h5 i x hi).2.pure (j9 x (hc x (Af hi)))⟩⟩
   exact l1.elim
  split at l1
  ·obtain ⟨rfl,rfl,hc⟩:=l1
   obtain ⟨c,f,h1,h2,h3,h5⟩:=h
   exact ⟨c,f,h1,h2,h3,fun i x hi=>⟨(h5 i x hi).1,(h5 i x hi).2.pure (j9 x (hc x (Af hi)))⟩⟩
  exact l1.elim
 exact ⟨hfr.size,hfr.defers,fun t=>q4k (qe8 _ _ hf t) (hfr.val t)⟩
def asgs:Code→List Nat
 | .region _ ops _=>ops.toList.filterMap (·.dst)
 | .seq a b=>asgs a++asgs b
 | .cond _ a b=>asgs a++asgs b
 | .block _ b=>asgs b
 | .loop b=>asgs b
 | _=> []
def q3e:List Nat→FT→(FT→Option FT)→Option FT
 | [],fr,k=>k fr
 | t::ts,fr,k=>FT.setK 10 fr t .undef fun fr=>q3e ts fr k
def qr2:List (Nat × AV)→FT→Option FT
 | [],fr=>some fr
 | (t,x)::ps,fr=>qjx x fun x=>FT.setK 10 fr t x fun fr=>qr2 ps fr
def zan (c:Code) (fr:FT) (vs:List (Nat × AV)):Option FT:=q3e (asgs c) fr fun fr=>qr2 vs fr
def upsK:List (Nat × Nat × Obj)→Objs→(Objs→Option Objs)→Option Objs
 | [],objs,k=>k objs
 | (i,s,o)::us,objs,k=>qsb objs i (s,o) fun objs=>upsK us objs k
section
variable {T:TT} {Q:Exit→Fr→Hp→Prop} {k:List Item} {kn:List Nat} {fr:FT} {n:Nat} {objs:Objs} {α:Type}
def qs6 (P:Program) (G:Nat→List AV) (N p:Nat) (J:α→Prop) (μ:α→Nat) (fr1:α→FT) (n1:Nat) (objs1:α→Objs) (a:α) (k:List Item) (Q:Exit→Fr→Hp→Prop):Exit→Fr→Hp→Prop:=
 Wq (fun fr H=>∃a',J a'∧μ a' < μ a∧Less G N p fr H (frT (fr1 a')) ⟨n1,objs1 a'⟩) (fun e fr H=>wa N k=true→QK P G N p Q k e fr H)
theorem qy8 {next next':Fr→Hp→Prop} {Q Q':Exit→Fr→Hp→Prop} (h1:∀fr H,next fr H→next' fr H) (h2:∀e fr H,Q e fr H→Q' e fr H):∀e fr H,Wq next Q e fr H→Wq next' Q' e fr H:=by
 intro e fr H h
 cases e <;> first | exact h1 _ _ h | exact h2 _ _ _ h
theorem qy4 {c:Code} (J:α→Prop) (μ:α→Nat) (fr1:α→FT) (n1:Nat) (objs1:α→Objs) (a0:α) (h0:J a0) (hl:Less G N p (frT fr) ⟨n,objs⟩ (frT (fr1 a0)) ⟨n1,objs1 a0⟩)
 (round:∀a,J a→Ok P G T N p (qs6 P G N p J μ fr1 n1 objs1 a k Q) (.go [] [.code c] [] (fr1 a) n1 (objs1 a))):Ok P G T N p Q (.loop c k kn fr n objs):=by
 intro hk
 simp only [wa,An] at hk
 refine q59 (fun m fr H=>∃a,J a∧μ a=m∧Less G N p fr H (frT (fr1 a)) ⟨n1,objs1 a⟩) (μ a0) ⟨a0,h0,rfl,hl⟩ ?_
 rintro m fr' H' ⟨a,hJ,rfl,hL⟩
 refine qid hL ?_
 have:=round a hJ (by simp only [wa,hk.1,Bm])
 refine AWp.mono (show AWp P G N p c (qs6 P G N p J μ fr1 n1 objs1 a k Q) (frT (fr1 a)) ⟨n1,objs1 a⟩ from this) ?_
 refine qy8 ?_ (fun e fr H h=>h hk.2)
 rintro fr H ⟨a',h1,h2,h3⟩
 exact ⟨μ a',h2,a',h1,rfl,h3⟩
theorem qiz {c:Code} (J:α→Prop) (μ:α→Nat) (vals:α→List (Nat × AV)) (ups:α→List (Nat × Nat × Obj)) (a0:α) {fr1:α→FT} {objs1:α→Objs} (hs:∀a,zan c fr (vals a)=some (fr1 a)) (ho:∀a,upsK (ups a) objs some=some (objs1 a)) (h0:J a0)
 (hlf:leFT (rho (objs1 a0) objs) n fr (fr1 a0)) (hlo:leOs (rho (objs1 a0) objs) n objs (objs1 a0))
 (round:∀a,J a→Ok P G T N 0 (qs6 P G N 0 J μ fr1 n objs1 a k Q) (.go [] [.code c] [] (fr1 a) n (objs1 a))):Ok P G T N 0 Q (.loop c k kn fr n objs):=
 qy4 J μ fr1 n objs1 a0 h0 (qt3 _ hlf hlo) round
theorem qgp {J:α→Prop} {μ:α→Nat} {fr1:α→FT} {n1:Nat} {objs1:α→Objs} {a:α} (a':α) (h1:J a') (h2:μ a' < μ a) (hlf:leFT (rho (objs1 a') objs) n1 fr (fr1 a')) (hlo:leOs (rho (objs1 a') objs) n1 objs (objs1 a')):
 Ok P G T N 0 (qs6 P G N 0 J μ fr1 n1 objs1 a k Q) (.fin .normal [] fr n objs):=
 fun _=>⟨a',h1,h2,qt3 _ hlf hlo⟩
theorem qiy {J:α→Prop} {μ:α→Nat} {fr1:α→FT} {n1:Nat} {objs1:α→Objs} {a:α} {k':List Item} (hk:qi7 k'=true) (h:Ok P G T N p Q (.fin .ret k fr n objs)):Ok P G T N p (qs6 P G N p J μ fr1 n1 objs1 a k Q) (.fin .ret k' fr n objs):=
 fun _=>qj8 k' (Wm k' hk) (fun hi=>h hi)
def qm3 (id:Nat):List Item→Bool
 | []=>true
 | .blk i::k=> !Nat.beq i id && qm3 id k
 | .code _::k=>qm3 id k
 | .bar::k=>qm3 id k
 | .inl _::k=>qm3 id k
 | _=>false
theorem qlg {H:Hp} {f:Fr} {id:Nat}:∀(k:List Item),qm3 id k=true→Q (.exit id) f H→QK P G N p Q k (.exit id) f H
 | [],_,h=>h
 | .code c::k,hk,h=>qgz (qlg k hk h)
 | .bar::k,hk,h=>qlg k hk h
 | .inl c::k,hk,h=>qgz (qlg k hk h)
 | .blk i::k,hk,h=>by
   simp only [qm3,An,Bool.not_eq_true'] at hk
   refine qif ?_ (qlg k hk.2 h)
   cases hb:Nat.beq id i with
   | false=>rfl
   | true=>have:=AF hb;subst this;rw [hb] at hk;cases hk.1
 | .ops d a o::k,hk,h=>by simp [qm3] at hk
theorem qfk {J:α→Prop} {μ:α→Nat} {fr1:α→FT} {n1:Nat} {objs1:α→Objs} {a:α} {k' k2:List Item} {id:Nat} (hk:qm3 id k'=true) (hx:qfg id k=some k2) (h:Ok P G T N p Q (.go [] k2 [] fr n objs)):
 Ok P G T N p (qs6 P G N p J μ fr1 n1 objs1 a k Q) (.fin (.exit id) k' fr n objs):=by
 intro _
 obtain ⟨h1,h2⟩:=qff (P:=P) (G:=G) (N:=N) (p:=p) (Q:=Q) (fr:=frT fr) (H:=⟨n,objs⟩) k k2 hx
 exact qlg k' hk (fun hi=>h2 (h (h1 hi)))
end
attribute [irreducible] Ok Told Less
attribute [go_sem] leFT leV leOs leO leC rho AV.ren AV.renA AV.ren1 AV.ren0 AV.un AV.unA AV.un1 AV.un0 AV.closed AX BU List.all_cons List.all_nil Bool.and_true Bv and_true true_and and_self List.isEmpty_nil
end Go.Proofs.YtpnkemogepoioaaGreatDoorW.Ex
