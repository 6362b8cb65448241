/- A symbolic executor for the machine's code: regions that draw their order: if the text's order goes, each order goes, and comes to the same. General over the program; the condition on the region is a decidable test ('drawOk'). -/
import Derived.Test.YtpnkemogepoioaaGreatDoorEx9
namespace Go.Proofs.YtpnkemogepoioaaGreatDoorW.Ex
set_option linter.all false
open Go
variable {DD:List Deferred}
variable {G:Nat→List AV} {P:Program} {N:Nat}
def qap:Operand→Bool
 | .const (.slice _ _ _)=>true
 | _=>false
def qpp (c:Call):Bool:=match c.callee with
 | .builtin .append=>(match c.args[0]? with | some a=>qap a | none=>false)
 | _=>false
def qor (objs:List (Nat × Obj)):AV→Bool
 | .rptr _=>true
 | .ptr id s _=>match objs[id]? with
   | some (s', .var _ _)=>Nat.beq s' s
   | _=>false
 | _=>false
def isR:AV→Bool
 | .rptr _=>true
 | _=>false
def u6 (P:Program) (G:Nat→List AV) (cw:Bool × Bool) (st:Bool) (fr:Fr) (H:Hp) (op:Op) (x:AV) (H':Hp):Prop:=
 match op with
 | .call c=>match wq G fr c with
   | some (f,xs)=>(match cw.1 with | true=>ACalls P G f xs H x H' | false=>Fn P G f xs x∧H'=H)
   | none=>(qpp c=false∧Jx P G fr H c=some (x,H'))∨(Jw P G fr c=some x∧H'=H)
 | .load t a=>evalOp P G fr H (.load t a)=some (x,H')∧(st=true→qor H.objs (ev G fr a)=true)∧(cw.2=true→isR (ev G fr a)=true)
 | op=>evalOp P G fr H op=some (x,H')
theorem u6.step {cw:Bool × Bool} {st:Bool} {fr:Fr} {H H':Hp} {op:Op} {x:AV} (h:u6 P G cw st fr H op x H'):qf0 P G fr H op x H':=by
 unfold u6 at h
 unfold qf0
 split at h
 ·rename_i c
  simp only
  split at h
  ·rename_i f xs hc
   simp only [hc] at h ⊢
   obtain ⟨cw,lf⟩:=cw
   cases cw with
   | true=>exact h
   | false=>
     obtain ⟨h1,rfl⟩:=h
     exact h1.calls _
  rename_i hc
  simp only [hc]
  exact h.imp (fun h=>h.2) id
 ·exact .inl h.1
 rename_i hne _
 split
 ·exfalso
  first | exact hne _ rfl | exact absurd rfl (hne _) | simp_all
 exact .inl h
theorem qk9 {fr fr':Fr} {x:Operand} (h:∀t,x= .tmp t→fr t=fr' t):ev G fr x=ev G fr' x:=by
 cases x with
 | tmp t=>exact h t rfl
 | _=>rfl
theorem u6.congr {cw:Bool × Bool} {st:Bool} {fr fr':Fr} {H H':Hp} {op:Op} {x:AV} (he:∀y∈op.operands,ev G fr y=ev G fr' y) (h:u6 P G cw st fr H op x H'):u6 P G cw st fr' H op x H':=by
 have pairs:∀ps:Array (Nat × Operand),(∀y∈(ps.toList.map (·.2)).toArray,ev G fr y=ev G fr' y)→(ps.toList.map fun p=>(p.1,ev G fr p.2))=(ps.toList.map fun p=>(p.1,ev G fr' p.2)):=fun ps hp=>
  List.map_congr_left fun p hm=>by rw [hp p.2 (by simp only [List.mem_toArray,BG];exact ⟨p,hm,rfl⟩)]
 have lists:∀xs:Array Operand,(∀y∈xs,ev G fr y=ev G fr' y)→xs.toList.map (ev G fr)=xs.toList.map (ev G fr'):=fun xs hp=>
  List.map_congr_left fun p hm=>hp p (by simpa using hm)
 cases op <;> simp only [Op.operands] at he <;> simp only [u6,evalOp] at h ⊢
 case build t ps=>rw [←pairs ps he];exact h
 case buildSlice t n ps=>rw [←pairs ps he];exact h
 case makeFunc fn first caps=>rw [←lists caps (fun y hy=>he y (by simp [hy]))];exact h
 case slice t x lo hi mx=>
  have h1:lo.map (ev G fr')=lo.map (ev G fr):=by cases lo <;> simp_all
  have h2:hi.map (ev G fr')=hi.map (ev G fr):=by cases hi <;> simp_all
  have h3:mx.map (ev G fr')=mx.map (ev G fr):=by cases mx <;> simp_all
  rw [h1,h2,h3,←he x (by simp)];exact h
 case call c=>
  have ha:=lists c.args (fun y hy=>he y (by simp [Call.operands,hy]))
  have hc:wq G fr' c=wq G fr c:=by
   unfold wq
   rw [ha]
   split
   ·rename_i f hf
    rw [←he f (by simp [Call.operands,hf])]
   rfl
  rw [hc]
  have hcl:Jx P G fr' H c=Jx P G fr H c:=by unfold Jx;rw [ha]
  have hcp:Jw P G fr' c=Jw P G fr c:=by unfold Jw;rw [ha]
  rw [hcl,hcp]
  exact h
 all_goals (first | exact h | (simp_all;done))
def isVal:Op→Bool
 | .call c=>match c.callee with | .value _=>true | _=>false
 | _=>false
def inert (cw:Bool × Bool):Op→Bool
 | .alloc _ | .box _ _ | .store _ _ _=>false
 | .load _ _=>cw.2
 | .call c=>match c.callee with | .builtin .len=>true | .builtin .max=>true | .builtin .min=>true | .value _=> !cw.1 | .builtin .append=>(match c.args[0]? with | some a=>qap a | none=>false) | _=>false
 | _=>true
def isApp:Op→Bool
 | .call c=>match c.callee with | .builtin .append=> !qpp c | _=>false
 | _=>false
def uc (ops:Array Oper):Bool:=ops.any fun o=>isApp o.op
def isLoad:Op→Bool | .load _ _=>true | _=>false
def isStore:Op→Bool | .store _ _ _=>true | _=>false
def qtt:Op→Operand
 | .store _ a _=>a
 | _=> .tmp 0
def isPush:Op→Bool | .alloc _ | .box _ _=>true | _=>false
theorem qkt {z:Option AV} {H H':Hp} {x:AV} (h:z.map (·,H)=some (x,H')):H'=H∧∀H2:Hp,z.map (·,H2)=some (x,H2):=by
 cases z with
 | none=>cases h
 | some z=>simp at h;obtain ⟨rfl,rfl⟩:=h;exact ⟨rfl,fun _=>rfl⟩
theorem u6.inert {cw:Bool × Bool} {st:Bool} {fr:Fr} {H H':Hp} {op:Op} {x:AV} (hi:inert cw op=true) (h:u6 P G cw st fr H op x H'):H'=H∧∀H2,u6 P G cw st fr H2 op x H2:=by
 cases op <;> simp only [Ex.inert] at hi <;> first
  | (cases hi;done)
  | (simp only [u6,evalOp] at h ⊢;exact qkt h)
  | (simp only [u6,evalOp] at h ⊢;cases h;done)
  | (simp only [u6,evalOp,Ab,Al] at h
     obtain ⟨rfl,rfl⟩:=h
     exact ⟨rfl,fun _=>rfl⟩)
  | skip
 case pick c a b=>
  simp only [u6,evalOp] at h ⊢
  split at h
  ·simp only [Ab,Al] at h
   obtain ⟨rfl,rfl⟩:=h
   exact ⟨rfl,fun _=>rfl⟩
  cases h
 case makeInterface t a=>
  simp only [u6,evalOp] at h ⊢
  split at h
  ·rename_i ht
   simp only [Ab,Al] at h
   obtain ⟨rfl,rfl⟩:=h
   exact ⟨rfl,fun _=>by rw [if_pos ht]⟩
  cases h
 case makeFunc fn first caps=>
  simp only [u6,evalOp] at h ⊢
  split at h
  ·simp only [Ab,Al] at h
   obtain ⟨rfl,rfl⟩:=h
   exact ⟨rfl,fun _=>rfl⟩
  cases h
 case load t a=>
  simp only [u6,evalOp] at h ⊢
  obtain ⟨h,hs1,hs2⟩:=h
  have hr:=hs2 hi
  generalize hv:ev G fr a=v at h hr hs1 hs2
  cases v <;> simp only [isR] at hr <;> first | (cases hr;done) | skip
  rename_i cs
  simp only [Js] at h
  obtain ⟨e,hm⟩:=qkt h
  subst e
  refine ⟨rfl,fun H2=>⟨?_,fun _=>rfl,fun _=>rfl⟩⟩
  simp only [Js]
  exact hm H2
 case call c=>
  simp only [u6] at h ⊢
  split at h
  ·rename_i f xs hc
   obtain ⟨cw,lf⟩:=cw
   cases cw with
   | true=>
     exfalso
     unfold wq at hc
     split at hc
     ·rename_i fo hfo
      simp [hfo] at hi
     cases hc
   | false=>
     obtain ⟨h1,rfl⟩:=h
     exact ⟨rfl,fun H2=>⟨h1,trivial⟩⟩
  rename_i hc
  rcases h with ⟨hcp,h⟩ | ⟨h,rfl⟩
  case inr=>exact ⟨rfl,fun H2=> .inr ⟨h,trivial⟩⟩
  unfold Jx at h
  split at h
  ·rename_i b hb
   rw [hb] at hi
   unfold v6 at h
   split at h
   ·rename_i he2 he3
    obtain ⟨e,hm⟩:=qkt h
    refine ⟨e,fun H2=> .inl ⟨hcp,?_⟩⟩
    simp only [Jx,hb,v6,he2,he3]
    exact hm H2
   ·unfold qpp at hcp
    rw [hb] at hcp
    simp only at hi hcp
    rw [hcp] at hi;cases hi
   ·rename_i he2
    split at h
    ·rename_i hk
     simp only [Ab,Al] at h
     obtain ⟨rfl,rfl⟩:=h
     refine ⟨rfl,fun H2=> .inl ⟨hcp,?_⟩⟩
     simp only [Jx,hb,v6,he2,hk,if_true]
    cases h
   ·rename_i he2
    split at h
    ·rename_i hk
     simp only [Ab,Al] at h
     obtain ⟨rfl,rfl⟩:=h
     refine ⟨rfl,fun H2=> .inl ⟨hcp,?_⟩⟩
     simp only [Jx,hb,v6,he2,hk,if_true]
    cases h
   cases h
  cases h
def qjg (H H2:Hp):Prop:=∀(i:Nat) (y:Nat × Obj),H.objs[i]? =some y→H2.objs[i]? =some y
theorem qjg.push (H:Hp) (o:Obj):qjg H (H.push o):=by
 intro i y h
 have:=(Ah.1 h).1
 simp only [Hp.push]
 rw [Bx this,h]
theorem u6.push {cw:Bool × Bool} {st:Bool} {fr:Fr} {H H':Hp} {op:Op} {x:AV} (hi:isPush op=true) (h:u6 P G cw st fr H op x H'):qjg H H':=by
 cases op <;> simp only [isPush] at hi <;> first | (cases hi;done) | skip
 case alloc e=>
  simp only [u6,evalOp] at h
  split at h
  ·split at h
   ·simp only [Ab,Al] at h
    rw [←h.2];exact .push _ _
   cases h
  cases h
 case box e v=>
  simp only [u6,evalOp,Am,Al] at h
  obtain ⟨cs,_,_,rfl⟩:=h
  exact .push _ _
def qcy (H H2:Hp):Prop:=∀(i s':Nat) (t:TypeId) (cs:List AV),H.objs[i]? =some (s', .var t cs)→H2.objs[i]? =some (s', .var t cs)
def qaa (v:AV) (H H2:Hp):Prop:=match v with
 | .ptr id _ _=>∀(s':Nat) (t:TypeId) (cs:List AV),H.objs[id]? =some (s', .var t cs)→H2.objs[id]? =some (s', .var t cs)
 | _=>True
theorem qaa.refl (v:AV) (H:Hp):qaa v H H:=by unfold qaa;split <;> first | trivial | exact fun _ _ _ h=>h
theorem qaa.trans {v:AV} {H H1 H2:Hp} (h:qaa v H H1) (k:qaa v H1 H2):qaa v H H2:=by
 unfold qaa at*
 split
 ·exact fun s t cs hi=>k s t cs (h s t cs hi)
 trivial
theorem qcy.keep {H H2:Hp} (h:qcy H H2) (v:AV):qaa v H H2:=by
 unfold qaa
 split
 ·exact fun s t cs hi=>h _ s t cs hi
 trivial
def qes:Op→Operand
 | .load _ a=>a
 | _=> .tmp 0
def qm8 (G:Nat→List AV):List Oper→Fr→Hp→Hp→Prop
 | [],_,_,_=>True
 | l::ls,fr,H,H'=>(match l.op with | .load _ a=>qaa (ev G fr a) H H' | _=>True)∧qm8 G ls fr H H'
theorem qgd {G:Nat→List AV}:∀(ls:List Oper) (fr:Fr) (H:Hp),qm8 G ls fr H H
 | [],_,_=>trivial
 | l::ls,fr,H=>⟨by split <;> first | trivial | exact .refl _ _,qgd ls fr H⟩
theorem qsl {G:Nat→List AV}:∀{ls:List Oper} {fr:Fr} {H H':Hp},qm8 G ls fr H H'→∀l∈ls,isLoad l.op=true→qaa (ev G fr (qes l.op)) H H'
 | l ::ls,fr,H,H',h,m,hm,hl=>by
   rcases AE.1 hm with rfl | hm
   ·have h1:=h.1
    split at h1
    ·rename_i he;rw [he];exact h1
    rename_i hne
    exfalso
    revert hl hne
    cases m.op <;> simp [isLoad]
   exact qsl h.2 m hm hl
 | [],_,_,_,_,m,hm,_=>by cases hm
theorem qcy.refl (H:Hp):qcy H H:=fun _ _ _ _ h=>h
theorem qcy.trans {H H1 H2:Hp} (h:qcy H H1) (k:qcy H1 H2):qcy H H2:=fun i s t cs hi=>k i s t cs (h i s t cs hi)
theorem qjg.sameV {H H2:Hp} (h:qjg H H2):qcy H H2:=fun i s t cs hi=>h i _ hi
theorem qup {H H':Hp} {t t1:TypeId} {s x z:AV} (h:qau P H t t1 s x=some (z,H')):qcy H H'∧qcy H' H:=by
 unfold qau at h
 split at h
 ·split at h
  ·split at h
   ·split at h
    ·split at h
     ·split at h
      ·split at h
       ·simp only [Ab,Al] at h
        obtain ⟨_,rfl⟩:=h
        exact ⟨.refl _, .refl _⟩
       split at h
       ·simp only [Ab,Al] at h
        obtain ⟨_,rfl⟩:=h
        refine ⟨(qjg.push _ _).sameV,fun i s t cs hi=> ?_⟩
        simp only [Hp.push] at hi
        rw [AH] at hi
        split at hi
        ·exact hi
        rename_i hge
        cases hq:i - H.objs.length with
        | zero=>rw [hq] at hi;simp at hi
        | succ q=>rw [hq] at hi;simp at hi
       cases h
      cases h
     ·split at h
      ·split at h
       ·rename_i hobj
        split at h
        ·simp only [Ab,Al] at h
         obtain ⟨_,rfl⟩:=h
         refine ⟨fun i s t cs hi=> ?_,fun i s t cs hi=> ?_⟩
         ·rw [List.getElem?_set]
          split
          ·rename_i e;subst e;rw [hobj] at hi;simp at hi
          exact hi
         simp only at hi
         rw [List.getElem?_set] at hi
         split at hi
         ·split at hi
          ·simp at hi
          cases hi
         exact hi
        split at h
        ·simp only [Ab,Al] at h
         obtain ⟨_,rfl⟩:=h
         exact ⟨fun _ _ _ _ h=>h,fun _ _ _ _ h=>h⟩
        cases h
       cases h
      cases h
     cases h
    cases h
   cases h
  cases h
 cases h
theorem u6.app {cw:Bool × Bool} {st:Bool} {fr:Fr} {H H':Hp} {op:Op} {x:AV} (hi:isApp op=true) (h:u6 P G cw st fr H op x H'):qcy H H'∧qcy H' H:=by
 cases op <;> simp only [isApp] at hi <;> first | (cases hi;done) | skip
 case call c=>
  split at hi
  ·rename_i hb
   simp only [u6] at h
   have hc:wq G fr c=none:=by unfold wq;rw [hb]
   simp only [hc] at h
   rcases h with ⟨_,h⟩ | ⟨_,rfl⟩
   ·unfold Jx at h
    rw [hb] at h
    simp only at h
    unfold v6 at h
    split at h <;> first | exact qup h | (cases h;done) | contradiction | (simp_all;done)
   exact ⟨.refl _, .refl _⟩
  cases hi
theorem u6.load {cw:Bool × Bool} {st:Bool} {fr:Fr} {H H':Hp} {op:Op} {x:AV} (hi:isLoad op=true) (h:u6 P G cw st fr H op x H'):H'=H∧∀H2,(qjg H H2∨(st=true∧qaa (ev G fr (qes op)) H H2))→u6 P G cw st fr H2 op x H2:=by
 cases op <;> simp only [isLoad] at hi <;> first | (cases hi;done) | skip
 case load t a=>
  simp only [u6,evalOp] at h ⊢
  obtain ⟨h,hst,hlf⟩:=h
  split at h
  ·rename_i cs hcs
   obtain ⟨e,hm⟩:=qkt h
   refine ⟨e,fun H2 hg=> ?_⟩
   have hg1:st=true→qaa (ev G fr a) H H2:=fun e=>hg.elim (fun g=>g.sameV.keep _) (fun g=>g.2)
   have stead:st=true→qor H2.objs (ev G fr a)=true:=fun e=>by
    have:=hst e
    have hk:=hg1 e
    unfold qaa at hk
    unfold qor at this ⊢
    split
    ·rfl
    ·rename_i id s off he
     rw [he] at this hk
     simp only at this hk
     split at this
     ·rename_i s' t' cs' ho
      rw [hk _ _ _ ho]
      exact this
     cases this
    rename_i h1 h2
    split at this
    ·rename_i he;exact absurd he (h1 _)
    ·rename_i he;exact absurd he (h2 _ _ _)
    cases this
   have : Js H2 (ev G fr a)=some cs:=by
    unfold Js at hcs ⊢
    split
    ·rename_i he;rw [he] at hcs;exact hcs
    ·rename_i id s off he
     rw [he] at hcs
     simp only at hcs
     cases ho:H.objs[id]? with
     | none=>simp [ho] at hcs
     | some y=>
       have:H2.objs[id]? =some y:=by
        rcases hg with g | ⟨e,g⟩
        ·exact g _ _ ho
        have h3:=hst e
        have g':qaa (ev G fr a) H H2:=g
        unfold qaa at g'
        rw [he] at h3 g'
        unfold qor at h3
        simp only [ho] at h3
        split at h3
        ·rename_i e2
         injection e2 with e2
         subst e2
         exact g' _ _ _ ho
        cases h3
       rw [this];rw [ho] at hcs;exact hcs
    rename_i h1 h2
    split at hcs
    ·rename_i he;exact absurd he (h1 _)
    ·rename_i he;exact absurd he (h2 _ _ _)
    exact hcs
   rw [this]
   exact ⟨hm H2,stead,hlf⟩
  cases h
def q3n (x:Option (Nat × Nat)) (ms:List Nat):Nat:=match x with
 | some p=>bif Nat.beq p.2 ms.length then (1 <<< p.1) ||| ms.getD p.1 0 else 0
 | none=>0
def qed (x:Option (Nat × Nat)) (ops:Array Oper):List Nat→List Oper→List Nat
 | ms, []=>ms
 | ms,o::os=>qed x ops (ms++ [o.after.toList.foldl (fun m e=>if Region.binds .any e then m ||| (1 <<< e.on) ||| ms.getD e.on 0 else m) (q3n x ms)]) os
def after (ms:List Nat) (j i:Nat):Bool:=(ms.getD i 0).testBit j
def qyk (ms:List Nat) (ops:Array Oper):List (Nat × Nat):=
 (List.range ops.size).flatMap fun j=>(List.range j).filterMap fun i=>match ops[i]?,ops[j]? with
   | some oi,some oj=>bif isStore oi.op && isStore oj.op && !after ms i j then some (i,j) else none
   | _,_=>none
def qye (ms:List Nat) (ops:Array Oper) (a b:Nat):Bool:=
 Nat.blt a b && (match ops[a]?,ops[b]? with
  | some oa,some ob=>isStore oa.op && isStore ob.op && oa.guard.isNone && ob.guard.isNone && oa.dst.isNone && ob.dst.isNone && (List.range ops.size).all fun i=>i==a || i==b || match ops[i]? with
    | none=>false
    | some oi=>(inert (true,false) oi.op || (decide (i < a) && after ms i a && after ms i b)) && (match oi.dst with | none=>true | some d=> !(oa.looksAt ops).contains d || decide (i < a))
  | _,_=>false)
def exc0 (ops:Array Oper):Option (Nat × Nat):=
 let ms:=qed none ops [] ops.toList
 match qyk ms ops with
 | [p]=>bif qye ms ops p.1 p.2 then some p else none
 | _=>none
def sepA (v w:AV):Bool:=match v,w with
 | .ptr i _ _, .ptr j _ _=> !Nat.beq i j
 | _,_=>true
def qcx (x:Option (Nat × Nat)) (cw:Bool × Bool) (ops:Array Oper):Bool:=
 let ms:=qed x ops [] ops.toList
 let ex:=match x with | none=>exc0 ops | some _=>none
 Region.noSelect ops && (List.range ops.size).all fun i=>match ops[i]? with
  | none=>false
  | some oi=>(oi.after.toList.all (fun e=> !Region.binds .any e || decide (e.on < i)) && (!(cw.1 && isLoad oi.op) || (match oi.dst with | none=>true | some d=> !(oi.looksAt ops).contains d))) && (List.range ops.size).all fun j=>j==i || match ops[j]? with
    | none=>false
    | some oj=>(oi.dst !=oj.dst || oi.dst==none) && ((match oj.dst with | none=>true | some d=> !(oi.looksAt ops).contains d) || after ms j i || after ms i j) &&
      (inert cw oj.op || isLoad oj.op || inert cw oi.op || (isLoad oi.op && isApp oj.op) || (if j < i then after ms j i else (after ms i j || (isLoad oi.op && (isPush oj.op || isVal oj.op)))) || ex==some (i,j) || ex==some (j,i)) &&
      (!(cw.1 && isLoad oi.op) || (match oj.dst with | none=>true | some d=> !(oi.looksAt ops).contains d || decide (j < i)))
def q4g (ops:Array Oper):Bool:=ops.toList.any fun o=>isStore o.op && o.after.toList.any fun e=> !Region.binds .any e && (match ops[e.on]? with | some oe=>isLoad oe.op | none=>false)
def q0z:Op→Option TypeId
 | .alloc e=>some e
 | _=>none
def qti (ms:List Nat) (ops:Array Oper) (c s:Nat):Bool:=
 Nat.blt c s && (match ops[c]?,ops[s]? with
  | some oc,some os=>isVal oc.op && (q0z os.op).isSome && os.guard.isNone && !after ms c s && (match os.dst with
    | none=>false
    | some t=>(List.range ops.size).all fun i=>match ops[i]? with
      | none=>false
      | some oi=>oi.after.toList.all (fun e=> !(Region.binds .any e && Nat.beq e.on s) || after ms c i) && (!(oi.looksAt ops).contains t || after ms s i))
  | _,_=>false)
def q46 (ops:Array Oper):Option (Nat × Nat):=
 let ms:=qed none ops [] ops.toList
 ((List.range ops.size).flatMap fun s=>(List.range s).map fun c=>(c,s)).find? fun p=>qti ms ops p.1 p.2
def exOf (ops:Array Oper):Option (Nat × Nat):=
 bif qcx none (true,false) ops then none else match q46 ops with
  | none=>none
  | some p=>bif qcx (some p) (true,false) ops then some p else none
def cwOf (ops:Array Oper):Bool × Bool:=match exOf ops with
 | some _=>(true,false)
 | none=>bif qcx none (true,false) ops then (true,false) else bif qcx none (false,false) ops then (false,false) else (false,q4g ops)
def qp7 (ops:Array Oper):Bool:=match exOf ops with
 | some _=>true
 | none=>qcx none (false,false) ops || qcx none (true,false) ops || (qcx none (false,true) ops && q4g ops)
def excOf (ops:Array Oper):Option (Nat × Nat):=match exOf ops with
 | some _=>none
 | none=>exc0 ops
def sepB (G:Nat→List AV) (ops:Array Oper) (fr:Fr):Bool:=match exc0 ops with
 | none=>true
 | some p=>match ops[p.1]?,ops[p.2]? with
   | some oa,some ob=>sepA (ev G fr (qtt oa.op)) (ev G fr (qtt ob.op))
   | _,_=>true
def qaf (ops:Array Oper):Bool:=(cwOf ops).1 || uc ops
def Side (G:Nat→List AV) (ops:Array Oper) (o:Oper) (fr:Fr) (H H':Hp):Prop:=(isVal o.op=true→(cwOf ops).1=true→qm8 G ops.toList fr H H')∧(isStore o.op=true→sepB G ops fr=true)
theorem qme {ops:Array Oper} {p:Nat × Nat} (h:exOf ops=some p):qcx (some p) (true,false) ops=true∧qti (qed none ops [] ops.toList) ops p.1 p.2=true:=by
 unfold exOf at h
 cases hb:qcx none (true,false) ops with
 | true=>rw [hb] at h;cases h
 | false=>
   rw [hb,cond_false] at h
   cases hf:q46 ops with
   | none=>rw [hf] at h;cases h
   | some q=>
     rw [hf] at h
     simp only at h
     cases hc:qcx (some q) (true,false) ops with
     | false=>rw [hc] at h;cases h
     | true=>
       rw [hc,cond_true] at h
       cases h
       unfold q46 at hf
       exact ⟨hc,by simpa using List.find?_some hf⟩
theorem q2n {ops:Array Oper} (h:qp7 ops=true):qcx (exOf ops) (cwOf ops) ops=true:=by
 unfold qp7 at h
 unfold cwOf
 cases hx:exOf ops with
 | some p=>exact (qme hx).1
 | none =>
   rw [hx] at h
   simp only at h ⊢
   cases hb:qcx none (true,false) ops with
   | true=>exact hb
   | false=>
     rw [cond_false]
     cases hc:qcx none (false,false) ops with
     | true=>exact hc
     | false=>
       rw [hc,BC,hb,BC,An] at h
       rw [cond_false,h.2];exact h.1
inductive BefX (x:Option (Nat × Nat)) (ops:Array Oper):Nat→Nat→Prop
 | edge (i:Nat) (o:Oper) (e:Edge) (hi:ops[i]? =some o) (he:e∈o.after) (hb:Region.binds .any e=true):BefX x ops e.on i
 | more (i j:Nat) (o:Oper) (e:Edge) (hi:ops[i]? =some o) (he:e∈o.after) (hb:Region.binds .any e=true) (h:BefX x ops j e.on):BefX x ops j i
 | ext (c s:Nat) (hx:x=some (c,s)):BefX x ops c s
 | extm (c s j:Nat) (hx:x=some (c,s)) (h:BefX x ops j c):BefX x ops j s
abbrev Bef (ops:Array Oper):Nat→Nat→Prop:=BefX (exOf ops) ops
theorem BefX.up {x:Option (Nat × Nat)} {ops:Array Oper} {j i:Nat} (h:BefX none ops j i):BefX x ops j i:=by
 induction h with
 | edge i o e hi he hb=>exact .edge i o e hi he hb
 | more i j o e hi he hb _ ih=>exact .more i j o e hi he hb ih
 | ext c s hx=>cases hx
 | extm c s j hx=>cases hx
theorem qpz {x:Option (Nat × Nat)} (ops:Array Oper) (i:Nat) (o:Oper) (hi:ops[i]? =some o) (ms:List Nat) (hms:∀k j:Nat,(ms.getD k 0).testBit j=true→BefX x ops j k):∀(es:List Edge) (m:Nat),(∀e∈es,e∈o.after)→(∀j,m.testBit j=true→BefX x ops j i)→
 ∀j,(es.foldl (fun m e=>if Region.binds .any e then m ||| (1 <<< e.on) ||| ms.getD e.on 0 else m) m).testBit j=true→BefX x ops j i
 | [],m,_,hm,j,h=>hm j h
 | e ::es,m,hes,hm,j,h=>by
   refine qpz ops i o hi ms hms es _ (fun e he=>hes e (Ay _ he)) (fun j hj=> ?_) j h
   simp only at hj
   split at hj
   ·rename_i hb
    simp only [Nat.testBit_or,Bp] at hj
    rcases hj with (hj | hj) | hj
    ·exact hm j hj
    ·rw [Nat.one_shiftLeft,Nat.testBit_two_pow] at hj
     have:=of_decide_eq_true hj
     subst this
     exact .edge i o e hi (hes e (AK ..)) hb
    exact .more i j o e hi (hes e (AK ..)) hb (hms _ _ hj)
   exact hm j hj
theorem q6i {x:Option (Nat × Nat)} (ops:Array Oper) (ms:List Nat) (hms:∀k j:Nat,(ms.getD k 0).testBit j=true→BefX x ops j k) (j:Nat) (h:(q3n x ms).testBit j=true):BefX x ops j ms.length:=by
 unfold q3n at h
 split at h
 ·rename_i p
  cases hb:Nat.beq p.2 ms.length with
  | false=>rw [hb,cond_false] at h;simp at h
  | true=>
    have he:=AF hb
    rw [hb,cond_true,Nat.testBit_or,Bp] at h
    rcases h with h | h
    ·rw [Nat.one_shiftLeft,Nat.testBit_two_pow] at h
     have:=of_decide_eq_true h
     subst this
     rw [←he]
     exact .ext p.1 p.2 rfl
    rw [←he]
    exact .extm p.1 p.2 j rfl (hms _ _ h)
 simp at h
theorem qwe {x:Option (Nat × Nat)} (ops:Array Oper):∀(os:List Oper) (ms:List Nat),(∀k,os[k]? =ops[ms.length+k]?)→(∀k j:Nat,(ms.getD k 0).testBit j=true→BefX x ops j k)→∀k j:Nat,((qed x ops ms os).getD k 0).testBit j=true→BefX x ops j k
 | [],ms,_,h=>h
 | o ::os,ms,ho,h=>by
   have hi:ops[ms.length]? =some o:=by have:=ho 0;simpa using this.symm
   refine qwe ops os _ (fun k=>by have:=ho (k+1);simp only [Bc] at this;rw [this,Ad];congr 1;simp;omega) (fun k j hj=> ?_)
   rw [Ax,AH] at hj
   split at hj
   ·rw [←Ax] at hj;exact h k j hj
   rename_i hk
   cases hd:k - ms.length with
   | zero=>
     rw [hd] at hj
     simp only [Aq,Bo] at hj
     have:k=ms.length:=by omega
     rw [this]
     exact qpz ops ms.length o hi ms h _ _ (fun e he=>by simpa using he) (fun j hj=>q6i ops ms h j hj) j hj
   | succ q=>rw [hd] at hj;simp at hj
theorem qb6 {x:Option (Nat × Nat)} {ops:Array Oper} {j i:Nat} (h:after (qed x ops [] ops.toList) j i=true):BefX x ops j i:=
 qwe ops ops.toList [] (fun k=>by simp) (fun k j hj=>by simp at hj) i j h
def wpD (P:Program) (G:Nat→List AV) (ops:Array Oper):List Oper→Fr→Hp→(Fr→Hp→Prop)→Prop
 | [],fr,H,K=>K fr H
 | o::os,fr,H,K=>match o.guard with
   | none=>∃x H',u6 P G (cwOf ops) (qaf ops) fr H o.op x H'∧Side G ops o fr H H'∧wpD P G ops os (put o.dst x fr) H' K
   | some (j,want)=>∃b,Q5 ops fr j=some b∧(b=some want→∃x H',u6 P G (cwOf ops) (qaf ops) fr H o.op x H'∧Side G ops o fr H H'∧wpD P G ops os (put o.dst x fr) H' K)∧(b≠some want→wpD P G ops os (put o.dst (.tup []) fr) H K)
def One (P:Program) (G:Nat→List AV) (ops:Array Oper) (fr:Fr) (H:Hp) (o:Oper) (x:AV) (H':Hp):Prop:=
 ((o.guard=none∨∃j want,o.guard=some (j,want)∧Q5 ops fr j=some (some want))∧u6 P G (cwOf ops) (qaf ops) fr H o.op x H')∨
 (∃j want y,o.guard=some (j,want)∧Q5 ops fr j=some y∧y≠some want∧x= .tup []∧H'=H)
def Run (P:Program) (G:Nat→List AV) (ops:Array Oper):List Oper→Fr→Hp→List (AV × Hp)→Prop
 | [],_,_,tr=>tr= []
 | o::os,fr,H,tr=>∃x H' tr',tr=(x,H')::tr'∧(One P G ops fr H o x H'∧(Side G ops o fr H H'∨(o.guard≠none∧H'=H)))∧Run P G ops os (put o.dst x fr) H' tr'
def qw1:List Oper→Fr→List (AV × Hp)→Fr
 | o::os,fr,(x,_)::tr=>qw1 os (put o.dst x fr) tr
 | _,fr,_=>fr
def endH:Hp→List (AV × Hp)→Hp
 | H, []=>H
 | _,(_,H')::tr=>endH H' tr
theorem qns {ops:Array Oper}:∀(os:List Oper) (fr:Fr) (H:Hp) (K:Fr→Hp→Prop),wpD P G ops os fr H K→∃tr,Run P G ops os fr H tr∧K (qw1 os fr tr) (endH H tr)
 | [],fr,H,K,h=>⟨[],rfl,h⟩
 | o ::os,fr,H,K,h=>by
   unfold wpD at h
   split at h
   ·rename_i hg
    obtain ⟨x,H',hs,hkp,hr⟩:=h
    obtain ⟨tr,h1,h2⟩:=qns os _ _ _ hr
    exact ⟨(x,H')::tr,⟨x,H',tr,rfl,⟨.inl ⟨.inl hg,hs⟩, .inl hkp⟩,h1⟩,h2⟩
   rename_i j want hg
   obtain ⟨b,hb,hy,hn⟩:=h
   by_cases hbw:b=some want
   ·subst hbw
    obtain ⟨x,H',hs,hkp,hr⟩:=hy rfl
    obtain ⟨tr,h1,h2⟩:=qns os _ _ _ hr
    exact ⟨(x,H')::tr,⟨x,H',tr,rfl,⟨.inl ⟨.inr ⟨j,want,hg,hb⟩,hs⟩, .inl hkp⟩,h1⟩,h2⟩
   obtain ⟨tr,h1,h2⟩:=qns os _ _ _ (hn hbw)
   exact ⟨(.tup [],H)::tr,⟨.tup [],H,tr,rfl,⟨.inr ⟨j,want,b,hg,hb,hbw,rfl,rfl⟩, .inr ⟨by rw [hg];simp,rfl⟩⟩,h1⟩,h2⟩
def hAt (H:Hp) (tr:List (AV × Hp)):Nat→Hp
 | 0=>H
 | i+1=>(tr[i]?).elim H (·.2)
def xAt (tr:List (AV × Hp)) (i:Nat):AV:=(tr[i]?).elim .undef (·.1)
def fAt:List Oper→Fr→List (AV × Hp)→Nat→Fr
 | _,fr,_,0=>fr
 | o::os,fr,(x,_)::tr,i+1=>fAt os (put o.dst x fr) tr i
 | _,fr,_,_+1=>fr
theorem Run.len {ops:Array Oper}:∀{os:List Oper} {fr:Fr} {H:Hp} {tr:List (AV × Hp)},Run P G ops os fr H tr→tr.length=os.length
 | [],_,_,_,h=>by rw [h];rfl
 | _::_,_,_,_,⟨_,_,_,e,_,h⟩=>by rw [e,Ae,Ae,h.len]
theorem Run.at {ops:Array Oper}:∀{os:List Oper} {fr:Fr} {H:Hp} {tr:List (AV × Hp)},Run P G ops os fr H tr→∀(i:Nat) (o:Oper),os[i]? =some o→(One P G ops (fAt os fr tr i) (hAt H tr i) o (xAt tr i) (hAt H tr (i+1))∧(Side G ops o (fAt os fr tr i) (hAt H tr i) (hAt H tr (i+1))∨(o.guard≠none∧hAt H tr (i+1)=hAt H tr i)))∧fAt os fr tr (i+1)=put o.dst (xAt tr i) (fAt os fr tr i)
 | [],_,_,_,_,i,o,ho=>by simp at ho
 | o::os,fr,H,_,⟨x,H',tr,rfl,h1,h2⟩,0,o',ho=>by
   simp only [Aq,Ab] at ho
   subst ho
   exact ⟨h1,by simp only [fAt,xAt,Aq,Option.elim_some]⟩
 | o :: os,fr,H,_,⟨x,H',tr,rfl,h1,h2⟩,i+1,o',ho=>by
   simp only [Bc] at ho
   obtain ⟨a1,a2⟩:=h2.at i o' ho
   refine ⟨?_,?_⟩
   ·have e1:hAt H ((x,H')::tr) (i+1)=hAt H' tr i:=by cases i with
     | zero=>rfl
     | succ i=>
       simp only [hAt,Bc]
       have hl:=h2.len
       have hlt:=(Ah.1 ho).1
       rw [Ak (by omega)];rfl
    have e2:hAt H ((x,H')::tr) (i+1+1)=hAt H' tr (i+1):=by
     simp only [hAt,Bc]
     have hl:=h2.len
     have hlt:=(Ah.1 ho).1
     rw [Ak (by omega)];rfl
    rw [e1,e2]
    exact a1
   exact a2
theorem Run.end {ops:Array Oper}:∀{os:List Oper} {fr:Fr} {H:Hp} {tr:List (AV × Hp)},Run P G ops os fr H tr→qw1 os fr tr=fAt os fr tr os.length∧endH H tr=hAt H tr os.length
 | [],_,_,_,h=>by rw [h];exact ⟨rfl,rfl⟩
 | o ::os,fr,H,_,⟨x,H',tr,rfl,h1,h2⟩=>by
   obtain ⟨a1,a2⟩:=h2.end
   refine ⟨a1,?_⟩
   show endH H' tr=_
   rw [a2]
   cases hos:os.length with
   | zero=>rw [Ae,hos];rfl
   | succ q=>
     have hl:=h2.len
     simp only [Ae,hos,hAt,Bc]
     rw [Ak (by omega)];rfl
section
variable {ops:Array Oper} {fr0:Fr} {H0:Hp} {tr:List (AV × Hp)}
structure DrawOk (ops:Array Oper):Prop where
 sel:Region.noSelect ops=true
 back:∀(i:Nat) (o:Oper) (e:Edge),ops[i]? =some o→e∈o.after→Region.binds .any e=true→e.on < i
 fore:∀c s,exOf ops=some (c,s)→c < s
 dst:∀(i j:Nat) (oi oj:Oper) (d:Tmp),ops[i]? =some oi→ops[j]? =some oj→i≠j→oi.dst=some d→oj.dst≠some d
 reads:∀(i j:Nat) (oi oj:Oper) (d:Tmp),ops[i]? =some oi→ops[j]? =some oj→i≠j→oj.dst=some d→d∈oi.looksAt ops→Bef ops j i∨Bef ops i j
 heap:∀(i j:Nat) (oi oj:Oper),ops[i]? =some oi→ops[j]? =some oj→i≠j→inert (cwOf ops) oj.op=false→isLoad oj.op=false→inert (cwOf ops) oi.op=false→((j < i→Bef ops j i∨(isLoad oi.op=true∧isApp oj.op=true))∧(i < j→Bef ops i j∨(isLoad oi.op=true∧(isPush oj.op=true∨isApp oj.op=true∨isVal oj.op=true))))∨excOf ops=some (i,j)∨excOf ops=some (j,i)
 self:∀(i:Nat) (oi:Oper) (d:Tmp),(cwOf ops).1=true→ops[i]? =some oi→isLoad oi.op=true→oi.dst=some d→d∉oi.looksAt ops
 addr:∀(i j:Nat) (oi oj:Oper) (d:Tmp),(cwOf ops).1=true→ops[i]? =some oi→ops[j]? =some oj→i≠j→isLoad oi.op=true→oj.dst=some d→d∈oi.looksAt ops→j < i
theorem BefX.lt {x:Option (Nat × Nat)} (hb:∀(i:Nat) (o:Oper) (e:Edge),ops[i]? =some o→e∈o.after→Region.binds .any e=true→e.on < i) (hx:∀c s,x=some (c,s)→c < s) {j i:Nat} (h:BefX x ops j i):j < i:=by
 induction h with
 | edge i o e hi he hbd=>exact hb i o e hi he hbd
 | more i j o e hi he hbd _ ih=>exact Nat.lt_trans ih (hb i o e hi he hbd)
 | ext c s h=>exact hx c s h
 | extm c s j h _ ih=>exact Nat.lt_trans ih (hx c s h)
theorem q5o (D:DrawOk ops) {j i:Nat} (h:Bef ops j i):j < i:=BefX.lt D.back D.fore h
theorem qw4 (h0:qp7 ops=true):DrawOk ops:=by
 have h:=q2n h0
 generalize hcw:cwOf ops=cw at h
 have hexc:(match exOf ops with | none=>exc0 ops | some _=>none)=excOf ops:=by
  unfold excOf
  cases exOf ops <;> rfl
 unfold qcx at h
 simp only [hexc] at h
 simp only [An,Aw,BS] at h
 obtain ⟨hsel,h⟩:=h
 have get:∀(i:Nat) (oi:Oper),ops[i]? =some oi→i < ops.size:=fun i oi hi=>(Au.1 hi).1
 have one:∀(i j:Nat) (oi oj:Oper),ops[i]? =some oi→ops[j]? =some oj→i≠j→(((oi.dst !=oj.dst || oi.dst==none)=true∧((match oj.dst with | none=>true | some d=> !(oi.looksAt ops).contains d) || after (qed (exOf ops) ops [] ops.toList) j i || after (qed (exOf ops) ops [] ops.toList) i j)=true)∧
  (inert cw oj.op || isLoad oj.op || inert cw oi.op || (isLoad oi.op && isApp oj.op) || (if j < i then after (qed (exOf ops) ops [] ops.toList) j i else (after (qed (exOf ops) ops [] ops.toList) i j || (isLoad oi.op && (isPush oj.op || isVal oj.op)))) || excOf ops==some (i,j) || excOf ops==some (j,i))=true)∧
  (!(cw.1 && isLoad oi.op) || (match oj.dst with | none=>true | some d=> !(oi.looksAt ops).contains d || decide (j < i)))=true:=by
  intro i j oi oj hi hj hne
  have h1:=h i (get i oi hi)
  simp only [hi,An,Aw,BS] at h1
  have h2:=h1.2 j (get j oj hj)
  simp only [hj] at h2
  rw [Bp] at h2
  rcases h2 with h2 | h2
  ·exact absurd (eq_of_beq h2).symm hne
  rw [An,An,An] at h2
  exact h2
 refine ⟨hsel,fun i o e hi he hb=> ?_,fun c s hx=> ?_,fun i j oi oj d hi hj hne hd hd'=> ?_,fun i j oi oj d hi hj hne hd hr=> ?_,fun i j oi oj hi hj hne h1 h2 h3=> ?_,fun i oi d hc hi hl hd hr=> ?_,fun i j oi oj d hc hi hj hne hl hd hr=> ?_⟩
 ·have h1:=h i (get i o hi)
  simp only [hi,An,Aw,Bp,decide_eq_true_eq] at h1
  have:=h1.1.1 e (by simpa using he)
  simpa [hb] using this
 ·have:=(qme hx).2
  unfold qti at this
  rw [An] at this
  exact Ao this.1
 ·have:=(one i j oi oj hi hj hne).1.1.1
  simp [hd,hd'] at this
 ·have:=(one i j oi oj hi hj hne).1.1.2
  simp only [hd,Bp] at this
  rcases this with (h4 | h4) | h4
  ·simp at h4;exact absurd hr h4
  ·exact .inl (qb6 h4)
  exact .inr (qb6 h4)
 ·have:=(one i j oi oj hi hj hne).1.2
  rw [hcw] at h1 h3
  by_cases x1:excOf ops=some (i,j)
  ·exact .inr (.inl x1)
  by_cases x2:excOf ops=some (j,i)
  ·exact .inr (.inr x2)
  have y1:(excOf ops==some (i,j))=false:=by simpa using x1
  have y2:(excOf ops==some (j,i))=false:=by simpa using x2
  simp only [h1,h2,h3,y1,y2,BC,Bool.or_false] at this
  refine .inl ⟨fun hlt=> ?_,fun hlt=> ?_⟩
  ·rw [if_pos hlt] at this
   simp only [Bp,An] at this
   rcases this with this | this
   ·exact .inr this
   exact .inl (qb6 this)
  rw [if_neg (by omega)] at this
  simp only [Bp,An] at this
  rcases this with this | this | this
  ·exact .inr ⟨this.1, .inr (.inl this.2)⟩
  ·exact .inl (qb6 this)
  exact .inr ⟨this.1,this.2.elim .inl (fun h=> .inr (.inr h))⟩
 ·have h1:=h i (get i oi hi)
  rw [hcw] at hc
  obtain ⟨cw,lf⟩:=cw
  cases (show cw=true from hc)
  simp only [hi,hl,hd,Bm,Ac,BC,An] at h1
  have:=h1.1.2
  simp at this
  exact this hr
 have:=(one i j oi oj hi hj hne).2
 rw [hcw] at hc
 obtain ⟨cw,lf⟩:=cw
 cases (show cw=true from hc)
 simp only [hl,hd,Bm,Ac,BC,Bp,decide_eq_true_eq] at this
 rcases this with h4 | h4
 ·simp at h4;exact absurd hr h4
 exact h4
structure ExcOk (ops:Array Oper) (a b:Nat) (oa ob:Oper):Prop where
 lt:a < b
 ha:ops[a]? =some oa
 hb:ops[b]? =some ob
 sa:isStore oa.op=true
 sb:isStore ob.op=true
 ga:oa.guard=none
 gb:ob.guard=none
 da:oa.dst=none
 db:ob.dst=none
 rest:∀(i:Nat) (oi:Oper),ops[i]? =some oi→i≠a→i≠b→inert (true,false) oi.op=false→i < a∧Bef ops i a∧Bef ops i b
 look:∀(i:Nat) (oi:Oper) (d:Tmp),ops[i]? =some oi→i≠a→i≠b→oi.dst=some d→d∈oa.looksAt ops→i < a
theorem zap {p:Nat × Nat} (h:excOf ops=some p):exc0 ops=some p:=by
 unfold excOf at h
 split at h
 ·cases h
 exact h
theorem qfh {a b:Nat} (h:excOf ops=some (a,b)):∃oa ob,ExcOk ops a b oa ob:=by
 have hup:∀{j i:Nat},BefX none ops j i→Bef ops j i:=fun h=>h.up
 unfold excOf at h
 cases hx:exOf ops with
 | some p=>rw [hx] at h;cases h
 | none=>
 rw [hx] at h
 simp only at h
 unfold exc0 at h
 simp only at h
 split at h
 ·rename_i p hp
  cases hk:qye (qed none ops [] ops.toList) ops p.1 p.2 with
  | false=>rw [hk] at h;cases h
  | true =>
    rw [hk] at h
    simp only [cond_true,Ab] at h
    subst h
    unfold qye at hk
    rw [An] at hk
    obtain ⟨hlt,hk⟩:=hk
    cases ha:ops[a]? with
    | none=>simp [ha] at hk
    | some oa=>
      cases hb:ops[b]? with
      | none=>simp [ha,hb] at hk
      | some ob=>
        simp only [ha,hb,An,Aw,BS,Option.isNone_iff_eq_none] at hk
        obtain ⟨⟨⟨⟨⟨⟨s1,s2⟩,g1⟩,g2⟩,d1⟩,d2⟩,hall⟩:=hk
        have key:∀(i:Nat) (oi:Oper),ops[i]? =some oi→i≠a→i≠b→(inert (true,false) oi.op || (decide (i < a) && after (qed none ops [] ops.toList) i a && after (qed none ops [] ops.toList) i b))=true∧(match oi.dst with | none=>true | some d=> !(oa.looksAt ops).contains d || decide (i < a))=true:=by
         intro i oi hi h1 h2
         have:=hall i (Au.1 hi).1
         simp only [hi,Bp,beq_iff_eq] at this
         rcases this with (this | this) | this
         ·exact absurd this h1
         ·exact absurd this h2
         rw [An] at this
         exact this
        refine ⟨oa,ob,Ao hlt,ha,hb,s1,s2,g1,g2,d1,d2,fun i oi hi h1 h2 hn=> ?_,fun i oi d hi h1 h2 hd hl=> ?_⟩
        ·have:=(key i oi hi h1 h2).1
         rw [hn,BC,An,An,decide_eq_true_eq] at this
         exact ⟨this.1.1,hup (qb6 this.1.2),hup (qb6 this.2)⟩
        have:=(key i oi hi h1 h2).2
        simp only [hd,Bp,decide_eq_true_eq] at this
        rcases this with h4 | h4
        ·simp at h4;exact absurd hl h4
        exact h4
 cases h
theorem qyj {cw:Bool × Bool} {c:Call}:inert cw (.call c)=(match c.callee with | .builtin .len=>true | .builtin .max=>true | .builtin .min=>true | .value _=> !cw.1 | .builtin .append=>(match c.args[0]? with | some a=>qap a | none=>false) | _=>false):=rfl
theorem qwl {cw:Bool × Bool} {op:Op} (h:inert (true,false) op=true):inert cw op=true:=by
 cases op <;> first | exact h | (cases h;done) | skip
 case call c=>
  rw [qyj] at h ⊢
  revert h
  generalize c.callee=q
  intro h
  split <;> simp_all
theorem qn4 {cw:Bool × Bool} {op:Op} (h:inert cw op=false):inert (true,false) op=false:=by
 cases hb:inert (true,false) op with
 | false=>rfl
 | true=>rw [qwl hb] at h;cases h
theorem quj {cw:Bool × Bool} {st:Bool} {fr:Fr} {H H':Hp} {op:Op} {x:AV} (hs:isStore op=true):u6 P G cw st fr H op x H' ↔ evalOp P G fr H op=some (x,H'):=by
 cases op <;> simp only [isStore] at hs <;> first | (cases hs;done) | exact Iff.rfl
theorem q49 {fr:Fr} {H H':Hp} {op:Op} {x:AV} (hs:isStore op=true) (h:evalOp P G fr H op=some (x,H')):∃t p v,op= .store t p v∧x= .undef∧Q6 P H t (ev G fr p) (ev G fr v)=some H':=by
 cases op <;> simp only [isStore] at hs <;> first | (cases hs;done) | skip
 case store t p v=>
  simp only [evalOp,Am,Al] at h
  obtain ⟨y,h1,rfl,rfl⟩:=h
  exact ⟨t,p,v,rfl,rfl,h1⟩
theorem qhi {cw:Bool × Bool} {op:Op} (h:isStore op=true):inert cw op=false∧isLoad op=false∧isVal op=false:=by
 cases op <;> simp only [isStore] at h <;> first | (cases h;done) | exact ⟨rfl,rfl,rfl⟩
theorem qx2 {H H1 H2:Hp} {t1 t2:TypeId} {p1 p2 x1 x2:AV} (h1:Q6 P H t1 p1 x1=some H1) (h2:Q6 P H1 t2 p2 x2=some H2) (hne:sepA p1 p2=true):∃H',Q6 P H t2 p2 x2=some H'∧Q6 P H' t1 p1 x1=some H2:=by
 have shape:∀{H H1:Hp} {t:TypeId} {p x:AV},Q6 P H t p x=some H1→∃id s off,p= .ptr id s off∧∃(o o':Nat × Obj),H.objs[id]? =some o∧H1=⟨H.n,H.objs.set id o'⟩∧∀(H3:Hp),H3.objs[id]? =some o→Q6 P H3 t p x=some ⟨H3.n,H3.objs.set id o'⟩:=by
  intro H H1 t p x h
  unfold Q6 at h
  split at h
  ·rename_i id s off xs k hxs hk
   split at h
   ·rename_i hlen
    cases ho:H.objs[id]? with
    | none=>simp [ho] at h
    | some o=>
      obtain ⟨s',ob⟩:=o
      rw [ho] at h
      cases ob with
      | var ty cs=>
        simp only at h
        split at h
        ·rename_i hc
         cases h
         refine ⟨id,s,off,rfl,_,(s, .var ty (Qu cs off xs)),ho,rfl,fun H3 h3=> ?_⟩
         simp only [Q6,hxs,hk,if_pos hlen,h3,if_pos hc]
        cases h
      | row ty cs=>
        simp only at h
        split at h
        ·rename_i hc
         cases h
         refine ⟨id,s,off,rfl,_,(s, .row ty (Qu cs off xs)),ho,rfl,fun H3 h3=> ?_⟩
         simp only [Q6,hxs,hk,if_pos hlen,h3,if_pos hc]
        cases h
      | _=>cases h
   cases h
  cases h
 obtain ⟨i1,s1,f1,rfl,o1,q1,a1,rfl,c1⟩:=shape h1
 obtain ⟨i2,s2,f2,rfl,o2,q2,a2,rfl,c2⟩:=shape h2
 have hij:i1≠i2:=by
  intro e;subst e
  simp [sepA] at hne
 have a2':H.objs[i2]? =some o2:=by rw [←a2,BF hij]
 refine ⟨_,c2 H a2',?_⟩
 rw [c1 ⟨H.n,H.objs.set i2 q2⟩ (by show (H.objs.set i2 q2)[i1]? =_;rw [BF (Ne.symm hij)];exact a1)]
 rw [List.set_comm _ _ (Ne.symm hij)]
structure At (P:Program) (G:Nat→List AV) (ops:Array Oper) (fr0:Fr) (H0:Hp) (tr:List (AV × Hp)) (L:Nat→Prop) (fr:Fr) (H:Hp):Prop where
 did:∀(j:Nat) (o:Oper) (d:Tmp),ops[j]? =some o→L j→o.dst=some d→fr d=xAt tr j
 not:∀t,(∀(j:Nat) (o:Oper),ops[j]? =some o→L j→o.dst≠some t)→fr t=fr0 t
 heap:(∃k,k≤ops.size∧H=hAt H0 tr k∧∀(e:Nat) (o:Oper),ops[e]? =some o→inert (cwOf ops) o.op=false→isLoad o.op=false→(L e ↔ e < k))∨
  (∃ a b oa ob H2,excOf ops=some (a,b)∧ExcOk ops a b oa ob∧L b∧¬L a∧(∀(e:Nat) (o:Oper),ops[e]? =some o→inert (cwOf ops) o.op=false→isLoad o.op=false→e≠b→(L e ↔ e < a))∧
    H2=hAt H0 tr (b+1)∧evalOp P G (fAt ops.toList fr0 tr a) H oa.op=some (xAt tr a,H2))
theorem qj2 (D:DrawOk ops) (hr:Run P G ops ops.toList fr0 H0 tr):∀i,i≤ops.size→(∀(j:Nat) (o:Oper) (d:Tmp),ops[j]? =some o→j < i→o.dst=some d→fAt ops.toList fr0 tr i d=xAt tr j)∧(∀t,(∀(j:Nat) (o:Oper),ops[j]? =some o→j < i→o.dst≠some t)→fAt ops.toList fr0 tr i t=fr0 t)
 | 0,_=>by
   have:fAt ops.toList fr0 tr 0=fr0:=by cases ops.toList <;> rfl
   exact ⟨fun j o d _ h=>by omega,fun t _=>by rw [this]⟩
 | i + 1,hle=>by
   obtain ⟨h1,h2⟩:=qj2 D hr i (by omega)
   have hi:ops[i]? =some ops[i]:=AP (by omega)
   have hput:=(hr.at i ops[i] (by simpa using hi)).2
   rw [hput]
   refine ⟨fun j o d hj hlt hd=> ?_,fun t ht=> ?_⟩
   ·by_cases hji:j=i
    ·subst hji
     rw [hi] at hj
     simp only [Ab] at hj
     subst hj
     rw [hd,ur,if_pos rfl]
    have:=h1 j o d hj (by omega) hd
    cases hdi:(ops[i]).dst with
    | none=>exact this
    | some di=>
      have hne:d≠di:=by intro e;subst e;exact D.dst j i o ops[i] d hj hi hji hd hdi
      rw [ur,if_neg hne];exact this
   have h3:=h2 t (fun j o hj hlt=>ht j o hj (by omega))
   cases hdi:(ops[i]).dst with
   | none=>exact h3
   | some di=>
     have hne:t≠di:=by intro e;subst e;exact ht i ops[i] hi (by omega) hdi
     rw [ur,if_neg hne];exact h3
theorem qk0 (hr:Run P G ops ops.toList fr0 H0 tr) {o:Oper} {i:Nat} (hi:ops[i]? =some o) (h:inert (cwOf ops) o.op=true∨isLoad o.op=true):hAt H0 tr (i+1)=hAt H0 tr i:=by
 obtain ⟨⟨hone,_⟩,_⟩:=hr.at i o (by simpa using hi)
 rcases hone with ⟨_,hs⟩ | ⟨_,_,_,_,_,_,_,hs⟩
 ·rcases h with h | h
  ·exact (hs.inert h).1
  exact (hs.load h).1
 exact hs
theorem qwn (hr:Run P G ops ops.toList fr0 H0 tr) {o:Oper} {i:Nat} (hi:ops[i]? =some o) (h:isPush o.op=true):qjg (hAt H0 tr i) (hAt H0 tr (i+1)):=by
 obtain ⟨⟨hone,_⟩,_⟩:=hr.at i o (by simpa using hi)
 rcases hone with ⟨_,hs⟩ | ⟨_,_,_,_,_,_,_,hs⟩
 ·exact hs.push h
 rw [hs];exact fun _ _ h=>h
theorem qde (hr:Run P G ops ops.toList fr0 H0 tr):∀(d k:Nat),k+d≤ops.size→(∀(e:Nat) (o:Oper),ops[e]? =some o→k≤e→e < k+d→inert (cwOf ops) o.op=true∨isLoad o.op=true)→hAt H0 tr (k+d)=hAt H0 tr k
 | 0,_,_,_=>rfl
 | d+1,k,hle,h=>by
   have hi:ops[k+d]? =some ops[k+d]:=AP (by omega)
   rw [←BB,qk0 hr hi (h _ _ hi (by omega) (by omega))]
   exact qde hr d k (by omega) (fun e o he h1 h2=>h e o he h1 (by omega))
theorem qsn (hr:Run P G ops ops.toList fr0 H0 tr):∀(d k:Nat),k+d≤ops.size→(∀(e:Nat) (o:Oper),ops[e]? =some o→k≤e→e < k+d→(inert (cwOf ops) o.op=true∨isLoad o.op=true)∨isPush o.op=true)→qjg (hAt H0 tr k) (hAt H0 tr (k+d))
 | 0,_,_,_=>fun _ _ h=>h
 | d+1,k,hle,h=>by
   have hi:ops[k+d]? =some ops[k+d]:=AP (by omega)
   have ih:=qsn hr d k (by omega) (fun e o he h1 h2=>h e o he h1 (by omega))
   rw [←BB]
   rcases h _ _ hi (by omega) (by omega) with h1 | h1
   ·rw [qk0 hr hi h1];exact ih
   exact fun i y hy=>qwn hr hi h1 i y (ih i y hy)
theorem q0g (hr:Run P G ops ops.toList fr0 H0 tr) {o:Oper} {i:Nat} (hi:ops[i]? =some o) (h:isApp o.op=true):qcy (hAt H0 tr i) (hAt H0 tr (i+1))∧qcy (hAt H0 tr (i+1)) (hAt H0 tr i):=by
 obtain ⟨⟨hone,_⟩,_⟩:=hr.at i o (by simpa using hi)
 rcases hone with ⟨_,hs⟩ | ⟨_,_,_,_,_,_,_,hs⟩
 ·exact hs.app h
 rw [hs];exact ⟨.refl _, .refl _⟩
theorem q2q (D:DrawOk ops) (hc:(cwOf ops).1=true) (hr:Run P G ops ops.toList fr0 H0 tr) {i e:Nat} {oi:Oper} (hi:ops[i]? =some oi) (hl:isLoad oi.op=true) (hie:i < e) (he:e≤ops.size):ev G (fAt ops.toList fr0 tr e) (qes oi.op)=ev G (fAt ops.toList fr0 tr i) (qes oi.op):=by
 refine qk9 fun t ht=> ?_
 have hlook:t∈oi.looksAt ops:=by
  refine B1 _ (BV.2 ⟨.tmp t,?_,rfl⟩)
  revert hl ht
  cases oi.op <;> simp [isLoad,qes,Op.operands]
  intro e;exact e.symm
 obtain ⟨a1,a2⟩:=qj2 D hr e he
 obtain ⟨b1,b2⟩:=qj2 D hr i (by omega)
 by_cases hex:∃(j:Nat) (oj:Oper),ops[j]? =some oj∧oj.dst=some t
 ·obtain ⟨j,oj,hj,hd⟩:=hex
  have uniq:∀(j':Nat) (o':Oper),ops[j']? =some o'→o'.dst=some t→j'=j:=fun j' o' hj' hd'=>Classical.byContradiction fun hne=>D.dst j' j o' oj t hj' hj hne hd' hd
  by_cases hji:i=j
  ·subst hji
   rw [hi] at hj
   simp only [Ab] at hj
   subst hj
   exact absurd hlook (D.self i oi t hc hi hl hd)
  have hlt:=D.addr i j oi oj t hc hi hj hji hl hd hlook
  rw [a1 j oj t hj (by omega) hd,b1 j oj t hj hlt hd]
 have hno:∀(j:Nat) (oj:Oper),ops[j]? =some oj→oj.dst≠some t:=fun j oj hj hd=>hex ⟨j,oj,hj,hd⟩
 rw [a2 t (fun j oj hj _=>hno j oj hj),b2 t (fun j oj hj _=>hno j oj hj)]
theorem qwo (D:DrawOk ops) (hr:Run P G ops ops.toList fr0 H0 tr) {i:Nat} {oi:Oper} (hi:ops[i]? =some oi) (hl:isLoad oi.op=true):∀(d:Nat),i+d≤ops.size→(∀(e:Nat) (o:Oper),ops[e]? =some o→i≤e→e < i+d→(inert (cwOf ops) o.op=true∨isLoad o.op=true)∨isPush o.op=true∨isApp o.op=true∨(isVal o.op=true∧(cwOf ops).1=true))→qaa (ev G (fAt ops.toList fr0 tr i) (qes oi.op)) (hAt H0 tr i) (hAt H0 tr (i+d))
 | 0,_,_=> .refl _ _
 | d +1,hle,h=>by
   have he:ops[i+d]? =some ops[i+d]:=AP (by omega)
   have ih:=qwo D hr hi hl d (by omega) (fun e o he h1 h2=>h e o he h1 (by omega))
   rw [←BB]
   rcases h _ _ he (by omega) (by omega) with h1 | h1 | h1 | ⟨h1,hc⟩
   ·rw [qk0 hr he h1];exact ih
   ·exact ih.trans ((qwn hr he h1).sameV.keep _)
   ·exact ih.trans ((q0g hr he h1).1.keep _)
   obtain ⟨⟨_,hk⟩,_⟩:=hr.at (i+d) ops[i+d] (by simpa using he)
   have hkp:qm8 G ops.toList (fAt ops.toList fr0 tr (i+d)) (hAt H0 tr (i+d)) (hAt H0 tr (i+d+1)):=by
    rcases hk with hk | ⟨_,hk⟩
    ·exact hk.1 h1 hc
    rw [hk];exact qgd _ _ _
   have hk:=qsl hkp oi (by rw [Array.mem_toList_iff];exact Cd hi) hl
   rcases Nat.eq_zero_or_pos d with h0 | h0
   ·subst h0;exact ih.trans hk
   rw [q2q D hc hr hi hl (e:=i+d) (by omega) (by omega)] at hk
   exact ih.trans hk
theorem qwm (hr:Run P G ops ops.toList fr0 H0 tr):∀(d k:Nat),k+d≤ops.size→(∀(e:Nat) (o:Oper),ops[e]? =some o→k≤e→e < k+d→(inert (cwOf ops) o.op=true∨isLoad o.op=true)∨isApp o.op=true)→qcy (hAt H0 tr (k+d)) (hAt H0 tr k)
 | 0,_,_,_=> .refl _
 | d+1,k,hle,h=>by
   have hi:ops[k+d]? =some ops[k+d]:=AP (by omega)
   have ih:=qwm hr d k (by omega) (fun e o he h1 h2=>h e o he h1 (by omega))
   rw [←BB]
   rcases h _ _ hi (by omega) (by omega) with h1 | h1
   ·rw [qk0 hr hi h1];exact ih
   exact (q0g hr hi h1).2.trans ih
theorem qjl {ops:Array Oper} (h:qaf ops=false):(cwOf ops).1=false∧uc ops=false:=by
 unfold qaf at h
 cases h1:(cwOf ops).1 with
 | true=>rw [h1] at h;cases h
 | false=>rw [h1,BC] at h;exact ⟨rfl,h⟩
theorem q1l {op:Op} {cw:Bool × Bool} (h:isVal op=true) (hn:inert cw op=false):cw.1=true:=by
 cases op <;> simp only [isVal] at h <;> first | (cases h;done) | skip
 case call c=>
  split at h
  ·rename_i hb
   simp only [inert,hb] at hn
   obtain ⟨cw,lf⟩:=cw
   cases cw <;> simp_all
  cases h
theorem qr3 {ops:Array Oper} (h:uc ops=false) {i:Nat} {o:Oper} (hi:ops[i]? =some o):isApp o.op=false:=by
 cases ha:isApp o.op with
 | false=>rfl
 | true=>
   have:uc ops=true:=by
    unfold uc
    rw [Array.any_eq_true]
    obtain ⟨hlt,e⟩:=Au.1 hi
    exact ⟨i,hlt,by rw [e];exact ha⟩
   rw [h] at this;cases this
theorem At.next (D:DrawOk ops) (hr:Run P G ops ops.toList fr0 H0 tr) {L:Nat→Prop} {fr:Fr} {H:Hp} (hA:At P G ops fr0 H0 tr L fr H) (hL:∀(i j:Nat),Bef ops j i→L i→L j) {i:Nat} {o:Oper} (hi:ops[i]? =some o) (hn:¬L i) (hready:∀j,Bef ops j i→L j):
 ∃H',One P G ops fr H o (xAt tr i) H'∧At P G ops fr0 H0 tr (fun j=>L j∨j=i) (put o.dst (xAt tr i) fr) H':=by
 have hisz:i < ops.size:=(Au.1 hi).1
 obtain ⟨⟨hone,_⟩,_⟩:=hr.at i o (by simpa using hi)
 obtain ⟨f1,f2⟩:=qj2 D hr i (by omega)
 -- the temporaries that it looks at
 have same:∀t,t∈o.looksAt ops→fAt ops.toList fr0 tr i t=fr t:=by
  intro t ht
  by_cases hex:∃(j:Nat) (oj:Oper),ops[j]? =some oj∧oj.dst=some t
  ·obtain ⟨j,oj,hj,hd⟩:=hex
   have uniq:∀(j':Nat) (o':Oper),ops[j']? =some o'→o'.dst=some t→j'=j:=fun j' o' hj' hd'=>Classical.byContradiction fun hne=>D.dst j' j o' oj t hj' hj hne hd' hd
   by_cases hji:j=i
   ·subst hji
    rw [f2 t (fun j' o' hj' hlt hd'=>by have:=uniq j' o' hj' hd';omega),hA.not t (fun j' o' hj' hl hd'=>by have:=uniq j' o' hj' hd';subst this;exact hn hl)]
   rcases D.reads i j o oj t hi hj (Ne.symm hji) hd ht with hb | hb
   ·rw [f1 j oj t hj (q5o D hb) hd,hA.did j oj t hj (hready j hb) hd]
   have hlt:=q5o D hb
   rw [f2 t (fun j' o' hj' hlt' hd'=>by have:=uniq j' o' hj' hd';omega),hA.not t (fun j' o' hj' hl hd'=>by have:=uniq j' o' hj' hd';subst this;exact hn (hL _ _ hb hl))]
  have hno:∀(j:Nat) (oj:Oper),ops[j]? =some oj→oj.dst≠some t:=fun j oj hj hd=>hex ⟨j,oj,hj,hd⟩
  rw [f2 t (fun j oj hj _=>hno j oj hj),hA.not t (fun j oj hj _=>hno j oj hj)]
 have evs:∀y∈o.op.operands,ev G (fAt ops.toList fr0 tr i) y=ev G fr y:=fun y hy=>qk9 fun t ht=>same t (by
  subst ht
  exact B1 _ (BV.2 ⟨.tmp t,by simpa using hy,rfl⟩))
 have ys:∀j want,o.guard=some (j,want)→Q5 ops fr j=Q5 ops (fAt ops.toList fr0 tr i) j:=by
  intro j want hg
  unfold Q5
  split
  ·rename_i t ht
   rw [same t (List.mem_append_right _ (by simp [hg,ht]))]
  rfl
 have newFr:(∀(j:Nat) (o':Oper) (d:Tmp),ops[j]? =some o'→(L j∨j=i)→o'.dst=some d→put o.dst (xAt tr i) fr d=xAt tr j)∧(∀t,(∀(j:Nat) (o':Oper),ops[j]? =some o'→(L j∨j=i)→o'.dst≠some t)→put o.dst (xAt tr i) fr t=fr0 t):=by
  refine ⟨fun j o' d hj hl hd=> ?_,fun t ht=> ?_⟩
  ·by_cases hji:j=i
   ·subst hji
    rw [hi] at hj
    simp only [Ab] at hj
    subst hj
    rw [hd,ur,if_pos rfl]
   have:=hA.did j o' d hj (hl.resolve_right hji) hd
   cases hdi:o.dst with
   | none=>exact this
   | some di=>
     have hne:d≠di:=by intro e;subst e;exact D.dst j i o' o d hj hi hji hd hdi
     rw [ur,if_neg hne];exact this
  have h3:=hA.not t (fun j o' hj hl=>ht j o' hj (.inl hl))
  cases hdi:o.dst with
  | none=>exact h3
  | some di=>
    have hne:t≠di:=by intro e;subst e;exact ht i o hi (.inr rfl) hdi
    rw [ur,if_neg hne];exact h3
 have nol:isLoad o.op=true→∀e,excOf ops≠some (i,e)∧excOf ops≠some (e,i):=by
  intro hl e
  refine ⟨fun h=> ?_,fun h=> ?_⟩
  ·obtain ⟨oa,ob,X⟩:=qfh h
   have h1:=X.ha
   rw [hi] at h1
   cases h1
   have:=(qhi (cw:=(true,false)) X.sa).2.1
   rw [hl] at this;cases this
  obtain ⟨oa,ob,X⟩:=qfh h
  have h1:=X.hb
  rw [hi] at h1
  cases h1
  have:=(qhi (cw:=(true,false)) X.sb).2.1
  rw [hl] at this;cases this
 rcases hA.heap with ⟨k,hk,rfl,hw⟩ | ⟨a,b,oa,ob,H2,hex,X,hLb,hLa,hwx,hH2,hev⟩
 case inr=>
  have hib:i≠b:=by rintro rfl;exact hn hLb
  by_cases hia:i=a
  ·subst hia
   have h1:=X.ha
   rw [hi] at h1
   cases h1
   rcases hone with ⟨hg,hs⟩ | ⟨j,want,y,hg,_⟩
   ·have hd:u6 P G (cwOf ops) (qaf ops) (fAt ops.toList fr0 tr i) H o.op (xAt tr i) H2:=(quj X.sa).2 hev
    refine ⟨H2, .inl ⟨.inl X.ga,hd.congr evs⟩,newFr.1,newFr.2, .inl ⟨b+1,(Au.1 X.hb).1,hH2,fun e o' he h3 h4=> ?_⟩⟩
    by_cases heb:e=b
    ·subst heb;exact ⟨fun _=>by omega,fun _=> .inl hLb⟩
    by_cases hea:e=i
    ·subst hea;exact ⟨fun _=>by have:=X.lt;omega,fun _=> .inr rfl⟩
    have:=hwx e o' he h3 h4 heb
    have h5:=(X.rest e o' he hea heb (qn4 h3)).1
    have h6:=X.lt
    exact ⟨fun _=>by omega,fun _=> .inl (this.2 h5)⟩
   rw [X.ga] at hg;cases hg
  have hin:inert (true,false) o.op=true:=by
   cases hb:inert (true,false) o.op with
   | true=>rfl
   | false=>exact absurd (hL _ _ (X.rest i o hi hia hib hb).2.2 hLb) hn
  have hin':inert (cwOf ops) o.op=true:=qwl hin
  have fin:At P G ops fr0 H0 tr (fun j=>L j∨j=i) (put o.dst (xAt tr i) fr) H:=by
   refine ⟨newFr.1,newFr.2, .inr ⟨a,b,oa,ob,H2,hex,X, .inl hLb,fun h=>h.elim hLa (fun e=>hia e.symm),fun e o' he h3 h4 heb=> ?_,hH2,hev⟩⟩
   rw [←hwx e o' he h3 h4 heb]
   refine ⟨fun h=>h.elim id (fun e'=> ?_), .inl⟩
   subst e'
   rw [hi] at he
   cases he
   rw [hin'] at h3;cases h3
  rcases hone with ⟨hg,hs⟩ | ⟨j,want,y,hg,hy,hne,hx,hH⟩
  ·have hg':o.guard=none∨∃j want,o.guard=some (j,want)∧Q5 ops fr j=some (some want):=by
    rcases hg with hg | ⟨j,want,hg,hy⟩
    ·exact .inl hg
    exact .inr ⟨j,want,hg,(ys j want hg).trans hy⟩
   exact ⟨H, .inl ⟨hg',((hs.congr evs).inert hin').2 _⟩,fin⟩
  exact ⟨H, .inr ⟨j,want,y,hg,(ys j want hg).trans hy,hne,hx,rfl⟩,fin⟩
 -- a write
 have write:(∀a,excOf ops=some (a,i)→L a)→inert (cwOf ops) o.op=false→isLoad o.op=false→hAt H0 tr k=hAt H0 tr i∧∀(e:Nat) (o':Oper),ops[e]? =some o'→inert (cwOf ops) o'.op=false→isLoad o'.op=false→((L e∨e=i) ↔ e < i+1):=by
  intro hx0 h1 h2
  have hki:k≤i:=by
   rcases Br i k with h | h
   ·exact absurd ((hw i o hi h1 h2).2 h) hn
   exact h
  refine ⟨?_,fun e o' he h3 h4=> ?_⟩
  ·have := qde hr (i - k) k (by omega) (fun e o' he h3 h4=>by
    cases h5:inert (cwOf ops) o'.op with
    | true=>exact .inl rfl
    | false=>cases h6:isLoad o'.op with
      | true=>exact .inr rfl
      | false=>
        have hlt:e < i:=by omega
        rcases D.heap i e o o' hi he (by omega) h5 h6 h1 with hd | hd | hd
        ·rcases hd.1 hlt with hb | hb
         ·have:=hready e hb
          have:=(hw e o' he h5 h6).1 this
          omega
         rw [hb.1] at h2;cases h2
        ·obtain ⟨_,_,X⟩:=qfh hd
         have:=X.lt;omega
        have:=(hw e o' he h5 h6).1 (hx0 e hd)
        omega)
   rw [show k+(i - k)=i by omega] at this
   exact this.symm
  constructor
  ·rintro (hl | rfl)
   ·have:=(hw e o' he h3 h4).1 hl;omega
   omega
  intro hlt
  by_cases hei:e=i
  ·exact .inr hei
  rcases D.heap i e o o' hi he (Ne.symm hei) h3 h4 h1 with hd | hd | hd
  ·rcases hd.1 (by omega) with hb | hb
   ·exact .inl (hready e hb)
   rw [hb.1] at h2;cases h2
  ·obtain ⟨_,_,X⟩:=qfh hd
   have:=X.lt;omega
  exact .inl (hx0 e hd)
 have stay:(inert (cwOf ops) o.op=true∨isLoad o.op=true)→∀(e:Nat) (o':Oper),ops[e]? =some o'→inert (cwOf ops) o'.op=false→isLoad o'.op=false→((L e∨e=i) ↔ e < k):=by
  intro h1 e o' he h3 h4
  rw [←hw e o' he h3 h4]
  constructor
  ·rintro (hl | rfl)
   ·exact hl
   rw [hi] at he
   simp only [Ab] at he
   subst he
   rcases h1 with h1 | h1
   ·rw [h1] at h3;cases h3
   rw [h1] at h4;cases h4
  exact .inl
 rcases hone with ⟨hg,hs⟩ | ⟨j,want,y,hg,hy,hne,hx,hH⟩
 ·have hg' : o.guard=none∨∃j want,o.guard=some (j,want)∧Q5 ops fr j=some (some want):=by
   rcases hg with hg | ⟨j,want,hg,hy⟩
   ·exact .inl hg
   exact .inr ⟨j,want,hg,(ys j want hg).trans hy⟩
  have hs':=hs.congr evs
  cases h1:inert (cwOf ops) o.op with
  | true=>exact ⟨hAt H0 tr k, .inl ⟨hg',(hs'.inert h1).2 _⟩,newFr.1,newFr.2, .inl ⟨k,hk,rfl,stay (.inl h1)⟩⟩
  | false => cases h2:isLoad o.op with
    | true =>
      have hgr :qjg (hAt H0 tr i) (hAt H0 tr k)∨(qaf ops=true∧qaa (ev G fr (qes o.op)) (hAt H0 tr i) (hAt H0 tr k)):=by
       have hav:ev G fr (qes o.op)=ev G (fAt ops.toList fr0 tr i) (qes o.op):=(evs _ (by
        revert h2
        cases o.op <;> simp [isLoad,qes,Op.operands])).symm
       rcases Nat.le_total k i with hki | hki
       ·have each:∀(e:Nat) (o:Oper),ops[e]? =some o→k≤e→e < k+(i - k)→(inert (cwOf ops) o.op=true∨isLoad o.op=true)∨isApp o.op=true:=fun e o' he h3 h4=>by
         cases h5:inert (cwOf ops) o'.op with
         | true=>exact .inl (.inl rfl)
         | false=>cases h6:isLoad o'.op with
           | true=>exact .inl (.inr rfl)
           | false=>
             rcases ((D.heap i e o o' hi he (by omega) h5 h6 h1).resolve_right (fun h=>h.elim (nol h2 e).1 (nol h2 e).2)).1 (by omega) with hb | hb
             ·have:=hready e hb
              have:=(hw e o' he h5 h6).1 this
              omega
             exact .inr hb.2
        cases hst:qaf ops with
        | false=>
          have:=qde hr (i - k) k (by omega) (fun e o' he h3 h4=>(each e o' he h3 h4).resolve_right (by rw [qr3 (qjl hst).2 he];simp))
          rw [show k+(i - k)=i by omega] at this
          rw [this];exact .inl (fun _ _ h=>h)
        | true=>
          have:=qwm hr (i - k) k (by omega) each
          rw [show k+(i - k)=i by omega] at this
          exact .inr ⟨rfl,this.keep _⟩
       have each:∀(e:Nat) (o:Oper),ops[e]? =some o→i≤e→e < i+(k - i)→(inert (cwOf ops) o.op=true∨isLoad o.op=true)∨isPush o.op=true∨isApp o.op=true∨(isVal o.op=true∧(cwOf ops).1=true):=fun e o' he h3 h4=>by
        cases h5:inert (cwOf ops) o'.op with
        | true=>exact .inl (.inl rfl)
        | false=>cases h6:isLoad o'.op with
          | true=>exact .inl (.inr rfl)
          | false=>
            have hl:=(hw e o' he h5 h6).2 (by omega)
            have hei:e≠i:=by intro e';subst e';exact hn hl
            rcases ((D.heap i e o o' hi he (Ne.symm hei) h5 h6 h1).resolve_right (fun h=>h.elim (nol h2 e).1 (nol h2 e).2)).2 (by omega) with hb | hb
            ·exact absurd (hL _ _ hb hl) hn
            rcases hb.2 with hb | hb | hb
            ·exact .inr (.inl hb)
            ·exact .inr (.inr (.inl hb))
            exact .inr (.inr (.inr ⟨hb,q1l hb h5⟩))
       cases hst:qaf ops with
       | false=>
         have:=qsn hr (k - i) i (by omega) (fun e o' he h3 h4=>(each e o' he h3 h4).imp id (fun h=>h.resolve_right (by rw [qr3 (qjl hst).2 he,(qjl hst).1];simp)))
         rw [show i+(k - i)=k by omega] at this
         exact .inl this
       | true=>
         have:=qwo D hr hi h2 (k - i) (by omega) each
         rw [show i+(k - i)=k by omega] at this
         rw [hav]
         exact .inr ⟨rfl,this⟩
      exact ⟨hAt H0 tr k, .inl ⟨hg',(hs'.load h2).2 _ hgr⟩,newFr.1,newFr.2, .inl ⟨k,hk,rfl,stay (.inr h2)⟩⟩
    | false =>
      by_cases hx0:∀a,excOf ops=some (a,i)→L a
      ·obtain ⟨e1,e2⟩:=write hx0 h1 h2
       rw [e1]
       exact ⟨hAt H0 tr (i+1), .inl ⟨hg',hs'⟩,newFr.1,newFr.2, .inl ⟨i+1,by omega,rfl,e2⟩⟩
      -- the second one of the pair goes first
      obtain ⟨a,ha0⟩:=Classical.not_forall.1 hx0
      obtain ⟨hax,hLa⟩:=Classical.not_imp.1 ha0
      obtain ⟨oa,ob,X⟩:=qfh hax
      have h3:=X.hb
      rw [hi] at h3
      cases h3
      have hlt:=X.lt
      have sa:=qhi (cw:=cwOf ops) X.sa
      have hka:k≤a:=by
       rcases Br a k with h | h
       ·exact absurd ((hw a oa X.ha sa.1 sa.2.1).2 h) hLa
       exact h
      have e1:hAt H0 tr k=hAt H0 tr a:=by
       have :=qde hr (a - k) k (by omega) (fun e o' he h3 h4=>by
        cases h5:inert (cwOf ops) o'.op with
        | true=>exact .inl rfl
        | false=>cases h6:isLoad o'.op with
          | true=>exact .inr rfl
          | false=>
            have hb:=(X.rest e o' he (by omega) (by omega) (qn4 h5)).2.2
            have:=(hw e o' he h5 h6).1 (hready e hb)
            omega)
       rw [show k+(a - k)=a by omega] at this
       exact this.symm
      have e2:hAt H0 tr i=hAt H0 tr (a+1):=by
       have:=qde hr (i - (a+1)) (a+1) (by omega) (fun e o' he h3 h4=>by
        cases h5:inert (cwOf ops) o'.op with
        | true=>exact .inl rfl
        | false=>
          have hb:=(X.rest e o' he (by omega) (by omega) (qn4 h5)).1
          omega)
       rw [show a+1+(i - (a+1))=i by omega] at this
       exact this
      obtain ⟨⟨honea,_⟩,_⟩:=hr.at a oa (by simpa using X.ha)
      obtain ⟨⟨_,hside⟩,_⟩:=hr.at i o (by simpa using hi)
      have hsep:sepB G ops (fAt ops.toList fr0 tr i)=true:=by
       rcases hside with hs0 | ⟨hg0,_⟩
       ·exact hs0.2 X.sb
       exact absurd X.gb hg0
      rcases honea with ⟨_,hsa⟩ | ⟨_,_,_,hga,_⟩
      case inr=>rw [X.ga] at hga;cases hga
      have eva:=(quj X.sa).1 hsa
      have evb:=(quj X.sb).1 hs
      rw [e2] at evb
      obtain ⟨ta,pa,va,oea,xea,sta⟩:=q49 X.sa eva
      obtain ⟨tb,pb,vb,oeb,xeb,stb⟩:=q49 X.sb evb
      have hpl:ev G (fAt ops.toList fr0 tr i) pa=ev G (fAt ops.toList fr0 tr a) pa:=by
       refine qk9 fun t ht=> ?_
       have hlook:t∈oa.looksAt ops:=by
        refine B1 _ (BV.2 ⟨.tmp t,?_,rfl⟩)
        rw [oea]
        simp [Op.operands,ht]
       obtain ⟨a1,a2⟩:=qj2 D hr i (by omega)
       obtain ⟨b1,b2⟩:=qj2 D hr a (by omega)
       by_cases hexj:∃(j:Nat) (oj:Oper),ops[j]? =some oj∧oj.dst=some t
       ·obtain ⟨j,oj,hj,hd⟩:=hexj
        have hja:j≠a:=by rintro rfl;rw [X.ha] at hj;cases hj;rw [X.da] at hd;cases hd
        have hji:j≠i:=by rintro rfl;rw [hi] at hj;cases hj;rw [X.db] at hd;cases hd
        have hjl:=X.look j oj t hj hja hji hd hlook
        rw [a1 j oj t hj (by omega) hd,b1 j oj t hj hjl hd]
       have hno:∀(j:Nat) (oj:Oper),ops[j]? =some oj→oj.dst≠some t:=fun j oj hj hd=>hexj ⟨j,oj,hj,hd⟩
       rw [a2 t (fun j oj hj _=>hno j oj hj),b2 t (fun j oj hj _=>hno j oj hj)]
      have hne:sepA (ev G (fAt ops.toList fr0 tr a) pa) (ev G (fAt ops.toList fr0 tr i) pb)=true:=by
       unfold sepB at hsep
       rw [zap hax] at hsep
       simp only [X.ha,hi] at hsep
       rw [oea,oeb] at hsep
       simp only [qtt] at hsep
       rw [hpl] at hsep
       exact hsep
      obtain ⟨H',w1,w2⟩:=qx2 sta stb hne
      have evb':evalOp P G (fAt ops.toList fr0 tr i) (hAt H0 tr a) o.op=some (xAt tr i,H'):=by
       rw [oeb,xeb]
       simp only [evalOp,w1,Ba]
      have eva':evalOp P G (fAt ops.toList fr0 tr a) H' oa.op=some (xAt tr a,hAt H0 tr (i+1)):=by
       rw [oea,xea]
       simp only [evalOp,w2,Ba]
      rw [e1]
      refine ⟨H', .inl ⟨hg',((quj X.sb).2 evb').congr evs⟩,newFr.1,newFr.2, .inr ⟨a,i,oa,o,_,hax,X, .inr rfl,fun h=>h.elim hLa (fun e=>by omega),fun e o' he h3 h4 hei=> ?_,rfl,eva'⟩⟩
      refine ⟨fun h=> ?_,fun h=> .inl ?_⟩
      ·rcases h with h | h
       ·have:=(hw e o' he h3 h4).1 h;omega
       exact absurd h hei
      exact hready e (X.rest e o' he (by omega) hei (qn4 h3)).2.2
 have hgs:One P G ops fr (hAt H0 tr k) o (xAt tr i) (hAt H0 tr k):= .inr ⟨j,want,y,hg,(ys j want hg).trans hy,hne,hx,rfl⟩
 cases h1:inert (cwOf ops) o.op with
 | true=>exact ⟨_,hgs,newFr.1,newFr.2, .inl ⟨k,hk,rfl,stay (.inl h1)⟩⟩
 | false=>cases h2:isLoad o.op with
   | true=>exact ⟨_,hgs,newFr.1,newFr.2, .inl ⟨k,hk,rfl,stay (.inr h2)⟩⟩
   | false=>
     have hx0:∀a,excOf ops=some (a,i)→L a:=by
      intro a hax
      obtain ⟨oa,ob,X⟩:=qfh hax
      have h3:=X.hb
      rw [hi] at h3
      cases h3
      rw [X.gb] at hg;cases hg
     obtain ⟨e1,e2⟩:=write hx0 h1 h2
     exact ⟨_,hgs,newFr.1,newFr.2, .inl ⟨i+1,by omega,by rw [e1,hH],e2⟩⟩
theorem qsy {p q:Nat→Bool}:∀(l:List Nat) (i:Nat),(∀x,q x=true→p x=true)→i∈l→p i=true→q i=false→l.countP q < l.countP p
 | x ::l,i,h,hm,hp,hq=>by
   have hle:∀l:List Nat,l.countP q≤l.countP p:=fun l=>List.countP_mono_left (fun x _=>h x)
   rw [List.countP_cons,List.countP_cons]
   rcases AE.1 hm with rfl | hm'
   ·have:=hle l;rw [hp,hq];simp;omega
   have:=qsy l i h hm' hp hq
   cases hqx:q x with
   | true=>rw [h x hqx];simp only [if_true];omega
   | false=>
     simp only [AA,if_false,BJ]
     split <;> omega
theorem qik {c s:Nat} (hx:exOf ops=some (c,s)):c < s∧∃oc os e t,ops[c]? =some oc∧ops[s]? =some os∧os.op= .alloc e∧os.guard=none∧os.dst=some t∧
 (∀(i:Nat) (o:Oper) (e:Edge),ops[i]? =some o→e∈o.after→Region.binds .any e=true→e.on=s→BefX none ops c i)∧(∀(i:Nat) (o:Oper),ops[i]? =some o→t∈o.looksAt ops→BefX none ops s i):=by
 have h:=(qme hx).2
 unfold qti at h
 rw [An] at h
 obtain ⟨hlt,h⟩:=h
 refine ⟨Ao hlt,?_⟩
 simp only at h
 cases hc:ops[c]? with
 | none=>simp [hc] at h
 | some oc=>
   cases hs:ops[s]? with
   | none=>simp [hc,hs] at h
   | some os=>
     simp only [hc,hs,An,Option.isNone_iff_eq_none] at h
     obtain ⟨⟨⟨⟨_,hal⟩,hg⟩,_⟩,h⟩:=h
     cases ht:os.dst with
     | none=>rw [ht] at h;cases h
     | some t=>
       rw [ht] at h
       simp only [Aw,BS] at h
       have ⟨e,he⟩:∃e,os.op= .alloc e:=by
        revert hal
        cases os.op <;> simp [q0z]
       refine ⟨oc,os,e,t,rfl,rfl,he,hg,ht,fun i o e hi he hb hon=> ?_,fun i o hi hl=> ?_⟩
       ·have:=h i (Au.1 hi).1
        simp only [hi,An,Aw] at this
        have:=this.1 e (by simpa using he)
        rw [hb,hon,Bv,show Nat.beq s s=true from Nat.beq_refl s,Ac,BC] at this
        exact qb6 this
       have:=h i (Au.1 hi).1
       simp only [hi,An] at this
       have:=this.2
       rw [Bp] at this
       rcases this with h1 | h1
       ·simp at h1;exact absurd hl h1
       exact qb6 h1
theorem qvr {c s i:Nat} (hx:exOf ops=some (c,s)) (h:BefX none ops s i):BefX none ops c i:=by
 obtain ⟨_,oc,os,e,t,hc,hs,_,_,_,h1,_⟩:=qik hx
 generalize hj:s=j at h
 induction h with
 | edge i o e hi he hb=>exact h1 i o e hi he hb hj.symm
 | more i j o e hi he hb _ ih=>exact .more i c o e hi he hb (ih hj)
 | ext c s hx=>cases hx
 | extm c s j hx=>cases hx
theorem qqg {c s i j:Nat} (hx:exOf ops=some (c,s)) (h:Bef ops j i) (his:i≠s) (hn:¬BefX none ops s i):BefX none ops j i:=by
 induction h with
 | edge i o e hi he hb=>exact .edge i o e hi he hb
 | more i j o e hi he hb _ ih=>
   refine .more i j o e hi he hb (ih ?_ ?_)
   ·intro h;exact hn (h ▸ BefX.edge i o e hi he hb)
   intro h;exact hn (.more i _ o e hi he hb h)
 | ext c' s' hx'=>rw [hx] at hx';cases hx';exact absurd rfl his
 | extm c' s' j hx'=>rw [hx] at hx';cases hx';exact absurd rfl his
theorem qbl {L:Nat→Prop} (hed:∀(i:Nat) (o:Oper) (e:Edge),ops[i]? =some o→e∈o.after→Region.binds .any e=true→L i→L e.on) {x:Option (Nat × Nat)} (hxs:∀c s,x=some (c,s)→L s→L c) {i j:Nat} (h:BefX x ops j i):L i→L j:=by
 induction h with
 | edge i o e hi he hb=>exact hed i o e hi he hb
 | more i j o e hi he hb _ ih=>exact fun hl=>ih (hed i o e hi he hb hl)
 | ext c s h=>exact hxs c s h
 | extm c s j h _ ih=>exact fun hl=>ih (hxs c s h hl)
end
theorem HR.foreign {w:World} {S F:Nat→Prop} {β:Nat→Nat} {H:Hp} (h:HR G w S F β H) {w':World} (os:w'.os=w.os) (tape:w'.tape=w.tape) (output:w'.output=w.output) (size:w.heap.size < w'.heap.size)
 (same:∀k,k < w.heap.size→w'.heap[k]? =w.heap[k]?):Ext w S F β H.n w' S β H.n∧HR G w' S (fun k=>F k∨k=w.heap.size) β H:=by
 have hx:Ext w S F β H.n w' S β H.n:=
  Ext.grew h.lts h.ltf os tape output (by omega) same (fun _ h=>h) (fun k hk=> .inl hk) _ (Aj _) _ (fun _ _=>rfl)
 refine ⟨hx,fun k hk=>by have:=h.lts k hk;omega,fun k hk=> ?_,fun g=>(h.glob g).ext hx,h.ltn,h.inj,fun i s o hi=> ?_⟩
 ·rcases hk with hk | hk
  ·have:=h.ltf k hk;omega
  omega
 have ho:=h.obj i s o hi
 have hb:(match o with | .dead=>False | .row _ cs=>cs≠ [] | _=>True)→β s < w.heap.size:=by
  intro hd
  cases o with
  | dead=>exact hd.elim
  | var t cs=>exact ho.lt rfl
  | row t cs=>exact ho.lt (qb1 hd)
  | froz t cs=>obtain ⟨_,_,_,_,hS,_⟩:=ho;exact h.lts _ hS
 cases o with
 | dead=>trivial
 | row t cs=>
   intro hne
   have:=hb hne
   exact ho.to (o:= .row t cs) (F':=fun k=>F k∨k=w.heap.size) (fun _ _=>RV.ext hx) (same _ this) (fun h=>h) (fun h=>h) (fun hn h=>h.elim hn (by omega)) hne
 | _=>
   have:=hb (by simp)
   exact ho.to (F':=fun k=>F k∨k=w.heap.size) (fun _ _=>RV.ext hx) (same _ this) (fun h=>h) (fun h=>h) (fun hn h=>h.elim hn (by omega))
theorem HR.adopt {w:World} {S F:Nat→Prop} {β:Nat→Nat} {H:Hp} {b:Nat} (h:HR G w S (fun k=>F k∨k=b) β H) (hS:¬S b) (hF:¬F b) {c:Array Value} {t:TypeId} {cs:List AV} (hc:w.heap[b]? =some (.cells c t (0,0))) (hsz:c.size=cs.length)
 (hcs:∀(i:Nat) (x:AV),cs[i]? =some x→x.one=true∧RV w S β H.n x (c.getD i Go.undef)):
 Ext w S F β H.n w S (fun s=>if s=H.n then b else β s) (H.n+1)∧HR G w S F (fun s=>if s=H.n then b else β s) (H.push (.var t cs)):=by
 have hx:Ext w S F β H.n w S (fun s=>if s=H.n then b else β s) (H.n+1):=
  ⟨rfl,rfl,rfl,Aj _,by omega,qqf,fun _ h=>h,fun _ h=> .inl h,fun _ _=>rfl,fun _ _=>rfl,fun _ _ h=>h⟩
 have hb:∀(i s:Nat) (o:Obj),H.objs[i]? =some (s,o)→o.live=true→β s≠b:=fun i s o hi hl he=>((h.obj i s o hi).notS hl).2 (.inr he)
 refine ⟨hx,h.lts,fun k hk=>h.ltf k (.inl hk),fun g=>(h.glob g).ext hx,fun i s o' hi=> ?_,fun i j si sj oi oj hi hj hne h1 h2=> ?_,fun i s o' hi=> ?_⟩
 ·simp only [Hp.push,AH] at hi
  split at hi
  ·have:=h.ltn i s o' hi;simp only [Hp.push];omega
  have:=Af hi
  simp only [AO,Al] at this
  simp only [Hp.push];omega
 ·simp only [Hp.push,AH] at hi hj
  split at hi
  ·rw [if_neg (by have:=h.ltn i si oi hi;omega)]
   split at hj
   ·rw [if_neg (by have:=h.ltn j sj oj hj;omega)]
    exact h.inj i j si sj oi oj hi hj hne h1 h2
   have:=Af hj
   simp only [AO,Al] at this
   rw [if_pos this.1]
   exact hb i si oi hi h1
  have h0:=Af hi
  simp only [AO,Al] at h0
  rw [if_pos h0.1]
  split at hj
  ·rw [if_neg (by have:=h.ltn j sj oj hj;omega)]
   exact (hb j sj oj hj h2).symm
  exfalso
  have hi1:=(Ah.1 hi).1
  have hj1:=(Ah.1 hj).1
  simp only [Ai] at hi1 hj1
  omega
 simp only [Hp.push,AH] at hi
 split at hi
 ·have hs:=h.ltn i s o' hi
  rw [if_neg (by omega)]
  exact (h.obj i s o' hi).to (fun _ _=>RV.ext hx) rfl (fun h=>h) (fun h=>h) (fun hn hf=>hn (.inl hf))
 have h0:=Af hi
 simp only [AO,Al] at h0
 obtain ⟨h0,rfl⟩:=h0
 rw [if_pos h0]
 exact ⟨c,hc,hsz,hS,hF,fun i x hi=>⟨(hcs i x hi).1,((hcs i x hi).2).ext hx⟩⟩
theorem qkr {a a0:Act} (h:a0.tmps=a.tmps) (d:Option Tmp) (v:Value):∀t,d≠some t→(a0.put d v).tmps.getD t Go.undef=a.tmps.getD t Go.undef:=by
 intro t ht
 cases d with
 | none=>simp only [Act.put];rw [h]
 | some k=>
   have hne:k≠t:=fun e=>ht (by rw [e])
   simp only [Act.put]
   rw [Ag,B5 hne,←Ag,h]
theorem q6b {o:Oper} {a:Act} {w:World} {next:Act→World→Prop} {Q:Exit→Act→World→Prop} (h:o.wp P a w (fun a' w'=>(∀t,o.dst≠some t→a'.tmps.getD t Go.undef=a.tmps.getD t Go.undef)→next a' w') Q):o.wp P a w next Q:=by
 unfold Oper.wp at*
 generalize (execOp a.eval o).run P w=r at*
 cases r with
 | ok n w'=>
   cases n <;> simp only [Oper.upon] at h ⊢ <;>
    first
     | exact h (qkr rfl _ _)
     | exact Calls.mono h (fun e w'' he=>by cases e <;> first | exact he (qkr rfl _ _) | exact he)
     | exact Rows.mono h (fun _ _ he=>he (qkr rfl _ _))
 | halt x w'=>cases x <;> simp only [Oper.upon] at h ⊢ <;> exact h
structure Early (P:Program) (G:Nat→List AV) (DD:List Deferred) (N:Nat) (t:Tmp) (e:TypeId) (b:Nat) (S F:Nat→Prop) (β:Nat→Nat) (fr:Fr) (H:Hp) (a:Act) (w:World):Prop where
 hr:HR G w S (fun k=>F k∨k=b) β H
 fx:FRx DD w S β H.n N (put (some t) .undef fr) a
 tm:a.tmps.getD t Go.undef= .pointer (some ⟨b,0,none⟩)
 nS:¬S b
 nF:¬F b
 zero:∃(c:Array Value) (cs:List AV),zeroAV P e=some cs∧w.heap[b]? =some (.cells c e (0,0))∧c.size=cs.length∧∀(i:Nat) (x:AV),cs[i]? =some x→x.one=true∧RV w S β H.n x (c.getD i Go.undef)
theorem qw2 {w:World} {S F:Nat→Prop} {β:Nat→Nat} {H:Hp} {fr:Fr} {a:Act} {o:Oper} {t:Tmp} {e:TypeId} {cs:List AV} {next:Act→World→Prop} {Q:Exit→Act→World→Prop} (hH:HR G w S F β H) (hf:FRx DD w S β H.n N fr a) (hz:zeroAV P e=some cs) (h1:cs.all (·.one)=true)
 (hop:o.op= .alloc e) (hd:o.dst=some t) (ht:t < N) (hk:∀a' w',Ext w S F β H.n w' S β H.n→Early P G DD N t e w.heap.size S F β fr H a' w'→next a' w'):o.wp P a w next Q:=by
 obtain ⟨v,hv,hc⟩:=qlz (P:=P) (w:=w) (S:=S) (β:=β) (n:=H.n) hz h1
 have hrun:(execOp a.eval o).run P w= .ok (.value (.pointer (some ⟨w.heap.size,0,none⟩))) (w.alloc (.cells v.cells e)):=by
  have hb:(Instr.box e v).run P w= .ok (.pointer (some ⟨w.heap.size,0,none⟩)) (w.alloc (.cells v.cells e)):=rfl
  have ha:(Instr.alloc e true (.tuple #[])).run P w= .ok (.pointer (some ⟨w.heap.size,0,none⟩)) (w.alloc (.cells v.cells e)):=by
   simp only [Instr.alloc,Sem.run_bind,hv,Result.andThen_ok]
   exact hb
  simp only [execOp,hop,Sem.run_bind,ha,Result.andThen_ok,Sem.run_pure]
 obtain ⟨hx,hH'⟩:=hH.foreign (w':=w.alloc (.cells v.cells e)) rfl rfl rfl (by show w.heap.size < (w.heap.push _).size;simp) (fun k hk=>heap_alloc_old w _ k hk)
 unfold Oper.wp
 rw [hrun,Oper.upon_value]
 refine hk _ _ hx ⟨hH',?_,?_,fun h=>by have:=hH.lts _ h;omega,fun h=>by have:=hH.ltf _ h;omega,v.cells,cs,hz,heap_alloc_new w _,hc.1,fun i x hi=>⟨(hc.2 i x hi).1,(hc.2 i x hi).2.ext hx⟩⟩
 ·rw [hd]
  exact (hf.ext hx).put (by simpa using ht) (.undef _)
 rw [hd]
 simp only [Act.put]
 rw [Ag,Bq (by rw [hf.size];exact ht)]
 rfl
theorem qyr {w:World} {S F:Nat→Prop} {β:Nat→Nat} {H H':Hp} {fr:Fr} {a:Act} {o:Oper} {t:Tmp} {e:TypeId} {b:Nat} {x:AV} {next:Act→World→Prop} {Q:Exit→Act→World→Prop} (hE:Early P G DD N t e b S F β fr H a w) (hs:qf0 P G (put (some t) .undef fr) H o.op x H') (hd:o.dst.all (· < N)=true) (hne:o.dst≠some t)
 (hk:∀a' w' S' β',Ext w S F β H.n w' S' β' H'.n→Early P G DD N t e b S' F β' (put o.dst x fr) H' a' w'→next a' w'):o.wp P a w next Q:=by
 refine q6b (qnv hE.hr hE.fx hs hd fun a' w' S' β' hx hH' hf' hkeep=> ?_)
 have hx':Ext w S F β H.n w' S' β' H'.n:=⟨hx.os,hx.tape,hx.output,hx.size,hx.le,hx.beta,hx.sub,fun k hk=>(hx.new k hk).imp id (fun h hF=>h (.inl hF)),hx.same,fun k hk=>hx.fsame k (.inl hk),hx.shape⟩
 obtain ⟨c,cs,z1,z2,z3,z4⟩:=hE.zero
 refine hk _ _ _ _ hx' ⟨hH',?_,(hkeep t hne).trans hE.tm,fun h=>(hx.new b h).elim hE.nS (fun h=>h (.inr rfl)),hE.nF,c,cs,z1,(hx.fsame b (.inr rfl)).trans z2,z3,fun i x hi=>⟨(z4 i x hi).1,(z4 i x hi).2.ext hx⟩⟩
 have:put (some t) .undef (put o.dst x fr)=put o.dst x (put (some t) .undef fr):=by
  funext i
  cases hdo:o.dst with
  | none=>rfl
  | some d=>
    have hdt:d≠t:=fun e=>hne (by rw [hdo,e])
    simp only [ur]
    by_cases h1:i=t
    ·rw [if_pos h1,if_neg (by rw [h1];exact Ne.symm hdt),if_pos h1]
    rw [if_neg h1,if_neg h1]
 rw [this]
 exact hf'
theorem q2m {w:World} {S F:Nat→Prop} {β:Nat→Nat} {H:Hp} {fr:Fr} {a:Act} {t:Tmp} {e:TypeId} {b:Nat} {cs:List AV} (hE:Early P G DD N t e b S F β fr H a w) (hz:zeroAV P e=some cs):
 ∃β',Ext w S F β H.n w S β' (H.n+1)∧HR G w S F β' (H.push (.var e cs))∧FRx DD w S β' (H.n+1) N (put (some t) (.ptr H.objs.length H.n 0) fr) a:=by
 obtain ⟨c,cs',z1,z2,z3,z4⟩:=hE.zero
 rw [hz] at z1
 cases z1
 obtain ⟨hx,hH'⟩:=hE.hr.adopt hE.nS hE.nF z2 z3 z4
 refine ⟨_,hx,hH',hE.fx.size,hE.fx.defers,fun i=> ?_⟩
 by_cases hi:i=t
 ·subst hi
  rw [ur,if_pos rfl,hE.tm]
  have:=RV.ptr (w:=w) (S:=S) (β:=fun s=>if s=H.n then b else β s) (n:=H.n+1) H.objs.length H.n 0 (by omega)
  simpa using this
 have:=hE.fx.val i
 rw [ur,if_neg hi] at this
 rw [ur,if_neg hi]
 exact this.ext hx
section
variable {ops:Array Oper} {fr0:Fr} {H0:Hp} {tr:List (AV × Hp)}
theorem qz2 {fr fr':Fr} {o:Oper} {j:Nat} {want:Bool} (hg:o.guard=some (j,want)) (h:∀t,t∈o.looksAt ops→fr t=fr' t):Q5 ops fr j=Q5 ops fr' j:=by
 unfold Q5
 split
 ·rename_i t ht
  rw [h t (List.mem_append_right _ (by simp [hg,ht]))]
 rfl
theorem q6w {fr fr':Fr} {o:Oper} (h:∀t,t∈o.looksAt ops→fr t=fr' t):∀y∈o.op.operands,ev G fr y=ev G fr' y:=fun y hy=>qk9 fun t ht=>h t (by
 subst ht
 exact B1 _ (BV.2 ⟨.tmp t,by simpa using hy,rfl⟩))
theorem q9r {Q:Exit→Act→World→Prop} {F:Nat→Prop} (D:DrawOk ops) (hr:Run P G ops ops.toList fr0 H0 tr) (hd:ops.toList.all (fun o=>o.dst.all (· < N))=true):
 ∀(fuel:Nat) (listed:Array Bool) (fr:Fr) (H:Hp) (a:Act) (w:World) (S:Nat→Prop) (β:Nat→Nat),listed.size=ops.size→(List.range ops.size).countP (fun i=>listed.getD i true==false)≤fuel→
 (∀(i:Nat) (o:Oper) (e:Edge),ops[i]? =some o→e∈o.after→Region.binds .any e=true→listed.getD i false=true→listed.getD e.on false=true)→
 (∀fr' H' a' w' S' β',(At P G ops fr0 H0 tr (fun i=>i < ops.size) fr' H')→Ext w S F β H.n w' S' β' H'.n→HR G w' S' F β' H'→FRx DD w' S' β' H'.n N fr' a'→Q .normal a' w')→
 ((At P G ops fr0 H0 tr (fun i=>listed.getD i false=true) fr H∧(∀c s,exOf ops=some (c,s)→listed.getD s false=true→listed.getD c false=true)∧HR G w S F β H∧FRx DD w S β H.n N fr a)∨
  (∃c s os e t b,exOf ops=some (c,s)∧ops[s]? =some os∧os.op= .alloc e∧os.guard=none∧os.dst=some t∧listed.getD s false=true∧¬listed.getD c false=true∧At P G ops fr0 H0 tr (fun i=>listed.getD i false=true∧i≠s) fr H∧Early P G DD N t e b S F β fr H a w))→
 wpAny P .any ops Q fuel listed a w:=by
 intro fuel
 have lis:∀(listed:Array Bool) (i:Nat),listed.size=ops.size→i < ops.size→(listed.getD i true=listed.getD i false):=by
  intro listed i hs hi
  rw [Ag,Ag,AP (by omega)];rfl
 have bef:∀(listed:Array Bool) (i:Nat),i∈Region.ready .any ops listed→(∀(i:Nat) (o:Oper) (e:Edge),ops[i]? =some o→e∈o.after→Region.binds .any e=true→listed.getD i false=true→listed.getD e.on false=true)→∀j,BefX none ops j i→listed.getD j false=true:=by
  intro listed i hrd hcl j hb
  obtain ⟨_,o,ho,hall⟩:=mem_ready.1 hrd
  cases hb with
  | edge _ o' e hi he hbd=>
    rw [ho] at hi;simp only [Ab] at hi;subst hi
    exact hall e he hbd
  | more _ _ o' e hi he hbd h=>
    rw [ho] at hi;simp only [Ab] at hi;subst hi
    exact qbl hcl (x:=none) (fun _ _ h=>by cases h) h (hall e he hbd)
  | ext _ _ h=>cases h
  | extm _ _ _ h=>cases h
 have full:∀(listed:Array Bool),listed.size=ops.size→Region.ready .any ops listed= []→∀i,i < ops.size→listed.getD i false=true:=by
  intro listed hs hre i
  induction i using Nat.strongRecOn with
  | _ i ih=>
    intro hi
    cases hl:listed.getD i false with
    | true=>rfl
    | false=>
      have hmem:i∈Region.ready .any ops listed:=mem_ready.2 ⟨by rw [lis listed i hs hi];exact hl,ops[i],AP hi,fun e he hb=>by
       have hlt:=D.back i ops[i] e (AP hi) he hb
       exact ih e.on hlt (by omega)⟩
      rw [hre] at hmem;cases hmem
 have done:∀(listed:Array Bool) (fr:Fr) (H:Hp) (a:Act) (w:World) (S:Nat→Prop) (β:Nat→Nat),listed.size=ops.size→Region.ready .any ops listed= []→
  (∀fr' H' a' w' S' β',(At P G ops fr0 H0 tr (fun i=>i < ops.size) fr' H')→Ext w S F β H.n w' S' β' H'.n→HR G w' S' F β' H'→FRx DD w' S' β' H'.n N fr' a'→Q .normal a' w')→
  ((At P G ops fr0 H0 tr (fun i=>listed.getD i false=true) fr H∧(∀c s,exOf ops=some (c,s)→listed.getD s false=true→listed.getD c false=true)∧HR G w S F β H∧FRx DD w S β H.n N fr a)∨
   (∃c s os e t b,exOf ops=some (c,s)∧ops[s]? =some os∧os.op= .alloc e∧os.guard=none∧os.dst=some t∧listed.getD s false=true∧¬listed.getD c false=true∧At P G ops fr0 H0 tr (fun i=>listed.getD i false=true∧i≠s) fr H∧Early P G DD N t e b S F β fr H a w))→Q .normal a w:=by
  intro listed fr H a w S β hs hre hq hst
  have hfull:=full listed hs hre
  rcases hst with ⟨hA,_,hH,hf⟩ | ⟨c,s,os,e,t,b,hx,_,_,_,_,_,hnc,_⟩
  case inr=>
   exfalso
   obtain ⟨_,oc,_,_,_,hc,_⟩:=qik hx
   exact hnc (hfull c (Au.1 hc).1)
  refine hq fr H a w S β ⟨fun j o d hj hl hd=>hA.did j o d hj (hfull j hl) hd,fun t ht=>hA.not t (fun j o hj hl=>ht j o hj (Au.1 hj).1),?_⟩ (.refl ..) hH hf
  rcases hA.heap with ⟨k,hk,e,hw⟩ | ⟨a,b,oa,ob,H2,hex,X,hLb,hLa,_⟩
  ·exact .inl ⟨k,hk,e,fun e o he h1 h2=>⟨fun _=>(hw e o he h1 h2).1 (hfull e (Au.1 he).1),fun _=>(Au.1 he).1⟩⟩
  exact absurd (hfull a (Au.1 X.ha).1) hLa
 have atc:∀{L L':Nat→Prop} {fr:Fr} {H:Hp},(∀j,L' j ↔ L j)→At P G ops fr0 H0 tr L fr H→At P G ops fr0 H0 tr L' fr H:=by
  intro L L' fr H h hA
  have:L'=L:=funext fun j=>propext (h j)
  rw [this];exact hA
 induction fuel with
 | zero=>
   intro listed fr H a w S β hs hc hcl hq hst
   have hre:Region.ready .any ops listed= []:=by
    cases hre:Region.ready .any ops listed with
    | nil=>rfl
    | cons i l=>
      have hm:i∈Region.ready .any ops listed:=by rw [hre];exact AK ..
      obtain ⟨h1,o,ho,_⟩:=mem_ready.1 hm
      have hi:=(Au.1 ho).1
      have:0 < (List.range ops.size).countP (fun i=>listed.getD i true==false):=List.countP_pos_iff.2 ⟨i,BS.2 hi,by rw [h1];rfl⟩
      omega
   exact ⟨hre,done listed fr H a w S β hs hre hq hst⟩
 | succ fuel ih=>
   intro listed fr H a w S β hs hc hcl hq hst
   refine ⟨fun hre=>done listed fr H a w S β hs hre hq hst,fun i hi=> ?_⟩
   obtain ⟨hun,o,ho,hall⟩:=mem_ready.1 hi
   have hisz:=(Au.1 ho).1
   have hunf:listed.getD i false=false:=by rw [←lis listed i hs hisz];exact hun
   have hbef:=bef listed i hi hcl
   have hdo:o.dst.all (· < N)=true:=Aw.1 hd o (by rw [Array.mem_toList_iff];exact Cd ho)
   have hset:∀j,((listed.setIfInBounds i true).getD j false=true) ↔ (listed.getD j false=true∨j=i):=by
    intro j
    by_cases hji:j=i
    ·subst hji
     simp only [or_true,iff_true]
     rw [Ag,Bq (by omega)];rfl
    simp only [hji,or_false]
    rw [getD_set_ne false (Ne.symm hji)]
   have hs':(listed.setIfInBounds i true).size=ops.size:=by rw [B3,hs]
   have hc' :(List.range ops.size).countP (fun j=>(listed.setIfInBounds i true).getD j true==false)≤fuel:=by
    have := qsy (p:=fun i=>listed.getD i true==false) (q:=fun j=>(listed.setIfInBounds i true).getD j true==false) (List.range ops.size) i (fun x hx=>by
          by_cases hxi:x=i
          ·subst hxi
           rw [Ag,Bq (by omega)] at hx
           cases hx
          ·rwa [getD_set_ne true (Ne.symm hxi)] at hx) (BS.2 hisz) (by rw [hun];rfl) (by
          rw [Ag,Bq (by omega)];rfl)
    omega
   have hcl':∀(k:Nat) (o:Oper) (e:Edge),ops[k]? =some o→e∈o.after→Region.binds .any e=true→(listed.setIfInBounds i true).getD k false=true→(listed.setIfInBounds i true).getD e.on false=true:=by
    intro k ok e hk he hb hl
    rcases (hset k).1 hl with h | rfl
    ·exact (hset _).2 (.inl (hcl k ok e hk he hb h))
    rw [ho] at hk;cases hk
    exact (hset _).2 (.inl (hall e he hb))
   unfold wpOp
   simp only [ho]
   rcases hst with ⟨hA,hcx,hH,hf⟩ | ⟨c,s,os,e,t,b,hx,hso,hop,hog,hot,hls,hlc,hA,hE⟩
   ·-- as told
    have hcb:∀(i j:Nat),Bef ops j i→listed.getD i false=true→listed.getD j false=true:=fun i j hb=>qbl hcl hcx hb
    by_cases hrx:∀j,Bef ops j i→listed.getD j false=true
    case neg =>
     -- the variable comes ahead of the call
     obtain ⟨j,hj⟩:=Classical.not_forall.1 hrx
     obtain ⟨hj,hnj⟩:=Classical.not_imp.1 hj
     cases hx:exOf ops with
     | none=>exact absurd (hbef j (by unfold Bef at hj;rw [hx] at hj;exact hj)) hnj
     | some p=>
       obtain ⟨c,s⟩:=p
       obtain ⟨hlt,oc,os,e,t,hco,hso,hop,hog,hot,h1,h2⟩:=qik hx
       have his:i=s:=Classical.byContradiction fun his=>by
        by_cases hsi:BefX none ops s i
        ·exact hnj (qbl hcl hcx (show Bef ops j i from hj) (by
          exfalso
          -- s is listed,so c is
          have hls:=hbef s hsi
          exact hnj (by
           have key:∀{j i:Nat},Bef ops j i→BefX none ops s i→(∀k,BefX none ops k i→listed.getD k false=true)→listed.getD j false=true:=by
            intro j i h
            induction h with
            | edge i o e hi he hb=>exact fun _ h=>h _ (.edge i o e hi he hb)
            | more i j o e hi he hb hm ih=>exact fun _ h=>hcb _ _ hm (h _ (.edge i o e hi he hb))
            | ext c' s' hx'=>exact fun hss _=>absurd (BefX.lt D.back (fun _ _ h=>by cases h) hss) (by rw [hx] at hx';cases hx';omega)
            | extm c' s' j hx'=>exact fun hss _=>absurd (BefX.lt D.back (fun _ _ h=>by cases h) hss) (by rw [hx] at hx';cases hx';omega)
           exact key hj hsi hbef)))
        exact hnj (hbef j (qqg hx hj his hsi))
       subst his
       rw [ho] at hso
       cases hso
       have hlc:¬listed.getD c false=true:=fun hlc=>hnj (by
        have key:∀{j k:Nat},Bef ops j k→(∀q,BefX none ops q k→listed.getD q false=true)→listed.getD j false=true:=by
         intro j k h
         induction h with
         | edge i o e hi he hb=>exact fun h=>h _ (.edge i o e hi he hb)
         | more i j o e hi he hb hm ih=>exact fun h=>hcb _ _ hm (h _ (.edge i o e hi he hb))
         | ext c' s' hx'=>exact fun _=>by rw [hx] at hx';cases hx';exact hlc
         | extm c' s' j hx' hm=>exact fun _=>by rw [hx] at hx';cases hx';exact hcb _ _ hm hlc
        exact key hj hbef)
       obtain ⟨⟨hone,_⟩,_⟩:=hr.at i o (by simpa using ho)
       have hz:∃cs,zeroAV P e=some cs∧cs.all (·.one)=true:=by
        rcases hone with ⟨_,hst⟩ | ⟨_,_,_,hg,_⟩
        ·rw [hop] at hst
         simp only [u6,evalOp] at hst
         split at hst
         ·rename_i cs hz
          split at hst
          ·rename_i h1;exact ⟨cs,hz,h1⟩
          cases hst
         cases hst
        rw [hog] at hg;cases hg
       obtain ⟨cs,hz,hz1⟩:=hz
       have hw:Region.wanted o (yielded ops a.tmps)=true:=by simp [Region.wanted,hog]
       rw [if_pos hw]
       refine .inl (qw2 hH hf hz hz1 hop hot (by rw [hot] at hdo;simpa using hdo) fun a' w' hx2 hE=> ?_)
       refine ih (listed.setIfInBounds i true) fr H a' w' S β hs' hc' hcl' (fun fr2 H2 a2 w2 S2 β2 hA2 hx3 hH2 hf2=>hq fr2 H2 a2 w2 S2 β2 hA2 (hx2.trans hx3) hH2 hf2) (.inr ⟨c,i,o,e,t,_,hx,ho,hop,hog,hot,(hset i).2 (.inr rfl),fun h=> ?_,atc (fun j=> ?_) hA,hE⟩)
       ·rcases (hset c).1 h with h | h
        ·exact hlc h
        omega
       rw [hset j]
       refine ⟨fun ⟨h,hne⟩=>h.resolve_right hne,fun h=>⟨.inl h,fun e=> ?_⟩⟩
       rw [e,hunf] at h;cases h
    case pos=>
    obtain ⟨H',hone,hA'⟩:=hA.next D hr hcb ho (by rw [hunf];simp) hrx
    have cont:∀(fr':Fr) (a':Act) (w':World) (S':Nat→Prop) (β':Nat→Nat),fr'=put o.dst (xAt tr i) fr→Ext w S F β H.n w' S' β' H'.n→HR G w' S' F β' H'→FRx DD w' S' β' H'.n N fr' a'→wpAny P .any ops Q fuel (listed.setIfInBounds i true) a' w':=by
     rintro _ a' w' S' β' rfl hx hH' hf'
     refine ih (listed.setIfInBounds i true) _ H' a' w' S' β' hs' hc' hcl' (fun fr2 H2 a2 w2 S2 β2 hA2 hx2 hH2 hf2=>hq fr2 H2 a2 w2 S2 β2 hA2 (hx.trans hx2) hH2 hf2) (.inl ⟨atc hset hA',fun c s hxc hls=> ?_,hH',hf'⟩)
     rcases (hset s).1 hls with h | rfl
     ·exact (hset c).2 (.inl (hcx c s hxc h))
     exact (hset c).2 (.inl (hrx c (.ext c _ hxc)))
    rcases hone with ⟨hg,hs'⟩ | ⟨j,want,y,hg,hy,hne,hx,hHe⟩
    ·have hw:Region.wanted o (yielded ops a.tmps)=true:=by
      rcases hg with hg | ⟨j,want,hg,hy⟩
      ·simp [Region.wanted,hg]
      simp [Region.wanted,hg,qhb hf hy]
     rw [if_pos hw]
     exact .inl (qnv hH hf hs'.step hdo (fun a' w' S' β' hx hH' hf'=>cont _ a' w' S' β' rfl hx hH' hf'))
    have hw:Region.wanted o (yielded ops a.tmps)=false:=by
     simp [Region.wanted,hg,qhb hf hy,hne]
    rw [if_neg (by rw [hw];simp)]
    subst hHe
    exact cont _ _ w S β rfl (.refl ..) hH (hf.put hdo (by rw [hx];exact RV.nothing))
   -- the variable is there already
   obtain ⟨hlt,oc,os',e',t',hco,hso',hop',hog',hot',h1,h2⟩:=qik hx
   rw [hso] at hso';cases hso'
   rw [hot] at hot';cases hot'
   have his:i≠s:=by rintro rfl;rw [hls] at hunf;cases hunf
   have hnsi:¬BefX none ops s i:=by
    intro h
    exact hlc (hbef c (qvr hx h))
   have hrx:∀j,Bef ops j i→listed.getD j false=true∧j≠s:=fun j hj=>by
    have hb:=qqg hx hj his hnsi
    exact ⟨hbef j hb,fun e=>hnsi (e ▸ hb)⟩
   have hcb:∀(i j:Nat),Bef ops j i→(listed.getD i false=true∧i≠s)→(listed.getD j false=true∧j≠s):=by
    intro i j hb ⟨hl,hne⟩
    have hni:¬BefX none ops s i:=fun h=>hlc (qbl hcl (x:=none) (fun _ _ h=>by cases h) (qvr hx h) hl)
    have hb':=qqg hx hb hne hni
    exact ⟨qbl hcl (x:=none) (fun _ _ h=>by cases h) hb' hl,fun e=>hni (e ▸ hb')⟩
   obtain ⟨H',hone,hA'⟩:=hA.next D hr hcb ho (by rw [hunf];simp) hrx
   have hdt:o.dst≠some t:=fun e=>D.dst i s o os t ho hso his e hot
   have hfr:∀q,q∈o.looksAt ops→fr q=put (some t) .undef fr q:=by
    intro q hq
    have:q≠t:=by rintro rfl;exact hnsi (h2 i o ho hq)
    rw [ur,if_neg this]
   have hset2:∀j,((listed.setIfInBounds i true).getD j false=true∧j≠s) ↔ ((listed.getD j false=true∧j≠s)∨j=i):=by
    intro j
    rw [hset j]
    constructor
    ·rintro ⟨h | h,hne⟩
     ·exact .inl ⟨h,hne⟩
     exact .inr h
    rintro (⟨h,hne⟩ | rfl)
    ·exact ⟨.inl h,hne⟩
    exact ⟨.inr rfl,his⟩
   have cont:∀(a':Act) (w':World) (S':Nat→Prop) (β':Nat→Nat),Ext w S F β H.n w' S' β' H'.n→Early P G DD N t e b S' F β' (put o.dst (xAt tr i) fr) H' a' w'→wpAny P .any ops Q fuel (listed.setIfInBounds i true) a' w':=by
    intro a' w' S' β' hxx hE'
    by_cases hic:i=c
    case neg=>
     refine ih (listed.setIfInBounds i true) _ H' a' w' S' β' hs' hc' hcl' (fun fr2 H2 a2 w2 S2 β2 hA2 hx2 hH2 hf2=>hq fr2 H2 a2 w2 S2 β2 hA2 (hxx.trans hx2) hH2 hf2) (.inr ⟨c,s,os,e,t,b,hx,hso,hop,hog,hot,(hset s).2 (.inl hls),fun h=> ?_,atc hset2 hA',hE'⟩)
     rcases (hset c).1 h with h | h
     ·exact hlc h
     exact hic h.symm
    subst hic
    -- now the variable's turn
    have hcb2:∀(p q:Nat),Bef ops q p→((listed.getD p false=true∧p≠s)∨p=i)→((listed.getD q false=true∧q≠s)∨q=i):=by
     intro p q hb hp
     rcases hp with hp | rfl
     ·exact .inl (hcb p q hb hp)
     exact .inl (hrx q hb)
    have hrs:∀j,Bef ops j s→((listed.getD j false=true∧j≠s)∨j=i):=by
     intro j hj
     have hjs:j≠s:=by have:=q5o D hj;omega
     have:(listed.setIfInBounds i true).getD j false=true:=qbl hcl' (x:=exOf ops) (fun c' s' hx' _=>by rw [hx] at hx';cases hx';exact (hset _).2 (.inr rfl)) hj ((hset s).2 (.inl hls))
     exact (hset2 j).1 ⟨this,hjs⟩
    obtain ⟨H2,hone2,hA2⟩:=hA'.next D hr hcb2 hso (fun h=>h.elim (fun h=>h.2 rfl) (fun h=>his h.symm)) hrs
    rcases hone2 with ⟨_,hst⟩ | ⟨_,_,_,hg,_⟩
    case inr=>rw [hog] at hg;cases hg
    rw [hop] at hst
    simp only [u6,evalOp] at hst
    split at hst
    case h_2=>cases hst
    rename_i cs hz
    split at hst
    case isFalse=>cases hst
    simp only [Ab,Al] at hst
    obtain ⟨hxs,rfl⟩:=hst
    obtain ⟨β2,hx2,hH2,hf2⟩:=q2m hE' hz
    rw [hxs,←hot] at hf2
    refine ih (listed.setIfInBounds i true) _ _ a' w' S' β2 hs' hc' hcl' (fun fr3 H3 a3 w3 S3 β3 hA3 hx3 hH3 hf3=>hq fr3 H3 a3 w3 S3 β3 hA3 ((hxx.trans hx2).trans hx3) hH3 hf3) (.inl ⟨atc (fun j=> ?_) hA2,fun c' s' hx' _=>by rw [hx] at hx';cases hx';exact (hset _).2 (.inr rfl),hH2,hf2⟩)
    rw [hset j]
    constructor
    ·rintro (h | h)
     ·by_cases hjs:j=s
      ·exact .inr hjs
      exact .inl (.inl ⟨h,hjs⟩)
     exact .inl (.inr h)
    rintro ((h | h) | h)
    ·exact .inl h.1
    ·exact .inr h
    subst h;exact .inl hls
   rcases hone with ⟨hg,hst⟩ | ⟨j,want,y,hg,hy,hne,hxv,hHe⟩
   ·have hw:Region.wanted o (yielded ops a.tmps)=true:=by
     rcases hg with hg | ⟨j,want,hg,hy⟩
     ·simp [Region.wanted,hg]
     rw [qz2 hg hfr] at hy
     simp [Region.wanted,hg,qhb hE.fx hy]
    rw [if_pos hw]
    exact .inl (qyr hE (hst.congr (q6w hfr)).step hdo hdt (fun a' w' S' β' hx' hE'=>cont a' w' S' β' hx' hE'))
   rw [qz2 hg hfr] at hy
   have hw:Region.wanted o (yielded ops a.tmps)=false:=by
    simp [Region.wanted,hg,qhb hE.fx hy,hne]
   rw [if_neg (by rw [hw];simp)]
   subst hHe
   refine cont _ _ S β (.refl ..) ⟨hE.hr,?_,(qkr rfl _ _ t hdt).trans hE.tm,hE.nS,hE.nF,hE.zero⟩
   have hpp:put (some t) .undef (put o.dst (xAt tr i) fr)=put o.dst (xAt tr i) (put (some t) .undef fr):=by
    funext q
    cases hdq:o.dst with
    | none=>rfl
    | some d=>
      have hdt':d≠t:=fun e=>hdt (by rw [hdq,e])
      simp only [ur]
      by_cases h1:q=t
      ·rw [if_pos h1,if_neg (by rw [h1];exact Ne.symm hdt'),if_pos h1]
      rw [if_neg h1,if_neg h1]
   rw [hpp]
   exact hE.fx.put hdo (by rw [hxv];exact RV.nothing)
theorem q6a {p id:Nat} {l:List Oper} {Q:Exit→Fr→Hp→Prop} {fr:Fr} {H:Hp} (hm:P.follows .mixedOrders=true) (hd:l.all (fun o=>o.dst.all (· < N))=true) (hok:qp7 l.toArray=true) (h:wpD P G l.toArray l fr H (fun fr' H'=>Q .normal fr' H')):
 AWp P G N p (.region id l.toArray true) Q fr H:=by
 intro DD w S F β a hp hH hf
 have D:=qw4 hok
 obtain ⟨tr,hr,hk⟩:=qns l fr H _ h
 have hr':Run P G l.toArray l.toArray.toList fr H tr:=hr
 obtain ⟨e1,e2⟩:=hr'.end
 have hend:qw1 l fr tr=fAt l fr tr l.length∧endH H tr=hAt H tr l.length:=⟨e1,e2⟩
 refine wp_region_any hm ?_
 have hx:Ext w S F β H.n {w with drawn:=w.drawn+1} S β H.n:=⟨rfl,rfl,rfl,Aj _,Aj _,fun _ _=>rfl,fun _ h=>h,fun _ h=> .inl h,fun _ _=>rfl,fun _ _=>rfl,fun _ _ h=>h⟩
 have hH':HR G {w with drawn:=w.drawn+1} S F β H:=⟨hH.lts,hH.ltf,fun g=>(hH.glob g).ext hx,hH.ltn,hH.inj,fun i s o hi=>(hH.obj i s o hi).to (fun _ _=>RV.ext hx) rfl (fun h=>h) (fun h=>h) (fun h=>h)⟩
 have hrep:∀i d,(Array.replicate l.toArray.size false).getD i d=true→d=true:=by
  intro i d h
  rw [Ag] at h
  cases hg:(Array.replicate l.toArray.size false)[i]? with
  | none=>rw [hg] at h;exact h
  | some b=>
    rw [hg] at h
    have:=Cd hg
    simp at this
    rw [this.2] at h;cases h
 refine q9r (F:=F) D hr' hd l.toArray.size _ fr H a _ S β (by simp) (by have:=List.countP_le_length (p:=fun i=>(Array.replicate l.toArray.size false).getD i true==false) (l:=List.range l.toArray.size);simpa using this)
  (fun i o e _ _ _ hl=>(Bool.noConfusion (hrep i false hl))) (fun fr' H' a' w' S' β' hA hx2 hH2 hf2=> ?_)
  (.inl ⟨⟨fun j o d _ hl _=>(Bool.noConfusion (hrep j false hl)),fun t _=>rfl, .inl ⟨0,AD _,rfl,fun e o _ _ _=>⟨fun hl=>(Bool.noConfusion (hrep e false hl)),fun h=>by omega⟩⟩⟩,fun c s _ hl=>(Bool.noConfusion (hrep s false hl)),hH',hf.ext hx⟩)
 obtain ⟨f1,f2⟩:=qj2 D hr' l.toArray.size (Aj _)
 have hfe:fr'=qw1 l fr tr:=by
  rw [hend.1]
  funext t
  by_cases hex:∃(j:Nat) (oj:Oper),l.toArray[j]? =some oj∧oj.dst=some t
  ·obtain ⟨j,oj,hj,hdj⟩:=hex
   have hlt:=(Au.1 hj).1
   rw [hA.did j oj t hj hlt hdj]
   exact (f1 j oj t hj hlt hdj).symm
  rw [hA.not t (fun j oj hj _ hdj=>hex ⟨j,oj,hj,hdj⟩)]
  exact (f2 t (fun j oj hj _ hdj=>hex ⟨j,oj,hj,hdj⟩)).symm
 have hhe:H'=endH H tr:=by
  rcases hA.heap with ⟨k,hk2,e,hw⟩ | ⟨a,b,oa,ob,H2,hex,X,hLb,hLa,_⟩
  case inr=>exact absurd (Au.1 X.ha).1 hLa
  rw [e,hend.2]
  have hst:=qde hr' (l.toArray.size - k) k (by omega) (fun e o he h1 h2=>by
   cases h5:inert (cwOf l.toArray) o.op with
   | true=>exact .inl rfl
   | false=>cases h6:isLoad o.op with
     | true=>exact .inr rfl
     | false=>
       have:=(hw e o he h5 h6).1 (Au.1 he).1
       omega)
  rw [show k+(l.toArray.size - k)=l.toArray.size by omega] at hst
  exact hst.symm
 subst hfe hhe
 exact ⟨_,_,S',β',hk,(hx.trans hx2).lower hp,BD hp hx2.le,hH2,hf2⟩
end
section
variable {fr:Fr} {H H':Hp} {ops:Array Oper} {os:List Oper} {o:Oper} {K:Fr→Hp→Prop}
def qch (G:Nat→List AV) (all:Array Oper) (fr:Fr) (objs:List (Nat × Obj)):Op→Bool
 | .call c=> !qpp c
 | .load _ a=>(qor objs (ev G fr a) || !qaf all) && (isR (ev G fr a) || (!q4g all || !(cwOf all).2))
 | .store _ _ _=>sepB G all fr
 | _=>true
theorem qw3 {op:Op} {x:AV} (hs:qch G ops fr H.objs op=true) (h:evalOp P G fr H op=some (x,H')):u6 P G (cwOf ops) (qaf ops) fr H op x H':=by
 unfold u6
 split
 ·rename_i c
  split
  ·rename_i f xs hc
   exfalso
   unfold wq at hc
   split at hc
   ·rename_i fo hfo
    simp [evalOp,Jx,hfo] at h
   cases hc
  exact .inl ⟨by simpa [qch] using hs,h⟩
 ·simp only [qch,An,Bp,Bool.not_eq_true'] at hs
  refine ⟨h,fun e=> ?_,fun e=> ?_⟩
  ·rcases hs.1 with h1 | h1
   ·exact h1
   rw [e] at h1;cases h1
  rcases hs.2 with h1 | h1 | h1
  ·exact h1
  ·unfold cwOf at e
   cases hx:exOf ops with
   | some p=>rw [hx] at e;cases e
   | none=>
     rw [hx] at e
     simp only at e
     cases hb:qcx none (true,false) ops with
     | true=>rw [hb] at e;cases e
     | false=>
       cases hc:qcx none (false,false) ops with
       | true=>rw [hb,hc] at e;cases e
       | false=>rw [hb,hc,h1] at e;cases e
  rw [e] at h1;cases h1
 exact h
theorem q24 {c:Call} {f:FuncId} {xs:List AV} {x:AV} (hg:o.guard=none) (ho:o.op= .call c) (hc:wq G fr c=some (f,xs)) (h:Fn P G f xs x) (hk:wpD P G ops os (put o.dst x fr) H K):wpD P G ops (o::os) fr H K:=by
 unfold wpD
 simp only [hg]
 refine ⟨x,H,?_,⟨fun _ _=>qgd _ _ _,fun h=>by rw [ho] at h;cases h⟩,hk⟩
 rw [ho]
 unfold u6
 simp only [hc]
 cases (cwOf ops).1 with
 | true=>exact h.calls H
 | false=>exact ⟨h,trivial⟩
theorem q1f {c:Call} {f:FuncId} {xs:List AV} {x:AV} (hg:o.guard=none) (ho:o.op= .call c) (hc:wq G fr c=some (f,xs)) (h:ACalls P G f xs H x H') (hw:(cwOf ops).1=true) (hkp:qm8 G ops.toList fr H H') (hk:wpD P G ops os (put o.dst x fr) H' K):wpD P G ops (o::os) fr H K:=by
 unfold wpD
 simp only [hg]
 refine ⟨x,H',?_,⟨fun _ _=>hkp,fun h=>by rw [ho] at h;cases h⟩,hk⟩
 rw [ho]
 unfold u6
 simp only [hc,hw]
 exact h
theorem q23 {c:Call} {x:AV} (hg:o.guard=none) (ho:o.op= .call c) (h:Jw P G fr c=some x) (hk:wpD P G ops os (put o.dst x fr) H K):wpD P G ops (o::os) fr H K:=by
 unfold wpD
 simp only [hg]
 refine ⟨x,H,?_,⟨fun _ _=>qgd _ _ _,fun h=>by rw [ho] at h;cases h⟩,hk⟩
 rw [ho]
 unfold u6
 have hc:wq G fr c=none:=by
  unfold Jw at h
  unfold wq
  split at h
  ·rename_i hb _ _
   rw [hb]
  cases h
 simp only [hc]
 exact .inr ⟨h,trivial⟩
theorem q8l {x:AV} (hg:o.guard=none) (hs:qch G ops fr H.objs o.op=true) (h:evalOp P G fr H o.op=some (x,H')) (hk:wpD P G ops os (put o.dst x fr) H' K):wpD P G ops (o::os) fr H K:=by
 unfold wpD
 simp only [hg]
 refine ⟨x,H',qw3 hs h,⟨fun hv _=> ?_,fun hv=> ?_⟩,hk⟩
 case refine_2=>
  revert hs hv
  cases o.op <;> simp only [isStore] <;> first | (intro _ hv;cases hv;done) | (intro hs _;exact hs)
 exfalso
 revert hv h
 cases o.op <;> simp only [isVal] <;> first | (intro h hv;cases hv;done) | skip
 case call c=>
  intro h hv
  split at hv
  ·rename_i hb
   simp [evalOp,Jx,hb] at h
  cases hv
theorem qxv {t j:Nat} {want:Bool} (hg:o.guard=some (j,want)) (ht:(ops[j]?).bind (·.dst)=some t) (hb:fr t= .tup []) (h:wpD P G ops os (put o.dst (.tup []) fr) H K):wpD P G ops (o::os) fr H K:=by
 unfold wpD
 simp only [hg]
 exact ⟨none,qn9 ht hb,(fun h=>by cases h),fun _=>h⟩
theorem qvc {t j:Nat} {want:Bool} (hg:o.guard=some (j,want)) (ht:(ops[j]?).bind (·.dst)=some t) (hb:fr t= .bool want) (h:wpD P G ops (Oper.free o::os) fr H K):wpD P G ops (o::os) fr H K:=by
 unfold wpD at*
 simp only [hg]
 simp only [Oper.free] at h
 exact ⟨some want,qey ht hb,fun _=>h,fun h=>absurd rfl h⟩
theorem qxu {t j:Nat} (hg:o.guard=some (j,true)) (ht:(ops[j]?).bind (·.dst)=some t) (hb:fr t= .bool false) (h:wpD P G ops os (put o.dst (.tup []) fr) H K):wpD P G ops (o::os) fr H K:=by
 unfold wpD
 simp only [hg]
 exact ⟨some false,qey ht hb,(fun h=>by cases h),fun _=>h⟩
theorem qxw {t j:Nat} (hg:o.guard=some (j,false)) (ht:(ops[j]?).bind (·.dst)=some t) (hb:fr t= .bool true) (h:wpD P G ops os (put o.dst (.tup []) fr) H K):wpD P G ops (o::os) fr H K:=by
 unfold wpD
 simp only [hg]
 exact ⟨some true,qey ht hb,(fun h=>by cases h),fun _=>h⟩
theorem qva {t j:Nat} {b:Bool} (hg:o.guard=some (j,true)) (ht:(ops[j]?).bind (·.dst)=some t) (hb:fr t= .bool b) (hy:b=true→wpD P G ops (Oper.free o::os) fr H K) (hn:b=false→wpD P G ops os (put o.dst (.tup []) fr) H K):wpD P G ops (o::os) fr H K:=by
 cases b
 ·exact qxu hg ht hb (hn rfl)
 exact qvc hg ht hb (hy rfl)
theorem qvb {t j:Nat} {b:Bool} (hg:o.guard=some (j,false)) (ht:(ops[j]?).bind (·.dst)=some t) (hb:fr t= .bool b) (hy:b=false→wpD P G ops (Oper.free o::os) fr H K) (hn:b=true→wpD P G ops os (put o.dst (.tup []) fr) H K):wpD P G ops (o::os) fr H K:=by
 cases b
 ·exact qvc hg ht hb (hy rfl)
 exact qxw hg ht hb (hn rfl)
section
variable {d:Option Tmp} {op:Op} {ty:TypeId} {pos:String} {aft:Array Edge}
end
end
end Go.Proofs.YtpnkemogepoioaaGreatDoorW.Ex
