/- A symbolic executor for the machine's code, part 7: one operation, one region, control, functions. General over the program; no conditions beside those in each theorem. A symbolic executor for the machine's code, part 8: calls, regions in the text's order, control, functions. General over the program; no conditions beside those in each theorem. -/
import Derived.Test.YtpnkemogepoioaaGreatDoorEx6
import Derived.MapKept
namespace Go.Proofs.YtpnkemogepoioaaGreatDoorW.Ex
set_option linter.all false
open Go
variable {D:List Deferred}
variable {G:Nat→List AV} {P:Program} {w:World} {S F:Nat→Prop} {β:Nat→Nat} {n N:Nat}
def qf9:AV→Option AV
 | .ptr i s o=>some (.ptr i s o)
 | .rptr cs=>some (.rptr cs)
 | .fn f c=>some (.fn f c)
 | _=>none
def notIfaceP (P:Program) (t:TypeId):Bool:=match P.underlying t with | some (.interface _)=>false | some _=>true | none=>false
def v6 (P:Program) (H:Hp) (b:Builtin) (ts:List TypeId) (xs:List AV):Option (AV × Hp):=
 match b,ts,xs with
 | .len, [t], [x]=>(qm5 P t x).map (·,H)
 | .append, [t,t1], [s,x]=>qau P H t t1 s x
 | .max,_, [.int k a, .int k' b]=>if k=k' then some (.int k (if b > a then b else a),H) else none
 | .min,_, [.int k a, .int k' b]=>if k=k' then some (.int k (if b < a then b else a),H) else none
 | _,_,_=>none
def Jx (P:Program) (G:Nat→List AV) (fr:Fr) (H:Hp) (c:Call):Option (AV × Hp):=
 match c.callee with
 | .builtin b=>v6 P H b c.argTypes.toList (c.args.toList.map (ev G fr))
 | _=>none
def mget:List (Int × Int)→Int→Int
 | [],_=>0
 | p::l,a=>if a=p.1 then p.2 else mget l a
def mhas:List (Int × Int)→Int→Bool
 | [],_=>false
 | p::l,a=>if a=p.1 then true else mhas l a
def mapP (P:Program) (t:TypeId) (kk vk:IntKind):Bool:=
 match P.underlying t with
 | some (.map kt et)=>(match P.underlying kt with | some (.int k)=>decide (k=kk) | _=>false) && (match (P.info? et).bind (·.zero) with | some (.int k m)=>decide (k=vk) && decide (m=0) | _=>false)
 | _=>false
def qku (P:Program) (t:TypeId) (x i:AV) (ok:Bool):Option AV:=
 match x,i with
 | .mp kk vk l, .int k a=>if kk=k∧mapP P t kk vk=true then some (if ok=true then .tup [.int vk (mget l a), .bool (mhas l a)] else .int vk (mget l a)) else none
 | _,_=>none
theorem qk6 (kk vk:IntKind) (a:Int):∀(es:List MapEntry) (l:List (Int × Int)) (i:Nat),es.map (fun e=>(e.key,e.val))=l.map (fun p=>(Value.int kk p.1,Value.int vk p.2))→
 ∃r,Instr.findNow (.int kk) (.int kk a) es i=some r∧((∃i',r=some (i', .int vk (mget l a))∧mhas l a=true)∨(r=none∧mget l a=0∧mhas l a=false))
 | [], [],i,_=>⟨none,rfl, .inr ⟨rfl,rfl,rfl⟩⟩
 | [],p::l,i,h=>by simp at h
 | e::es, [],i,h=>by simp at h
 | e::es,p::l,i,h=>by
   simp only [AX,B7,Al] at h
   obtain ⟨⟨h1,h2⟩,h3⟩:=h
   by_cases hp:a=p.1
   ·exact ⟨some (i,e.val),by simp [Instr.findNow,h1,Instr.sameNow,hp], .inl ⟨i,by simp [mget,hp,h2],by simp [mhas,hp]⟩⟩
   obtain ⟨r,hr,hq⟩:=qk6 kk vk a es l (i+1) h3
   exact ⟨r,by simpa [Instr.findNow,h1,Instr.sameNow,beq_eq_false_iff_ne.2 hp] using hr,by simpa [mget,mhas,hp] using hq⟩
theorem q16 {t:TypeId} {x i z:AV} {ok:Bool} {v u:Value} (hx:RV w S β n x v) (hi:RV w S β n i u) (h:qku P t x i ok=some z):∃v',(Instr.lookup t v u ok).run P w= .ok v' w∧RV w S β n z v':=by
 unfold qku at h
 split at h
 ·rename_i kk vk l k a
  split at h
  ·rename_i hc
   obtain ⟨rfl,hm⟩:=hc
   simp only [Ab] at h
   subst h
   cases hi
   cases hx with
   | mp _ _ _ b clk es hS hh he=>
     unfold mapP at hm
     split at hm
     ·rename_i kt et hu
      simp only [An] at hm
      obtain ⟨hm1,hm2⟩:=hm
      split at hm1
      ·rename_i j hk
       simp only [decide_eq_true_eq] at hm1
       subst hm1
       split at hm2
       ·rename_i k' m' hz
        simp only [An,decide_eq_true_eq] at hm2
        obtain ⟨rfl,rfl⟩:=hm2
        obtain ⟨r,hr,hq⟩:=qk6 _ k' a es.toList l 0 he
        have hck:(Instr.checkKey es.isEmpty 10000 kt (.int j a)).run P w= .ok () w:=MapKept.run_checkKey (k:= .int j a) hk (by simp [MapKept.IsKey]) _ 9999
        have hzr:(zeroValue et).run P w= .ok (.int k' 0) w:=by
         cases hif:P.info? et with
         | none=>simp [hif] at hz
         | some inf=>
           simp only [hif,Bt] at hz
           simp [zeroValue,typeInfo,hif,hz]
        have main:(Instr.lookup t (.map (some b)) (.int j a) ok).run P w= .ok (if ok=true then .tuple #[.int k' (mget l a), .bool (mhas l a)] else .int k' (mget l a)) w:=by
         rcases hq with ⟨i',rfl,h2⟩ | ⟨rfl,h1,h2⟩
         ·simp [Instr.lookup,run_underlying hu,MapKept.run_getObj_map hh,hck,MapKept.run_findKey hk hr,h2,Result.andThen]
         simp [Instr.lookup,run_underlying hu,MapKept.run_getObj_map hh,hck,MapKept.run_findKey hk hr,h1,h2,hzr,Result.andThen]
        refine ⟨_,main,?_⟩
        cases ok with
        | false=>exact .int _ _
        | true=>
          refine .tup _ _ rfl (fun i x hi=> ?_)
          match i with
          | 0=>simp only [Aq,Ab] at hi;subst hi;exact .int _ _
          | 1=>simp only [Bc,Aq,Ab] at hi;subst hi;exact .bool _
          | i+2=>simp at hi
       cases hm2
      cases hm1
     cases hm
  cases h
 cases h
def evalOp (P:Program) (G:Nat→List AV) (fr:Fr) (H:Hp):Op→Option (AV × Hp)
 | .move x=>some (ev G fr x,H)
 | .assign x=>some (ev G fr x,H)
 | .pick c a b=>match ev G fr c with
   | .bool t=>some (ql6 t (ev G fr a) (ev G fr b),H)
   | _=>none
 | .alloc e=>match zeroAV P e with
   | some cs=>if cs.all (·.one)=true then some (.ptr H.objs.length H.n 0,H.push (.var e cs)) else none
   | none=>none
 | .box e x=>(K1 (ev G fr x)).map fun cs=>(.ptr H.objs.length H.n 0,H.push (.var e cs))
 | .build t ps=>(qiu P t (ps.toList.map fun p=>(p.1,ev G fr p.2))).map (·,H)
 | .buildSlice t len ps=>(K2 P t len (ps.toList.map fun p=>(p.1,ev G fr p.2))).map (·,H)
 | .load t a=>match Js H (ev G fr a) with
   | some cs=>(qjp P t cs).map (·,H)
   | none=>none
 | .store t a x=>(Q6 P H t (ev G fr a) (ev G fr x)).map fun H'=>(.undef,H')
 | .nilCheck x=>(qf9 (ev G fr x)).map (·,H)
 | .binOp op t x y _=>(qlf P op t (ev G fr x) (ev G fr y)).map (·,H)
 | .unOp op _ x=>(unAV op (ev G fr x)).map (·,H)
 | .convert src dst x=>(qj3 P src dst (ev G fr x)).map (·,H)
 | .makeInterface t x=>if notIfaceP P t=true then some (.iface t (ev G fr x),H) else none
 | .makeFunc fn first caps=>match fn,first.toList with
   | .func f, []=>some (.fn f (caps.toList.map (ev G fr)),H)
   | _,_=>none
 | .fieldAddr s x f=>(W8 P s (ev G fr x) f).map (·,H)
 | .field s x f=>(qis P s (ev G fr x) f).map (·,H)
 | .indexAddr t x i=>(Kc P t (ev G fr x) (ev G fr i)).map (·,H)
 | .index t x i=>(qkz P t (ev G fr x) (ev G fr i)).map (·,H)
 | .slice t x lo hi mx=>(qf3 P t (ev G fr x) (lo.map (ev G fr)) (hi.map (ev G fr)) (mx.map (ev G fr))).map (·,H)
 | .extract x i=>(qfe (ev G fr x) i).map (·,H)
 | .lookup t x i ok=>(qku P t (ev G fr x) (ev G fr i) ok).map (·,H)
 | .call c=>Jx P G fr H c
 | _=>none
def Done (G:Nat→List AV) (w:World) (S F:Nat→Prop) (β:Nat→Nat) (n:Nat) (r:Result Next) (x:AV) (H':Hp):Prop:=
 ∃w' S' β',((∃v,r= .ok (.value v) w'∧RV w' S' β' H'.n x v)∨(r= .ok .skip w'∧x= .undef))∧Ext w S F β n w' S' β' H'.n∧HR G w' S' F β' H'
theorem Done.stay {H:Hp} (hH:HR G w S F β H) {r:Result Next} {v:Value} {x:AV} (hr:r= .ok (.value v) w) (hv:RV w S β H.n x v):Done G w S F β H.n r x H:=
 ⟨w,S,β, .inl ⟨v,hr,hv⟩, .refl ..,hH⟩
theorem qvu {t:TypeId} {x z:AV} {lo hi mx:Option AV} {v:Value} {lv hv mv:Option Value} (h:qf3 P t x lo hi mx=some z):(Instr.sliceAt t v lv hv mv).run P w=(Instr.slice t v lv hv mv).run P w:=by
 have key:∀d,P.underlying t=some d→(∀m e,d≠ .array m e)→(Instr.sliceAt t v lv hv mv).run P w=(Instr.slice t v lv hv mv).run P w:=by
  intro d hu hd
  simp only [Instr.sliceAt,Sem.run_bind,run_underlying hu,Result.andThen_ok]
 unfold qf3 at h
 split at h
 ·split at h
  ·rename_i ht
   have h1:=ht.1
   unfold strP at h1
   split at h1
   ·rename_i hu;exact key _ hu (by simp)
   cases h1
  cases h
 ·split at h
  ·rename_i he;exact key _ (Qh he).1 (by simp)
  cases h
 ·split at h
  ·rename_i he;exact key _ (Qh he).1 (by simp)
  cases h
 cases h
theorem qo8 {H:Hp} {fr:Fr} {a:Act} (hH:HR G w S F β H) (hf:FRx D w S β H.n N fr a) (o:Option Operand):OptR w S β H.n (o.map (ev G fr)) (o.map a.eval):=by
 cases o with
 | none=>trivial
 | some x=>exact qja hH hf x
theorem qyd {H:Hp} {fr:Fr} {a:Act} (hH:HR G w S F β H) (hf:FRx D w S β H.n N fr a) (ps:Array (Nat × Operand)):
 PR w S β H.n (ps.toList.map fun p=>(p.1,ev G fr p.2)) (ps.map fun (i,x)=>(i,a.eval x)):=by
 refine ⟨by simp,fun i p v hp hv=> ?_⟩
 simp only [Av,Am] at hp
 obtain ⟨q,hq,rfl⟩:=hp
 simp only [Array.toList_map,Av,hq,Ba,Ab] at hv
 subst hv
 exact ⟨rfl,qja hH hf q.2⟩
theorem qh0 {H:Hp} {fr:Fr} {a:Act} (hH:HR G w S F β H) (hf:FRx D w S β H.n N fr a) (xs:Array Operand):
 (xs.map a.eval).size=(xs.toList.map (ev G fr)).length∧∀(i:Nat) (x:AV),(xs.toList.map (ev G fr))[i]? =some x→RV w S β H.n x ((xs.map a.eval).getD i Go.undef):=by
 refine ⟨by simp,fun i x hi=> ?_⟩
 simp only [Av,Am] at hi
 obtain ⟨q,hq,rfl⟩:=hi
 rw [Bk] at hq
 rw [Ag,Array.getElem?_map,hq]
 exact qja hH hf q
theorem two (vs:Array Value) (hs:vs.size=2):vs= #[vs.getD 0 Go.undef,vs.getD 1 Go.undef]:=by
 apply Array.ext
 ·simpa using hs
 intro i h1 h2
 have hi:i < 2:=by simpa using h2
 rcases i with _ | _ | i
 ·simp [Ag,h1]
 ·simp [Ag,h1]
 omega
theorem qyw {H H':Hp} (hH:HR G w S F β H) {b:Builtin} {ts:Array TypeId} {ty:TypeId} {cs:Array Bool} {xs:List AV} {vs:Array Value} {x:AV}
 (hs:vs.size=xs.length) (hr:∀(i:Nat) (x:AV),xs[i]? =some x→RV w S β H.n x (vs.getD i Go.undef)) (h:v6 P H b ts.toList xs=some (x,H')):
 Done G w S F β H.n ((builtin b ts ty cs vs).run P w) x H':=by
 unfold v6 at h
 split at h
 ·rename_i t x0 hts
  simp only [Am,Al] at h
  obtain ⟨z,hz,rfl,rfl⟩:=h
  have hv:vs[0]? =some (vs.getD 0 Go.undef):=Kd (by rw [hs];simp)
  have ht:ts[0]? =some t:=by rw [←Bk,hts];rfl
  obtain ⟨v',hrun,hR⟩:=q86 (P:=P) (w:=w) (ty:=ty) ht hv (hr 0 _ rfl) hz
  exact .stay hH (by simp only [builtin,Sem.run_bind,hrun,Result.andThen_ok,Sem.run_pure]) hR
 ·rename_i t t1 s x0 hts
  have hvs:vs= #[vs.getD 0 Go.undef,vs.getD 1 Go.undef]:=by
   apply Array.ext
   ·simpa using hs
   intro i h1 h2
   have hi:i < 2:=by simpa using h2
   rcases i with _ | _ | i
   ·simp [Ag,h1]
   ·simp [Ag,h1]
   omega
  have htt:ts= #[t,t1]:=by
   apply Array.ext'
   simpa using hts
  obtain ⟨v',w',β',hrun,hx,hH',hR⟩:=q2p (P:=P) (ty:=ty) hH (hr 0 _ rfl) (hr 1 _ rfl) h
  refine ⟨w',S,β', .inl ⟨v',?_,hR⟩,hx,hH'⟩
  rw [hvs,htt]
  simp only [builtin,Sem.run_bind,hrun,Result.andThen_ok,Sem.run_pure]
 ·rename_i k a k' b
  split at h
  ·rename_i hk
   subst hk
   simp only [Ab,Al] at h
   obtain ⟨rfl,rfl⟩:=h
   have hvs:=two vs (by simpa using hs)
   have h0:=hr 0 _ rfl
   have h1:=hr 1 _ rfl
   rw [hvs]
   generalize vs.getD 0 Go.undef=v0 at h0
   generalize vs.getD 1 Go.undef=v1 at h1
   cases h0;cases h1
   exact .stay hH (by simp [builtin,Builtin.max_,Builtin.max2]) (.int _ _)
  cases h
 ·rename_i k a k' b
  split at h
  ·rename_i hk
   subst hk
   simp only [Ab,Al] at h
   obtain ⟨rfl,rfl⟩:=h
   have hvs:=two vs (by simpa using hs)
   have h0:=hr 0 _ rfl
   have h1:=hr 1 _ rfl
   rw [hvs]
   generalize vs.getD 0 Go.undef=v0 at h0
   generalize vs.getD 1 Go.undef=v1 at h1
   cases h0;cases h1
   exact .stay hH (by simp [builtin,Builtin.min_,Builtin.min2]) (.int _ _)
  cases h
 cases h
theorem q2l {H H':Hp} {fr:Fr} {a:Act} {o:Oper} {x:AV} (hH:HR G w S F β H) (hf:FRx D w S β H.n N fr a) (h:evalOp P G fr H o.op=some (x,H')):Done G w S F β H.n ((execOp a.eval o).run P w) x H':=by
 have e:=qja (G:=G) hH hf
 obtain ⟨dst,op,type,pos,after,guard⟩:=o
 simp only at h
 unfold evalOp at h
 have stay:∀(s:Sem Value) (op':Op) (z:Option AV),(execOp a.eval ⟨dst,op',type,pos,after,guard⟩=do pure (.value (←s)))→(∀z',z=some z'→∃v',s.run P w= .ok v' w∧RV w S β H.n z' v')→z.map (·,H)=some (x,H')→
  Done G w S F β H.n ((execOp a.eval ⟨dst,op',type,pos,after,guard⟩).run P w) x H':=by
  intro s op' z he hs hz
  simp only [Am,Al] at hz
  obtain ⟨z',hz',rfl,rfl⟩:=hz
  obtain ⟨v',hv,hR⟩:=hs z' hz'
  exact .stay hH (by rw [he];simp only [Sem.run_bind,hv,Result.andThen_ok,Sem.run_pure]) hR
 split at h
 ·simp only [Ab,Al] at h
  obtain ⟨rfl,rfl⟩:=h
  exact .stay hH rfl (e _)
 ·simp only [Ab,Al] at h
  obtain ⟨rfl,rfl⟩:=h
  exact .stay hH rfl (e _)
 ·rename_i c p q
  split at h
  ·rename_i t hc
   simp only [Ab,Al] at h
   obtain ⟨rfl,rfl⟩:=h
   have h1:=e c
   rw [hc] at h1
   generalize hv:a.eval c=v at h1
   cases h1
   refine .stay hH (v:=if t=true then a.eval p else a.eval q) (by simp [execOp,hv,asBool]) ?_
   unfold ql6
   split
   ·exact e p
   exact e q
  cases h
 ·split at h
  ·rename_i cs hz
   split at h
   ·rename_i h1
    simp only [Ab,Al] at h
    obtain ⟨rfl,rfl⟩:=h
    obtain ⟨v',w',β',hrun,hx,hH',hR⟩:=q5r (P:=P) hH hz h1
    exact ⟨w',S,β', .inl ⟨v',by simp only [execOp,Sem.run_bind,hrun,Result.andThen_ok,Sem.run_pure],hR⟩,hx,hH'⟩
   cases h
  cases h
 ·rename_i t p
  simp only [Am,Al] at h
  obtain ⟨cs,hcs,rfl,rfl⟩:=h
  obtain ⟨v',w',β',hrun,hx,hH',hR⟩:=q5k (P:=P) hH (t:=t) (qj5 (e p) hcs)
  exact ⟨w',S,β', .inl ⟨v',by simp only [execOp,Sem.run_bind,hrun,Result.andThen_ok,Sem.run_pure],hR⟩,hx,hH'⟩
 ·exact stay _ _ _ rfl (fun z hz=>q5j (qyd hH hf _) hz) h
 ·simp only [Am,Al] at h
  obtain ⟨z,hz,rfl,rfl⟩:=h
  obtain ⟨v',w',S',hrun,hx,hH',hR⟩:=qrg (P:=P) hH (qyd hH hf _) hz
  exact ⟨w',S',β, .inl ⟨v',by simp only [execOp,Sem.run_bind,hrun,Result.andThen_ok,Sem.run_pure],hR⟩,hx,hH'⟩
 ·split at h
  ·rename_i cs hcs
   exact stay _ _ _ rfl (fun z hz=>qse (qj4 hH (e _) hcs) hz) h
  cases h
 ·simp only [Am,Al] at h
  obtain ⟨H1,hH1,rfl,rfl⟩:=h
  obtain ⟨w',hrun,hx,hH'⟩:=q3f (P:=P) hH (e _) (e _) hH1
  exact ⟨w',S,β, .inr ⟨by simp only [execOp,Sem.run_bind,hrun,Result.andThen_ok,Sem.run_pure],rfl⟩,hx,hH'⟩
 ·rename_i p
  simp only [Am,Al] at h
  obtain ⟨z,hz,rfl,rfl⟩:=h
  have h1:=e p
  generalize ev G fr p=y at h1 hz
  generalize hv:a.eval p=v at h1
  unfold qf9 at hz
  split at hz <;> first
   | (cases hz;done)
   | (simp only [Ab] at hz;subst hz
      have h2:=h1
      cases h1
      exact .stay hH (by simp [execOp,hv]) h2)
 ·exact stay _ _ _ rfl (fun z hz=>q9o (e _) (e _) hz) h
 ·exact stay _ _ _ rfl (fun z hz=>zag (e _) hz) h
 ·exact stay _ _ _ rfl (fun z hz=>q7b (e _) hz) h
 ·rename_i t p
  split at h
  ·rename_i ht
   simp only [Ab,Al] at h
   obtain ⟨rfl,rfl⟩:=h
   unfold notIfaceP at ht
   refine .stay hH (v:= .iface t (a.eval p)) ?_ (.iface t _ _ (e p))
   cases hu:P.underlying t with
   | none=>simp [hu] at ht
   | some d=>
     have hd:∀m,d≠ .interface m:=by intro m em;subst em;simp [hu] at ht
     simp [execOp,Instr.makeInterface,run_underlying hu]
  cases h
 ·rename_i fn first caps
  split at h
  ·rename_i f hfirst
   simp only [Ab,Al] at h
   obtain ⟨rfl,rfl⟩:=h
   have hf0:first= #[]:=by apply Array.ext';simpa using hfirst
   subst hf0
   have hcm:=qh0 hH hf caps
   exact .stay hH (v:= .func (.func f) #[] (caps.map a.eval)) (by simp [execOp,Instr.makeFunc]) (.fn f _ _ hcm.1 hcm.2)
  cases h
 ·exact stay _ _ _ rfl (fun z hz=>quf (e _) hz) h
 ·exact stay _ _ _ rfl (fun z hz=>q2i (e _) hz) h
 ·exact stay _ _ _ rfl (fun z hz=>qt7 (e _) (e _) hz) h
 ·exact stay _ _ _ rfl (fun z hz=>q4s (e _) (e _) hz) h
 ·refine stay _ _ _ rfl (fun z hz=> ?_) h
  obtain ⟨v',hrun,hR⟩:=q3k (P:=P) (e _) (qo8 hH hf _) (qo8 hH hf _) (qo8 hH hf _) hz
  exact ⟨v',by rw [qvu hz];exact hrun,hR⟩
 ·exact stay _ _ _ rfl (fun z hz=>qyp (e _) hz) h
 ·exact stay _ _ _ rfl (fun z hz=>q16 (e _) (e _) hz) h
 ·rename_i c
  unfold Jx at h
  split at h
  ·rename_i b hb
   have hcm:=qh0 hH hf c.args
   have:=qyw (P:=P) (ty:=type) (cs:=c.args.map fun | .const _=>true | _=>false) hH hcm.1 hcm.2 h
   obtain ⟨callee,args,argTypes⟩:=c
   simp only at hb
   subst hb
   simp only [execOp,resolve,invoke,Sem.run_bind,Sem.run_pure,Result.andThen_ok]
   exact this
  cases h
 cases h
end Go.Proofs.YtpnkemogepoioaaGreatDoorW.Ex

namespace Go.Proofs.YtpnkemogepoioaaGreatDoorW.Ex
set_option linter.all false
open Go
variable {D:List Deferred}
variable {G:Nat→List AV} {P:Program} {w:World} {S F:Nat→Prop} {β:Nat→Nat} {n N p:Nat}
def RVs (w:World) (S:Nat→Prop) (β:Nat→Nat) (n:Nat) (xs:List AV) (vs:Array Value):Prop:=
 vs.size=xs.length∧∀(i:Nat) (x:AV),xs[i]? =some x→RV w S β n x (vs.getD i Go.undef)
def Up (P:Program) (K:Value→World→Prop):Result Next→Prop
 | .ok (.value v) w'=>K v w'
 | .ok (.enter f vs) w'=>Calls P f vs w' fun e w''=>∃v,e= .returned v∧K v w''
 | _=>False
def ACalls (P:Program) (G:Nat→List AV) (f:FuncId) (xs:List AV) (H:Hp) (x:AV) (H':Hp):Prop:=
 ∀w S F β vs,HR G w S F β H→RVs w S β H.n xs vs→Up P (fun v w'=>∃S' β',Ext w S F β H.n w' S' β' H'.n∧HR G w' S' F β' H'∧RV w' S' β' H'.n x v) ((callFunc f vs).run P w)
def Dn (P:Program) (K:World→Prop) (ch:List PanicEntry):Result Next→Prop
 | .ok (.enter f vs) w'=>Calls P f vs w' fun e w''=>e= .panicked ch∧K w''
 | _=>False
def FCalls (P:Program) (G:Nat→List AV) (f:FuncId) (xs:List AV) (H:Hp) (ch:List PanicEntry):Prop:=
 ∀w S F β vs,HR G w S F β H→RVs w S β H.n xs vs→Dn P (fun w'=>∃S' β',Ext w S F β H.n w' S' β' H.n∧(∀k,S' k→k < w'.heap.size)) ch ((callFunc f vs).run P w)
def Fn (P:Program) (G:Nat→List AV) (f:FuncId) (xs:List AV) (x:AV):Prop:=
 ∀w S β n vs,HR G w S (· < w.heap.size) β ⟨n, []⟩→RVs w S β n xs vs→Up P (fun v w'=>∃S',Ext w S (· < w.heap.size) β n w' S' β n∧(∀k,S' k→k < w'.heap.size)∧RV w' S' β n x v) ((callFunc f vs).run P w)
theorem Up.mono {K K':Value→World→Prop} {r:Result Next} (h:Up P K r) (hk:∀v w,K v w→K' v w):Up P K' r:=by
 unfold Up at*
 split at h
 ·exact hk _ _ h
 ·exact Calls.mono h (fun e w' ⟨v,he,hK⟩=>⟨v,he,hk _ _ hK⟩)
 exact h.elim
theorem Fn.calls {f:FuncId} {xs:List AV} {x:AV} (h:Fn P G f xs x) (H:Hp):ACalls P G f xs H x H:=by
 intro w S F β vs hH hv
 refine (h w S β H.n vs ⟨hH.lts,fun k hk=>hk,hH.glob,by simp,by simp,by simp⟩ hv).mono ?_
 rintro v w' ⟨S',hx,hlt,hR⟩
 exact ⟨S',β,hx.callee hH.ltf,hH.after hx hlt,hR⟩
def wq (G:Nat→List AV) (fr:Fr) (c:Call):Option (FuncId × List AV):=
 match c.callee with
 | .value f=>match ev G fr f with
   | .fn f caps=>some (f,c.args.toList.map (ev G fr)++caps)
   | _=>none
 | _=>none
def Jw (P:Program) (G:Nat→List AV) (fr:Fr) (c:Call):Option AV:=
 match c.callee,c.argTypes.toList,c.args.toList.map (ev G fr) with
 | .builtin .append, [t,t1], [s,x]=>qys P t t1 s x
 | _,_,_=>none
def qqp (P:Program) (G:Nat→List AV) (fr:Fr) (H:Hp) (op:Op) (x:AV) (H':Hp):Prop:=
 match op with
 | .buildSlice t len ps=>∃e k cs,qgk P t len (ps.toList.map fun p=>(p.1,ev G fr p.2))=some (e,k,cs)∧x= .bs k H.objs.length H.n 0 len∧H'=H.push (.row e cs)
 | .makeSlice t len cap=>∃e k cs,qim P t (ev G fr len) (ev G fr cap)=some (e,k,cs)∧x= .bs 1 H.objs.length H.n 0 k∧H'=H.push (.row e cs)
 | _=>False
def qf0 (P:Program) (G:Nat→List AV) (fr:Fr) (H:Hp) (op:Op) (x:AV) (H':Hp):Prop:=
 match op with
 | .call c=>match wq G fr c with
   | some (f,xs)=>ACalls P G f xs H x H'
   | none=>Jx P G fr H c=some (x,H')∨(Jw P G fr c=some x∧H'=H)
 | op=>evalOp P G fr H op=some (x,H')∨qqp P G fr H op x H'
theorem q6e {o:Oper} {a:Act} {next:Act→World→Prop} {Q:Exit→Act→World→Prop} {r:Result Next} (h:Up P (fun v w'=>next (a.put o.dst v) w') r):o.upon P a next Q r:=by
 unfold Up at h
 split at h
 ·exact h
 ·refine Calls.mono h (fun e w' he=> ?_)
  obtain ⟨v,rfl,hK⟩:=he
  exact hK
 exact h.elim
theorem qoy {xs ys:List AV} {vs us:Array Value} (h:RVs w S β n xs vs) (hy:us.size=ys.length∧∀(i:Nat) (x:AV),ys[i]? =some x→RV w S β n x (us.getD i Go.undef)):RVs w S β n (xs++ys) (vs++us):=by
 refine ⟨by simp [h.1,hy.1],fun i x hi=> ?_⟩
 rw [AH] at hi
 rw [Ag,Array.getElem?_append,h.1]
 split at hi
 ·rename_i hl;rw [if_pos hl,←Ag];exact h.2 i x hi
 rename_i hl;rw [if_neg hl,←Ag];exact hy.2 _ x hi
theorem qnv {H H':Hp} {fr:Fr} {a:Act} {o:Oper} {x:AV} {next:Act→World→Prop} {Q:Exit→Act→World→Prop} (hH:HR G w S F β H) (hf:FRx D w S β H.n N fr a) (h:qf0 P G fr H o.op x H')
 (hd:o.dst.all (· < N)=true)
 (hk:∀a' w' S' β',Ext w S F β H.n w' S' β' H'.n→HR G w' S' F β' H'→FRx D w' S' β' H'.n N (put o.dst x fr) a'→next a' w'):o.wp P a w next Q:=by
 have plain:evalOp P G fr H o.op=some (x,H')→o.wp P a w next Q:=by
  intro h
  obtain ⟨w',S',β',hr,hx,hH'⟩:=q2l hH hf h
  unfold Oper.wp
  rcases hr with ⟨v,hr,hR⟩ | ⟨hr,rfl⟩
  ·rw [hr,Oper.upon_value]
   exact hk _ _ _ _ hx hH' ((hf.ext hx).put hd hR)
  rw [hr,Oper.upon_skip]
  exact hk _ _ _ _ hx hH' ((hf.ext hx).put hd (.undef _))
 unfold qf0 at h
 split at h
 ·rename_i c hop
  split at h
  ·rename_i f xs hc
   unfold wq at hc
   split at hc
   ·rename_i fo hfo
    split at hc
    ·rename_i f' caps hev
     simp only [Ab,Al] at hc
     obtain ⟨rfl,rfl⟩:=hc
     have h1:=qja (G:=G) hH hf fo
     rw [hev] at h1
     generalize hv:a.eval fo=fv at h1
     cases h1 with
     | fn _ _ cvs hs hr=>
       have hvs:=qoy (qh0 hH hf c.args) ⟨hs,hr⟩
       have:=(h w S F β _ hH hvs).mono (K':=fun v w'=>next (a.put o.dst v) w') (by
        rintro v w' ⟨S',β',hx,hH',hR⟩
        exact hk _ _ _ _ hx hH' ((hf.ext hx).put hd hR))
       unfold Oper.wp
       refine q6e ?_
       simp only [execOp,hop,resolve,hfo,hv,Deferred.ofValue,Sem.run_bind,Sem.run_pure,Result.andThen_ok,invoke,Array.empty_append]
       exact this
    cases hc
   cases hc
  rcases h with h | ⟨h,rfl⟩
  ·refine plain ?_
   rw [hop]
   exact h
  unfold Jw at h
  split at h
  ·rename_i t t1 s x0 hcb hts hxs
   have hcm:=qh0 hH hf c.args
   rw [hxs] at hcm
   have h2:=two _ (show (c.args.map a.eval).size=2 from hcm.1)
   obtain ⟨v',w',S',hrun,hx,hH',hR⟩:=q7a (P:=P) (ty:=o.type) hH (hcm.2 0 s rfl) (hcm.2 1 x0 rfl) h
   have hts':c.argTypes= #[t,t1]:=by rw [←Array.toList_inj,hts]
   have hrun2:(execOp a.eval o).run P w= .ok (.value v') w':=by
    obtain ⟨dst,op,type,pos,aft,grd⟩:=o
    simp only at hop
    subst hop
    obtain ⟨callee,args,argTypes⟩:=c
    simp only at hcb h2 hts'
    subst hcb hts'
    simp only [execOp,resolve,invoke,Sem.run_bind,Sem.run_pure,Result.andThen_ok]
    rw [h2]
    simp only [builtin,Sem.run_bind,Sem.run_pure,Result.andThen_ok]
    rw [hrun]
    rfl
   unfold Oper.wp
   rw [hrun2,Oper.upon_value]
   exact hk _ _ _ _ hx hH' ((hf.ext hx).put hd hR)
  cases h
 rcases h with h | h
 ·exact plain h
 unfold qqp at h
 split at h
 ·rename_i t len ps hop
  obtain ⟨e,k,cs,hz,rfl,rfl⟩:=h
  obtain ⟨v',w',β',hrun,hx,hH',hR⟩:=qxa (P:=P) hH (qyd hH hf ps) hz
  have hrun2:(execOp a.eval o).run P w= .ok (.value v') w':=by
   simp only [execOp,hop,Sem.run_bind,hrun,Result.andThen_ok,Sem.run_pure]
  unfold Oper.wp
  rw [hrun2,Oper.upon_value]
  exact hk _ _ _ _ hx hH' ((hf.ext hx).put hd hR)
 ·rename_i t len cap hop
  obtain ⟨e,k,cs,hz,rfl,rfl⟩:=h
  obtain ⟨v',w',β',hrun,hx,hH',hR⟩:=qyh (P:=P) hH (qja (G:=G) hH hf len) (qja (G:=G) hH hf cap) hz
  have hrun2:(execOp a.eval o).run P w= .ok (.value v') w':=by
   simp only [execOp,hop,Sem.run_bind,hrun,Result.andThen_ok,Sem.run_pure]
  unfold Oper.wp
  rw [hrun2,Oper.upon_value]
  exact hk _ _ _ _ hx hH' ((hf.ext hx).put hd hR)
 exact h.elim
def qs7 (P:Program) (G:Nat→List AV) (fr:Fr) (H:Hp) (op:Op) (ch:List PanicEntry):Prop:=
 match op with
 | .call c=>match wq G fr c with
   | some (f,xs)=>FCalls P G f xs H ch
   | none=>False
 | .panic x=>∃t k i,ev G fr x= .iface t (.int k i)∧ch= [{v:= .iface t (.int k i),recovered:=false}]
 | _=>False
theorem q0e {H:Hp} {w':World} {S':Nat→Prop} {β':Nat→Nat} (hH:HR G w S F β H) (hx:Ext w S F β H.n w' S' β' H.n) (hl:∀k,S' k→k < w'.heap.size):HR G w' S' F β' ⟨H.n, []⟩:=
 ⟨hl,fun k hk=>AU (hH.ltf k hk) hx.size,fun g=>(hH.glob g).ext hx,by simp,by simp,by simp⟩
theorem q1t {H:Hp} {fr:Fr} {a:Act} {o:Oper} {ch:List PanicEntry} {next:Act→World→Prop} {Q:Exit→Act→World→Prop} (hH:HR G w S F β H) (hf:FRx D w S β H.n N fr a) (h:qs7 P G fr H o.op ch)
 (hk:∀w' S' β',Ext w S F β H.n w' S' β' H.n→HR G w' S' F β' ⟨H.n, []⟩→FRx D w' S' β' H.n N fr a→Q (.panic ch) a w'):o.wp P a w next Q:=by
 unfold qs7 at h
 split at h
 ·rename_i c hop
  split at h
  ·rename_i f xs hc
   unfold wq at hc
   split at hc
   ·rename_i fo hfo
    split at hc
    ·rename_i f' caps hev
     simp only [Ab,Al] at hc
     obtain ⟨rfl,rfl⟩:=hc
     have h1:=qja (G:=G) hH hf fo
     rw [hev] at h1
     generalize hv:a.eval fo=fv at h1
     cases h1 with
     | fn _ _ cvs hs hr=>
       have hvs:=qoy (qh0 hH hf c.args) ⟨hs,hr⟩
       have hd:=h w S F β _ hH hvs
       unfold Oper.wp
       simp only [execOp,hop,resolve,hfo,hv,Deferred.ofValue,Sem.run_bind,Sem.run_pure,Result.andThen_ok,invoke,Array.empty_append]
       unfold Dn at hd
       split at hd
       ·rename_i f2 vs2 w2 hrun
        rw [hrun,Oper.upon_enter]
        refine Calls.mono hd (fun e w' he=> ?_)
        obtain ⟨rfl,S',β',hx,hl⟩:=he
        exact hk _ _ _ hx (q0e hH hx hl) (hf.ext hx)
       exact hd.elim
    cases hc
   cases hc
  exact h.elim
 ·rename_i x hop
  obtain ⟨t,k,i,hev,rfl⟩:=h
  have h1:=qja (G:=G) hH hf x
  rw [hev] at h1
  have hx:a.eval x= .iface t (.int k i):=by
   generalize a.eval x=v at h1
   cases h1 with
   | iface _ _ y hy=>cases hy;rfl
  unfold Oper.wp
  simp only [execOp,hop,hx]
  exact hk w S β (.refl ..) (q0e hH (.refl ..) hH.lts) hf
 exact h.elim
def Q5 (ops:Array Oper) (fr:Fr) (j:Nat):Option (Option Bool):=
 match (ops[j]?).bind (·.dst) with
 | some t=>match fr t with | .bool b=>some (some b) | .tup []=>some none | _=>none
 | none=>none
def wpL (P:Program) (G:Nat→List AV) (ops:Array Oper):List Oper→Fr→Hp→(Exit→Fr→Hp→Prop)→Prop
 | [],fr,H,K=>K .normal fr H
 | o::os,fr,H,K=>match o.guard with
   | none=>(∃x H',qf0 P G fr H o.op x H'∧wpL P G ops os (put o.dst x fr) H' K)∨(∃ch,qs7 P G fr H o.op ch∧K (.panic ch) fr ⟨H.n, []⟩)
   | some (j,want)=>∃b,Q5 ops fr j=some b∧(b=some want→(∃x H',qf0 P G fr H o.op x H'∧wpL P G ops os (put o.dst x fr) H' K)∨(∃ch,qs7 P G fr H o.op ch∧K (.panic ch) fr ⟨H.n, []⟩))∧(b≠some want→wpL P G ops os (put o.dst (.tup []) fr) H K)
theorem RV.nothing:RV w S β n (.tup []) Go.undef:= .tup [] #[] rfl (by simp)
theorem qhb {ops:Array Oper} {fr:Fr} {a:Act} {j:Nat} {b:Option Bool} (hf:FRx D w S β n N fr a) (h:Q5 ops fr j=some b):yielded ops a.tmps j=b:=by
 unfold Q5 at h
 unfold yielded
 split at h
 ·rename_i t ht
  rw [ht]
  simp only [Bt]
  have h1:=hf.val t
  split at h
  ·rename_i b' hb
   simp only [Ab] at h;subst h
   rw [hb] at h1
   generalize hv:a.tmps.getD t Go.undef=v at h1
   cases h1
   have hlt:t < a.tmps.size:=by
    rcases Br t a.tmps.size with h | h
    ·exact h
    rw [Ag,BN h] at hv
    cases hv
   rw [Kd hlt,hv]
  ·rename_i hb
   simp only [Ab] at h;subst h
   rw [hb] at h1
   generalize hv:a.tmps.getD t Go.undef=v at h1
   cases h1
   rcases Br t a.tmps.size with hlt | hlt
   ·rw [Kd hlt,hv]
   rw [BN hlt]
  cases h
 cases h
theorem qxt {ops:Array Oper} {Q:Exit→Act→World→Prop}:∀(os:List Oper) (fr:Fr) (H:Hp) (K:Exit→Fr→Hp→Prop) (a:Act) (w:World) (S:Nat→Prop) (β:Nat→Nat),os.all (fun o=>o.dst.all (· < N))=true→wpL P G ops os fr H K→HR G w S F β H→FRx D w S β H.n N fr a→
 (∀e fr' H' a' w' S' β',K e fr' H'→Ext w S F β H.n w' S' β' H'.n→HR G w' S' F β' H'→FRx D w' S' β' H'.n N fr' a'→Q e a' w')→wpList P ops Q os a w
 | [],fr,H,K,a,w,S,β,_,h,hH,hf,hq=>hq .normal fr H a w S β h (.refl ..) hH hf
 | o ::os,fr,H,K,a,w,S,β,hd,h,hH,hf,hq=>by
   simp only [List.all_cons,An] at hd
   have go:∀(x:AV) (H':Hp),qf0 P G fr H o.op x H'→wpL P G ops os (put o.dst x fr) H' K→o.wp P a w (wpList P ops Q os) Q:=fun x H' hs hrest=>
    qnv hH hf hs hd.1 (fun a' w' S' β' hx hH' hf'=>qxt os _ H' K a' w' S' β' hd.2 hrest hH' hf' (fun e fr' H2 a2 w2 S2 β2 hk hx2 hH2 hf2=>hq e fr' H2 a2 w2 S2 β2 hk (hx.trans hx2) hH2 hf2))
   have fail:∀ch,qs7 P G fr H o.op ch→K (.panic ch) fr ⟨H.n, []⟩→o.wp P a w (wpList P ops Q os) Q:=fun ch hs hk=>
    q1t hH hf hs (fun w' S' β' hx hH' hf'=>hq _ fr ⟨H.n, []⟩ a w' S' β' hk hx hH' hf')
   have skip:wpL P G ops os (put o.dst (.tup []) fr) H K→wpList P ops Q os (a.put o.dst Go.undef) w:=fun hrest=>
    qxt os _ H K _ w S β hd.2 hrest hH (hf.put hd.1 RV.nothing) hq
   unfold wpL at h
   unfold wpList
   split at h
   ·rename_i hg
    rw [if_pos (by simp [Region.wanted,hg])]
    rcases h with ⟨x,H',hs,hrest⟩ | ⟨ch,hs,hk⟩
    ·exact .inl (go x H' hs hrest)
    exact .inl (fail ch hs hk)
   rename_i j want hg
   obtain ⟨b,hb,hy,hn⟩:=h
   have hyb:=qhb hf hb
   by_cases hbw:b=some want
   ·rw [if_pos (by simp [Region.wanted,hg,hyb,hbw])]
    rcases hy hbw with ⟨x,H',hs,hrest⟩ | ⟨ch,hs,hk⟩
    ·exact .inl (go x H' hs hrest)
    exact .inl (fail ch hs hk)
   rw [if_neg (by simp [Region.wanted,hg,hyb,hbw])]
   exact skip (hn hbw)
theorem Ext.lower {w':World} {S':Nat→Prop} {β':Nat→Nat} {n':Nat} (h:Ext w S F β n w' S' β' n') (hp:p≤n):Ext w S F β p w' S' β' p:=
 ⟨h.os,h.tape,h.output,h.size,Aj _,fun s hs=>h.beta s (AU hs hp),h.sub,h.new,h.same,h.fsame,h.shape⟩
def AWp (P:Program) (G:Nat→List AV) (N p:Nat) (c:Code) (Q:Exit→Fr→Hp→Prop) (fr:Fr) (H:Hp):Prop:=
 ∀D w S F β a,p≤H.n→HR G w S F β H→FRx D w S β H.n N fr a→c.wp P (fun e a' w'=>∃fr' H' S' β',Q e fr' H'∧Ext w S F β p w' S' β' p∧p≤H'.n∧HR G w' S' F β' H'∧FRx D w' S' β' H'.n N fr' a') a w
section
variable {Q:Exit→Fr→Hp→Prop} {fr:Fr} {H:Hp}
theorem AWp.mono {c:Code} {Q':Exit→Fr→Hp→Prop} (h:AWp P G N p c Q fr H) (hq:∀e fr H,Q e fr H→Q' e fr H):AWp P G N p c Q' fr H:=
 fun D w S F β a hp hH hf=>wp_mono (h D w S F β a hp hH hf) (fun _ _ _ ⟨fr',H',S',β',q,r⟩=>⟨fr',H',S',β',hq _ _ _ q,r⟩)
theorem qxm (h:Q .normal fr H):AWp P G N p .skip Q fr H:=fun D w S F β a hp hH hf=>wp_skip ⟨fr,H,S,β,h, .refl ..,hp,hH,hf⟩
theorem q1c (h:Q .ret fr H):AWp P G N p .ret Q fr H:=fun D w S F β a hp hH hf=>wp_ret ⟨fr,H,S,β,h, .refl ..,hp,hH,hf⟩
theorem qxn {id:Nat} (h:Q (.exit id) fr H):AWp P G N p (.exit id) Q fr H:=fun D w S F β a hp hH hf=>wp_exit ⟨fr,H,S,β,h, .refl ..,hp,hH,hf⟩
def Wq (next:Fr→Hp→Prop) (Q:Exit→Fr→Hp→Prop):Exit→Fr→Hp→Prop
 | .normal,fr,H=>next fr H
 | e,fr,H=>Q e fr H
def Wr (id:Nat) (Q:Exit→Fr→Hp→Prop):Exit→Fr→Hp→Prop
 | .exit id',fr,H=>if id'=id then Q .normal fr H else Q (.exit id') fr H
 | e,fr,H=>Q e fr H
theorem qu2 {x y:Code} (h:AWp P G N p x (Wq (AWp P G N p y Q) Q) fr H):AWp P G N p (.seq x y) Q fr H:=by
 intro D w S F β a hp hH hf
 refine wp_seq (wp_mono (h D w S F β a hp hH hf) ?_)
 rintro e a' w' ⟨fr',H',S',β',q,hx,hp',hH',hf'⟩
 cases e with
 | normal=>
   refine wp_mono (q D w' S' F β' a' hp' hH' hf') ?_
   rintro e a2 w2 ⟨fr2,H2,S2,β2,q2,hx2,r⟩
   exact ⟨fr2,H2,S2,β2,q2,hx.trans hx2,r⟩
 | _=>exact ⟨fr',H',S',β',q,hx,hp',hH',hf'⟩
theorem qlw {c:Operand} {x y:Code} {t:Bool} (hc:ev G fr c= .bool t) (ht:t=true→AWp P G N p x Q fr H) (hn:t=false→AWp P G N p y Q fr H):AWp P G N p (.cond c x y) Q fr H:=by
 intro D w S F β a hp hH hf
 have h1:=qja (G:=G) hH hf c
 rw [hc] at h1
 generalize hv:a.eval c=v at h1
 cases h1
 exact wp_cond_split hv (fun h=>ht h D w S F β a hp hH hf) (fun h=>hn h D w S F β a hp hH hf)
theorem qs8 {id:Nat} {c:Code} (h:AWp P G N p c (Wr id Q) fr H):AWp P G N p (.block id c) Q fr H:=by
 intro D w S F β a hp hH hf
 refine wp_block (wp_mono (h D w S F β a hp hH hf) ?_)
 rintro e a' w' ⟨fr',H',S',β',q,r⟩
 cases e with
 | exit id'=>
   by_cases hid:id'=id
   ·simp only [Wr,hid,if_true] at q
    simp only [Exit.inBlock,hid,if_true]
    exact ⟨fr',H',S',β',q,r⟩
   simp only [Wr,hid,if_false] at q
   simp only [Exit.inBlock,hid,if_false]
   exact ⟨fr',H',S',β',q,r⟩
 | _=>exact ⟨fr',H',S',β',q,r⟩
theorem q59 {c:Code} (I:Nat→Fr→Hp→Prop) (m:Nat) (h0:I m fr H) (round:∀m fr H,I m fr H→AWp P G N p c (Wq (fun fr' H'=>∃m',m' < m∧I m' fr' H') Q) fr H):AWp P G N p (.loop c) Q fr H:=by
 intro D w S F β a hp hH hf
 let J:Act→World→Prop:=fun a' w'=>∃m' fr' H' S' β',I m' fr' H'∧Ext w S F β p w' S' β' p∧p≤H'.n∧HR G w' S' F β' H'∧FRx D w' S' β' H'.n N fr' a'
 have key:∀(m:Nat) (fr':Fr) (H':Hp) (S':Nat→Prop) (β':Nat→Nat) (a':Act) (w':World),I m fr' H'→Ext w S F β p w' S' β' p→p≤H'.n→HR G w' S' F β' H'→FRx D w' S' β' H'.n N fr' a'→∀(b:Frame) (k:List Item) (cs:List Frame),
  ∃e a2 w2,(∃fr2 H2 S2 β2,Q e fr2 H2∧Ext w S F β p w2 S2 β2 p∧p≤H2.n∧HR G w2 S2 F β2 H2∧FRx D w2 S2 β2 H2.n N fr2 a2)∧Arrives P (lone (b.at a' (.code c:: .inLoop c::k)) cs w') b k cs e a2 w2:=by
  intro m
  induction m using Nat.strongRecOn with
  | _ m ih=>
    intro fr' H' S' β' a' w' hI hx hp' hH' hf' b k cs
    obtain ⟨e,a1,w1,⟨fr1,H1,S1,β1,q,hx1,hp1,hH1,hf1⟩,harr⟩:=round m fr' H' hI D w' S' F β' a' hp' hH' hf' b (.inLoop c::k) cs
    cases e with
    | normal=>
      obtain ⟨m',hlt,hI'⟩:=q
      obtain ⟨e2,a2,w2,hq2,harr2⟩:=ih m' hlt fr1 H1 S1 β1 a1 w1 hI' (hx.trans hx1) hp1 hH1 hf1 b k cs
      exact ⟨e2,a2,w2,hq2, .of_steps (Steps.trans harr (.one step_inLoop)) harr2⟩
    | exit id=>exact ⟨_,a1,w1,⟨fr1,H1,S1,β1,q,hx.trans hx1,hp1,hH1,hf1⟩, .pass (x:= .inLoop c) rfl (fun _ _=> .inl (by simp)) harr⟩
    | goto l=>exact ⟨_,a1,w1,⟨fr1,H1,S1,β1,q,hx.trans hx1,hp1,hH1,hf1⟩, .pass (x:= .inLoop c) rfl (fun _ _=> .inl (by simp)) harr⟩
    | ret=>exact ⟨_,a1,w1,⟨fr1,H1,S1,β1,q,hx.trans hx1,hp1,hH1,hf1⟩, .pass (x:= .inLoop c) rfl (fun _ _=> .inl (by simp)) harr⟩
    | panic ch=>exact ⟨_,a1,w1,⟨fr1,H1,S1,β1,q,hx.trans hx1,hp1,hH1,hf1⟩, .pass (x:= .inLoop c) rfl (fun _ _=> .inl (by simp)) harr⟩
    | outgrown=>exact ⟨_,a1,w1,⟨fr1,H1,S1,β1,q,hx.trans hx1,hp1,hH1,hf1⟩, .pass (x:= .inLoop c) rfl (fun _ _=> .inl (by simp)) harr⟩
 intro b k cs
 obtain ⟨e,a',w',hq,harr⟩:=key m fr H S β a w h0 (.refl ..) hp hH hf b k cs
 exact ⟨e,a',w',hq, .of_steps (.one step_loop) harr⟩
theorem qy7 {id:Nat} {ops:List Oper} (hd:ops.all (fun o=>o.dst.all (· < N))=true) (h:wpL P G ops.toArray ops fr H Q):AWp P G N p (.region id ops.toArray false) Q fr H:=
 fun D w S F β a hp hH hf=>wp_region_lit (qxt ops fr H _ a w S β hd h hH hf (fun e fr' H' a' w' S' β' q hx hH' hf'=>⟨fr',H',S',β',q,hx.lower hp,BD hp hx.le,hH',hf'⟩))
end
def qas (xs:List AV):Fr:=fun t=>xs.getD t .undef
def qkq (P:Program) (fr:Fr) (H:Hp):ResultVar→Option AV
 | .tmp t=>some (fr t)
 | .cell t ty=>match Js H (fr t) with
   | some cs=>qjp P ty cs
   | none=>none
def Zm (P:Program) (rs:List ResultVar) (fr:Fr) (H:Hp):Option AV:=
 match rs.mapM (qkq P fr H) with
 | some [x]=>some x
 | some xs=>some (.tup xs)
 | none=>none
def qya (tmps:Array Value):ResultVar→Sem Value
 | .tmp t=>pure (tmps.getD t Go.undef)
 | .cell t ty=>do loadVar ty (←asAddr (tmps.getD t Go.undef))
theorem qx7 (fn:Func) (tmps:Array Value):results fn tmps=(do
 let vs ←fn.results.mapM (qya tmps)
 pure (if h:vs.size=1 then vs[0] else .tuple vs)):=by
 unfold results
 congr 1
theorem q8s {H:Hp} {fr:Fr} {a:Act} {r:ResultVar} {x:AV} (hH:HR G w S F β H) (hf:FRx D w S β H.n N fr a) (h:qkq P fr H r=some x):
 ∃v,(qya a.tmps r).run P w= .ok v w∧RV w S β H.n x v:=by
 cases r with
 | tmp t=>simp only [qkq,Ab] at h;subst h;exact ⟨_,rfl,hf.val t⟩
 | cell t ty=>
   simp only [qkq] at h
   split at h
   ·rename_i cs hcs
    have hp:=qj4 hH (hf.val t) hcs
    obtain ⟨v,hrun,hR⟩:=qse (P:=P) hp h
    obtain ⟨b,o,hbo,_⟩:=hp
    refine ⟨v,?_,hR⟩
    rw [hbo] at hrun
    show (do loadVar ty (←asAddr (a.tmps.getD t Go.undef)):Sem Value).run P w=_
    rw [hbo]
    simpa [Instr.loadAt,Instr.sureAddr,asAddr] using hrun
   cases h
theorem qz1 {H:Hp} {fr:Fr} {a:Act} (hH:HR G w S F β H) (hf:FRx D w S β H.n N fr a):∀(rs:List ResultVar) (xs:List AV),rs.mapM (qkq P fr H)=some xs→
 ∃vs:List Value,(rs.mapM (qya a.tmps)).run P w= .ok vs w∧vs.length=xs.length∧∀(i:Nat) (x:AV),xs[i]? =some x→RV w S β H.n x ((vs[i]?).getD Go.undef)
 | [],xs,h=>by
   simp at h;subst h
   exact ⟨[],rfl,rfl,by simp⟩
 | r::rs,xs,h=>by
   simp only [List.mapM_cons,Option.bind_eq_bind,Option.pure_def,Option.bind_eq_some_iff,Ab] at h
   obtain ⟨x,hx,ys,hys,rfl⟩:=h
   obtain ⟨v,hv,hR⟩:=q8s (P:=P) hH hf hx
   obtain ⟨vs,hvs,hl,hRs⟩:=qz1 hH hf rs ys hys
   refine ⟨v::vs,?_,by simp [hl],fun i y hi=> ?_⟩
   ·simp only [List.mapM_cons,Sem.run_bind,hv,Result.andThen_ok,hvs,Sem.run_pure]
   cases i with
   | zero=>simp at hi;subst hi;simpa using hR
   | succ i=>simpa using hRs i y (by simpa using hi)
theorem qjn {H:Hp} {fr:Fr} {a:Act} {fn:Func} {x:AV} (hH:HR G w S F β H) (hf:FRx D w S β H.n N fr a) (h:Zm P fn.results.toList fr H=some x):
 ∃v,(results fn a.tmps).run P w= .ok v w∧RV w S β H.n x v:=by
 unfold Zm at h
 have hm:∀xs,fn.results.toList.mapM (qkq P fr H)=some xs→∃vs:Array Value,vs.size=xs.length∧(results fn a.tmps).run P w= .ok (if h:vs.size=1 then vs[0] else .tuple vs) w∧∀(i:Nat) (x:AV),xs[i]? =some x→RV w S β H.n x (vs.getD i Go.undef):=by
  intro xs hxs
  obtain ⟨vs,hvs,hl,hRs⟩:=qz1 (P:=P) hH hf _ xs hxs
  refine ⟨vs.toArray,by simpa using hl,?_,fun i x hi=>by rw [qar];exact hRs i x hi⟩
  rw [qx7]
  simp only [Array.mapM_eq_mapM_toList,Sem.run_bind,Sem.run_map]
  rw [hvs]
  simp only [Result.andThen_ok,Sem.run_pure]
 split at h
 ·rename_i y hy
  simp only [Ab] at h;subst h
  obtain ⟨vs,hs,hrun,hR⟩:=hm _ hy
  have hs1:vs.size=1:=by simpa using hs
  refine ⟨vs[0],by rw [hrun,dif_pos hs1],?_⟩
  have:=hR 0 y rfl
  rwa [Ag,AP (by omega),Bo] at this
 ·rename_i xs hne hxs
  simp only [Ab] at h;subst h
  obtain ⟨vs,hs,hrun,hR⟩:=hm _ hxs
  have hs1:¬vs.size=1:=by
   intro e
   rw [e] at hs
   match xs,hs with
   | [y],_=>exact hne y rfl
  exact ⟨.tuple vs,by rw [hrun,dif_neg hs1], .tup _ _ hs hR⟩
 cases h
def Ret (P:Program) (rs:List ResultVar) (R:AV→Hp→Prop):Exit→Fr→Hp→Prop
 | .normal,fr,H | .ret,fr,H=>∃x,Zm P rs fr H=some x∧R x H
 | _,_,_=>False
theorem qlb {xs:List AV} {vs:Array Value} (hv:RVs w S β n xs vs) (hN:xs.length≤N):FRx [] w S β n N (qas xs) {tmps:=vs++Array.replicate (N - vs.size) Go.undef,defers:= []}:=by
 refine ⟨by have:=hv.1;simp;omega,rfl,fun t=> ?_⟩
 simp only [qas]
 rw [Ax]
 cases ht:xs[t]? with
 | none=>exact .undef _
 | some x=>
   have hlt:=(Ah.1 ht).1
   have:=hv.2 t x ht
   rw [Ag,Array.getElem?_append_left (by rw [hv.1];exact hlt),←Ag]
   exact this
end Go.Proofs.YtpnkemogepoioaaGreatDoorW.Ex
