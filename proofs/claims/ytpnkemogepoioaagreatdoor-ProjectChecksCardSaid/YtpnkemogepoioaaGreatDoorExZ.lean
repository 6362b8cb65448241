/- A symbolic executor for the machine's code: functions that defer a call. General over the program; no conditions beside those in each theorem. -/
import Derived.Test.YtpnkemogepoioaaGreatDoorExX
import Derived.Defers
import Derived.Recover
namespace Go.Proofs.YtpnkemogepoioaaGreatDoorW.Ex
set_option linter.all false
open Go
variable {D:List Deferred}
variable {P:Program} {G:Nat→List AV} {T:TT} {N p:Nat} {w:World} {S F:Nat→Prop} {β:Nat→Nat} {n:Nat}
theorem qqt {x y:Code} {R:Exit→Act→World→Prop} {K:Fr→Hp→Prop} {Q:Exit→Fr→Hp→Prop} {fr:Fr} {H:Hp} {a:Act}
 (h:AWp P G N p x (qap K Q) fr H) (hp:p≤H.n) (hH:HR G w S F β H) (hf:FRx D w S β H.n N fr a)
 (hn:∀fr' H' w' S' β' a',K fr' H'→Ext w S F β p w' S' β' p→p≤H'.n→HR G w' S' F β' H'→FRx D w' S' β' H'.n N fr' a'→y.wp P R a' w')
 (he:∀e fr' H' w' S' β' a',e≠ .normal→Q e fr' H'→Ext w S F β p w' S' β' p→p≤H'.n→HR G w' S' F β' H'→FRx D w' S' β' H'.n N fr' a'→R e a' w'):(Code.seq x y).wp P R a w:=by
 refine wp_seq (wp_mono (h D w S F β a hp hH hf) ?_)
 rintro e a' w' ⟨fr',H',S',β',q,hx,hp',hH',hf'⟩
 cases e with
 | normal=>exact hn _ _ _ _ _ _ q hx hp' hH' hf'
 | _=>exact he _ _ _ _ _ _ _ (by simp) q hx hp' hH' hf'
theorem q9w {a:Nat→Value}:∀(ps:List (Nat × AV)) (g:Fr),(∀t,RV w S β n (g t) (a t))→(∀q∈ps,RV w S β n q.2 (a q.1))→∀t,RV w S β n (puts ps g t) (a t)
 | [],g,hg,_=>hg
 | (u,x)::ps,g,hg,hq=>q9w ps (put (some u) x g) (fun t=>by
     rw [u1]
     split
     ·rename_i e;rw [e];exact hq (u,x) (AX ..)
     exact hg t) (fun q hm=>hq q (AA _ hm))
theorem FRx.of (ps:List (Nat × AV)) {a:Act} (h1:a.tmps.size=N) (h2:a.defers=D) (hq:∀q∈ps,RV w S β n q.2 (a.tmps.getD q.1 Go.undef)):FRx D w S β n N (puts ps (frT .z)) a:=
 ⟨h1,h2,q9w ps _ (fun t=> .undef _) hq⟩
theorem FRx.some {fr:Fr} {a:Act} (h:FRx D w S β n N fr a) (ps:List (Nat × AV)) (hq:∀q∈ps,fr q.1=q.2):∀q∈ps,RV w S β n q.2 (a.tmps.getD q.1 Go.undef):=fun q hm=>by
 rw [←hq q hm];exact h.val _
theorem HR.hide {H:Hp} (h:HR G w S F β H):HR G w S (fun b=>F b∨∃(i s:Nat) (o:Obj),H.objs[i]? =some (s,o)∧o.live=true∧b=β s) β ⟨H.n, []⟩:=
 ⟨h.lts,fun k hk=>by
   rcases hk with hk | ⟨i,s,o,hi,hl,rfl⟩
   ·exact h.ltf k hk
   exact (h.obj i s o hi).lt hl,h.glob,by simp,by simp,by simp⟩
theorem HR.unhide {H:Hp} {w':World} {S':Nat→Prop} {β':Nat→Nat} (h:HR G w S F β H) (hx:Ext w S (fun b=>F b∨∃(i s:Nat) (o:Obj),H.objs[i]? =some (s,o)∧o.live=true∧b=β s) β H.n w' S' β' H.n) (hlt:∀k,S' k→k < w'.heap.size):
 Ext w S F β H.n w' S' β' H.n∧HR G w' S' F β' H:=by
 have hx0:Ext w S F β H.n w' S' β' H.n:=⟨hx.os,hx.tape,hx.output,hx.size,hx.le,hx.beta,hx.sub,fun k hk=>(hx.new k hk).imp id (fun h hF=>h (.inl hF)),hx.same,fun k hk=>hx.fsame k (.inl hk),hx.shape⟩
 refine ⟨hx0,hlt,fun k hk=>AU (h.ltf k hk) hx.size,fun g=>(h.glob g).ext hx0,h.ltn,fun i j si sj oi oj hi hj hne h1 h2=> ?_,fun i s o hi=> ?_⟩
 ·rw [hx.beta _ (h.ltn i si oi hi),hx.beta _ (h.ltn j sj oj hj)]
  exact h.inj i j si sj oi oj hi hj hne h1 h2
 rw [hx.beta _ (h.ltn i s o hi)]
 have ho:=h.obj i s o hi
 cases hl:o.live with
 | false=>
   cases o with
   | dead=>trivial
   | var t cs=>cases hl
   | row t cs=>exact OR.nil hl
   | froz t cs=>
     have hS:=ho
     obtain ⟨_,_,_,_,hS,_⟩:=hS
     exact ho.to (fun _ _=>RV.ext hx0) (hx.same _ hS) (fun h=>absurd hS h) (hx.sub _) (fun h=>h)
 | true=>
   have hF:F (β s)∨∃(i' s':Nat) (o':Obj),H.objs[i']? =some (s',o')∧o'.live=true∧β s=β s':= .inr ⟨i,s,o,hi,hl,rfl⟩
   exact ho.to (fun _ _=>RV.ext hx0) (hx.fsame _ hF) (fun hS hS'=>(hx.new _ hS').elim hS (fun h=>h hF)) (hx.sub _) (fun h=>h)
theorem qn4 {Q:Exit→Fr→Hp→Prop} {x:Code} {k:List Item} {ps:List (Nat × AV)} {kn:List Nat} {fr:FT} {objs:Objs} (hok:wd N (.code x::k)=true) (h:Ok P G T N p Q (.go ps (.code x::k) kn fr n objs)):
 AWp P G N p x (QK P G N p Q k) (puts ps (frT fr)) ⟨n,objs⟩:=by
 unfold Ok at h
 exact h hok
theorem q3g {Q:Exit→Fr→Hp→Prop} {fr:FT} {objs:Objs} {K0:Fr→Hp→Prop} (h:K0 (frT fr) ⟨n,objs⟩):Ok P G T N p (qap K0 Q) (.fin .normal [] fr n objs):=by
 unfold Ok
 intro _
 exact h
theorem qst {Q:Exit→Fr→Hp→Prop} {ch:List PanicEntry} {f:Fr} {H:Hp} (h:Q (.panic ch) f H):∀(k:List Item),(∀i∈k,match i with | .ops _ _ _=>False | _=>True)→QK P G N p Q k (.panic ch) f H
 | [],_=>h
 | .code c::k,hk=>qoi (by intro h;cases h) (qst h k (fun i hi=>hk i (AA _ hi)))
 | .blk id::k,hk=>qst h k (fun i hi=>hk i (AA _ hi))
 | .bar::k,hk=>qst h k (fun i hi=>hk i (AA _ hi))
 | .inl c::k,hk=>qoi (by intro h;cases h) (qst h k (fun i hi=>hk i (AA _ hi)))
 | .ops d a o::k,hk=>(hk _ (AX ..)).elim
theorem q44 {Q:Exit→Fr→Hp→Prop} {ch:List PanicEntry} {k:List Item} {kn:List Nat} {fr:FT} {objs:Objs} {all:Array Oper} {os:List Oper} {dst:Option Tmp} {f:FuncId} {xs:List AV}
 (h:FCalls P G f xs ⟨n,objs⟩ ch) (hQ:Q (.panic ch) (frT fr) ⟨n, []⟩) (hk:qlg k=true:=by exact rfl):Ok P G T N p Q (.call f xs dst false all os k kn fr n objs):=by
 unfold Ok
 exact fun _=> .inr (.inr ⟨ch,rfl,h,qst hQ k (qal k hk)⟩)
theorem qpe {K:Fr→Hp→Prop} {Q:Exit→Fr→Hp→Prop} {e:Exit} {fr:Fr} {H:Hp} (he:e≠ .normal) (h:qap K Q e fr H):Q e fr H:=by
 cases e <;> first | exact absurd rfl he | exact h
theorem AC.plain {f:FuncId} {xs:List AV} {x:AV} (h:ACalls P G f xs ⟨0, []⟩ x ⟨0, []⟩) (hxu:xs.all (AV.un 0)=true) (hyu:x.un 0=true):AC P G f xs 0 [] x 0 []:=
 ⟨h,ky,jd,kw,jd,rfl,rfl,hxu,hyu⟩
def q5o (n:Nat) (objs:Objs):OpR→Option (AV × Nat × Objs)
 | .no=>none
 | .val x=>some (x,n,objs)
 | .lst sz full l=>some (.sl sz full l,n,objs)
 | .push o=>some (.ptr objs.length n 0,n+1,objs++ [(n,o)])
 | .store id s o=>some (.undef,n,objs.set id (s,o))
def seqO {α:Type}:List Nat→(Nat→Option (List α))→Option (List α)
 | [],_=>some []
 | i::is,f=>match f i,seqO is f with
   | some l,some r=>some (l++r)
   | _,_=>none
def anyO (T:TT) (G:Nat→List AV) (ops:Array Oper) (leaf:FT→Nat→Objs→Option AV):Nat→Array Bool→FT→Nat→Objs→Option (List AV)
 | 0,listed,fr,n,objs=>match Region.ready .any ops listed with
   | []=>(leaf fr n objs).map fun z=> [z]
   | _=>none
 | m + 1,listed,fr,n,objs=>match Region.ready .any ops listed with
   | []=>(leaf fr n objs).map fun z=> [z]
   | is =>seqO is fun i=>match ops[i]? with
     | some o=>match o.guard,q5o n objs (opR T [] (ev G (frT fr)) objs o.op) with
       | none,some (x,n',objs')=>setD o.dst fr x fun fr'=>anyO T G ops leaf m (listed.setIfInBounds i true) fr' n' objs'
       | _,_=>none
     | none=>none
def anyS (T:TT) (G:Nat→List AV) (ops:Array Oper) (leaf:FT→Nat→Objs→Option AV):List (Nat × AV)→FT→Nat→Objs→Option (List AV)
 | [],fr,n,objs=>anyO T G ops leaf ops.size (Array.replicate ops.size false) fr n objs
 | (t,x)::ps,fr,n,objs=>FT.setK 10 fr t x fun fr=>anyS T G ops leaf ps fr n objs
theorem q11 {α:Type} {f:Nat→Option (List α)}:∀(is:List Nat) (L:List α),seqO is f=some L→∀i∈is,∃l,f i=some l∧∀z∈l,z∈L
 | [],_,_,i,hi=>by cases hi
 | j ::is,L,h,i,hi=>by
   simp only [seqO] at h
   split at h
   ·rename_i l r h1 h2
    simp only [Ac] at h;subst h
    rcases AQ.1 hi with rfl | hi
    ·exact ⟨l,h1,fun z hz=>B0 _ hz⟩
    obtain ⟨l',h3,h4⟩:=q11 is r h2 i hi
    exact ⟨l',h3,fun z hz=>List.mem_append_right _ (h4 z hz)⟩
   cases h
theorem q5n {fr:FT} {objs:Objs} {op:Op} {x:AV} {n':Nat} {objs':Objs} (hT:T.ok P fun t=>t) (h:q5o n objs (opR T [] (ev G (frT fr)) objs op)=some (x,n',objs')):evalOp P G (frT fr) ⟨n,objs⟩ op=some (x,⟨n',objs'⟩):=by
 have hop:=q6e (G:=G) hT (n:=n) (objs:=objs) (fr:=frT fr) (kn:= []) (op:=op)
 generalize opR T [] (ev G (frT fr)) objs op=r at h hop
 cases r <;> simp only [q5o,Ac,Al] at h
 ·cases h
 all_goals (obtain ⟨rfl,rfl,rfl⟩:=h;exact hop)
theorem q9e {ops:Array Oper} {leaf:FT→Nat→Objs→Option AV} {K:Fr→Hp→Prop} {Q:Exit→Act→World→Prop} {L0:List AV} (hT:T.ok P fun t=>t) (hd:ops.toList.all (fun o=>o.dst.all (· < N))=true)
 (hK:∀z∈L0,∀fr n objs,leaf fr n objs=some z→K (frT fr) ⟨n,objs⟩):
 ∀ (m:Nat) (listed:Array Bool) (fr:FT) (n:Nat) (objs:Objs) (L:List AV) (a:Act) (w:World) (S:Nat→Prop) (β:Nat→Nat),anyO T G ops leaf m listed fr n objs=some L→(∀z∈L,z∈L0)→HR G w S F β ⟨n,objs⟩→FRx D w S β n N (frT fr) a→
   (∀fr' H' a' w' S' β',K fr' H'→Ext w S F β n w' S' β' H'.n→HR G w' S' F β' H'→FRx D w' S' β' H'.n N fr' a'→Q .normal a' w')→wpAny P .any ops Q m listed a w:=by
 intro m
 induction m with
 | zero=>
   intro listed fr n objs L a w S β h hL hH hf hq
   simp only [anyO] at h
   split at h
   ·rename_i hr
    obtain ⟨z,hz,rfl⟩:=Am.1 h
    exact ⟨hr,hq _ _ a w S β (hK z (hL z (AW.2 rfl)) fr n objs hz) (.refl ..) hH hf⟩
   cases h
 | succ m ih=>
   intro listed fr n objs L a w S β h hL hH hf hq
   simp only [anyO] at h
   split at h
   ·rename_i hr
    obtain ⟨z,hz,rfl⟩:=Am.1 h
    refine ⟨fun _=>hq _ _ a w S β (hK z (hL z (AW.2 rfl)) fr n objs hz) (.refl ..) hH hf,fun i hi=> ?_⟩
    rw [hr] at hi;cases hi
   rename_i is hne
   refine ⟨fun hr=>absurd hr hne,fun i hi=> ?_⟩
   obtain ⟨l,hl,hsub⟩:=q11 _ L h i hi
   unfold wpOp
   cases ho:ops[i]? with
   | none=>rw [ho] at hl;cases hl
   | some o=>
     rw [ho] at hl
     simp only at hl ⊢
     split at hl
     ·rename_i x n' objs' hg hs
      obtain ⟨fr',hfr,hl⟩:=qib hl
      have hw:Region.wanted o (yielded ops a.tmps)=true:=by simp [Region.wanted,hg]
      rw [if_pos hw]
      have hev:=q5n (P:=P) hT hs
      refine .inl (qqe (H':=⟨n',objs'⟩) hH hf (qra hev) (As.1 hd o (by rw [Array.mem_toList_iff];exact Cf ho)) (fun a' w' S' β' hx hH' hf'=> ?_))
      rw [←hfr] at hf'
      exact ih _ fr' n' objs' l a' w' S' β' hl (fun z hz=>hL z (hsub z hz)) hH' hf' (fun fr2 H2 a2 w2 S2 β2 k2 hx2 hH2 hf2=>hq fr2 H2 a2 w2 S2 β2 k2 (hx.trans hx2) hH2 hf2)
     cases hl
theorem q23 {ops:Array Oper} {leaf:FT→Nat→Objs→Option AV} {objs:Objs} {L:List AV}:∀(ps:List (Nat × AV)) (fr:FT),anyS T G ops leaf ps fr n objs=some L→∃fr',frT fr'=puts ps (frT fr)∧anyO T G ops leaf ops.size (Array.replicate ops.size false) fr' n objs=some L
 | [],fr,h=>⟨fr,rfl,h⟩
 | (t,x)::ps,fr,h=>by
   simp only [anyS] at h
   obtain ⟨fr1,h1,h2⟩:=FT.setK_ok _ _ _ _ _ h
   obtain ⟨fr2,h3,h4⟩:=q23 ps fr1 h2
   exact ⟨fr2,by rw [h3,h1.put];rfl,h4⟩
theorem q9s {id:Nat} {l:List Oper} {leaf:FT→Nat→Objs→Option AV} {L:List AV} {Q:Exit→Fr→Hp→Prop} {ps:List (Nat × AV)} {objs:Objs} (E:Env P T) (hd:l.all (fun o=>o.dst.all (· < N))=true)
 (h:anyS T G l.toArray leaf ps .z n objs=some L) (hK:∀z∈L,∀fr n objs,leaf fr n objs=some z→Q .normal (frT fr) ⟨n,objs⟩):AWp P G N p (.region id l.toArray true) Q (puts ps (frT .z)) ⟨n,objs⟩:=by
 obtain ⟨fr',hfr,hO⟩:=q23 ps _ h
 rw [←hfr]
 intro D w S F β a hp hH hf
 refine wp_region_any E.hm ?_
 have hx:Ext w S F β n {w with drawn:=w.drawn+1} S β n:=⟨rfl,rfl,rfl,Ak _,Ak _,fun _ _=>rfl,fun _ h=>h,fun _ h=> .inl h,fun _ _=>rfl,fun _ _=>rfl,fun _ _ h=>h⟩
 have hH':HR G {w with drawn:=w.drawn+1} S F β ⟨n,objs⟩:=⟨hH.lts,hH.ltf,fun g=>(hH.glob g).ext hx,hH.ltn,hH.inj,fun i s o hi=>(hH.obj i s o hi).to (fun _ _=>RV.ext hx) rfl (fun h=>h) (fun h=>h) (fun h=>h)⟩
 exact q9e (K:=fun fr H=>Q .normal fr H) E.hT hd hK _ _ fr' n objs L a _ S β hO (fun z hz=>hz) hH' (hf.ext hx) (fun fr2 H2 a2 w2 S2 β2 k2 hx2 hH2 hf2=>⟨fr2,H2,S2,β2,k2,(hx.trans hx2).lower hp,BG hp hx2.le,hH2,hf2⟩)
theorem q4k {fr:Fr} {H:Hp} (ps:List (Nat × AV)) (hq:∀q∈ps,fr q.1=q.2):Less G N p fr H (puts ps (frT .z)) H:=by
 unfold Less
 exact fun D w S F β a hp hH hf=>⟨S,β, .refl ..,hp,hH,FRx.of ps hf.size hf.defers (hf.some ps hq)⟩
theorem zbj {Q:Exit→Fr→Hp→Prop} {c:Code} {k:List Item} {e:Exit} {fr:Fr} {H:Hp} (he:e≠ .normal) (h:QK P G N p Q (.code c::k) e fr H):QK P G N p Q k e fr H:=qpe he (show qap (AWp P G N p c (QK P G N p Q k)) (QK P G N p Q k) e fr H from h)
theorem qv3 {id u f:Nat} {cs:Array Operand} {ty1 ty2:TypeId} {p1 p2:String} {e1 e2:Array Edge} {R:Exit→Act→World→Prop} {a:Act} (hu:u < a.tmps.size)
 (h:R .normal ⟨a.tmps.setIfInBounds u (.func (.func f) #[] (cs.map a.eval)),{target:= .fn (.func f) (cs.map a.eval),args:= #[]}::a.defers⟩ w):
 (Code.region id #[⟨some u, .makeFunc (.func f) #[] cs,ty1,p1,e1,none⟩,⟨none, .defer ⟨.value (.tmp u), #[], #[]⟩,ty2,p2,e2,none⟩] false).wp P R a w:=by
 have hmf:∀(fn:Go.Fn) (first cap:Array Value) (w:World),(Instr.makeFunc fn first cap).run P w= .ok (.func fn first cap) w:=fun _ _ _ _=>rfl
 refine wp_region_lit (l:= [_,_]) ?_
 have he:(a.put (some u) (.func (.func f) #[] (cs.map a.eval))).eval (.tmp u)= .func (.func f) #[] (cs.map a.eval):=by
  simp [Act.put,Act.eval,hu]
 unfold wpList
 rw [if_pos (by simp [Region.wanted])]
 left
 unfold Oper.wp
 simp only [execOp,Sem.run_bind,Array.map_empty,hmf,Result.andThen_ok,Sem.run_pure,Oper.upon_value]
 unfold wpList
 rw [if_pos (by simp [Region.wanted])]
 left
 unfold Oper.wp
 simp only [execOp,resolve,he,Deferred.ofValue,Sem.run_bind,Sem.run_pure,Result.andThen_ok,Array.map_empty]
 simpa [Oper.upon,Act.put,wpList] using h
end Go.Proofs.YtpnkemogepoioaaGreatDoorW.Ex
