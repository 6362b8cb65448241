/- A symbolic executor for the machine's code, part W: slices that the call makes: append, loops whose first round differs, and slices of the call's own that are handed on or returned. General over the program; no conditions beside those in each theorem. -/
import Derived.Test.YtpnkemogepoioaaGreatDoorExU
namespace Go.Proofs.YtpnkemogepoioaaGreatDoorW.Ex
set_option linter.all false
open Go
variable {D:List Deferred}
variable {G:Nat→List AV} {P:Program} {N p:Nat}
section
variable {T:TT} {Q:Exit→Fr→Hp→Prop} {k:List Item} {kn:List Nat} {fr:FT} {n:Nat} {objs:Objs} {α:Type}
variable {d:Bool} {all:Array Oper} {os:List Oper} {u:Tmp} {ty:TypeId} {pos:String} {aft:Array Edge}
theorem qqi {a b:Operand} {t t1:TypeId} {st:Array Oper} {fr:Fr} {objs:Objs} (h:d=false∨qap a=false):d=true→qch G st fr objs (.call ⟨.builtin .append, #[a,b], #[t,t1]⟩)=true:=by
 intro e
 rcases h with h | h
 ·rw [e] at h;cases h
 simp only [qch,qpp]
 show (!qap a)=true
 rw [h];rfl
theorem qgq {a b:Operand} {t t1 e:TypeId} {sz by_ id s0 len:Nat} {f2:Bool} {news:List (List AV)} {cs z:List AV} {it ie:TI} (E:Env P T)
 (ha:ev G (frT fr) a= .bs sz id s0 0 len) (hb:ev G (frT fr) b= .sl sz f2 news) (ht:T.get t=some it) (he:it.elem=some (e,sz)) (hie:T.get e=some ie) (hz:ie.zero=some z) (hzl:z.length=sz) (h0:0 < sz)
 (hby:qdv P e=some by_) (hn:qcj P t1=true) (ho:objs[id]? =some (s0, .row e cs)) (hcs:cs.length=len*sz) (hr:(len+news.length)*by_≤140737488355328) (hmx:len+news.length≤9223372036854775807)
 (hc:Ok P G T N p Q (.go [(u, .bs sz id n 0 (len+news.length))] (.ops d all os::k) (unkn (some u) kn) fr (n+1) (objs.set id (n, .row e (cs++news.flatten))))) (hcp:d=false∨qap a=false:=by first | exact .inl rfl | exact .inr rfl) (hpos:0 < len+news.length:=by first | omega | (simp only [Ae];omega)):
 Ok P G T N p Q (.gen ⟨some u, .call ⟨.builtin .append, #[a,b], #[t,t1]⟩,ty,pos,aft,none⟩ d all os k kn fr n objs):=by
 refine qdy (qqi hcp) ?_ hc
 simp only [evalOp,Jx,v6,AX,BU,ha,hb,qau,(ti E.hT ht).elem _ he,hby,(ti E.hT hie).zero _ hz]
 rw [if_pos ⟨h0,hzl,hn⟩]
 simp only [wx,true_or,if_true,ho]
 rw [if_pos ⟨trivial,trivial,by omega,hpos,hmx,hr⟩]
 rw [Bi (by omega)]
end
theorem qfb {sz:Nat}:∀(l:List (List AV)),(∀c∈l,c.length=sz)→∀(j:Nat) (c:List AV) (i:Nat) (x:AV),l[j]? =some c→c[i]? =some x→l.flatten[j*sz+i]? =some x
 | [],_,j,c,i,x,h,_=>by simp at h
 | b::l,hl,0,c,i,x,h,hx=>by
   simp only [Aq,Ab] at h
   subst h
   have hi:=(Ah.1 hx).1
   rw [Bf,Nat.zero_mul,AN,Bx hi]
   exact hx
 | b::l,hl,j+1,c,i,x,h,hx=>by
   have hb:=hl b (AK ..)
   rw [Bf,Bu (by rw [hb,Bn];omega),hb,show (j+1)*sz+i - sz=j*sz+i by rw [Bn];omega]
   exact qfb l (fun c hc=>hl c (Ay _ hc)) j c i x (by simpa using h) hx
def W7 (objs:Objs) (x y:AV):Prop:=match x with
 | .bs sz id s off len=>(match y with
   | .sl sz' full l=>sz'=sz∧full=false∧0 < sz∧∃e cs,objs[id]? =some (s, .row e cs)∧len=l.length∧(∀c∈l,c.length=sz)∧(cs.drop off).take (len*sz)=l.flatten∧(∀c∈l,∀z∈c,z.one=true∧z.closed=true)
   | _=>False)
 | x=>wk1 x y
def qol (objs:Objs):List AV→List AV→Prop
 | [], []=>True
 | x::xs,y::ys=>W7 objs x y∧qol objs xs ys
 | _,_=>False
def view (objs:Objs) (x y:AV):Prop:=match y with
 | .agg ds=>(match x with | .agg cs=>qol objs cs ds | _=>False)
 | y=>W7 objs x y
def qjh (objs:Objs):List AV→List AV→Prop
 | [], []=>True
 | x::xs,y::ys=>view objs x y∧qjh objs xs ys
 | _,_=>False
def qr0 (objs:Objs) (x y:AV):Prop:=match y with
 | .tup ds=>(match x with | .tup cs=>qjh objs cs ds | _=>False)
 | y=>view objs x y
def Jc (S:Nat→Prop) (β:Nat→Nat) (objs:Objs) (k:Nat):Prop:=S k∨∃(i s:Nat) (o:Obj),objs[i]? =some (s,o)∧o.live=true∧β s=k
section
variable {w:World} {S F:Nat→Prop} {β:Nat→Nat} {n:Nat} {objs:Objs}
theorem qhe (hH:HR G w S F β ⟨n,objs⟩):∀k,Jc S β objs k→k < w.heap.size:=by
 rintro k (h | ⟨i,s,o,hi,hl,rfl⟩)
 ·exact hH.lts k h
 exact (hH.obj i s o hi).lt hl
theorem qtm {x:AV} {v:Value} (hv:RV w S β n x v):RV w (Jc S β objs) β n x v:=hv.to (Aj _) (fun _ _=>rfl) (fun _ h=>Or.inl h) (fun _ _=>rfl) (fun _ _ _ h=>h)
theorem qp2 (hH:HR G w S F β ⟨n,objs⟩) (m:Nat):Ext w S F β m w (Jc S β objs) β m:=by
 refine ⟨rfl,rfl,rfl,Aj _,Aj _,fun _ _=>rfl,fun _ h=>Or.inl h,?_,fun _ _=>rfl,fun _ _=>rfl,fun _ _ h=>h⟩
 rintro k (h | ⟨i,s,o,hi,hl,rfl⟩)
 ·exact .inl h
 exact .inr ((hH.obj i s o hi).notS hl).2
theorem qkh (hH:HR G w S F β ⟨n,objs⟩) {x y:AV} {v:Value} (h:W7 objs x y) (hv:RV w S β n x v):RV w (Jc S β objs) β n y v:=by
 unfold W7 at h
 split at h
 ·rename_i sz id s off len
  split at h
  ·rename_i sz' full l
   obtain ⟨rfl,rfl,hs0,e,cs,ho,hlen,hsz,hfl,hcl⟩:=h
   cases hv with
   | bs0 _ _ _ _ A hs=>
     have:l= []:=AZ.1 hlen.symm
     subst this
     exact .sl sz' false [] A 0 (fun _ _=>Go.undef) (Aj _) (by omega) (fun h=>by cases h) (fun h=>absurd rfl h) (fun h=>absurd rfl h) (fun _ _ _ h=>absurd rfl h) (by simp) (by simp) (by simp) (by simp) (fun h=>by cases h)
   | bs _ _ _ _ _ cap m' e' hs hsh hn hl hm h0=>
     subst hlen
     have hne:cs≠ []:=by
      intro e;subst e
      obtain ⟨c0,hc0⟩:∃c0,l[0]? =some c0:=⟨l[0],Ak h0⟩
      have:=hsz c0 (Af hc0)
      have h2:=qfb l hsz 0 c0 0 c0[0] hc0 (Ak (by omega))
      rw [←hfl] at h2
      simp at h2
     obtain ⟨c,hc,hcl2,hnS,hnF,hcells⟩:=hH.obj id s _ ho hne
     have at':∀(j:Nat) (c':List AV) (i:Nat) (x:AV),l[j]? =some c'→c'[i]? =some x→cs[off+(j*sz'+i)]? =some x:=by
      intro j c' i x hj hi
      have h1:=qfb l hsz j c' i x hj hi
      rw [←hfl,Bl] at h1
      split at h1
      ·rwa [Bg] at h1
      cases h1
     refine .sl sz' false l (some ⟨β s,off,none⟩) cap (fun j i=>c.getD (off+(j*sz'+i)) Go.undef) hl hm (by simp) (fun _ a ha=>by cases ha;rfl) (fun _=>rfl) (fun b o hb _=> ?_) hsz (fun c' hc' x hx=>(hcl c' hc' x hx).1) (fun b o hb j c' i x hj hi=> ?_) (fun j c' i x hj hi=> ?_) (fun h=>by cases h)
     ·simp only [Ab,Addr.mk.injEq] at hb
      exact AM ⟨id,s,_,ho,qb1 hne,hb.1⟩
     ·simp only [Ab,Addr.mk.injEq] at hb
      obtain ⟨rfl,rfl,_⟩:=hb
      have hx:=at' j c' i x hj hi
      have hlt:=(Ah.1 hx).1
      simp only [World.cell?,hc]
      exact Kd (by omega)
     have hx:=at' j c' i x hj hi
     exact ((hcells _ x hx).2.pure (j9 x (hcl c' (Af hj) x (Af hi)).2)).to (Aj 0) (fun _ _=>rfl) (fun _ h=>Or.inl h) (fun _ _=>rfl) (fun _ _ _ h=>h)
  exact h.elim
 exact ql1 h (qtm hv)
theorem q1j {x y:AV} (h:W7 objs x y):y.one=x.one:=by
 unfold W7 at h
 split at h
 ·split at h
  ·rfl
  exact h.elim
 exact qij h
theorem qr1:∀(cs ds:List AV),qol objs cs ds→cs.length=ds.length∧∀(i:Nat) (y:AV),ds[i]? =some y→∃x,cs[i]? =some x∧W7 objs x y
 | [], [],_=>⟨rfl,by simp⟩
 | [],_::_,h=>h.elim
 | _::_, [],h=>h.elim
 | x::xs,y::ys,h=>by
   obtain ⟨h1,h2⟩:=qr1 xs ys h.2
   refine ⟨by simp [h1],fun i z hi=> ?_⟩
   cases i with
   | zero=>simp at hi;subst hi;exact ⟨x,rfl,h.1⟩
   | succ i=>simpa using h2 i z (by simpa using hi)
theorem qze (hH:HR G w S F β ⟨n,objs⟩) {x y:AV} {v:Value} (h:view objs x y) (hv:RV w S β n x v):RV w (Jc S β objs) β n y v:=by
 unfold view at h
 split at h
 ·split at h
  ·rename_i ds _ cs
   obtain ⟨hl,hg⟩:=qr1 cs ds h
   cases hv with
   | agg _ vs hs h1 hr=>
     refine .agg ds vs (by rw [hs,hl]) (fun z hz=> ?_) (fun i z hi=> ?_)
     ·obtain ⟨i,hi⟩:=AB hz
      obtain ⟨x,hx,hw⟩:=hg i z hi
      rw [q1j hw];exact h1 x (Af hx)
     obtain ⟨x,hx,hw⟩:=hg i z hi
     exact qkh hH hw (hr i x hx)
  exact h.elim
 exact qkh hH h hv
theorem qok:∀(cs ds:List AV),qjh objs cs ds→cs.length=ds.length∧∀(i:Nat) (y:AV),ds[i]? =some y→∃x,cs[i]? =some x∧view objs x y
 | [], [],_=>⟨rfl,by simp⟩
 | [],_::_,h=>h.elim
 | _::_, [],h=>h.elim
 | x::xs,y::ys,h=>by
   obtain ⟨h1,h2⟩:=qok xs ys h.2
   refine ⟨by simp [h1],fun i z hi=> ?_⟩
   cases i with
   | zero=>simp at hi;subst hi;exact ⟨x,rfl,h.1⟩
   | succ i=>simpa using h2 i z (by simpa using hi)
theorem q3b (hH:HR G w S F β ⟨n,objs⟩) {x y:AV} {v:Value} (h:qr0 objs x y) (hv:RV w S β n x v):RV w (Jc S β objs) β n y v:=by
 unfold qr0 at h
 split at h
 ·split at h
  ·rename_i ds _ cs
   obtain ⟨hl,hg⟩:=qok cs ds h
   cases hv with
   | tup _ vs hs hr=>
     refine .tup ds vs (by rw [hs,hl]) (fun i z hi=> ?_)
     obtain ⟨x,hx,hw⟩:=hg i z hi
     exact qze hH hw (hr i x hx)
  exact h.elim
 exact qze hH h hv
end
theorem Z6 {n:Nat} {objs:Objs} {y x:AV} (h:qr0 objs y x):Told P G ⟨n,objs⟩ y x:=by
 unfold Told
 exact fun w S F β v hH hv=>⟨Jc S β objs,qp2 hH 0,qhe hH,q3b hH h hv⟩
section
variable {T:TT} {Q:Exit→Fr→Hp→Prop} {k:List Item} {kn:List Nat} {fr:FT} {n:Nat} {objs:Objs} {all:Array Oper} {os:List Oper} {u:Tmp}
end
end Go.Proofs.YtpnkemogepoioaaGreatDoorW.Ex
