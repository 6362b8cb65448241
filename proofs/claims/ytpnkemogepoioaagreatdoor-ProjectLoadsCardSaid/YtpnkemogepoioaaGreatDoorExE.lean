/- A symbolic executor for the machine's code: what comes in: a datum that the form's reader tells of a type is told as abstract values, field by field, element by element; general over the program. Conditions: none beside those in each theorem. -/
import Derived.Test.YtpnkemogepoioaaGreatDoorExD
import Derived.OpenShut
import Derived.DataElems
import Derived.FnData
import Derived.ChangeArms
namespace Go.Proofs.YtpnkemogepoioaaGreatDoorW.Ex
set_option linter.all false
open Go Go.RowKit
def RC (w:World) (xs:List AV) (cs:List Value):Prop:=
 cs.length=xs.length∧∀(i:Nat) (x:AV),xs[i]? =some x→x.one=true∧∃v,cs[i]? =some v∧∀β n,RV w (· < w.heap.size) β n x v
def Rd {α:Type} (P:Program) (n:Nat) (t:TypeId) (C:α→List AV) (Wf:α→Prop) (E:{H:Type}→DataW H→α→Prop):Prop:=
 ∀ (H:Type) (enc:TypeId × Value→H) (w:World) (held:Bool) (m:Nat) (cs:List Value) (x:DataW H × List MemPlace),m≤n→
   DataW.trod enc P w 0 (fun _=>true) held m t cs=some x→∃a,RC w (C a) cs∧Wf a∧E x.1 a
def FRd {α:Type} (P:Program) (n:Nat) (o sz:Nat) (fs:List Field) (C:α→List AV) (Wf:α→Prop) (E:{H:Type}→List (DataW H)→α→Prop):Prop:=
 ∀ (H:Type) (enc:TypeId × Value→H) (w:World) (held:Bool) (m:Nat) (cs:List Value) (xs:List (DataW H × List MemPlace)),m≤n→o+sz≤cs.length→xs.length=fs.length→
   (∀(i:Nat) (f:Field),fs[i]? =some f→DataW.trod enc P w 0 (fun _=>true) held m f.type ((cs.drop f.offset).take (P.cellsOf f.type))=xs[i]?)→
   ∃a,RC w (C a) ((cs.drop o).take sz)∧Wf a∧E (xs.map (·.1)) a
theorem qts {w:World} {x:AV} {v:Value} (h1:x.one=true) (h:∀β n,RV w (· < w.heap.size) β n x v):RC w [x] [v]:=
 ⟨rfl,fun i y hi=>by
   cases i with
   | zero=>simp only [Aq,Ab] at hi;subst hi;exact ⟨h1,v,rfl,h⟩
   | succ i=>simp at hi⟩
theorem q8v {α:Type} {P:Program} {n:Nat} {t:TypeId} {C:α→List AV} {Wf Wf':α→Prop} {E E':{H:Type}→DataW H→α→Prop} (h:Rd P n t C Wf E) (h1:∀a,Wf a→Wf' a)
 (h2:∀(H:Type) (d:DataW H) a,E d a→E' d a):Rd P n t C Wf' E':=fun H enc w held m cs x hm hx=>by
 obtain ⟨a,ha,hw,he⟩:=h H enc w held m cs x hm hx
 exact ⟨a,ha,h1 a hw,h2 H _ a he⟩
theorem qo1 {P:Program} {t:TypeId} {k:IntKind} (ht:P.underlying t=some (.int k)) (n:Nat):Rd P n t (fun a:Int=> [.int k a]) (fun a=>(Lit.int k a).wf=true) (fun d a=>d= .lit (.int k a)):=fun H enc w held m cs x _ hx=>by
 obtain ⟨a,rfl,rfl,hw⟩:=DataW.trod_int ht hx
 exact ⟨a,qts rfl (fun _ _=> .int _ _),hw,rfl⟩
theorem qe5 {P:Program} {t:TypeId} (ht:P.underlying t=some .string) (n:Nat):Rd P n t (fun a:ByteArray=> [.str a]) (fun a=>a.size≤maxLen) (fun d a=>d= .lit (.string a.data.toList)):=fun H enc w held m cs x _ hx=>by
 obtain ⟨a,rfl,rfl,hw⟩:=DataW.trod_string ht hx
 exact ⟨a,qts rfl (fun _ _=> .str _),hw,rfl⟩
theorem qt2 {α:Type} (Q:Nat→α→Prop):∀(n:Nat),(∀i,i < n→∃a,Q i a)→∃l:List α,l.length=n∧∀i a,l[i]? =some a→Q i a
 | 0,_=>⟨[],rfl,fun i a h=>by simp at h⟩
 | n +1,h=>by
   obtain ⟨l,hl,hq⟩:=qt2 Q n (fun i hi=>h i (by omega))
   obtain ⟨a,ha⟩:=h n (by omega)
   refine ⟨l++ [a],by simp [hl],fun i b hb=> ?_⟩
   by_cases hi:i < l.length
   ·rw [Bx hi] at hb
    exact hq i b hb
   rw [Bu (by omega)] at hb
   have h0:=(Ah.1 hb).1
   simp only [Ai] at h0
   have:i - l.length=0:=by omega
   rw [this] at hb
   simp only [Aq,Ab] at hb
   subst hb
   have:i=n:=by omega
   subst this
   exact ha
def EL {α:Type} (E:{H:Type}→DataW H→α→Prop) {H:Type} (ds:List (DataW H)) (l:List α):Prop:=ds.length=l.length∧∀(i:Nat) (d:DataW H) (a:α),ds[i]? =some d→l[i]? =some a→E d a
def ES {α:Type} (E:{H:Type}→DataW H→α→Prop) {H:Type} (d:DataW H) (l:List α):Prop:=(d= .nil∧l= [])∨∃ds rest,d= .slice ds rest∧EL E ds l
theorem q0q {w:World} {a:Addr} {u:Value} (h:w.cell? a=some u):a.block < w.heap.size∧a.spot=none:=by
 unfold World.cell? at h
 split at h
 ·rename_i hb
  refine ⟨(Au.1 hb).1,?_⟩
  split at h
  ·cases h
  rename_i hs;simpa using hs
 cases h
theorem qhn {α:Type} {P:Program} {t e:TypeId} {sz:Nat} {C:α→List AV} {Wf:α→Prop} {E:{H:Type}→DataW H→α→Prop} {n:Nat} (ht:P.underlying t=some (.slice e)) (hsz:P.cellsOf e=sz) (h0:0 < sz) (hC:∀a,(C a).length=sz) (h:Rd P n e C Wf E):
 Rd P n t (fun l:List α=> [.sl sz false (l.map C)]) (fun l=>l.length≤maxLen∧∀a∈l,Wf a) (fun d l=>ES E d l):=fun H enc w held m cs x hm hx=>by
 rcases DataW.trod_slice ht hx with ⟨rfl,rfl⟩ | ⟨a,len,cap,elems,rest,n',rfl,rfl,rfl,_,hl,hc,hlen,hel,_,_⟩
 ·exact ⟨[],qts rfl (fun β n=>RV.nilSl _ _),⟨AD _,fun _ h=>by cases h⟩, .inl ⟨rfl,rfl⟩⟩
 obtain ⟨l,hll,hq⟩:=qt2 (fun i p=>∃c y,elems[i]? =some y∧RC w (C p) c∧Wf p∧E y.1 p∧∀j u,c[j]? =some u→w.cell? (a.add (i*sz+j))=some u) len (fun i hi=>by
  have h1:=hel i hi
  have hy:∃y,elems[i]? =some y:=⟨elems[i]'(by omega),Ak (by omega)⟩
  obtain ⟨y,hy⟩:=hy
  rw [hy,Option.bind_eq_some_iff] at h1
  obtain ⟨c,hc1,hc2⟩:=h1
  obtain ⟨p,hp,hw,he⟩:=h H enc w held n' c y (by omega) hc2
  obtain ⟨_,hcl,hcell⟩:=World.cells?_some hc1
  refine ⟨p,c,y,hy,hp,hw,he,fun j u hu=> ?_⟩
  have hj:j < P.cellsOf e:=by rw [←hcl];exact (Ah.1 hu).1
  have:=hcell j hj
  rw [hu,hsz] at this
  rw [←Addr.add_add]
  exact this)
 have hlm:(l.map C).length=len:=by simp [hll]
 have helt:∀(j:Nat) (c:List AV),(l.map C)[j]? =some c→∃p,l[j]? =some p∧c=C p:=by
  intro j c hj
  rw [Av,Am] at hj
  obtain ⟨p,hp,rfl⟩:=hj
  exact ⟨p,hp,rfl⟩
 have first:l≠ []→a.block < w.heap.size∧a.spot=none:=by
  intro hne
  obtain ⟨p,hp⟩:∃p,l[0]? =some p:=by cases l with
   | nil=>exact absurd rfl hne
   | cons p l=>exact ⟨p,rfl⟩
  obtain ⟨c,y,_,hrc,_,_,hcell⟩:=hq 0 p hp
  have hcl:0 < c.length:=by rw [hrc.1,hC];exact h0
  have h5:=q0q (hcell 0 c[0] (Ak hcl))
  simp only [Nat.zero_mul,AN,Addr.add_zero'] at h5
  exact h5
 refine ⟨l,qts rfl (fun β nn=> ?_),⟨by rw [hll];exact BD hl hc,fun p hp=> ?_⟩, .inr ⟨_,_,rfl,by simp [hlen,hll],fun i d p hd hp=> ?_⟩⟩
 ·by_cases hne:l= []
  ·subst hne
   simp only [Ar] at hll
   subst hll
   exact .sl sz false [] (some a) cap (fun _ _=>Go.undef) (AD _) (by unfold maxLen at hc;omega) (by simp) (fun h=>absurd rfl h) (by simp) (by simp) (by simp) (by simp) (by simp) (by simp) (fun h=>by cases h)
  obtain ⟨hblt,hsp⟩:=first hne
  obtain ⟨b,o,sp⟩:=a
  simp only at hsp hblt
  subst hsp
  rw [←hlm]
  refine .sl sz false (l.map C) (some ⟨b,o,none⟩) cap (fun j i=>(w.cell? ⟨b,o+(j*sz+i),none⟩).getD Go.undef) (by rw [hlm];exact hl) (by unfold maxLen at hc;omega) (by simp) (by simp) (by simp) (fun b' o' hb' _=>by simp only [Ab,Addr.mk.injEq] at hb';rw [←hb'.1];exact hblt)
   (fun c hc=>by obtain ⟨p,_,rfl⟩:=BG.1 hc;exact hC p) (fun c hc x hx=> ?_) (fun b' o' hb' j c i x hj hi=> ?_) (fun j c i x hj hi=> ?_) (fun h=>by cases h)
  ·obtain ⟨j,hj⟩:=AB hc
   obtain ⟨p,hp,rfl⟩:=helt j c hj
   obtain ⟨c',y,_,hrc,_⟩:=hq j p hp
   obtain ⟨i,hi⟩:=AB hx
   exact (hrc.2 i x hi).1
  ·simp only [Ab,Addr.mk.injEq] at hb'
   obtain ⟨rfl,rfl,_⟩:=hb'
   obtain ⟨p,hp,rfl⟩:=helt j c hj
   obtain ⟨c',y,_,hrc,_,_,hcell⟩:=hq j p hp
   obtain ⟨_,v,hv,_⟩:=hrc.2 i x hi
   have:=hcell i v hv
   rw [Addr.add_lit] at this
   rw [this];rfl
  obtain ⟨p,hp,rfl⟩:=helt j c hj
  obtain ⟨c',y,_,hrc,_,_,hcell⟩:=hq j p hp
  obtain ⟨_,v,hv,hR⟩:=hrc.2 i x hi
  have:=hcell i v hv
  rw [Addr.add_lit] at this
  rw [this]
  exact hR β 0
 ·obtain ⟨i,hi⟩:=AB hp
  obtain ⟨c,y,_,_,hw,_⟩:=hq i p hi
  exact hw
 obtain ⟨c,y,hy,_,_,he,_⟩:=hq i p hp
 rw [Av,hy] at hd
 simp only [Ba,Ab] at hd
 rw [←hd]
 exact he
theorem q12 {w:World} {xs ys:List AV} {cs ds:List Value} (h:RC w xs cs) (k:RC w ys ds):RC w (xs++ys) (cs++ds):=by
 refine ⟨by simp [h.1,k.1],fun i x hi=> ?_⟩
 rw [AH] at hi
 rw [AH,h.1]
 split at hi
 ·rename_i hl;rw [if_pos hl];exact h.2 i x hi
 rename_i hl;rw [if_neg hl];exact k.2 _ x hi
theorem que {α:Type} {P:Program} {n o sz:Nat} {f:Field} {C:α→List AV} {Wf:α→Prop} {E:{H:Type}→DataW H→α→Prop} (ho:f.offset=o) (hs:P.cellsOf f.type=sz) (h:Rd P n f.type C Wf E):
 FRd P n o sz [f] C Wf (fun ds a=>∃d,ds= [d]∧E d a):=fun H enc w held m cs xs hm hl hlen hf=>by
 match xs,hlen with
 | [y],_=>
   have h1:=hf 0 f rfl
   rw [ho,hs] at h1
   obtain ⟨a,ha,hw,he⟩:=h H enc w held m _ y hm h1
   exact ⟨a,ha,hw,y.1,rfl,he⟩
theorem qc4 {α β:Type} {P:Program} {n o sz szs:Nat} {f:Field} {fs:List Field} {C:α→List AV} {Cs:β→List AV} {Wf:α→Prop} {Wfs:β→Prop} {E:{H:Type}→DataW H→α→Prop} {Es:{H:Type}→List (DataW H)→β→Prop}
 (ho:f.offset=o) (hs:P.cellsOf f.type=sz) (h:Rd P n f.type C Wf E) (hr:FRd P n (o+sz) szs fs Cs Wfs Es):
 FRd P n o (sz+szs) (f::fs) (fun x:α × β=>C x.1++Cs x.2) (fun x=>Wf x.1∧Wfs x.2) (fun ds x=>∃d ds',ds=d::ds'∧E d x.1∧Es ds' x.2):=fun H enc w held m cs xs hm hl hlen hf=>by
 match xs,hlen with
 | y::ys,hlen=>
   have h1:=hf 0 f rfl
   rw [ho,hs] at h1
   obtain ⟨a,ha,hw,he⟩:=h H enc w held m _ y hm h1
   obtain ⟨b,hb,hwb,heb⟩:=hr H enc w held m cs ys hm (by omega) (by simpa using hlen) (fun i g hg=>by have:=hf (i+1) g (by simpa using hg);simpa using this)
   refine ⟨(a,b),?_,⟨hw,hwb⟩,y.1,ys.map (·.1),rfl,he,heb⟩
   have:=q12 ha hb
   rwa [←List.drop_drop,←List.take_add] at this
theorem qil {α:Type} {P:Program} {n sz:Nat} {t:TypeId} {fs:Array Field} {C:α→List AV} {Wf:α→Prop} {E:{H:Type}→List (DataW H)→α→Prop} (ht:P.underlying t=some (.struct fs)) (hs:P.cellsOf t=sz)
 (h:FRd P n 0 sz fs.toList C Wf E):Rd P (n+1) t C Wf (fun d a=>∃ds,d= .agg ds∧E ds a):=fun H enc w held m cs x hm hx=>by
 obtain ⟨xs,m',rfl,rfl,hl,hlen,hf⟩:=DataW.trod_struct ht hx
 obtain ⟨a,ha,hw,he⟩:=h H enc w held m' cs xs (by omega) (by omega) (by simpa using hlen) (fun i f hif=>hf i f (by simpa using hif))
 refine ⟨a,?_,hw,_,rfl,he⟩
 rwa [BR,Bi (by omega)] at ha
theorem qnz {α β:Type} {P:Program} {n:Nat} {t:TypeId} {C:α→List AV} {C':β→List AV} {Wf:α→Prop} {Wf':β→Prop} {E:{H:Type}→DataW H→α→Prop} {E':{H:Type}→DataW H→β→Prop} (h:Rd P n t C Wf E) (g:α→β)
 (hC:∀a,C' (g a)=C a) (hW:∀a,Wf a→Wf' (g a)) (hE:∀(H:Type) (d:DataW H) a,E d a→E' d (g a)):Rd P n t C' Wf' E':=fun H enc w held m cs x hm hx=>by
 obtain ⟨a,ha,hw,he⟩:=h H enc w held m cs x hm hx
 exact ⟨g a,by rw [hC];exact ha,hW a hw,hE H _ a he⟩
theorem q72 {α:Type} {P:Program} {n n':Nat} {t:TypeId} {C:α→List AV} {Wf:α→Prop} {E:{H:Type}→DataW H→α→Prop} (h:Rd P n t C Wf E) (hn:n'≤n):Rd P n' t C Wf E:=
 fun H enc w held m cs x hm hx=>h H enc w held m cs x (BD hm hn) hx
theorem q3w {α:Type} {P:Program} {t:TypeId} {C:α→List AV} {Wf:α→Prop} (step:∀n,Rd P n t C Wf (fun _ _=>True)→Rd P (n+1) t C Wf (fun _ _=>True)):∀n,Rd P n t C Wf (fun _ _=>True)
 | 0=>fun H enc w held m cs x hm hx=>by
   obtain rfl:m=0:=by omega
   simp [DataW.trod] at hx
 | n+1=>step n (q3w step n)
theorem qx6 {α:Type} {P:Program} {w:World} {nm:String} {g t e N sz:Nat} {C:α→List AV} {Wf:α→Prop} {E:{H:Type}→DataW H→α→Prop} {cs:Array Value} {fuel:Nat} {H:Type} {enc:TypeId × Value→H} {held:Bool} {d:DataW H} {p:List MemPlace}
 (ht:P.underlying t=some (.array N e)) (hsz:P.cellsOf e=sz) (hC:∀a,(C a).length=sz) (h:∀n,Rd P n e C Wf E) (hg:P.globalNamed nm=some g) (hv:w.var? P nm=some cs)
 (hx:DataW.trod enc P w 0 (fun _=>true) held fuel t cs.toList=some (d,p)):
 ∃l:List α,l.length=N∧(∃ds,d= .agg ds∧EL E ds l)∧∀β n,RV w (· < w.heap.size) β n (.rptr (l.map C).flatten) (.pointer (some ⟨g,0,none⟩)):=by
 obtain ⟨xs,m,rfl,hx',hl,hlen,hel⟩:=DataW.trod_array ht hx
 simp only [Al] at hx'
 obtain ⟨l,hll,hq⟩:=qt2 (fun i p=>∃c y,xs[i]? =some y∧RC w (C p) c∧E y.1 p∧∀j u,c[j]? =some u→w.cell? (⟨g,i*sz+j,none⟩:Addr)=some u) N (fun i hi=>by
  have h1:=hel i hi
  have hy:∃y,xs[i]? =some y:=⟨xs[i]'(by omega),Ak (by omega)⟩
  obtain ⟨y,hy⟩:=hy
  rw [hy] at h1
  obtain ⟨p,hp,hw,he⟩:=h m H enc w held m _ y (Aj _) h1
  refine ⟨p,_,y,hy,hp,he,fun j u hu=> ?_⟩
  have hj:j < sz:=by
   have:=(Ah.1 hu).1
   rw [hp.1,hC] at this;exact this
  rw [hsz,List.getElem?_take_of_lt hj,Bg] at hu
  have hc:=World.var?_cell hg hv (i*sz+j)
  rw [hc,←hu]
  simp)
 refine ⟨l,hll,⟨_,hx'.1,by simp [hlen,hll],fun i d' p hd hp=> ?_⟩,fun β n=> ?_⟩
 ·obtain ⟨c,y,hy,_,he,_⟩:=hq i p hp
  rw [Av,hy] at hd
  simp only [Ba,Ab] at hd
  rw [←hd]
  exact he
 rcases Nat.eq_zero_or_pos sz with h0 | h0
 ·have:(l.map C).flatten= []:=by
   rw [List.flatten_eq_nil_iff]
   intro c hc
   obtain ⟨a,_,rfl⟩:=BG.1 hc
   exact List.eq_nil_of_length_eq_zero (by rw [hC];exact h0)
  rw [this]
  exact .rptr [] g 0 (fun _=>Go.undef) (by simp) (by simp) (by simp) (by simp)
 obtain ⟨_,hfg⟩:=qhx h0 (l.map C) (fun c hc=>by obtain ⟨a,_,rfl⟩:=BG.1 hc;exact hC a)
 have key:∀(q:Nat) (x:AV),(l.map C).flatten[q]? =some x→x.one=true∧∃v,w.cell? (⟨g,q,none⟩:Addr)=some v∧RV w (· < w.heap.size) β 0 x v:=by
  intro q x hq'
  obtain ⟨c,h1,h2⟩:=hfg q x hq'
  rw [Av,Am] at h1
  obtain ⟨p,hp,rfl⟩:=h1
  obtain ⟨c',y,_,hrc,_,hcell⟩:=hq _ p hp
  obtain ⟨ho,v,hv,hR⟩:=hrc.2 _ x h2
  refine ⟨ho,v,?_,hR β 0⟩
  have:=hcell _ v hv
  rwa [Nat.mul_comm,Nat.div_add_mod] at this
 refine .rptr _ g 0 (fun q=>(w.cell? (⟨g,q,none⟩:Addr)).getD Go.undef) (fun hne=> ?_) (fun q x hx=>(key q x hx).1) (fun q x hx=> ?_) (fun q x hx=> ?_)
 ·obtain ⟨x,hx⟩:∃x,(l.map C).flatten[0]? =some x:=by
   cases hf:(l.map C).flatten with
   | nil=>exact absurd hf hne
   | cons x _=>exact ⟨x,rfl⟩
  obtain ⟨_,v,hv,_⟩:=key 0 x hx
  exact (q0q hv).1
 ·obtain ⟨_,v,hv,_⟩:=key q x hx
  rw [AN,hv];rfl
 obtain ⟨_,v,hv,hR⟩:=key q x hx
 rw [hv];exact hR
theorem law_calls {P:Program} {G:Nat→List AV} {f:FuncId} {xs:List AV} (h:Fn P G f xs (.bool true)) (hc:∀vs w,(callFunc f vs).run P w= .ok (.enter f vs) w) {W:World} {vs:Array Value}
 (hG:∀g β n,GV W (· < W.heap.size) β n g (G g)) (hv:∀β n,RVs W (· < W.heap.size) β n xs vs):Calls P f vs W (fun e w'=>e= .returned (.bool true)∧Below W.heap.size W w'):=by
 have:=h W (· < W.heap.size) (fun _=>0) 0 vs ⟨fun k hk=>hk,fun k hk=>hk,fun g=>hG g _ _,by simp,by simp,by simp⟩ (hv _ _)
 rw [hc] at this
 refine Calls.mono this ?_
 rintro e w' ⟨v,rfl,S',hx,_,hR⟩
 cases hR
 exact ⟨rfl,hx.os,hx.tape,hx.output,hx.size,fun k hk=>hx.fsame k hk⟩
end Go.Proofs.YtpnkemogepoioaaGreatDoorW.Ex
