/- Printing a tree in plain words: the steps of a node, its tokens with their gaps, its canonical layout; and what a walk along the steps returns. Conditions: those in each theorem. -/
import Derived.Test.YtpnkemogepoioaaGreatDoorPa
import Derived.Test.YtpnkemogepoioaaGreatDoorExP
namespace Go.Proofs.YtpnkemogepoioaaGreatDoorW.Ex.Gr
open Go Go.Proofs.YtpnkemogepoioaaGreatDoorW.Ex
set_option linter.all false
set_option maxRecDepth 100000
abbrev BA:=ByteArray
theorem bs {α β:Type} (a:α) (f:α→Option β):(some a >>=f)=f a:=rfl
theorem ba {α β γ:Type} (a:Option α) (f:α→Option β) (g:β→Option γ):((a >>=f) >>=g)=(a >>=fun x=>f x >>=g):=by cases a <;> rfl
theorem qge {α:Type} {A B:α}:(if (true=true) then A else B)=A:=rfl
theorem qgf {α:Type} {A B:α}:(if (false=true) then A else B)=B:=rfl
theorem b1 {α:Type} (a:Option α):(a >>=fun x=>some x)=a:=by cases a <;> rfl
theorem Yz {α β:Type} {a:Option α} {f g:α→Option β} (h:∀x,a=some x→f x=g x):(a >>=f)=(a >>=g):=by
 cases a with
 | none=>rfl
 | some x=>exact h x rfl
theorem qck {α:Type} {by_:Nat} {l m:List α} (h:l.length+m.length≤1000000000) (hb:by_≤100000):app by_ l m=some (l++m):=by
 have:(l.length+m.length)*by_≤1000000000*100000:=Nat.mul_le_mul h hb
 unfold app
 rw [if_pos ⟨by omega,by omega⟩]
inductive Step where
 | own (c w:BA)
 | kid (l:BA) (v:Int)
def q4f (v:Int):BA:=⟨(10::List.replicate v.toNat 9).toArray⟩
@[reducible] def e0:BA:=⟨#[]⟩
@[reducible] def sp:BA:=⟨#[32]⟩
def Zi (v:Int):Bool→Nat→List Step
 | _,0=> [.own e0 ⟨#[41]⟩]
 | true,r+1=> .kid e0 v::Zi v false r
 | false,r+1=> .own e0 ⟨#[44]⟩:: .kid sp v::Zi v false r
def allS (l:BA) (v:Int):Nat→List Step
 | 0=> []
 | r+1=> .kid l v::allS l v r
def qbe (v:Int):BA→Nat→List Step
 | _,0=> []
 | l,r+1=> .kid l v::qbe v ⟨#[10,10]⟩ r
def qm9 (l:BA) (nk:Nat):BA:=if 0 < nk then ⟨#[10]⟩ else l
def q5m (v:Int) (f nk:Nat):BA:=if f < nk then q4f v else e0
def qg2 (v:Int) (f nk r:Nat):List Step:=allS (q4f (v+1)) (v+1) r++ [.own (q5m v f nk) ⟨#[125]⟩]
def qhr (w t:BA) (l:BA) (v:Int):List Step:= [.own l w, .own sp t, .own sp ⟨#[61]⟩, .kid sp v, .own e0 ⟨#[59]⟩]
def stepsOf (d:Int) (k:Int) (t:BA) (nk:Nat) (l:BA) (v:Int):List Step:=
 if k=1 then qbe v l nk++ [.own (qm9 l nk) e0]
 else if k=2 then [.own l ⟨#[102,110]⟩, .own sp t, .kid e0 v, .kid sp v, .kid sp v]
 else if k=3 then .own l ⟨#[40]⟩::Zi v true nk
 else if k=4 then [.own l t, .kid sp v]
 else if k=5 then [.own l t]
 else if k=6 then .own l ⟨#[123]⟩::qg2 v 0 nk nk
 else if k=7 then .own l ⟨#[99,108,97,115,115]⟩:: .own sp t:: .kid sp (v+d):: .own sp ⟨#[123]⟩::qg2 v 1 nk (nk - 1)
 else if k=8 then (if t=e0 then [] else [.own l ⟨#[58]⟩, .own sp t])
 else if k=9 then qhr ⟨#[99,111,110,115,116]⟩ t l v
 else if k=10 then qhr ⟨#[108,101,116]⟩ t l v
 else if k=11 then [.own l t, .own sp ⟨#[61]⟩, .kid sp v, .own e0 ⟨#[59]⟩]
 else if k=12 then [.own l ⟨#[114,101,116,117,114,110]⟩, .kid sp v, .own e0 ⟨#[59]⟩]
 else if k=13 then .own l ⟨#[105,102]⟩::allS sp v nk
 else if k=14 then (if nk=0 then [] else [.own l ⟨#[101,108,115,101]⟩, .kid sp v])
 else if k=15 then .own l ⟨#[119,104,105,108,101]⟩::allS sp v nk
 else if k=16 then [.kid l v, .own e0 ⟨#[59]⟩]
 else if k=20 then .own l t:: .own e0 ⟨#[40]⟩::Zi v true nk
 else if k=21 then .kid l v:: .own e0 ⟨#[46]⟩:: .own e0 t:: .own e0 ⟨#[40]⟩::Zi v true (nk - 1)
 else if k=22 then [.own l ⟨#[110,101,119]⟩, .own sp t, .own e0 ⟨#[40]⟩, .own e0 ⟨#[41]⟩]
 else if k=24 then [.kid l v, .own sp t, .kid sp v]
 else if k=25 then [.own l t, .kid e0 v]
 else if k=26 then [.own l ⟨#[40]⟩, .kid e0 v, .own e0 ⟨#[41]⟩]
 else [.own l t]
abbrev Tok:=BA × BA
def Z1:List Step→List BA→List (BA→Int→List Tok)→List Tok
 | [],_,_=> []
 | .own c w::r, [],ks=>(c,w)::Z1 r [] ks
 | .own _ w::r,x::g,ks=>(x,w)::Z1 r g ks
 | .kid l v::r,g,k::ks=>k l v++Z1 r g ks
 | .kid _ _::r,g, []=>Z1 r g []
def qgj:List Step→List BA
 | []=> []
 | .own c _::r=>c::qgj r
 | .kid _ _::r=>qgj r
def wordsS:List Step→List BA
 | []=> []
 | .own _ w::r=>w::wordsS r
 | .kid _ _::r=>wordsS r
def nkS:List Step→Nat
 | []=>0
 | .own _ _::r=>nkS r
 | .kid _ _::r=>nkS r+1
def layW:List Step→List (BA→Int→Node)→List Node
 | [],_=> []
 | .own _ _::r,ks=>layW r ks
 | .kid l v::r,k::ks=>k l v::layW r ks
 | .kid _ _::r, []=> []
mutual
def toks (d:Int):Node→BA→Int→List Tok
 | .mk k t g ks=>fun l v=>Z1 (stepsOf d k t ks.length l v) g (Ka d ks)
def Ka (d:Int):List Node→List (BA→Int→List Tok)
 | []=> []
 | n::r=>toks d n::Ka d r
end
mutual
def layN (d:Int):Node→BA→Int→Node
 | .mk k t g ks=>fun l v=> .mk k t (qgj (stepsOf d k t ks.length l v)) (layW (stepsOf d k t ks.length l v) (layL d ks))
def layL (d:Int):List Node→List (BA→Int→Node)
 | []=> []
 | n::r=>layN d n::layL d r
end
theorem qzg (d:Int) (n:Node) (l:BA) (v:Int):toks d n l v=Z1 (stepsOf d n.kind n.text n.kids.length l v) n.gaps (Ka d n.kids):=by cases n;rw [toks];rfl
theorem q87 (d:Int) (n:Node) (l:BA) (v:Int):layN d n l v= .mk n.kind n.text (qgj (stepsOf d n.kind n.text n.kids.length l v)) (layW (stepsOf d n.kind n.text n.kids.length l v) (layL d n.kids)):=by cases n;rw [layN];rfl
theorem qvp (d:Int):∀(l:List Node) (i:Nat) (m:Node),l[i]? =some m→(Ka d l).drop i=toks d m::(Ka d l).drop (i+1)
 | [],i,m,h=>by simp at h
 | n::r,0,m,h=>by
   simp only [Aq,Ab] at h
   rw [Ka,h];rfl
 | n::r,i+1,m,h=>by rw [Ka];exact qvp d r i m (by simpa using h)
theorem qz8 (d:Int):∀(l:List Node) (i:Nat) (m:Node),l[i]? =some m→(layL d l).drop i=layN d m::(layL d l).drop (i+1)
 | [],i,m,h=>by simp at h
 | n::r,0,m,h=>by
   simp only [Aq,Ab] at h
   rw [layL,h];rfl
 | n::r,i+1,m,h=>by rw [layL];exact qz8 d r i m (by simpa using h)
section
variable {σ:Type}
def Yf (emit:σ→BA→BA→Option σ):σ→List Tok→Option σ
 | s, []=>some s
 | s,(g,w)::r=>emit s g w >>=fun s=>Yf emit s r
theorem qna (emit:σ→BA→BA→Option σ):∀(a b:List Tok) (s:σ),Yf emit s (a++b)=Yf emit s a >>=fun s=>Yf emit s b
 | [],b,s=>rfl
 | (g,w)::a,b,s=>by
   rw [AJ,Yf,Yf,ba]
   exact Yz fun x _=>qna emit a b x
def ownG (emit:σ→BA→BA→Option σ) (n:Node) (s:σ) (g:List BA) (c w:BA):Option (σ × List BA):=
 app 16 g [c] >>=fun g'=>emit s (n.gaps.getD g.length c) w >>=fun s=>some (s,g')
def kidG (node:σ→Node→BA→Int→Option (Node × σ)) (n:Node) (s:σ) (ks:List Node) (l:BA) (v:Int):Option (σ × List Node):=
 ix n.kids (ks.length:Int) >>=fun m=>node s m l v >>=fun y=>app 72 ks [y.1] >>=fun ks=>some (y.2,ks)
def run (own:σ→List BA→BA→BA→Option (σ × List BA)) (kid:σ→List Node→BA→Int→Option (σ × List Node)):List Step→σ→List BA→List Node→Option (σ × List BA × List Node)
 | [],s,g,k=>some (s,g,k)
 | .own c w::r,s,g,k=>own s g c w >>=fun x=>run own kid r x.1 x.2 k
 | .kid l v::r,s,g,k=>kid s k l v >>=fun x=>run own kid r x.1 g x.2
theorem q4o {node:σ→Node→BA→Int→Option (Node × σ)} {n:Node} {s:σ} {ks:List Node} {l:BA} {v:Int} {x:σ × List Node} (h:kidG node n s ks l v=some x):x.2.length=ks.length+1:=by
 unfold kidG at h
 cases h1:ix n.kids (ks.length:Int) with
 | none=>rw [h1] at h;cases h
 | some m=>
   rw [h1,bs] at h
   cases h2:node s m l v with
   | none=>rw [h2] at h;cases h
   | some y=>
     rw [h2,bs] at h
     cases h3:app 72 ks [y.1] with
     | none=>rw [h3] at h;cases h
     | some z=>
       rw [h3,bs] at h
       cases h
       obtain ⟨rfl,_⟩:=qb5 h3
       rw [Ad];rfl
theorem qsp (g:List BA) (i:Nat) (c:BA):(∃x,g.drop i=x::g.drop (i+1)∧g.getD i c=x)∨(g.drop i= []∧g.drop (i+1)= []∧g.getD i c=c):=by
 rcases Br i g.length with h | h
 ·exact .inl ⟨g[i],Be h,by rw [Ax,Ak h];rfl⟩
 exact .inr ⟨AW h,AW (by omega),by rw [Ax,List.getElem?_eq_none h];rfl⟩
theorem qx5 (emit:σ→BA→BA→Option σ) (node:σ→Node→BA→Int→Option (Node × σ)) (d:Int) (n:Node) (hk:n.kids.length≤50000):
 ∀(st:List Step) (s:σ) (g:List BA) (ks:List Node),g.length+st.length≤50000→ks.length+nkS st≤n.kids.length→
 (∀m∈n.kids,∀(s:σ) (l:BA) (v:Int),Step.kid l v∈st→node s m l v=Yf emit s (toks d m l v) >>=fun s=>some (layN d m l v,s))→
 run (ownG emit n) (kidG node n) st s g ks=Yf emit s (Z1 st (n.gaps.drop g.length) ((Ka d n.kids).drop ks.length)) >>=fun s=>some (s,g++qgj st,ks++layW st ((layL d n.kids).drop ks.length))
 | [],s,g,ks,_,_,_=>by
   rw [run,Z1,Yf,bs,qgj,layW,Az,Az]
 | .own c w::r,s,g,ks,hb,hn,ih=>by
   rw [Ae] at hb
   rw [run,ownG,ba,qck (by simp only [Ai];omega) (by decide),bs,ba]
   have ih':=fun s=>qx5 emit node d n hk r s (g++ [c]) ks (by rw [Ad,Ai];omega) (by rw [nkS] at hn;exact hn) (fun m hm s l v hs=>ih m hm s l v (Ay _ hs))
   rcases qsp n.gaps g.length c with ⟨x,e1,e2⟩ | ⟨e1,e3,e2⟩
   ·rw [e1,e2,Z1,Yf,ba]
    refine Yz fun s' _=> ?_
    rw [bs,ih',Ad,Ai,qgj,layW,Ap];rfl
   rw [e1,e2,Z1,Yf,ba]
   refine Yz fun s' _=> ?_
   rw [bs,ih',Ad,Ai,e3,qgj,layW,Ap];rfl
 | .kid l v::r,s,g,ks,hb,hn,ih=>by
   rw [Ae] at hb
   rw [nkS] at hn
   have hlt:ks.length < n.kids.length:=by omega
   have hm:=Ak hlt
   rw [run,kidG,ba,qmb,hm,bs,ih _ (Ci hlt) s l v (AK ..),ba,ba,qvp d _ _ _ hm,qz8 d _ _ _ hm,Z1,qna,ba,layW,qgj]
   refine Yz fun s' _=> ?_
   rw [bs,qck (by simp only [Ai];omega) (by decide),ba,bs,bs]
   have ih':=qx5 emit node d n hk r s' g (ks++ [layN d n.kids[ks.length] l v]) (by omega) (by rw [Ad,Ai];omega) (fun m hm s l v hs=>ih m hm s l v (Ay _ hs))
   rw [ih',Ad,Ai,Ap];rfl
theorem qzx (emit:σ→BA→BA→Option σ) (node:σ→Node→BA→Int→Option (Node × σ)) (W:Node→Prop) (hW:∀n,W n→∀m∈n.kids,W m)
 (hkids:∀n,W n→∀l v,nkS (stepsOf 0 n.kind n.text n.kids.length l v)≤n.kids.length∧(stepsOf 0 n.kind n.text n.kids.length l v).length≤50000∧n.kids.length≤50000)
 (hlev:∀(n:Node),W n→∀(l l':BA) (v v':Int),Step.kid l' v'∈stepsOf 0 n.kind n.text n.kids.length l v→v≤v'∧v'≤v+1)
 (hnode:∀(n:Node) (s:σ) (l:BA) (v:Int),W n→0≤v→v≤100000→node s n l v=run (ownG emit n) (kidG node n) (stepsOf 0 n.kind n.text n.kids.length l v) s [] [] >>=fun x=>some (Node.mk n.kind n.text x.2.1 x.2.2,x.1)):
 ∀(k:Nat) (n:Node),u3 n≤k→W n→∀(s:σ) (l:BA) (v:Int),0≤v→v+u3 n≤100000→node s n l v=Yf emit s (toks 0 n l v) >>=fun s=>some (layN 0 n l v,s)
 | 0,n,hk,_,_,_,_,_,_=>by have:=qr8 n;omega
 | k +1,n,hk,hw,s,l,v,h0,h1=>by
   obtain ⟨h2,h3,h4⟩:=hkids n hw l v
   have hs:=qvy n
   rw [hnode n s l v hw h0 (by omega),qx5 emit node 0 n h4 _ s [] [] (by simpa using h3) (by simpa using h2),ba,qzg,q87]
   ·refine Yz fun s' _=> ?_
    rw [bs];rfl
   intro m hm s l' v' hst
   obtain ⟨hv1,hv2⟩:=hlev n hw l l' v v' hst
   have hle:u3 m≤ud n.kids:=by
    obtain ⟨a,b,e⟩:=List.append_of_mem hm
    rw [e,qen,ud];omega
   exact qzx emit node W hW hkids hlev hnode k m (by omega) (hW n hw m hm) s l' v' (by omega) (by omega)
end
end Go.Proofs.YtpnkemogepoioaaGreatDoorW.Ex.Gr
