/- The declarations of units in plain words; what tree.Rows and project's functions on rows return. Conditions: those in each theorem. What project.Decls and the reference's Decls return. Conditions: those in each theorem. -/
import Derived.Test.YtpnkemogepoioaaGreatDoorJ0
namespace Go.Proofs.YtpnkemogepoioaaGreatDoorW.Ex.Gr
open Go Go.Proofs.YtpnkemogepoioaaGreatDoorW.Ex Go.Proofs.YtpnkemogepoioaaGreatDoorW.Plain Tk
set_option linter.all false
set_option maxRecDepth 100000
namespace Pj
structure Around where
 function_:BA
 class_:BA
 method_:Bool
@[reducible] def eB:BA:=⟨#[]⟩
def dclK (k:Int) (t:BA) (at_:Ref) (x:Around):List Decl:=
 if k=2 then [if x.method_=true then ⟨4,x.class_,t,at_⟩ else ⟨1,eB,t,at_⟩]
 else if k=7 then [⟨2,eB,t,at_⟩] else if k=9 then [⟨3,eB,t,at_⟩] else if k=4 then [⟨5,x.function_,t,at_⟩] else if k=10 then [⟨6,x.function_,t,at_⟩] else []
def blw (k:Int) (t:BA) (x:Around):Around:=⟨if k=2 then (if x.method_=true then x.class_++⟨#[46]⟩++t else t) else x.function_,t,decide (k=7)⟩
mutual
def wlk (u:Int):Node→Int→Around→List Decl
 | .mk k t _ l,at_,x=>dclK k t ⟨u,at_⟩ x++wlkL u l (at_+1) (blw k t x)
def wlkL (u:Int):List Node→Int→Around→List Decl
 | [],_,_=> []
 | m::l,at_,x=>wlk u m at_ x++wlkL u l (at_+u3 m) x
end
@[reducible] def ar0:Around:=⟨eB,eB,false⟩
def qsx:Nat→List Unit→List Decl
 | _, []=> []
 | j,x::l=>(if x.Broken=true then [] else wlk j x.Tree 0 ar0)++qsx (j+1) l
theorem qw6 (k:Int) (t:BA) (r:Ref) (x:Around):(dclK k t r x).length≤1:=by
 unfold dclK
 repeat' split
 all_goals simp
mutual
theorem qta (u:Int):∀(n:Node) (a:Int) (x:Around),(wlk u n a x).length≤u3 n
 | .mk k t g l,a,x=>by
   rw [wlk,u3,Ad]
   have:=qw6 k t ⟨u,a⟩ x
   have:=qvd u l (a+1) (blw k t x)
   omega
theorem qvd (u:Int):∀(l:List Node) (a:Int) (x:Around),(wlkL u l a x).length≤ud l
 | [],a,x=>by rw [wlkL,ud];exact Aj _
 | m::l,a,x=>by
   rw [wlkL,ud,Ad]
   have:=qta u m a x
   have:=qvd u l (a+u3 m) x
   omega
end
def qbj:Nat→List Node→List Int
 | _, []=> []
 | a,m::l=>(a:Int)::qbj (a+u3 m) l
mutual
def qb0:Node→Int→Nat→List Row
 | .mk k t g l,p,a=>⟨p,k,t,g,qbj (a+1) l⟩::qbd l a (a+1)
def qbd:List Node→Nat→Nat→List Row
 | [],_,_=> []
 | m::l,p,a=>qb0 m p a++qbd l p (a+u3 m)
end
mutual
theorem qdd:∀(n:Node) (p:Int) (a:Nat),(qb0 n p a).length=u3 n
 | .mk k t g l,p,a=>by rw [qb0,Ae,qsc l,u3]
theorem qsc:∀(l:List Node) (p a:Nat),(qbd l p a).length=ud l
 | [],p,a=>by rw [qbd,ud];rfl
 | m::l,p,a=>by rw [qbd,Ad,qdd m,qsc l,ud]
end
theorem q05 {l:List BA} (h:l.length≤4000):Qm l=some l:=by
 unfold Qm
 rw [if_pos (by omega)]
theorem qzk {α:Type} (a:List α) (x y:α) (b:List α):(a++x::b).set a.length y=a++y::b:=by
 rw [List.set_append_right _ _ (Aj _),Nat.sub_self,List.set_cons_zero]
theorem q8f {by_:Nat} {k:Nat} {α:Type} {z:α} (h:by_*k≤281474976710656) (h2:k≤1000000):mkz by_ (k:Int) z=some (List.replicate k z):=by
 have h':(by_:Int)*(k:Int)≤281474976710656:=by have h':=Int.ofNat_le.2 h;rwa [Int.natCast_mul] at h'
 exact if_pos ⟨by omega,h',by omega⟩
theorem q77 (p:Int) (k:Int) (t:BA) (g:List BA):∀(l:List Node) (j:Nat) (acc:List Row) (mid:List Row) (t8:List Int),(∀m∈l,∀(acc:List Row) (q:Int),acc.length+u3 m≤1000000→vl acc m q=some (acc++qb0 m q acc.length))→
 t8.length=j+l.length→acc.length+1+mid.length+ud l≤1000000→
 ue l j (acc++⟨p,k,t,g, []⟩::mid) (acc.length:Int) t8=some (acc++⟨p,k,t,g,t8.take j++qbj (acc.length+1+mid.length) l⟩::(mid++qbd l acc.length (acc.length+1+mid.length)))
 | [],j,acc,mid,t8,ih,h8,hs=>by
   rw [ue.eq_def]
   simp only [qa]
   rw [qdr rfl,bs,Bj,qzk,qbj,qbd,Az,Az,Bi (by rw [h8];simp)]
 | m ::l,j,acc,mid,t8,ih,h8,hs=>by
   rw [ud] at hs
   have hlen:(acc++(⟨p,k,t,g, []⟩:Row)::mid).length=acc.length+1+mid.length:=by rw [Ad,Ae];omega
   obtain ⟨v,hv⟩:∃v,ix t8 (j:Int)=some v:=by
    rw [qmb]
    exact ⟨_,Ak (by rw [h8,Ae];omega)⟩
   rw [ue.eq_def]
   simp only [qa]
   rw [hv,bs,ih m (AK ..) _ _ (by rw [hlen];omega),bs,hlen,Ap,AJ]
   have:=q77 p k t g l (j+1) acc (mid++qb0 m acc.length (acc.length+1+mid.length)) (t8.set (j:Int).toNat ((acc.length+1+mid.length:Nat):Int)) (fun x hx=>ih x (Ay _ hx)) (by rw [B9,h8,Ae];omega)
    (by rw [Ad,qdd];omega)
   rw [this,Ad,qdd,qbj,qbd,Bj]
   have ht:(t8.set j ((acc.length+1+mid.length:Nat):Int)).take (j+1)=t8.take j++ [((acc.length+1+mid.length:Nat):Int)]:=by
    rw [List.take_succ,List.take_set_of_le (Aj _),Bz (by rw [h8,Ae];omega)];rfl
   rw [ht,Ap,Ap,List.singleton_append,show acc.length+1+(mid.length+u3 m)=acc.length+1+mid.length+u3 m by omega]
theorem q0t {n:Node} (h:bdN n):n.gaps.length≤4000:=by rw [q0u] at h;exact h.2.1
theorem qum {n:Node} (h:bdN n):∀m∈n.kids,bdN m:=fun m hm=>by rw [q0u] at h;exact q0v h.2.2.2 hm
theorem qxg:∀(f:Nat) (n:Node),u3 n≤f→bdN n→∀(acc:List Row) (q:Int),acc.length+u3 n≤1000000→vl acc n q=some (acc++qb0 n q acc.length)
 | 0, .mk k t g l,hf,_,acc,q,h=>by rw [u3] at hf;omega
 | f +1, .mk k t g l,hf,hb,acc,q,h=>by
   rw [u3] at hf h
   have hl:=qjm l
   rw [vl.eq_def]
   simp only [qa]
   have hg:Qm g=some g:=q05 (q0t hb)
   show (Qm g >>=_)=_
   rw [hg,bs,qck (by rw [Ai];omega) (by decide),bs]
   show (if (decide (((l.map Node.cells).length:Int)=(0:Int)))=true then _ else mkz 8 ((l.map Node.cells).length:Int) (0:Int) >>=_)=_
   rw [As,qb0]
   by_cases h0:l= []
   ·subst h0
    rw [if_pos (by decide),qbj,qbd];rfl
   have hp:=B4.2 h0
   rw [if_neg (by rw [decide_eq_true_eq];omega),q8f (by omega) (by omega),bs]
   have:=q77 q k t g l 0 acc [] (List.replicate l.length 0) (fun m hm acc q hq=>qxg f m (by have:=q3m hm;omega) (qum hb m hm) acc q hq) (by rw [BX,AN]) (by simp;omega)
   simp only [List.take_zero,AQ,Ar,BJ] at this
   exact this
theorem q78 (p:Int) (k:Int) (t:BA) (g:List BA):∀(l:List Node) (j:Nat) (acc:List Row) (mid:List Row) (t8:List Int),(∀m∈l,∀(acc:List Row) (q:Int),acc.length+u3 m≤1000000→vl acc m q=some (acc++qb0 m q acc.length))→
 t8.length=j+l.length→acc.length+1+mid.length+ud l≤1000000→
 uf l j (acc++⟨p,k,t,g, []⟩::mid) (acc.length:Int) t8=some (acc++⟨p,k,t,g,t8.take j++qbj (acc.length+1+mid.length) l⟩::(mid++qbd l acc.length (acc.length+1+mid.length)))
 | [],j,acc,mid,t8,ih,h8,hs=>by
   rw [uf.eq_def]
   simp only [qa]
   rw [qdr rfl,bs,Bj,qzk,qbj,qbd,Az,Az,Bi (by rw [h8];simp)]
 | m ::l,j,acc,mid,t8,ih,h8,hs=>by
   rw [ud] at hs
   have hlen:(acc++(⟨p,k,t,g, []⟩:Row)::mid).length=acc.length+1+mid.length:=by rw [Ad,Ae];omega
   obtain ⟨v,hv⟩:∃v,ix t8 (j:Int)=some v:=by
    rw [qmb]
    exact ⟨_,Ak (by rw [h8,Ae];omega)⟩
   rw [uf.eq_def]
   simp only [qa]
   rw [hv,bs,ih m (AK ..) _ _ (by rw [hlen];omega),bs,hlen,Ap,AJ]
   have:=q78 p k t g l (j+1) acc (mid++qb0 m acc.length (acc.length+1+mid.length)) (t8.set (j:Int).toNat ((acc.length+1+mid.length:Nat):Int)) (fun x hx=>ih x (Ay _ hx)) (by rw [B9,h8,Ae];omega)
    (by rw [Ad,qdd];omega)
   rw [this,Ad,qdd,qbj,qbd,Bj]
   have ht:(t8.set j ((acc.length+1+mid.length:Nat):Int)).take (j+1)=t8.take j++ [((acc.length+1+mid.length:Nat):Int)]:=by
    rw [List.take_succ,List.take_set_of_le (Aj _),Bz (by rw [h8,Ae];omega)];rfl
   rw [ht,Ap,Ap,List.singleton_append,show acc.length+1+(mid.length+u3 m)=acc.length+1+mid.length+u3 m by omega]
theorem q98 (n:Node) (hb:bdN n) (h:u3 n≤100000):qce n=some (qb0 n (-1) 0):=by
 cases n with
 | mk k t g l=>
 rw [u3] at h
 have hl:=qjm l
 unfold qce qby
 have hg:Qm g=some g:=q05 (q0t hb)
 show (Qm g >>=_) >>=_=_
 rw [hg,bs,qck (by simp) (by decide),bs]
 show ((if (decide (((l.map Node.cells).length:Int)=(0:Int)))=true then _ else mkz 8 ((l.map Node.cells).length:Int) (0:Int) >>=_) >>=_)=_
 rw [As,qb0]
 by_cases h0:l= []
 ·subst h0
  rw [if_pos (by decide),bs,qbj,qbd];rfl
 have hp:=B4.2 h0
 rw [if_neg (by rw [decide_eq_true_eq];omega),q8f (by omega) (by omega),bs]
 have:=q78 (-1) k t g l 0 [] [] (List.replicate l.length 0) (fun m hm acc q hq=>qxg (u3 m) m (Aj _) (qum hb m hm) acc q hq) (by rw [BX,AN]) (by simp;omega)
 simp only [AQ,Ar,List.take_zero,AN,BJ] at this
 simp only [AQ,Ar]
 rw [show ((0:Nat):Int)=0 from rfl] at this
 show (uf l 0 [⟨-1,k,t,g, []⟩] ((0:Nat):Int) (List.replicate l.length 0) >>=_)=_
 rw [show ((0:Nat):Int)=0 from rfl,this,bs]
structure Ctx (R:List Row) (p:Int) (x:Around):Prop where
 meth:x.method_=true ↔ ∃r,0≤p∧ix R p=some r∧r.Kind=7
 cls:∀r,0≤p→ix R p=some r→x.class_=r.Text
 at_:0≤p→∃r,ix R p=some r
 fn:F_project_function_l0 R p=some x.function_
 sz:x.class_.size≤4000
theorem ctx0 (R:List Row):Ctx R (-1) ar0:=by
 refine ⟨⟨fun h=>(by cases h),fun ⟨r,h,_⟩=>absurd h (by decide)⟩,fun r h=>absurd h (by decide),fun h=>absurd h (by decide),?_,by decide⟩
 rw [F_project_function_l0.eq_def,if_neg (by decide)]
theorem qlh {R:List Row} {j:Int} {r:Row} {x:Around} (hr:ix R j=some r) (h:Ctx R r.Parent x):Q1 R j=some (if x.method_=true then x.class_ else eB,x.method_):=by
 unfold Q1
 rw [hr,bs]
 by_cases h0:r.Parent < 0
 ·have hm:¬x.method_=true:=fun e=>by obtain ⟨q,h1,_⟩:=h.meth.1 e;omega
  rw [if_pos (decide_eq_true h0),if_neg hm]
  cases hx:x.method_ with
  | false=>rfl
  | true=>exact absurd hx hm
 have h0':0≤r.Parent:=by omega
 obtain ⟨q,hq⟩:=h.at_ h0'
 rw [if_neg (by rw [decide_eq_true_eq];exact h0),hq,bs]
 by_cases h7:q.Kind=7
 ·have hm:=h.meth.2 ⟨q,h0',hq,h7⟩
  rw [decide_eq_true h7,if_neg (by decide),bs,hm,if_pos rfl,h.cls q h0' hq]
 have hm:¬x.method_=true:=fun e=>by
  obtain ⟨q',_,hq',h7'⟩:=h.meth.1 e
  rw [hq] at hq'
  cases hq'
  exact h7 h7'
 rw [decide_eq_false h7,if_pos (by decide),if_neg hm]
 cases hx:x.method_ with
 | false=>rfl
 | true=>exact absurd hx hm
theorem q0r {a b:BA} (h:a.size+b.size≤1000000):cat a b=some (a++b):=by unfold cat;rw [if_pos (by omega)]
theorem q69 {R:List Row} {j:Nat} {r:Row} {x:Around} (hr:ix R (j:Int)=some r) (h:Ctx R r.Parent x) (ht:r.Text.size≤4000):Ctx R (j:Int) (blw r.Kind r.Text x):=by
 refine ⟨⟨fun e=>⟨r,by omega,hr,of_decide_eq_true e⟩,fun ⟨q,_,hq,h7⟩=> ?_⟩,fun q _ hq=> ?_,fun _=>⟨r,hr⟩,?_,ht⟩
 ·rw [hr] at hq;cases hq;exact decide_eq_true h7
 ·rw [hr] at hq;cases hq;rfl
 rw [F_project_function_l0.eq_def]
 simp only [qa]
 rw [if_pos (decide_eq_true (by omega)),hr,bs]
 by_cases h2:r.Kind=2
 ·rw [decide_eq_true h2,if_neg (by decide),qlh hr h,bs]
  unfold blw
  rw [if_pos h2]
  have hz:=h.sz
  have h1:(⟨#[46]⟩:BA).size=1:=rfl
  have c1:cat x.class_ (⟨#[46]⟩:BA)=some (x.class_++⟨#[46]⟩):=q0r (by omega)
  have c2:cat (x.class_++(⟨#[46]⟩:BA)) r.Text=some (x.class_++⟨#[46]⟩++r.Text):=q0r (by rw [ByteArray.size_append];omega)
  by_cases hm:x.method_=true
  ·rw [if_pos hm,if_pos hm,if_pos hm,c1,bs,bs,c2,bs]
  rw [if_neg hm,if_neg hm,bs]
 rw [decide_eq_false h2,if_pos (by decide),bs]
 unfold blw
 rw [if_neg h2]
 exact h.fn
end Pj
end Go.Proofs.YtpnkemogepoioaaGreatDoorW.Ex.Gr

namespace Go.Proofs.YtpnkemogepoioaaGreatDoorW.Ex.Gr
open Go Go.Proofs.YtpnkemogepoioaaGreatDoorW.Ex Go.Proofs.YtpnkemogepoioaaGreatDoorW.Plain Tk
set_option linter.all false
set_option maxRecDepth 100000
namespace Pj
section
variable {A:List Unit} {J:Nat} {R:List Row} {u:Int}
theorem q56 (a1:List Row) (j:Nat) (acc:List Decl) (d:Decl) (h:acc.length≤1000000):wr A J a1 j vf acc u R d=zx A J a1 (j+1) vf (acc++ [d]) u R:=by
 rw [wr.eq_def]
 simp only [qa]
 rw [qck (by rw [Ai];omega) (by decide),bs,wo.eq_def]
 simp only [qa]
theorem qql {j:Int} {r:Row} {x:Around} (hr:ix R j=some r) (h:Ctx R r.Parent x):Qk R j=some x.function_:=by
 unfold Qk
 rw [hr,bs]
 exact h.fn
theorem za8 {j:Nat} {r:Row} {x:Around} (hr:ix R (j:Int)=some r) (h:Ctx R r.Parent x) (rest:List Row) (acc:List Decl) (ha:acc.length≤1000000):
 zx A J (r::rest) j vf acc u R=zx A J rest (j+1) vf (acc++dclK r.Kind r.Text ⟨u,j⟩ x) u R:=by
 have fin:∀(k o:Int) (d:Decl),yv A J rest j vf acc u R (j:Int) k d=zx A J rest (j+1) vf (acc++ [if k=5∨k=6 then ⟨d.Kind,x.function_,d.Name,d.At⟩ else d]) u R:=by
  intro k o d
  rw [yv.eq_def]
  simp only [qa]
  by_cases h5:k=5
  ·rw [if_pos (decide_eq_true h5),qql hr h,bs,q56 _ _ _ _ ha,if_pos (.inl h5)]
  rw [if_neg (by rw [decide_eq_true_eq];exact h5)]
  by_cases h6:k=6
  ·rw [if_pos (decide_eq_true h6),qql hr h,bs,q56 _ _ _ _ ha,if_pos (.inr h6)]
  rw [if_neg (by rw [decide_eq_true_eq];exact h6),q56 _ _ _ _ ha,if_neg (fun e=>e.elim h5 h6)]
 rw [zx.eq_def]
 simp only [qa]
 unfold dclK
 have step:∀(k:Int),mhas vf r.Kind=true→mget vf r.Kind=k→
  (if (!(mhas vf r.Kind))=true then wo A J rest j vf acc u R
   else Q1 R (j:Int) >>=fun x3=>
    if x3.2=true then
     if (decide ((mget vf r.Kind)=(1:Int)))=true then yv A J rest j vf acc u R (j:Int) (mget vf r.Kind) (Decl.mk (4:Int) x3.1 r.Text (Ref.mk u (j:Int)))
     else yv A J rest j vf acc u R (j:Int) (mget vf r.Kind) (Decl.mk (mget vf r.Kind) (⟨#[]⟩) r.Text (Ref.mk u (j:Int)))
    else yv A J rest j vf acc u R (j:Int) (mget vf r.Kind) (Decl.mk (mget vf r.Kind) (⟨#[]⟩) r.Text (Ref.mk u (j:Int))))=
  zx A J rest (j+1) vf (acc++ [if k=5∨k=6 then ⟨k,x.function_,r.Text,⟨u,j⟩⟩ else if k=1∧x.method_=true then ⟨4,x.class_,r.Text,⟨u,j⟩⟩ else ⟨k,eB,r.Text,⟨u,j⟩⟩]) u R:=by
  intro k h1 h2
  rw [h1,h2,if_neg (by decide),qlh hr h,bs]
  by_cases hm:x.method_=true
  ·rw [if_pos hm]
   by_cases h3:k=1
   ·subst h3
    have e5:¬((1:Int)=5∨(1:Int)=6):=by decide
    rw [if_pos (by decide),fin _ 0,if_neg e5,if_neg e5,if_pos (⟨rfl,hm⟩:(1:Int)=1∧x.method_=true),if_pos hm]
   rw [if_neg (by rw [decide_eq_true_eq];exact h3),fin _ 0,if_neg (fun e:k=1∧x.method_=true=>h3 e.1)]
  rw [if_neg hm,fin _ 0,if_neg (fun e:k=1∧x.method_=true=>hm e.2)]
 by_cases h2:r.Kind=2
 ·refine (step 1 (by rw [h2];rfl) (by rw [h2];rfl)).trans ?_
  rw [if_pos h2,if_neg (by decide)]
  by_cases hm:x.method_=true
  ·rw [if_pos ⟨rfl,hm⟩,if_pos hm]
  rw [if_neg (fun e=>hm e.2),if_neg hm]
 rw [if_neg h2]
 by_cases h7:r.Kind=7
 ·refine (step 2 (by rw [h7];rfl) (by rw [h7];rfl)).trans ?_
  rw [if_pos h7,if_neg (by decide),if_neg (fun e=>absurd e.1 (by decide))]
 rw [if_neg h7]
 by_cases h9:r.Kind=9
 ·refine (step 3 (by rw [h9];rfl) (by rw [h9];rfl)).trans ?_
  rw [if_pos h9,if_neg (by decide),if_neg (fun e=>absurd e.1 (by decide))]
 rw [if_neg h9]
 by_cases h4:r.Kind=4
 ·refine (step 5 (by rw [h4];rfl) (by rw [h4];rfl)).trans ?_
  rw [if_pos h4,if_pos (.inl rfl)]
 rw [if_neg h4]
 by_cases h10:r.Kind=10
 ·refine (step 6 (by rw [h10];rfl) (by rw [h10];rfl)).trans ?_
  rw [if_pos h10,if_pos (.inr rfl)]
 rw [if_neg h10,Az]
 have hm:mhas vf r.Kind=false:=by
  unfold vf mhas mhas mhas mhas mhas mhas
  rw [if_neg h2,if_neg h7,if_neg h9,if_neg h4,if_neg h10]
 rw [hm,if_pos (by decide),wo.eq_def]
 simp only [qa]
end
mutual
theorem q57 {A:List Unit} {J:Nat} {R:List Row} {u:Int}:∀(n:Node) (p:Int) (x:Around) (pre rest:List Row) (acc:List Decl),R=pre++(qb0 n p pre.length++rest)→Ctx R p x→bdN n→acc.length+u3 n≤1000000→
 zx A J (qb0 n p pre.length++rest) pre.length vf acc u R=zx A J rest (pre.length+u3 n) vf (acc++wlk u n pre.length x) u R
 | .mk k t g l,p,x,pre,rest,acc,hR,hc,hb,hs=>by
   rw [u3] at hs
   rw [qb0,AJ] at hR ⊢
   have hr:ix R (pre.length:Int)=some ⟨p,k,t,g,qbj (pre.length+1) l⟩:=qdr hR
   have hb':=hb
   rw [q0u] at hb'
   rw [za8 hr hc _ _ (by omega)]
   have hk:=q69 hr hc hb'.1
   have hd:=qw6 k t ⟨u,(pre.length:Int)⟩ x
   have hle:(pre++ [(⟨p,k,t,g,qbj (pre.length+1) l⟩:Row)]).length=pre.length+1:=by rw [Ad,Ai]
   have:=q58 (A:=A) (J:=J) (R:=R) (u:=u) l pre.length (blw k t x) (pre++ [⟨p,k,t,g,qbj (pre.length+1) l⟩]) rest (acc++dclK k t ⟨u,(pre.length:Int)⟩ x)
    (by rw [hle,hR,Ap];rfl) hk (qum hb) (by rw [Ad];omega)
   rw [hle] at this
   show zx A J (qbd l pre.length (pre.length+1)++rest) (pre.length+1) vf (acc++dclK k t ⟨u,(pre.length:Int)⟩ x) u R=_
   rw [this,wlk,u3,Ap,show pre.length+1+ud l=pre.length+(ud l+1) by omega,show ((pre.length+1:Nat):Int)=(pre.length:Int)+1 by omega]
theorem q58 {A:List Unit} {J:Nat} {R:List Row} {u:Int}:∀(l:List Node) (p:Nat) (x:Around) (pre rest:List Row) (acc:List Decl),R=pre++(qbd l p pre.length++rest)→Ctx R (p:Int) x→(∀m∈l,bdN m)→acc.length+ud l≤1000000→
 zx A J (qbd l p pre.length++rest) pre.length vf acc u R=zx A J rest (pre.length+ud l) vf (acc++wlkL u l pre.length x) u R
 | [],p,x,pre,rest,acc,hR,hc,hb,hs=>by rw [qbd,wlkL,ud,AQ,Az,BJ]
 | m ::l,p,x,pre,rest,acc,hR,hc,hb,hs=>by
   rw [ud] at hs
   rw [qbd,Ap] at hR ⊢
   rw [q57 m p x pre _ acc hR hc (hb m (AK ..)) (by omega)]
   have hle:(pre++qb0 m p pre.length).length=pre.length+u3 m:=by rw [Ad,qdd]
   have hw:=qta u m (pre.length:Int) x
   have:=q58 (A:=A) (J:=J) (R:=R) (u:=u) l p x (pre++qb0 m p pre.length) rest (acc++wlk u m pre.length x)
    (by rw [hle,hR,Ap]) hc (fun q hq=>hb q (Ay _ hq)) (by rw [Ad];omega)
   rw [hle] at this
   rw [this,wlkL,ud,Ap,BB,show ((pre.length+u3 m:Nat):Int)=(pre.length:Int)+u3 m by omega]
end
def qr7:List Unit→Nat
 | []=>0
 | x::l=>u3 x.Tree+qr7 l
def okU (l:List Unit):Prop:=∀x∈l,x.Broken=false→bdN x.Tree
theorem qqo:∀(l:List Unit) (j:Nat) (acc:List Decl),okU l→acc.length+qr7 l≤100000→wm l j vf acc=some (acc++qsx j l)
 | [],j,acc,ho,h=>by
   rw [wm.eq_def,qsx,Az]
 | x ::l,j,acc,ho,h=>by
   rw [qr7] at h
   have ih:=fun acc=>qqo l (j+1) acc (fun q hq=>ho q (Ay _ hq))
   rw [wm.eq_def]
   simp only [qa]
   rw [qsx]
   by_cases hb:x.Broken=true
   ·rw [if_pos hb,if_pos hb,w8.eq_def]
    simp only [qa]
    rw [ih acc (by omega),AQ]
   rw [if_neg hb,if_neg hb]
   have hbd:=ho x (AK ..) (by cases e:x.Broken with | false=>rfl | true=>exact absurd e hb)
   rw [q98 x.Tree hbd (by omega),bs]
   have hw:=qta (j:Int) x.Tree 0 ar0
   have:=q57 (A:=l) (J:=j) (R:=qb0 x.Tree (-1) 0) (u:=(j:Int)) x.Tree (-1) ar0 [] [] acc (by rw [Az];rfl) (ctx0 _) hbd (by omega)
   rw [Az] at this
   simp only [Ar] at this
   rw [this,zx.eq_def]
   simp only [qa]
   rw [w8.eq_def]
   simp only [qa]
   rw [ih _ (by rw [Ad];simp only [Int.natCast_zero] at hw ⊢;omega),Ap]
   rfl
theorem q06 (l:List Unit) (ho:okU l) (h:qr7 l≤100000):Jb l=some (qsx 0 l):=by
 unfold Jb qcv
 rw [bs,qqo l 0 [] ho (by simpa using h),AQ]
end Pj
end Go.Proofs.YtpnkemogepoioaaGreatDoorW.Ex.Gr
