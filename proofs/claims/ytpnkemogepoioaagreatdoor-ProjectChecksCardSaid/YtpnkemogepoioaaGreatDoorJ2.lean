/- The declarations of units in plain words; what tree.Rows and project's functions on rows return. Conditions: those in each theorem. What project.Decls and the reference's Decls return. Conditions: those in each theorem. -/
import Derived.Test.YtpnkemogepoioaaGreatDoorJ0
namespace Go.Proofs.YtpnkemogepoioaaGreatDoorW.Ex.Gr
open Go Go.Proofs.YtpnkemogepoioaaGreatDoorW.Ex Go.Proofs.YtpnkemogepoioaaGreatDoorW.Plain Tk
set_option linter.all false
set_option maxRecDepth 100000
namespace Pj
structure Around where
 function_:BA
 class_:BA
 method_:Bool
@[reducible] def eB:BA:=⟨#[]⟩
def dclK (k:Int) (t:BA) (at_:Ref) (x:Around):List Decl:=
 if k=2 then [if x.method_=true then ⟨4,x.class_,t,at_⟩ else ⟨1,eB,t,at_⟩]
 else if k=7 then [⟨2,eB,t,at_⟩] else if k=9 then [⟨3,eB,t,at_⟩] else if k=4 then [⟨5,x.function_,t,at_⟩] else if k=10 then [⟨6,x.function_,t,at_⟩] else []
def blw (k:Int) (t:BA) (x:Around):Around:=⟨if k=2 then (if x.method_=true then x.class_++⟨#[46]⟩++t else t) else x.function_,t,decide (k=7)⟩
mutual
def wlk (u:Int):Node→Int→Around→List Decl
 | .mk k t _ l,at_,x=>dclK k t ⟨u,at_⟩ x++wlkL u l (at_+1) (blw k t x)
def wlkL (u:Int):List Node→Int→Around→List Decl
 | [],_,_=> []
 | m::l,at_,x=>wlk u m at_ x++wlkL u l (at_+Zf m) x
end
@[reducible] def ar0:Around:=⟨eB,eB,false⟩
def qu8:Nat→List Unit→List Decl
 | _, []=> []
 | j,x::l=>(if x.Broken=true then [] else wlk j x.Tree 0 ar0)++qu8 (j+1) l
theorem qzc (k:Int) (t:BA) (r:Ref) (x:Around):(dclK k t r x).length≤1:=by
 unfold dclK
 repeat' split
 all_goals simp
mutual
theorem qvo (u:Int):∀(n:Node) (a:Int) (x:Around),(wlk u n a x).length≤Zf n
 | .mk k t g l,a,x=>by
   rw [wlk,Zf,Ad]
   have:=qzc k t ⟨u,a⟩ x
   have:=qxv u l (a+1) (blw k t x)
   omega
theorem qxv (u:Int):∀(l:List Node) (a:Int) (x:Around),(wlkL u l a x).length≤vr l
 | [],a,x=>by rw [wlkL,vr];exact Ak _
 | m::l,a,x=>by
   rw [wlkL,vr,Ad]
   have:=qvo u m a x
   have:=qxv u l (a+Zf m) x
   omega
end
def qct:Nat→List Node→List Int
 | _, []=> []
 | a,m::l=>(a:Int)::qct (a+Zf m) l
mutual
def qdi:Node→Int→Nat→List Row
 | .mk k t g l,p,a=>⟨p,k,t,g,qct (a+1) l⟩::qcl l a (a+1)
def qcl:List Node→Nat→Nat→List Row
 | [],_,_=> []
 | m::l,p,a=>qdi m p a++qcl l p (a+Zf m)
end
mutual
theorem qe0:∀(n:Node) (p:Int) (a:Nat),(qdi n p a).length=Zf n
 | .mk k t g l,p,a=>by rw [qdi,Af,qup l,Zf]
theorem qup:∀(l:List Node) (p a:Nat),(qcl l p a).length=vr l
 | [],p,a=>by rw [qcl,vr];rfl
 | m::l,p,a=>by rw [qcl,Ad,qe0 m,qup l,vr]
end
theorem q3d {l:List BA} (h:l.length≤4000):Q3 l=some l:=by
 unfold Q3
 rw [if_pos (by omega)]
theorem q10 {α:Type} (a:List α) (x y:α) (b:List α):(a++x::b).set a.length y=a++y::b:=by
 rw [List.set_append_right _ _ (Ak _),B3,List.set_cons_zero]
theorem zac {by_:Nat} {k:Nat} {α:Type} {z:α} (h:by_*k≤281474976710656) (h2:k≤1000000):mkz by_ (k:Int) z=some (List.replicate k z):=by
 have h':(by_:Int)*(k:Int)≤281474976710656:=by have h':=Int.ofNat_le.2 h;rwa [Int.natCast_mul] at h'
 exact if_pos ⟨by omega,h',by omega⟩
theorem q92 (p:Int) (k:Int) (t:BA) (g:List BA):∀(l:List Node) (j:Nat) (acc:List Row) (mid:List Row) (t8:List Int),(∀m∈l,∀(acc:List Row) (q:Int),acc.length+Zf m≤1000000→vv acc m q=some (acc++qdi m q acc.length))→
 t8.length=j+l.length→acc.length+1+mid.length+vr l≤1000000→
 uq l j (acc++⟨p,k,t,g, []⟩::mid) (acc.length:Int) t8=some (acc++⟨p,k,t,g,t8.take j++qct (acc.length+1+mid.length) l⟩::(mid++qcl l acc.length (acc.length+1+mid.length)))
 | [],j,acc,mid,t8,ih,h8,hs=>by
   rw [uq.eq_def]
   simp only [qa]
   rw [qbv rfl,bs,Bi,q10,qct,qcl,Bs,Bs,Bg (by rw [h8];simp)]
 | m ::l,j,acc,mid,t8,ih,h8,hs=>by
   rw [vr] at hs
   have hlen:(acc++(⟨p,k,t,g, []⟩:Row)::mid).length=acc.length+1+mid.length:=by rw [Ad,Af];omega
   obtain ⟨v,hv⟩:∃v,ix t8 (j:Int)=some v:=by
    rw [qr3]
    exact ⟨_,Aj (by rw [h8,Af];omega)⟩
   rw [uq.eq_def]
   simp only [qa]
   rw [hv,bs,ih m (AX ..) _ _ (by rw [hlen];omega),bs,hlen,AJ,Bq]
   have:=q92 p k t g l (j+1) acc (mid++qdi m acc.length (acc.length+1+mid.length)) (t8.set (j:Int).toNat ((acc.length+1+mid.length:Nat):Int)) (fun x hx=>ih x (AA _ hx)) (by rw [Ca,h8,Af];omega)
    (by rw [Ad,qe0];omega)
   rw [this,Ad,qe0,qct,qcl,Bi]
   have ht:(t8.set j ((acc.length+1+mid.length:Nat):Int)).take (j+1)=t8.take j++ [((acc.length+1+mid.length:Nat):Int)]:=by
    rw [List.take_succ,List.take_set_of_le (Ak _),BD (by rw [h8,Af];omega)];rfl
   rw [ht,AJ,AJ,List.singleton_append,show acc.length+1+(mid.length+Zf m)=acc.length+1+mid.length+Zf m by omega]
theorem q2z {n:Node} (h:bdN n):n.gaps.length≤4000:=by rw [q20] at h;exact h.2.1
theorem qwt {n:Node} (h:bdN n):∀m∈n.kids,bdN m:=fun m hm=>by rw [q20] at h;exact q21 h.2.2.2 hm
theorem qzo:∀(f:Nat) (n:Node),Zf n≤f→bdN n→∀(acc:List Row) (q:Int),acc.length+Zf n≤1000000→vv acc n q=some (acc++qdi n q acc.length)
 | 0, .mk k t g l,hf,_,acc,q,h=>by rw [Zf] at hf;omega
 | f +1, .mk k t g l,hf,hb,acc,q,h=>by
   rw [Zf] at hf h
   have hl:=qly l
   rw [vv.eq_def]
   simp only [qa]
   have hg:Q3 g=some g:=q3d (q2z hb)
   show (Q3 g >>=_)=_
   rw [hg,bs,yw (by rw [Ae];omega) (by decide),bs]
   show (if (decide (((l.map Node.cells).length:Int)=(0:Int)))=true then _ else mkz 8 ((l.map Node.cells).length:Int) (0:Int) >>=_)=_
   rw [Av,qdi]
   by_cases h0:l= []
   ·subst h0
    rw [if_pos (by decide),qct,qcl];rfl
   have hp:=B6.2 h0
   rw [if_neg (by rw [decide_eq_true_eq];omega),zac (by omega) (by omega),bs]
   have:=q92 q k t g l 0 acc [] (List.replicate l.length 0) (fun m hm acc q hq=>qzo f m (by have:=q5r hm;omega) (qwt hb m hm) acc q hq) (by rw [Ce,AO]) (by simp;omega)
   simp only [List.take_zero,Be,Ao,BL] at this
   exact this
theorem q93 (p:Int) (k:Int) (t:BA) (g:List BA):∀(l:List Node) (j:Nat) (acc:List Row) (mid:List Row) (t8:List Int),(∀m∈l,∀(acc:List Row) (q:Int),acc.length+Zf m≤1000000→vv acc m q=some (acc++qdi m q acc.length))→
 t8.length=j+l.length→acc.length+1+mid.length+vr l≤1000000→
 ur l j (acc++⟨p,k,t,g, []⟩::mid) (acc.length:Int) t8=some (acc++⟨p,k,t,g,t8.take j++qct (acc.length+1+mid.length) l⟩::(mid++qcl l acc.length (acc.length+1+mid.length)))
 | [],j,acc,mid,t8,ih,h8,hs=>by
   rw [ur.eq_def]
   simp only [qa]
   rw [qbv rfl,bs,Bi,q10,qct,qcl,Bs,Bs,Bg (by rw [h8];simp)]
 | m ::l,j,acc,mid,t8,ih,h8,hs=>by
   rw [vr] at hs
   have hlen:(acc++(⟨p,k,t,g, []⟩:Row)::mid).length=acc.length+1+mid.length:=by rw [Ad,Af];omega
   obtain ⟨v,hv⟩:∃v,ix t8 (j:Int)=some v:=by
    rw [qr3]
    exact ⟨_,Aj (by rw [h8,Af];omega)⟩
   rw [ur.eq_def]
   simp only [qa]
   rw [hv,bs,ih m (AX ..) _ _ (by rw [hlen];omega),bs,hlen,AJ,Bq]
   have:=q93 p k t g l (j+1) acc (mid++qdi m acc.length (acc.length+1+mid.length)) (t8.set (j:Int).toNat ((acc.length+1+mid.length:Nat):Int)) (fun x hx=>ih x (AA _ hx)) (by rw [Ca,h8,Af];omega)
    (by rw [Ad,qe0];omega)
   rw [this,Ad,qe0,qct,qcl,Bi]
   have ht:(t8.set j ((acc.length+1+mid.length:Nat):Int)).take (j+1)=t8.take j++ [((acc.length+1+mid.length:Nat):Int)]:=by
    rw [List.take_succ,List.take_set_of_le (Ak _),BD (by rw [h8,Af];omega)];rfl
   rw [ht,AJ,AJ,List.singleton_append,show acc.length+1+(mid.length+Zf m)=acc.length+1+mid.length+Zf m by omega]
theorem zbl (n:Node) (hb:bdN n) (h:Zf n≤100000):qdv n=some (qdi n (-1) 0):=by
 cases n with
 | mk k t g l=>
 rw [Zf] at h
 have hl:=qly l
 unfold qdv qdf
 have hg:Q3 g=some g:=q3d (q2z hb)
 show (Q3 g >>=_) >>=_=_
 rw [hg,bs,yw (by simp) (by decide),bs]
 show ((if (decide (((l.map Node.cells).length:Int)=(0:Int)))=true then _ else mkz 8 ((l.map Node.cells).length:Int) (0:Int) >>=_) >>=_)=_
 rw [Av,qdi]
 by_cases h0:l= []
 ·subst h0
  rw [if_pos (by decide),bs,qct,qcl];rfl
 have hp:=B6.2 h0
 rw [if_neg (by rw [decide_eq_true_eq];omega),zac (by omega) (by omega),bs]
 have:=q93 (-1) k t g l 0 [] [] (List.replicate l.length 0) (fun m hm acc q hq=>qzo (Zf m) m (Ak _) (qwt hb m hm) acc q hq) (by rw [Ce,AO]) (by simp;omega)
 simp only [Be,Ao,List.take_zero,AO,BL] at this
 simp only [Be,Ao]
 rw [show ((0:Nat):Int)=0 from rfl] at this
 show (ur l 0 [⟨-1,k,t,g, []⟩] ((0:Nat):Int) (List.replicate l.length 0) >>=_)=_
 rw [show ((0:Nat):Int)=0 from rfl,this,bs]
structure Ctx (R:List Row) (p:Int) (x:Around):Prop where
 meth:x.method_=true ↔ ∃r,0≤p∧ix R p=some r∧r.Kind=7
 cls:∀r,0≤p→ix R p=some r→x.class_=r.Text
 at_:0≤p→∃r,ix R p=some r
 fn:F_project_function_l0 R p=some x.function_
 sz:x.class_.size≤4000
theorem ctx0 (R:List Row):Ctx R (-1) ar0:=by
 refine ⟨⟨fun h=>(by cases h),fun ⟨r,h,_⟩=>absurd h (by decide)⟩,fun r h=>absurd h (by decide),fun h=>absurd h (by decide),?_,by decide⟩
 rw [F_project_function_l0.eq_def,if_neg (by decide)]
theorem qn2 {R:List Row} {j:Int} {r:Row} {x:Around} (hr:ix R j=some r) (h:Ctx R r.Parent x):Zr R j=some (if x.method_=true then x.class_ else eB,x.method_):=by
 unfold Zr
 rw [hr,bs]
 by_cases h0:r.Parent < 0
 ·have hm:¬x.method_=true:=fun e=>by obtain ⟨q,h1,_⟩:=h.meth.1 e;omega
  rw [if_pos (decide_eq_true h0),if_neg hm]
  cases hx:x.method_ with
  | false=>rfl
  | true=>exact absurd hx hm
 have h0':0≤r.Parent:=by omega
 obtain ⟨q,hq⟩:=h.at_ h0'
 rw [if_neg (by rw [decide_eq_true_eq];exact h0),hq,bs]
 by_cases h7:q.Kind=7
 ·have hm:=h.meth.2 ⟨q,h0',hq,h7⟩
  rw [decide_eq_true h7,if_neg (by decide),bs,hm,if_pos rfl,h.cls q h0' hq]
 have hm:¬x.method_=true:=fun e=>by
  obtain ⟨q',_,hq',h7'⟩:=h.meth.1 e
  rw [hq] at hq'
  cases hq'
  exact h7 h7'
 rw [decide_eq_false h7,if_pos (by decide),if_neg hm]
 cases hx:x.method_ with
 | false=>rfl
 | true=>exact absurd hx hm
theorem q2y {a b:BA} (h:a.size+b.size≤1000000):cat a b=some (a++b):=by unfold cat;rw [if_pos (by omega)]
theorem q84 {R:List Row} {j:Nat} {r:Row} {x:Around} (hr:ix R (j:Int)=some r) (h:Ctx R r.Parent x) (ht:r.Text.size≤4000):Ctx R (j:Int) (blw r.Kind r.Text x):=by
 refine ⟨⟨fun e=>⟨r,by omega,hr,of_decide_eq_true e⟩,fun ⟨q,_,hq,h7⟩=> ?_⟩,fun q _ hq=> ?_,fun _=>⟨r,hr⟩,?_,ht⟩
 ·rw [hr] at hq;cases hq;exact decide_eq_true h7
 ·rw [hr] at hq;cases hq;rfl
 rw [F_project_function_l0.eq_def]
 simp only [qa]
 rw [if_pos (decide_eq_true (by omega)),hr,bs]
 by_cases h2:r.Kind=2
 ·rw [decide_eq_true h2,if_neg (by decide),qn2 hr h,bs]
  unfold blw
  rw [if_pos h2]
  have hz:=h.sz
  have h1:(⟨#[46]⟩:BA).size=1:=rfl
  have c1:cat x.class_ (⟨#[46]⟩:BA)=some (x.class_++⟨#[46]⟩):=q2y (by omega)
  have c2:cat (x.class_++(⟨#[46]⟩:BA)) r.Text=some (x.class_++⟨#[46]⟩++r.Text):=q2y (by rw [ByteArray.size_append];omega)
  by_cases hm:x.method_=true
  ·rw [if_pos hm,if_pos hm,if_pos hm,c1,bs,bs,c2,bs]
  rw [if_neg hm,if_neg hm,bs]
 rw [decide_eq_false h2,if_pos (by decide),bs]
 unfold blw
 rw [if_neg h2]
 exact h.fn
end Pj
end Go.Proofs.YtpnkemogepoioaaGreatDoorW.Ex.Gr

namespace Go.Proofs.YtpnkemogepoioaaGreatDoorW.Ex.Gr
open Go Go.Proofs.YtpnkemogepoioaaGreatDoorW.Ex Go.Proofs.YtpnkemogepoioaaGreatDoorW.Plain Tk
set_option linter.all false
set_option maxRecDepth 100000
namespace Pj
section
variable {A:List Unit} {J:Nat} {R:List Row} {u:Int}
theorem q8b (a1:List Row) (j:Nat) (acc:List Decl) (d:Decl) (h:acc.length≤1000000):wx A J a1 j vt acc u R d=jp A J a1 (j+1) vt (acc++ [d]) u R:=by
 rw [wx.eq_def]
 simp only [qa]
 rw [yw (by rw [Ae];omega) (by decide),bs,wq.eq_def]
 simp only [qa]
theorem qsu {j:Int} {r:Row} {x:Around} (hr:ix R j=some r) (h:Ctx R r.Parent x):Qx R j=some x.function_:=by
 unfold Qx
 rw [hr,bs]
 exact h.fn
theorem zca {j:Nat} {r:Row} {x:Around} (hr:ix R (j:Int)=some r) (h:Ctx R r.Parent x) (rest:List Row) (acc:List Decl) (ha:acc.length≤1000000):
 jp A J (r::rest) j vt acc u R=jp A J rest (j+1) vt (acc++dclK r.Kind r.Text ⟨u,j⟩ x) u R:=by
 have fin:∀(k o:Int) (d:Decl),y6 A J rest j vt acc u R (j:Int) k d=jp A J rest (j+1) vt (acc++ [if k=5∨k=6 then ⟨d.Kind,x.function_,d.Name,d.At⟩ else d]) u R:=by
  intro k o d
  rw [y6.eq_def]
  simp only [qa]
  by_cases h5:k=5
  ·rw [if_pos (decide_eq_true h5),qsu hr h,bs,q8b _ _ _ _ ha,if_pos (.inl h5)]
  rw [if_neg (by rw [decide_eq_true_eq];exact h5)]
  by_cases h6:k=6
  ·rw [if_pos (decide_eq_true h6),qsu hr h,bs,q8b _ _ _ _ ha,if_pos (.inr h6)]
  rw [if_neg (by rw [decide_eq_true_eq];exact h6),q8b _ _ _ _ ha,if_neg (fun e=>e.elim h5 h6)]
 rw [jp.eq_def]
 simp only [qa]
 unfold dclK
 have step:∀(k:Int),mhas vt r.Kind=true→mget vt r.Kind=k→
  (if (!(mhas vt r.Kind))=true then wq A J rest j vt acc u R
   else Zr R (j:Int) >>=fun x3=>
    if x3.2=true then
     if (decide ((mget vt r.Kind)=(1:Int)))=true then y6 A J rest j vt acc u R (j:Int) (mget vt r.Kind) (Decl.mk (4:Int) x3.1 r.Text (Ref.mk u (j:Int)))
     else y6 A J rest j vt acc u R (j:Int) (mget vt r.Kind) (Decl.mk (mget vt r.Kind) (⟨#[]⟩) r.Text (Ref.mk u (j:Int)))
    else y6 A J rest j vt acc u R (j:Int) (mget vt r.Kind) (Decl.mk (mget vt r.Kind) (⟨#[]⟩) r.Text (Ref.mk u (j:Int))))=
  jp A J rest (j+1) vt (acc++ [if k=5∨k=6 then ⟨k,x.function_,r.Text,⟨u,j⟩⟩ else if k=1∧x.method_=true then ⟨4,x.class_,r.Text,⟨u,j⟩⟩ else ⟨k,eB,r.Text,⟨u,j⟩⟩]) u R:=by
  intro k h1 h2
  rw [h1,h2,if_neg (by decide),qn2 hr h,bs]
  by_cases hm:x.method_=true
  ·rw [if_pos hm]
   by_cases h3:k=1
   ·subst h3
    have e5:¬((1:Int)=5∨(1:Int)=6):=by decide
    rw [if_pos (by decide),fin _ 0,if_neg e5,if_neg e5,if_pos (⟨rfl,hm⟩:(1:Int)=1∧x.method_=true),if_pos hm]
   rw [if_neg (by rw [decide_eq_true_eq];exact h3),fin _ 0,if_neg (fun e:k=1∧x.method_=true=>h3 e.1)]
  rw [if_neg hm,fin _ 0,if_neg (fun e:k=1∧x.method_=true=>hm e.2)]
 by_cases h2:r.Kind=2
 ·refine (step 1 (by rw [h2];rfl) (by rw [h2];rfl)).trans ?_
  rw [if_pos h2,if_neg (by decide)]
  by_cases hm:x.method_=true
  ·rw [if_pos ⟨rfl,hm⟩,if_pos hm]
  rw [if_neg (fun e=>hm e.2),if_neg hm]
 rw [if_neg h2]
 by_cases h7:r.Kind=7
 ·refine (step 2 (by rw [h7];rfl) (by rw [h7];rfl)).trans ?_
  rw [if_pos h7,if_neg (by decide),if_neg (fun e=>absurd e.1 (by decide))]
 rw [if_neg h7]
 by_cases h9:r.Kind=9
 ·refine (step 3 (by rw [h9];rfl) (by rw [h9];rfl)).trans ?_
  rw [if_pos h9,if_neg (by decide),if_neg (fun e=>absurd e.1 (by decide))]
 rw [if_neg h9]
 by_cases h4:r.Kind=4
 ·refine (step 5 (by rw [h4];rfl) (by rw [h4];rfl)).trans ?_
  rw [if_pos h4,if_pos (.inl rfl)]
 rw [if_neg h4]
 by_cases h10:r.Kind=10
 ·refine (step 6 (by rw [h10];rfl) (by rw [h10];rfl)).trans ?_
  rw [if_pos h10,if_pos (.inr rfl)]
 rw [if_neg h10,Bs]
 have hm:mhas vt r.Kind=false:=by
  unfold vt mhas mhas mhas mhas mhas mhas
  rw [if_neg h2,if_neg h7,if_neg h9,if_neg h4,if_neg h10]
 rw [hm,if_pos (by decide),wq.eq_def]
 simp only [qa]
end
mutual
theorem q8c {A:List Unit} {J:Nat} {R:List Row} {u:Int}:∀(n:Node) (p:Int) (x:Around) (pre rest:List Row) (acc:List Decl),R=pre++(qdi n p pre.length++rest)→Ctx R p x→bdN n→acc.length+Zf n≤1000000→
 jp A J (qdi n p pre.length++rest) pre.length vt acc u R=jp A J rest (pre.length+Zf n) vt (acc++wlk u n pre.length x) u R
 | .mk k t g l,p,x,pre,rest,acc,hR,hc,hb,hs=>by
   rw [Zf] at hs
   rw [qdi,Bq] at hR ⊢
   have hr:ix R (pre.length:Int)=some ⟨p,k,t,g,qct (pre.length+1) l⟩:=qbv hR
   have hb':=hb
   rw [q20] at hb'
   rw [zca hr hc _ _ (by omega)]
   have hk:=q84 hr hc hb'.1
   have hd:=qzc k t ⟨u,(pre.length:Int)⟩ x
   have hle:(pre++ [(⟨p,k,t,g,qct (pre.length+1) l⟩:Row)]).length=pre.length+1:=by rw [Ad,Ae]
   have:=q8d (A:=A) (J:=J) (R:=R) (u:=u) l pre.length (blw k t x) (pre++ [⟨p,k,t,g,qct (pre.length+1) l⟩]) rest (acc++dclK k t ⟨u,(pre.length:Int)⟩ x)
    (by rw [hle,hR,AJ];rfl) hk (qwt hb) (by rw [Ad];omega)
   rw [hle] at this
   show jp A J (qcl l pre.length (pre.length+1)++rest) (pre.length+1) vt (acc++dclK k t ⟨u,(pre.length:Int)⟩ x) u R=_
   rw [this,wlk,Zf,AJ,show pre.length+1+vr l=pre.length+(vr l+1) by omega,show ((pre.length+1:Nat):Int)=(pre.length:Int)+1 by omega]
theorem q8d {A:List Unit} {J:Nat} {R:List Row} {u:Int}:∀(l:List Node) (p:Nat) (x:Around) (pre rest:List Row) (acc:List Decl),R=pre++(qcl l p pre.length++rest)→Ctx R (p:Int) x→(∀m∈l,bdN m)→acc.length+vr l≤1000000→
 jp A J (qcl l p pre.length++rest) pre.length vt acc u R=jp A J rest (pre.length+vr l) vt (acc++wlkL u l pre.length x) u R
 | [],p,x,pre,rest,acc,hR,hc,hb,hs=>by rw [qcl,wlkL,vr,Be,Bs,BL]
 | m ::l,p,x,pre,rest,acc,hR,hc,hb,hs=>by
   rw [vr] at hs
   rw [qcl,AJ] at hR ⊢
   rw [q8c m p x pre _ acc hR hc (hb m (AX ..)) (by omega)]
   have hle:(pre++qdi m p pre.length).length=pre.length+Zf m:=by rw [Ad,qe0]
   have hw:=qvo u m (pre.length:Int) x
   have:=q8d (A:=A) (J:=J) (R:=R) (u:=u) l p x (pre++qdi m p pre.length) rest (acc++wlk u m pre.length x)
    (by rw [hle,hR,AJ]) hc (fun q hq=>hb q (AA _ hq)) (by rw [Ad];omega)
   rw [hle] at this
   rw [this,wlkL,vr,AJ,BE,show ((pre.length+Zf m:Nat):Int)=(pre.length:Int)+Zf m by omega]
end
def qul:List Unit→Nat
 | []=>0
 | x::l=>Zf x.Tree+qul l
def okU (l:List Unit):Prop:=∀x∈l,x.Broken=false→bdN x.Tree
theorem qsw:∀(l:List Unit) (j:Nat) (acc:List Decl),okU l→acc.length+qul l≤100000→wo l j vt acc=some (acc++qu8 j l)
 | [],j,acc,ho,h=>by
   rw [wo.eq_def,qu8,Bs]
 | x ::l,j,acc,ho,h=>by
   rw [qul] at h
   have ih:=fun acc=>qsw l (j+1) acc (fun q hq=>ho q (AA _ hq))
   rw [wo.eq_def]
   simp only [qa]
   rw [qu8]
   by_cases hb:x.Broken=true
   ·rw [if_pos hb,if_pos hb,ue.eq_def]
    simp only [qa]
    rw [ih acc (by omega),Be]
   rw [if_neg hb,if_neg hb]
   have hbd:=ho x (AX ..) (by cases e:x.Broken with | false=>rfl | true=>exact absurd e hb)
   rw [zbl x.Tree hbd (by omega),bs]
   have hw:=qvo (j:Int) x.Tree 0 ar0
   have:=q8c (A:=l) (J:=j) (R:=qdi x.Tree (-1) 0) (u:=(j:Int)) x.Tree (-1) ar0 [] [] acc (by rw [Bs];rfl) (ctx0 _) hbd (by omega)
   rw [Bs] at this
   simp only [Ao] at this
   rw [this,jp.eq_def]
   simp only [qa]
   rw [ue.eq_def]
   simp only [qa]
   rw [ih _ (by rw [Ad];simp only [Int.natCast_zero] at hw ⊢;omega),AJ]
   rfl
theorem q3f (l:List Unit) (ho:okU l) (h:qul l≤100000):J2 l=some (qu8 0 l):=by
 unfold J2 qej
 rw [bs,qsw l 0 [] ho (by simpa using h),Be]
end Pj
end Go.Proofs.YtpnkemogepoioaaGreatDoorW.Ex.Gr
