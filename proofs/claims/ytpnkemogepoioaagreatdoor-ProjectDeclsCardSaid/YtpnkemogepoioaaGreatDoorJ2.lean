/- The declarations of units in plain words; what tree.Rows and project's functions on rows return. Conditions: those in each theorem. What project.Decls and the reference's Decls return. Conditions: those in each theorem. -/
import Derived.Test.YtpnkemogepoioaaGreatDoorJ0
namespace Go.Proofs.YtpnkemogepoioaaGreatDoorW.Ex.Gr
open Go Go.Proofs.YtpnkemogepoioaaGreatDoorW.Ex Go.Proofs.YtpnkemogepoioaaGreatDoorW.Plain Tk
set_option linter.all false
set_option maxRecDepth 100000
namespace Pj
@[reducible] def eB:BA:=⟨#[]⟩
def dclK (k:Int) (t:BA) (at_:Ref) (x:Around):List Decl:=
 if k=2 then [if x.method_=true then ⟨4,x.class_,t,at_⟩ else ⟨1,eB,t,at_⟩]
 else if k=7 then [⟨2,eB,t,at_⟩] else if k=9 then [⟨3,eB,t,at_⟩] else if k=4 then [⟨5,x.function_,t,at_⟩] else if k=10 then [⟨6,x.function_,t,at_⟩] else []
def blw (k:Int) (t:BA) (x:Around):Around:=⟨if k=2 then (if x.method_=true then x.class_++⟨#[46]⟩++t else t) else x.function_,t,decide (k=7)⟩
mutual
def wlk (u:Int):Node→Int→Around→List Decl
 | .mk k t _ l,at_,x=>dclK k t ⟨u,at_⟩ x++wlkL u l (at_+1) (blw k t x)
def wlkL (u:Int):List Node→Int→Around→List Decl
 | [],_,_=> []
 | m::l,at_,x=>wlk u m at_ x++wlkL u l (at_+y7 m) x
end
@[reducible] def ar0:Around:=⟨eB,eB,false⟩
def qcp:Nat→List Unit→List Decl
 | _, []=> []
 | j,x::l=>(if x.Broken=true then [] else wlk j x.Tree 0 ar0)++qcp (j+1) l
theorem qsx (k:Int) (t:BA) (r:Ref) (x:Around):(dclK k t r x).length≤1:=by
 unfold dclK
 repeat' split
 all_goals simp
mutual
theorem qf4 (u:Int):∀(n:Node) (a:Int) (x:Around),(wlk u n a x).length≤y7 n
 | .mk k t g l,a,x=>by
   rw [wlk,y7,List.length_append]
   have:=qsx k t ⟨u,a⟩ x
   have:=qrc u l (a+1) (blw k t x)
   omega
theorem qrc (u:Int):∀(l:List Node) (a:Int) (x:Around),(wlkL u l a x).length≤yd l
 | [],a,x=>by rw [wlkL,yd];exact Nat.le_refl _
 | m::l,a,x=>by
   rw [wlkL,yd,List.length_append]
   have:=qf4 u m a x
   have:=qrc u l (a+y7 m) x
   omega
end
def Wm:Nat→List Node→List Int
 | _, []=> []
 | a,m::l=>(a:Int)::Wm (a+y7 m) l
mutual
def W9:Node→Int→Nat→List Row
 | .mk k t g l,p,a=>⟨p,k,t,g,Wm (a+1) l⟩::Wd l a (a+1)
def Wd:List Node→Nat→Nat→List Row
 | [],_,_=> []
 | m::l,p,a=>W9 m p a++Wd l p (a+y7 m)
end
mutual
theorem qbg:∀(n:Node) (p:Int) (a:Nat),(W9 n p a).length=y7 n
 | .mk k t g l,p,a=>by rw [W9,List.length_cons,qom l,y7]
theorem qom:∀(l:List Node) (p a:Nat),(Wd l p a).length=yd l
 | [],p,a=>by rw [Wd,yd];rfl
 | m::l,p,a=>by rw [Wd,List.length_append,qbg m,qom l,yd]
end
theorem qv9 {l:List BA} (h:l.length≤4000):u5 l=some l:=by
 unfold u5
 rw [if_pos (by omega)]
theorem qu3 {α:Type} (a:List α) (x y:α) (b:List α):(a++x::b).set a.length y=a++y::b:=by
 rw [List.set_append_right _ _ (Nat.le_refl _),Nat.sub_self,List.set_cons_zero]
theorem q2f {by_:Nat} {k:Nat} {α:Type} {z:α} (h:by_*k≤281474976710656) (h2:k≤1000000):mkz by_ (k:Int) z=some (List.replicate k z):=by
 have h':(by_:Int)*(k:Int)≤281474976710656:=by have h':=Int.ofNat_le.2 h;rwa [Int.natCast_mul] at h'
 exact if_pos ⟨by omega,h',by omega⟩
theorem q19 (p:Int) (k:Int) (t:BA) (g:List BA):∀(l:List Node) (j:Nat) (acc:List Row) (mid:List Row) (t8:List Int),(∀m∈l,∀(acc:List Row) (q:Int),acc.length+y7 m≤1000000→w8 acc m q=some (acc++W9 m q acc.length))→
 t8.length=j+l.length→acc.length+1+mid.length+yd l≤1000000→
 wa l j (acc++⟨p,k,t,g, []⟩::mid) (acc.length:Int) t8=some (acc++⟨p,k,t,g,t8.take j++Wm (acc.length+1+mid.length) l⟩::(mid++Wd l acc.length (acc.length+1+mid.length)))
 | [],j,acc,mid,t8,ih,h8,hs=>by
   rw [wa.eq_def]
   simp only [qa]
   rw [Wn rfl,bs,Int.toNat_natCast,qu3,Wm,Wd,List.append_nil,List.append_nil,List.take_of_length_le (by rw [h8];simp)]
 | m ::l,j,acc,mid,t8,ih,h8,hs=>by
   rw [yd] at hs
   have hlen:(acc++(⟨p,k,t,g, []⟩:Row)::mid).length=acc.length+1+mid.length:=by rw [List.length_append,List.length_cons];omega
   obtain ⟨v,hv⟩:∃v,ix t8 (j:Int)=some v:=by
    rw [qqd]
    exact ⟨_,List.getElem?_eq_getElem (by rw [h8,List.length_cons];omega)⟩
   rw [wa.eq_def]
   simp only [qa]
   rw [hv,bs,ih m (List.mem_cons_self ..) _ _ (by rw [hlen];omega),bs,hlen,List.append_assoc,List.cons_append]
   have:=q19 p k t g l (j+1) acc (mid++W9 m acc.length (acc.length+1+mid.length)) (t8.set (j:Int).toNat ((acc.length+1+mid.length:Nat):Int)) (fun x hx=>ih x (List.mem_cons_of_mem _ hx)) (by rw [List.length_set,h8,List.length_cons];omega)
    (by rw [List.length_append,qbg];omega)
   rw [this,List.length_append,qbg,Wm,Wd,Int.toNat_natCast]
   have ht:(t8.set j ((acc.length+1+mid.length:Nat):Int)).take (j+1)=t8.take j++ [((acc.length+1+mid.length:Nat):Int)]:=by
    rw [List.take_succ,List.take_set_of_le (Nat.le_refl _),List.getElem?_set_self (by rw [h8,List.length_cons];omega)];rfl
   rw [ht,List.append_assoc,List.append_assoc,List.singleton_append,show acc.length+1+(mid.length+y7 m)=acc.length+1+mid.length+y7 m by omega]
theorem qv1 {n:Node} (h:bdN n):n.gaps.length≤4000:=by rw [qo5] at h;exact h.2.1
theorem qld {n:Node} (h:bdN n):∀m∈n.kids,bdN m:=fun m hm=>by rw [qo5] at h;exact qv2 h.2.2.2 hm
theorem qs6:∀(f:Nat) (n:Node),y7 n≤f→bdN n→∀(acc:List Row) (q:Int),acc.length+y7 n≤1000000→w8 acc n q=some (acc++W9 n q acc.length)
 | 0, .mk k t g l,hf,_,acc,q,h=>by rw [y7] at hf;omega
 | f +1, .mk k t g l,hf,hb,acc,q,h=>by
   rw [y7] at hf h
   have hl:=qbq l
   rw [w8.eq_def]
   simp only [qa]
   have hg:u5 g=some g:=qv9 (qv1 hb)
   show (u5 g >>=_)=_
   rw [hg,bs,qc3 (by rw [List.length_singleton];omega) (by decide),bs]
   show (if (decide (((l.map Node.cells).length:Int)=(0:Int)))=true then _ else mkz 8 ((l.map Node.cells).length:Int) (0:Int) >>=_)=_
   rw [List.length_map,W9]
   by_cases h0:l= []
   ·subst h0
    rw [if_pos (by decide),Wm,Wd];rfl
   have hp:=List.length_pos_iff.2 h0
   rw [if_neg (by rw [decide_eq_true_eq];omega),q2f (by omega) (by omega),bs]
   have:=q19 q k t g l 0 acc [] (List.replicate l.length 0) (fun m hm acc q hq=>qs6 f m (by have:=qry hm;omega) (qld hb m hm) acc q hq) (by rw [List.length_replicate,Nat.zero_add]) (by simp;omega)
   simp only [List.take_zero,List.nil_append,List.length_nil,Nat.add_zero] at this
   exact this
theorem q2a (p:Int) (k:Int) (t:BA) (g:List BA):∀(l:List Node) (j:Nat) (acc:List Row) (mid:List Row) (t8:List Int),(∀m∈l,∀(acc:List Row) (q:Int),acc.length+y7 m≤1000000→w8 acc m q=some (acc++W9 m q acc.length))→
 t8.length=j+l.length→acc.length+1+mid.length+yd l≤1000000→
 wb l j (acc++⟨p,k,t,g, []⟩::mid) (acc.length:Int) t8=some (acc++⟨p,k,t,g,t8.take j++Wm (acc.length+1+mid.length) l⟩::(mid++Wd l acc.length (acc.length+1+mid.length)))
 | [],j,acc,mid,t8,ih,h8,hs=>by
   rw [wb.eq_def]
   simp only [qa]
   rw [Wn rfl,bs,Int.toNat_natCast,qu3,Wm,Wd,List.append_nil,List.append_nil,List.take_of_length_le (by rw [h8];simp)]
 | m ::l,j,acc,mid,t8,ih,h8,hs=>by
   rw [yd] at hs
   have hlen:(acc++(⟨p,k,t,g, []⟩:Row)::mid).length=acc.length+1+mid.length:=by rw [List.length_append,List.length_cons];omega
   obtain ⟨v,hv⟩:∃v,ix t8 (j:Int)=some v:=by
    rw [qqd]
    exact ⟨_,List.getElem?_eq_getElem (by rw [h8,List.length_cons];omega)⟩
   rw [wb.eq_def]
   simp only [qa]
   rw [hv,bs,ih m (List.mem_cons_self ..) _ _ (by rw [hlen];omega),bs,hlen,List.append_assoc,List.cons_append]
   have:=q2a p k t g l (j+1) acc (mid++W9 m acc.length (acc.length+1+mid.length)) (t8.set (j:Int).toNat ((acc.length+1+mid.length:Nat):Int)) (fun x hx=>ih x (List.mem_cons_of_mem _ hx)) (by rw [List.length_set,h8,List.length_cons];omega)
    (by rw [List.length_append,qbg];omega)
   rw [this,List.length_append,qbg,Wm,Wd,Int.toNat_natCast]
   have ht:(t8.set j ((acc.length+1+mid.length:Nat):Int)).take (j+1)=t8.take j++ [((acc.length+1+mid.length:Nat):Int)]:=by
    rw [List.take_succ,List.take_set_of_le (Nat.le_refl _),List.getElem?_set_self (by rw [h8,List.length_cons];omega)];rfl
   rw [ht,List.append_assoc,List.append_assoc,List.singleton_append,show acc.length+1+(mid.length+y7 m)=acc.length+1+mid.length+y7 m by omega]
theorem q3l (n:Node) (hb:bdN n) (h:y7 n≤100000):qai n=some (W9 n (-1) 0):=by
 cases n with
 | mk k t g l=>
 rw [y7] at h
 have hl:=qbq l
 unfold qai W7
 have hg:u5 g=some g:=qv9 (qv1 hb)
 show (u5 g >>=_) >>=_=_
 rw [hg,bs,qc3 (by simp) (by decide),bs]
 show ((if (decide (((l.map Node.cells).length:Int)=(0:Int)))=true then _ else mkz 8 ((l.map Node.cells).length:Int) (0:Int) >>=_) >>=_)=_
 rw [List.length_map,W9]
 by_cases h0:l= []
 ·subst h0
  rw [if_pos (by decide),bs,Wm,Wd];rfl
 have hp:=List.length_pos_iff.2 h0
 rw [if_neg (by rw [decide_eq_true_eq];omega),q2f (by omega) (by omega),bs]
 have:=q2a (-1) k t g l 0 [] [] (List.replicate l.length 0) (fun m hm acc q hq=>qs6 (y7 m) m (Nat.le_refl _) (qld hb m hm) acc q hq) (by rw [List.length_replicate,Nat.zero_add]) (by simp;omega)
 simp only [List.nil_append,List.length_nil,List.take_zero,Nat.zero_add,Nat.add_zero] at this
 simp only [List.nil_append,List.length_nil]
 rw [show ((0:Nat):Int)=0 from rfl] at this
 show (wb l 0 [⟨-1,k,t,g, []⟩] ((0:Nat):Int) (List.replicate l.length 0) >>=_)=_
 rw [show ((0:Nat):Int)=0 from rfl,this,bs]
structure Ctx (R:List Row) (p:Int) (x:Around):Prop where
 meth:x.method_=true ↔ ∃r,0≤p∧ix R p=some r∧r.Kind=7
 cls:∀r,0≤p→ix R p=some r→x.class_=r.Text
 at_:0≤p→∃r,ix R p=some r
 fn:F_project_function_l0 R p=some x.function_
 sz:x.class_.size≤4000
theorem ctx0 (R:List Row):Ctx R (-1) ar0:=by
 refine ⟨⟨fun h=>(by cases h),fun ⟨r,h,_⟩=>absurd h (by decide)⟩,fun r h=>absurd h (by decide),fun h=>absurd h (by decide),?_,by decide⟩
 rw [F_project_function_l0.eq_def,if_neg (by decide)]
theorem qi2 {R:List Row} {j:Int} {r:Row} {x:Around} (hr:ix R j=some r) (h:Ctx R r.Parent x):vr R j=some (if x.method_=true then x.class_ else eB,x.method_):=by
 unfold vr
 rw [hr,bs]
 by_cases h0:r.Parent < 0
 ·have hm:¬x.method_=true:=fun e=>by obtain ⟨q,h1,_⟩:=h.meth.1 e;omega
  rw [if_pos (decide_eq_true h0),if_neg hm]
  cases hx:x.method_ with
  | false=>rfl
  | true=>exact absurd hx hm
 have h0':0≤r.Parent:=by omega
 obtain ⟨q,hq⟩:=h.at_ h0'
 rw [if_neg (by rw [decide_eq_true_eq];exact h0),hq,bs]
 by_cases h7:q.Kind=7
 ·have hm:=h.meth.2 ⟨q,h0',hq,h7⟩
  rw [decide_eq_true h7,if_neg (by decide),bs,hm,if_pos rfl,h.cls q h0' hq]
 have hm:¬x.method_=true:=fun e=>by
  obtain ⟨q',_,hq',h7'⟩:=h.meth.1 e
  rw [hq] at hq'
  cases hq'
  exact h7 h7'
 rw [decide_eq_false h7,if_pos (by decide),if_neg hm]
 cases hx:x.method_ with
 | false=>rfl
 | true=>exact absurd hx hm
theorem qlc {a b:BA} (h:a.size+b.size≤1000000):cat a b=some (a++b):=by unfold cat;rw [if_pos (by omega)]
theorem q1e {R:List Row} {j:Nat} {r:Row} {x:Around} (hr:ix R (j:Int)=some r) (h:Ctx R r.Parent x) (ht:r.Text.size≤4000):Ctx R (j:Int) (blw r.Kind r.Text x):=by
 refine ⟨⟨fun e=>⟨r,by omega,hr,of_decide_eq_true e⟩,fun ⟨q,_,hq,h7⟩=> ?_⟩,fun q _ hq=> ?_,fun _=>⟨r,hr⟩,?_,ht⟩
 ·rw [hr] at hq;cases hq;exact decide_eq_true h7
 ·rw [hr] at hq;cases hq;rfl
 rw [F_project_function_l0.eq_def]
 simp only [qa]
 rw [if_pos (decide_eq_true (by omega)),hr,bs]
 by_cases h2:r.Kind=2
 ·rw [decide_eq_true h2,if_neg (by decide),qi2 hr h,bs]
  unfold blw
  rw [if_pos h2]
  have hz:=h.sz
  have h1:(⟨#[46]⟩:BA).size=1:=rfl
  have c1:cat x.class_ (⟨#[46]⟩:BA)=some (x.class_++⟨#[46]⟩):=qlc (by omega)
  have c2:cat (x.class_++(⟨#[46]⟩:BA)) r.Text=some (x.class_++⟨#[46]⟩++r.Text):=qlc (by rw [ByteArray.size_append];omega)
  by_cases hm:x.method_=true
  ·rw [if_pos hm,if_pos hm,if_pos hm,c1,bs,bs,c2,bs]
  rw [if_neg hm,if_neg hm,bs]
 rw [decide_eq_false h2,if_pos (by decide),bs]
 unfold blw
 rw [if_neg h2]
 exact h.fn
end Pj
end Go.Proofs.YtpnkemogepoioaaGreatDoorW.Ex.Gr

namespace Go.Proofs.YtpnkemogepoioaaGreatDoorW.Ex.Gr
open Go Go.Proofs.YtpnkemogepoioaaGreatDoorW.Ex Go.Proofs.YtpnkemogepoioaaGreatDoorW.Plain Tk
set_option linter.all false
set_option maxRecDepth 100000
namespace Pj
section
variable {A:List Unit} {J:Nat} {R:List Row} {u:Int}
theorem q0l (a1:List Row) (j:Nat) (acc:List Decl) (d:Decl) (h:acc.length≤1000000):ka A J a1 j w6 acc u R d=zk A J a1 (j+1) w6 (acc++ [d]) u R:=by
 rw [ka.eq_def]
 simp only [qa]
 rw [qc3 (by rw [List.length_singleton];omega) (by decide),bs,y4.eq_def]
 simp only [qa]
theorem qnb {j:Int} {r:Row} {x:Around} (hr:ix R j=some r) (h:Ctx R r.Parent x):u1 R j=some x.function_:=by
 unfold u1
 rw [hr,bs]
 exact h.fn
theorem q4a {j:Nat} {r:Row} {x:Around} (hr:ix R (j:Int)=some r) (h:Ctx R r.Parent x) (rest:List Row) (acc:List Decl) (ha:acc.length≤1000000):
 zk A J (r::rest) j w6 acc u R=zk A J rest (j+1) w6 (acc++dclK r.Kind r.Text ⟨u,j⟩ x) u R:=by
 have fin:∀(k o:Int) (d:Decl),j6 A J rest j w6 acc u R (j:Int) k d=zk A J rest (j+1) w6 (acc++ [if k=5∨k=6 then ⟨d.Kind,x.function_,d.Name,d.At⟩ else d]) u R:=by
  intro k o d
  rw [j6.eq_def]
  simp only [qa]
  by_cases h5:k=5
  ·rw [if_pos (decide_eq_true h5),qnb hr h,bs,q0l _ _ _ _ ha,if_pos (.inl h5)]
  rw [if_neg (by rw [decide_eq_true_eq];exact h5)]
  by_cases h6:k=6
  ·rw [if_pos (decide_eq_true h6),qnb hr h,bs,q0l _ _ _ _ ha,if_pos (.inr h6)]
  rw [if_neg (by rw [decide_eq_true_eq];exact h6),q0l _ _ _ _ ha,if_neg (fun e=>e.elim h5 h6)]
 rw [zk.eq_def]
 simp only [qa]
 unfold dclK
 have step:∀(k:Int),mhas w6 r.Kind=true→mget w6 r.Kind=k→
  (if (!(mhas w6 r.Kind))=true then y4 A J rest j w6 acc u R
   else vr R (j:Int) >>=fun x3=>
    if x3.2=true then
     if (decide ((mget w6 r.Kind)=(1:Int)))=true then j6 A J rest j w6 acc u R (j:Int) (mget w6 r.Kind) (Decl.mk (4:Int) x3.1 r.Text (Ref.mk u (j:Int)))
     else j6 A J rest j w6 acc u R (j:Int) (mget w6 r.Kind) (Decl.mk (mget w6 r.Kind) (⟨#[]⟩) r.Text (Ref.mk u (j:Int)))
    else j6 A J rest j w6 acc u R (j:Int) (mget w6 r.Kind) (Decl.mk (mget w6 r.Kind) (⟨#[]⟩) r.Text (Ref.mk u (j:Int))))=
  zk A J rest (j+1) w6 (acc++ [if k=5∨k=6 then ⟨k,x.function_,r.Text,⟨u,j⟩⟩ else if k=1∧x.method_=true then ⟨4,x.class_,r.Text,⟨u,j⟩⟩ else ⟨k,eB,r.Text,⟨u,j⟩⟩]) u R:=by
  intro k h1 h2
  rw [h1,h2,if_neg (by decide),qi2 hr h,bs]
  by_cases hm:x.method_=true
  ·rw [if_pos hm]
   by_cases h3:k=1
   ·subst h3
    have e5:¬((1:Int)=5∨(1:Int)=6):=by decide
    rw [if_pos (by decide),fin _ 0,if_neg e5,if_neg e5,if_pos (⟨rfl,hm⟩:(1:Int)=1∧x.method_=true),if_pos hm]
   rw [if_neg (by rw [decide_eq_true_eq];exact h3),fin _ 0,if_neg (fun e:k=1∧x.method_=true=>h3 e.1)]
  rw [if_neg hm,fin _ 0,if_neg (fun e:k=1∧x.method_=true=>hm e.2)]
 by_cases h2:r.Kind=2
 ·refine (step 1 (by rw [h2];rfl) (by rw [h2];rfl)).trans ?_
  rw [if_pos h2,if_neg (by decide)]
  by_cases hm:x.method_=true
  ·rw [if_pos ⟨rfl,hm⟩,if_pos hm]
  rw [if_neg (fun e=>hm e.2),if_neg hm]
 rw [if_neg h2]
 by_cases h7:r.Kind=7
 ·refine (step 2 (by rw [h7];rfl) (by rw [h7];rfl)).trans ?_
  rw [if_pos h7,if_neg (by decide),if_neg (fun e=>absurd e.1 (by decide))]
 rw [if_neg h7]
 by_cases h9:r.Kind=9
 ·refine (step 3 (by rw [h9];rfl) (by rw [h9];rfl)).trans ?_
  rw [if_pos h9,if_neg (by decide),if_neg (fun e=>absurd e.1 (by decide))]
 rw [if_neg h9]
 by_cases h4:r.Kind=4
 ·refine (step 5 (by rw [h4];rfl) (by rw [h4];rfl)).trans ?_
  rw [if_pos h4,if_pos (.inl rfl)]
 rw [if_neg h4]
 by_cases h10:r.Kind=10
 ·refine (step 6 (by rw [h10];rfl) (by rw [h10];rfl)).trans ?_
  rw [if_pos h10,if_pos (.inr rfl)]
 rw [if_neg h10,List.append_nil]
 have hm:mhas w6 r.Kind=false:=by
  unfold w6 mhas mhas mhas mhas mhas mhas
  rw [if_neg h2,if_neg h7,if_neg h9,if_neg h4,if_neg h10]
 rw [hm,if_pos (by decide),y4.eq_def]
 simp only [qa]
end
mutual
theorem q0m {A:List Unit} {J:Nat} {R:List Row} {u:Int}:∀(n:Node) (p:Int) (x:Around) (pre rest:List Row) (acc:List Decl),R=pre++(W9 n p pre.length++rest)→Ctx R p x→bdN n→acc.length+y7 n≤1000000→
 zk A J (W9 n p pre.length++rest) pre.length w6 acc u R=zk A J rest (pre.length+y7 n) w6 (acc++wlk u n pre.length x) u R
 | .mk k t g l,p,x,pre,rest,acc,hR,hc,hb,hs=>by
   rw [y7] at hs
   rw [W9,List.cons_append] at hR ⊢
   have hr:ix R (pre.length:Int)=some ⟨p,k,t,g,Wm (pre.length+1) l⟩:=Wn hR
   have hb':=hb
   rw [qo5] at hb'
   rw [q4a hr hc _ _ (by omega)]
   have hk:=q1e hr hc hb'.1
   have hd:=qsx k t ⟨u,(pre.length:Int)⟩ x
   have hle:(pre++ [(⟨p,k,t,g,Wm (pre.length+1) l⟩:Row)]).length=pre.length+1:=by rw [List.length_append,List.length_singleton]
   have:=q0n (A:=A) (J:=J) (R:=R) (u:=u) l pre.length (blw k t x) (pre++ [⟨p,k,t,g,Wm (pre.length+1) l⟩]) rest (acc++dclK k t ⟨u,(pre.length:Int)⟩ x)
    (by rw [hle,hR,List.append_assoc];rfl) hk (qld hb) (by rw [List.length_append];omega)
   rw [hle] at this
   show zk A J (Wd l pre.length (pre.length+1)++rest) (pre.length+1) w6 (acc++dclK k t ⟨u,(pre.length:Int)⟩ x) u R=_
   rw [this,wlk,y7,List.append_assoc,show pre.length+1+yd l=pre.length+(yd l+1) by omega,show ((pre.length+1:Nat):Int)=(pre.length:Int)+1 by omega]
theorem q0n {A:List Unit} {J:Nat} {R:List Row} {u:Int}:∀(l:List Node) (p:Nat) (x:Around) (pre rest:List Row) (acc:List Decl),R=pre++(Wd l p pre.length++rest)→Ctx R (p:Int) x→(∀m∈l,bdN m)→acc.length+yd l≤1000000→
 zk A J (Wd l p pre.length++rest) pre.length w6 acc u R=zk A J rest (pre.length+yd l) w6 (acc++wlkL u l pre.length x) u R
 | [],p,x,pre,rest,acc,hR,hc,hb,hs=>by rw [Wd,wlkL,yd,List.nil_append,List.append_nil,Nat.add_zero]
 | m ::l,p,x,pre,rest,acc,hR,hc,hb,hs=>by
   rw [yd] at hs
   rw [Wd,List.append_assoc] at hR ⊢
   rw [q0m m p x pre _ acc hR hc (hb m (List.mem_cons_self ..)) (by omega)]
   have hle:(pre++W9 m p pre.length).length=pre.length+y7 m:=by rw [List.length_append,qbg]
   have hw:=qf4 u m (pre.length:Int) x
   have:=q0n (A:=A) (J:=J) (R:=R) (u:=u) l p x (pre++W9 m p pre.length) rest (acc++wlk u m pre.length x)
    (by rw [hle,hR,List.append_assoc]) hc (fun q hq=>hb q (List.mem_cons_of_mem _ hq)) (by rw [List.length_append];omega)
   rw [hle] at this
   rw [this,wlkL,yd,List.append_assoc,Nat.add_assoc,show ((pre.length+y7 m:Nat):Int)=(pre.length:Int)+y7 m by omega]
end
def qa0:List Unit→Nat
 | []=>0
 | x::l=>y7 x.Tree+qa0 l
def okU (l:List Unit):Prop:=∀x∈l,x.Broken=false→bdN x.Tree
theorem qnc:∀(l:List Unit) (j:Nat) (acc:List Decl),okU l→acc.length+qa0 l≤100000→y3 l j w6 acc=some (acc++qcp j l)
 | [],j,acc,ho,h=>by
   rw [y3.eq_def,qcp,List.append_nil]
 | x ::l,j,acc,ho,h=>by
   rw [qa0] at h
   have ih:=fun acc=>qnc l (j+1) acc (fun q hq=>ho q (List.mem_cons_of_mem _ hq))
   rw [y3.eq_def]
   simp only [qa]
   rw [qcp]
   by_cases hb:x.Broken=true
   ·rw [if_pos hb,if_pos hb,ky.eq_def]
    simp only [qa]
    rw [ih acc (by omega),List.nil_append]
   rw [if_neg hb,if_neg hb]
   have hbd:=ho x (List.mem_cons_self ..) (by cases e:x.Broken with | false=>rfl | true=>exact absurd e hb)
   rw [q3l x.Tree hbd (by omega),bs]
   have hw:=qf4 (j:Int) x.Tree 0 ar0
   have:=q0m (A:=l) (J:=j) (R:=W9 x.Tree (-1) 0) (u:=(j:Int)) x.Tree (-1) ar0 [] [] acc (by rw [List.append_nil];rfl) (ctx0 _) hbd (by omega)
   rw [List.append_nil] at this
   simp only [List.length_nil] at this
   rw [this,zk.eq_def]
   simp only [qa]
   rw [ky.eq_def]
   simp only [qa]
   rw [ih _ (by rw [List.length_append];simp only [Int.natCast_zero] at hw ⊢;omega),List.append_assoc]
   rfl
theorem qqr (l:List Unit) (ho:okU l) (h:qa0 l≤100000):vt l=some (qcp 0 l):=by
 unfold vt qaz
 rw [bs,qnc l 0 [] ho (by simpa using h),List.nil_append]
end Pj
end Go.Proofs.YtpnkemogepoioaaGreatDoorW.Ex.Gr
