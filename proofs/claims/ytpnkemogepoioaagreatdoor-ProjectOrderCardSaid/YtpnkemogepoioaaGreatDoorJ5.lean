/- The law ProjectOrder: declarations are at nodes of their kinds, in order. Conditions: those in each theorem. -/
import Derived.Test.YtpnkemogepoioaaGreatDoorJ4
namespace Go.Proofs.YtpnkemogepoioaaGreatDoorW.Ex.Gr
open Go Go.Proofs.YtpnkemogepoioaaGreatDoorW.Ex Go.Proofs.YtpnkemogepoioaaGreatDoorW.Plain Tk
set_option linter.all false
set_option maxRecDepth 100000
namespace Pj
mutual
def qbi:Node→List Node
 | .mk k t g l=> .mk k t g l::qed l
def qed:List Node→List Node
 | []=> []
 | m::l=>qbi m++qed l
end
mutual
theorem Zu:∀n:Node,(qbi n).length=yg n
 | .mk k t g l=>by rw [qbi,List.length_cons,qnn l,yg]
theorem qnn:∀l:List Node,(qed l).length=yi l
 | []=>by rw [qed,yi];rfl
 | m::l=>by rw [qed,List.length_append,Zu m,qnn l,yi]
end
@[reducible] def zN0:Node:=Node.mk 0 (⟨#[]⟩) ([]:LB) ([]:LN)
def fnd (x:Option Node) (o:Int):Node × Int × Bool:=match x with
 | some m=>(m,0,true)
 | none=>(zN0,o,false)
mutual
theorem qy6:∀(n:Node) (i:Nat),i≤1000000→yg n≤1000000→J2 n (i:Int)=some (fnd (qbi n)[i]? ((i:Int) - yg n))
 | .mk k t g l,0,hi,hs=>by rw [J2.eq_def,if_pos (by decide),qbi];rfl
 | .mk k t g l,i+1,hi,hs=>by
   rw [yg] at hs
   have hl:=qaq l
   rw [J2.eq_def]
   simp only [qa]
   rw [if_neg (by rw [decide_eq_true_eq];omega),ke (by omega) (by omega),show ((i+1:Nat):Int) - 1=(i:Int) by omega,qbi,List.getElem?_cons_succ,yg]
   rw [show ((i+1:Nat):Int) - ((yi l+1:Nat):Int)=(i:Int) - (yi l:Int) by omega]
   exact qnv l [] (.mk k t g l) i rfl (by omega) (by show l.length≤_;omega) (by omega)
theorem qnv:∀(l pre:List Node) (n:Node) (r:Nat),n.kids=pre++l→r≤1000000→n.kids.length≤1000000→yi l≤1000000→u1 (r:Int) (pre.length:Int) n=some (fnd (qed l)[r]? ((r:Int) - yi l))
 | [],pre,n,r,h,hr,hn,hs=>by
   rw [u1.eq_def]
   simp only [qa]
   rw [qe2 h,Yn,qed,yi]
   simp [fnd]
 | m ::l,pre,n,r,h,hr,hn,hs=>by
   rw [yi] at hs
   have hl:=qia h
   rw [u1.eq_def]
   simp only [qa]
   rw [qe1 h,Ka,Wu h,bs,qy6 m r hr (by omega),bs,qed,yi]
   by_cases hrm:r < yg m
   ·have hg:(qbi m)[r]? =some ((qbi m)[r]'(by rw [Zu];exact hrm)):=List.getElem?_eq_getElem _
    rw [List.getElem?_append_left (by rw [Zu];exact hrm),hg]
    rfl
   have hg:(qbi m)[r]? =none:=List.getElem?_eq_none (by rw [Zu];omega)
   rw [List.getElem?_append_right (by rw [Zu];omega),hg,Zu]
   show (if (false=true) then _ else u1 ((r:Int) - yg m) (IntKind.i64.wrap ((pre.length:Int)+1)) n)=_
   rw [Yn,qby (by omega) m,show (r:Int) - (yg m:Int)=((r - yg m:Nat):Int) by omega,qnv l (pre++ [m]) n (r - yg m) (qau h) (by omega) hn (by omega)]
   rw [show ((r - yg m:Nat):Int) - (yi l:Int)=(r:Int) - ((yg m+yi l:Nat):Int) by omega]
end
theorem P_At {n m:Node} {i:Nat} (h:(qbi n)[i]? =some m) (hs:yg n≤100000):qfe n (i:Int)=some (m,true):=by
 have hi:=(List.getElem?_eq_some_iff.1 h).1
 rw [Zu] at hi
 unfold qfe
 rw [if_neg (by rw [decide_eq_true_eq];omega),qy6 n i (by omega) (by omega),bs,h]
 rfl
def fitD (k:Int) (t:BA) (d:Decl):Prop:=t=d.Name∧(k=2∧(d.Kind=1∧d.Owner=eB∨d.Kind=4)∨k=7∧d.Kind=2∧d.Owner=eB∨k=9∧d.Kind=3∧d.Owner=eB∨k=4∧d.Kind=5∨k=10∧d.Kind=6)
theorem qrh {k:Int} {t:BA} {a:Ref} {x:Around} {d:Decl} (h:d∈dclK k t a x):d.At=a∧fitD k t d:=by
 unfold dclK at h
 by_cases h2:k=2
 ·rw [if_pos h2] at h
  by_cases hm:x.method_=true
  ·rw [if_pos hm,List.mem_singleton] at h;subst h;exact ⟨rfl,rfl, .inl ⟨h2, .inr rfl⟩⟩
  rw [if_neg hm,List.mem_singleton] at h;subst h;exact ⟨rfl,rfl, .inl ⟨h2, .inl ⟨rfl,rfl⟩⟩⟩
 rw [if_neg h2] at h
 by_cases h7:k=7
 ·rw [if_pos h7,List.mem_singleton] at h;subst h;exact ⟨rfl,rfl, .inr (.inl ⟨h7,rfl,rfl⟩)⟩
 rw [if_neg h7] at h
 by_cases h9:k=9
 ·rw [if_pos h9,List.mem_singleton] at h;subst h;exact ⟨rfl,rfl, .inr (.inr (.inl ⟨h9,rfl,rfl⟩))⟩
 rw [if_neg h9] at h
 by_cases h4:k=4
 ·rw [if_pos h4,List.mem_singleton] at h;subst h;exact ⟨rfl,rfl, .inr (.inr (.inr (.inl ⟨h4,rfl⟩)))⟩
 rw [if_neg h4] at h
 by_cases h10:k=10
 ·rw [if_pos h10,List.mem_singleton] at h;subst h;exact ⟨rfl,rfl, .inr (.inr (.inr (.inr ⟨h10,rfl⟩)))⟩
 rw [if_neg h10] at h;cases h
mutual
theorem qij {u:Int} {d:Decl}:∀(n:Node) (a:Int) (x:Around),d∈wlk u n a x→d.At.Unit=u∧∃(i:Nat) (m:Node),(qbi n)[i]? =some m∧d.At.Node=a+i∧fitD m.kind m.text d
 | .mk k t g l,a,x,h=>by
   rw [wlk,List.mem_append] at h
   rcases h with h | h
   ·obtain ⟨h1,h2⟩:=qrh h
    rw [h1]
    exact ⟨rfl,0, .mk k t g l,by rw [qbi];rfl,by simp,h2⟩
   obtain ⟨h1,i,m,h2,h3,h4⟩:=qpd l (a+1) (blw k t x) h
   exact ⟨h1,i+1,m,by rw [qbi,List.getElem?_cons_succ];exact h2,by omega,h4⟩
theorem qpd {u:Int} {d:Decl}:∀(l:List Node) (a:Int) (x:Around),d∈wlkL u l a x→d.At.Unit=u∧∃(i:Nat) (m:Node),(qed l)[i]? =some m∧d.At.Node=a+i∧fitD m.kind m.text d
 | [],a,x,h=>by rw [wlkL] at h;cases h
 | m ::l,a,x,h=>by
   rw [wlkL,List.mem_append] at h
   rcases h with h | h
   ·obtain ⟨h1,i,q,h2,h3,h4⟩:=qij m a x h
    have hi:=(List.getElem?_eq_some_iff.1 h2).1
    exact ⟨h1,i,q,by rw [qed,List.getElem?_append_left hi];exact h2,h3,h4⟩
   obtain ⟨h1,i,q,h2,h3,h4⟩:=qpd l (a+yg m) x h
   exact ⟨h1,yg m+i,q,by rw [qed,List.getElem?_append_right (by rw [Zu];omega),Zu,Nat.add_sub_cancel_left];exact h2,by omega,h4⟩
end
mutual
theorem qy3 (u:Int):∀(n:Node) (a:Int) (x:Around),(wlk u n a x).Pairwise fun d e=>d.At.Node < e.At.Node
 | .mk k t g l,a,x=>by
   rw [wlk,List.pairwise_append]
   refine ⟨?_,qy4 u l (a+1) (blw k t x),fun d hd e he=> ?_⟩
   ·have:=qlq k t ⟨u,a⟩ x
    match hq:dclK k t ⟨u,a⟩ x with
    | []=>exact List.Pairwise.nil
    | [d]=>exact List.pairwise_singleton _ _
    | d::e::r=>rw [hq] at this;simp at this
   obtain ⟨h1,_⟩:=qrh hd
   obtain ⟨_,i,m,_,h3,_⟩:=qpd l (a+1) (blw k t x) he
   rw [h1]
   show a < e.At.Node
   omega
theorem qy4 (u:Int):∀(l:List Node) (a:Int) (x:Around),(wlkL u l a x).Pairwise fun d e=>d.At.Node < e.At.Node
 | [],a,x=>by rw [wlkL];exact List.Pairwise.nil
 | m::l,a,x=>by
   rw [wlkL,List.pairwise_append]
   refine ⟨qy3 u m a x,qy4 u l (a+yg m) x,fun d hd e he=> ?_⟩
   obtain ⟨_,i,q,h2,h3,_⟩:=qij m a x hd
   obtain ⟨_,j,_,_,h6,_⟩:=qpd l (a+yg m) x he
   have hi:=(List.getElem?_eq_some_iff.1 h2).1
   rw [Zu] at hi
   omega
end
def ltD (d e:Decl):Prop:=d.At.Unit < e.At.Unit∨d.At.Unit=e.At.Unit∧d.At.Node < e.At.Node
theorem qy2 {d:Decl}:∀(l:List Unit) (j:Nat),d∈Z4 j l→∃(i:Nat) (y:Unit),l[i]? =some y∧y.Broken=false∧d.At.Unit=(j+i:Nat)∧∃(q:Nat) (m:Node),(qbi y.Tree)[q]? =some m∧d.At.Node=q∧fitD m.kind m.text d
 | [],j,h=>by rw [Z4] at h;cases h
 | x ::l,j,h=>by
   rw [Z4,List.mem_append] at h
   rcases h with h | h
   ·cases hb:x.Broken with
    | true=>rw [hb,if_pos rfl] at h;cases h
    | false=>
      rw [hb,if_neg (by decide)] at h
      obtain ⟨h1,i,m,h2,h3,h4⟩:=qij x.Tree 0 ar0 h
      exact ⟨0,x,rfl,hb,by rw [h1];rfl,i,m,h2,by omega,h4⟩
   obtain ⟨i,y,h1,h2,h3,r⟩:=qy2 l (j+1) h
   exact ⟨i+1,y,by rw [List.getElem?_cons_succ];exact h1,h2,by rw [h3];omega,r⟩
theorem qly:∀(l:List Unit) (j:Nat),(Z4 j l).Pairwise ltD
 | [],j=>by rw [Z4];exact List.Pairwise.nil
 | x ::l,j=>by
   rw [Z4,List.pairwise_append]
   refine ⟨?_,qly l (j+1),fun d hd e he=> ?_⟩
   ·split
    ·exact List.Pairwise.nil
    refine (qy3 (j:Int) x.Tree 0 ar0).imp_of_mem ?_
    intro d e hd he h
    exact .inr ⟨by rw [(qij x.Tree 0 ar0 hd).1,(qij x.Tree 0 ar0 he).1],h⟩
   have hd':d.At.Unit=(j:Int):=by
    split at hd
    ·cases hd
    exact (qij x.Tree 0 ar0 hd).1
   obtain ⟨i,y,_,_,h3,_⟩:=qy2 l (j+1) he
   exact .inl (by rw [hd',h3];omega)
theorem qs7 {U:List Unit} {d:Decl} (h:d∈Z4 0 U) (hs:qap U≤100000):Jo U d=some true:=by
 obtain ⟨i,y,h1,h2,h3,q,m,h4,h5,h6⟩:=qy2 U 0 h
 have hi:=(List.getElem?_eq_some_iff.1 h1).1
 rw [Nat.zero_add] at h3
 have hsz:∀(l:List Unit) (y:Unit),y∈l→yg y.Tree≤qap l:=by
  intro l
  induction l with
  | nil=>intro y hy;cases hy
  | cons x l ih=>
    intro y hy
    rw [qap]
    rcases List.mem_cons.1 hy with rfl | hy
    ·omega
    have:=ih y hy;omega
 have hy:=hsz U y (List.mem_of_getElem? h1)
 have hix:ix U d.At.Unit=some y:=by rw [h3,qk6];exact h1
 have hat:qfe y.Tree d.At.Node=some (m,true):=by rw [h5];exact P_At h4 (by omega)
 unfold Jo
 rw [if_neg (by rw [decide_eq_true_eq];omega),List.length_map,if_neg (by rw [decide_eq_true_eq];omega),hix,bs,h2,if_neg (by decide),bs,hat,bs,if_neg (by simp),decide_eq_true h6.1,if_neg (by decide)]
 rcases h6.2 with ⟨k,c⟩ | ⟨k,c1,c2⟩ | ⟨k,c1,c2⟩ | ⟨k,c⟩ | ⟨k,c⟩
 ·rw [k,if_pos (by decide)]
  rcases c with ⟨c1,c2⟩ | c
  ·rw [c1,c2,if_pos (by decide),if_pos (by decide)]
  rw [c,if_neg (by decide)];rfl
 ·rw [k,c1,c2,if_neg (by decide),if_pos (by decide),if_pos (by decide)];rfl
 ·rw [k,c1,c2,if_neg (by decide),if_neg (by decide),if_pos (by decide),if_pos (by decide)];rfl
 ·rw [k,c,if_neg (by decide),if_neg (by decide),if_neg (by decide),if_pos (by decide)];rfl
 rw [k,c,if_neg (by decide),if_neg (by decide),if_neg (by decide),if_neg (by decide),if_pos (by decide)];rfl
theorem qlj (d:Decl) (l:List Decl):∀pre:List Decl,∃e,qhb d.Kind d.Owner d.Name (pre++d::l)=(e,true)∧e.Kind=d.Kind∧e.Owner=d.Owner∧e.Name=d.Name∧(e=d∨e∈pre)
 | []=>⟨d,by rw [List.nil_append,qhb,if_pos ⟨rfl,rfl,rfl⟩],rfl,rfl,rfl, .inl rfl⟩
 | c::pre=>by
   rw [List.cons_append,qhb]
   by_cases h:c.Kind=d.Kind∧c.Owner=d.Owner∧c.Name=d.Name
   ·rw [if_pos h];exact ⟨c,rfl,h.1,h.2.1,h.2.2, .inr (List.mem_cons_self ..)⟩
   rw [if_neg h]
   obtain ⟨e,h1,h2,h3,h4,h5⟩:=qlj d l pre
   exact ⟨e,h1,h2,h3,h4,h5.imp id (List.mem_cons_of_mem _)⟩
section
variable {U:List Unit}
theorem qz6 {pre l:List Decl} {d:Decl} (hD:Z4 0 U=pre++d::l):∃e,qhb d.Kind d.Owner d.Name (Z4 0 U)=(e,true)∧e.Kind=d.Kind∧e.Owner=d.Owner∧e.Name=d.Name∧¬d.At.Unit < e.At.Unit∧(e.At.Unit=d.At.Unit→¬d.At.Node < e.At.Node):=by
 obtain ⟨e,h1,h2,h3,h4,h5⟩:=qlj d l pre
 refine ⟨e,by rw [hD];exact h1,h2,h3,h4,?_⟩
 rcases h5 with rfl | h5
 ·exact ⟨Int.lt_irrefl _,fun _=>Int.lt_irrefl _⟩
 have hs:=qly U 0
 rw [hD,List.pairwise_append] at hs
 have:=hs.2.2 e h5 d (List.mem_cons_self ..)
 unfold ltD at this
 exact ⟨by omega,fun q=>by omega⟩
theorem before {pre l:List Decl} {c d:Decl} (hD:Z4 0 U=(pre++ [c])++d::l):¬d.At.Unit < c.At.Unit∧(c.At.Unit=d.At.Unit→¬d.At.Node≤c.At.Node):=by
 have hs:=qly U 0
 rw [hD,List.pairwise_append] at hs
 have:=hs.2.2 c (by simp) d (List.mem_cons_self ..)
 unfold ltD at this
 exact ⟨by omega,fun q=>by omega⟩
theorem qxs (ho:okU U) (hs:qap U≤100000):∀(l pre:List Decl),Z4 0 U=pre++l→zl U (Z4 0 U) (pre.length:Int)=some true
 | [],pre,h=>by
   rw [zl.eq_def]
   simp only [qa]
   rw [qe2 h,Yn,quy];rfl
 | d ::l,pre,h=>by
   have hl:=qia h
   have hd:=qnp U 0
   have ih:=qxs ho hs l (pre++ [d]) (qau h)
   rw [←qby (by omega) d] at ih
   have hix:=Wu h
   obtain ⟨e,f1,f2,f3,f4,f5,f6⟩:=qz6 h
   have hf:=qs8 U d.Kind d.Owner d.Name ho hs
   rw [f1] at hf
   have hdec:=qs7 (d:=d) (by rw [h];simp) hs
   rw [zl.eq_def]
   simp only [qa]
   rw [qe1 h,Ka]
   simp only [hix,bs,hdec,Bool.not_true,Bool.false_eq_true,if_false,hf,decide_eq_true f2,decide_eq_true f3,decide_eq_true f4,decide_eq_false f5]
   have fin:(if (decide (e.At.Unit=d.At.Unit))=true then (if (decide (d.At.Node < e.At.Node))=true then some false else zl U (Z4 0 U) (IntKind.i64.wrap ((pre.length:Int)+1))) else zl U (Z4 0 U) (IntKind.i64.wrap ((pre.length:Int)+1)))=some true:=by
    by_cases q:e.At.Unit=d.At.Unit
    ·rw [if_pos (decide_eq_true q),if_neg (by rw [decide_eq_true_eq];exact f6 q),ih]
    rw [if_neg (by rw [decide_eq_true_eq];exact q),ih]
   rw [fin]
   rcases List.eq_nil_or_concat pre with rfl | ⟨pre',c,hpre⟩
   ·rw [if_neg (by decide)]
   rw [List.concat_eq_append] at hpre
   subst hpre
   have hl2:pre'.length+1 < (Z4 0 U).length:=by rw [List.length_append,List.length_singleton] at hl;exact hl
   have hc:ix (Z4 0 U) (IntKind.i64.wrap (((pre'++ [c]).length:Int) - 1))=some c:=by
    rw [List.length_append,List.length_singleton,ke (by omega) (by omega),show ((pre'.length+1:Nat):Int) - 1=(pre'.length:Int) by omega]
    exact Wu (by rw [h,List.append_assoc];rfl)
   obtain ⟨b1,b2⟩:=before h
   rw [if_pos (decide_eq_true (by rw [List.length_append,List.length_singleton];omega))]
   simp only [hc,bs]
   rw [if_neg (by rw [decide_eq_true_eq];exact b1)]
   by_cases q:c.At.Unit=d.At.Unit
   ·rw [if_pos (decide_eq_true q),if_neg (by rw [decide_eq_true_eq];exact b2 q)]
   rw [if_neg (by rw [decide_eq_true_eq];exact q)]
end
theorem L11_Order (U:List Unit):Zo U=some true:=by
 obtain ⟨b,e,hb⟩:=q0l U
 unfold Zo
 rw [e,bs]
 cases b with
 | false=>rw [if_pos (by decide),quy];rfl
 | true=>
   obtain ⟨h1,h2,h3⟩:=hb rfl
   rw [if_neg (by decide),qpe _ h2 (by omega),bs]
   exact qxs h2 (by omega) _ [] rfl
end Pj
end Go.Proofs.YtpnkemogepoioaaGreatDoorW.Ex.Gr
