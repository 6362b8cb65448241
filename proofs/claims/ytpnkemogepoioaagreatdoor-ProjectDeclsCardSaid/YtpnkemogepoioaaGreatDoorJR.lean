/- Find, small units. Conditions: those in each theorem. Paths; what project.Check and Load return; the examples. Conditions: those in each theorem. What the reference's Decls and Find return; the law ProjectDecls. Conditions: those in each theorem. -/
import Derived.Test.YtpnkemogepoioaaGreatDoorJ2
import Derived.Test.YtpnkemogepoioaaGreatDoorAF
import Derived.KernelRfl
namespace Go.Proofs.YtpnkemogepoioaaGreatDoorW.Ex.Gr
open Go Go.Proofs.YtpnkemogepoioaaGreatDoorW.Ex Go.Proofs.YtpnkemogepoioaaGreatDoorW.Plain Tk
set_option linter.all false
set_option maxRecDepth 100000
namespace Pj
@[reducible] def zD:Decl:=Decl.mk 0 eB eB (Ref.mk 0 0)
def qio (k:Int) (o nm:BA):List Decl→Decl × Bool
 | []=>(zD,false)
 | d::l=>if d.Kind=k∧d.Owner=o∧d.Name=nm then (d,true) else qio k o nm l
theorem qpb (k:Int) (o nm:BA):∀l:List Decl,km l k o nm=some (qio k o nm l)
 | []=>by rw [km.eq_def];rfl
 | d ::l=>by
   have ih:kx l k o nm=some (qio k o nm l):=by
    rw [kx.eq_def]
    simp only [qa]
    exact qpb k o nm l
   rw [km.eq_def]
   simp only [qa]
   rw [qio,ih]
   by_cases h1:d.Kind=k
   ·rw [if_pos (decide_eq_true h1)]
    by_cases h2:d.Owner=o
    ·rw [if_pos (decide_eq_true h2)]
     by_cases h3:d.Name=nm
     ·rw [if_pos (decide_eq_true h3),if_pos ⟨h1,h2,h3⟩]
     rw [if_neg (by rw [decide_eq_true_eq];exact h3),if_neg (fun e=>h3 e.2.2)]
    rw [if_neg (by rw [decide_eq_true_eq];exact h2),if_neg (fun e=>h2 e.2.1)]
   rw [if_neg (by rw [decide_eq_true_eq];exact h1),if_neg (fun e=>h1 e.1)]
theorem qun (l:List Unit) (k:Int) (o nm:BA) (ho:okU l) (h:qa0 l≤100000):Qp l k o nm=some (qio k o nm (qcp 0 l)):=by
 unfold Qp
 rw [qqr l ho h,bs,qpb]
theorem qjt:∀(l:List Unit) (j:Nat),(qcp j l).length≤qa0 l
 | [],j=>Nat.zero_le _
 | x::l,j=>by
   rw [qcp,qa0,List.length_append]
   have:=qjt l (j+1)
   have:=qf4 (j:Int) x.Tree 0 ar0
   split
   ·simp only [List.length_nil];omega
   omega
theorem qna:∀(l pre U:List Unit),U=pre++l→U.length≤1000000→∃b,vg U (pre.length:Int)=some b∧(b=true→okU l∧qa0 l≤300*l.length)
 | [],pre,U,h,hn=>by
   refine ⟨true,?_,fun _=>⟨fun x hx=>absurd hx (List.not_mem_nil),Nat.zero_le _⟩⟩
   rw [vg.eq_def]
   simp only [qa]
   rw [qcn h,Yh]
 | x ::l,pre,U,h,hn=>by
   have hl:=qfm h
   obtain ⟨b,e,hb⟩:=q1u x.Tree
   obtain ⟨c,e2,hc⟩:=qna l (pre++ [x]) U (Kr h) hn
   refine ⟨b && c,?_,fun q=> ?_⟩
   ·rw [vg.eq_def]
    simp only [qa]
    rw [qcm h,Yg,Wn h,bs,e,bs]
    cases b with
    | false=>rw [if_pos (by decide)];rfl
    | true=>rw [if_neg (by decide),qbo (by omega) x,e2];rfl
   rw [Bool.and_eq_true] at q
   obtain ⟨h1,h2⟩:=hb q.1
   obtain ⟨h3,h4⟩:=hc q.2
   refine ⟨fun y hy _=> ?_,?_⟩
   ·rcases List.mem_cons.1 hy with rfl | hy
    ·exact h2
    rename_i hbr;exact h3 y hy hbr
   rw [qa0,List.length_cons];omega
theorem q1s (l:List Unit):∃b,qal l=some b∧(b=true→l.length≤4∧okU l∧qa0 l≤1200):=by
 unfold qal
 by_cases h:(4:Int) < ((l.map Unit.cells).length:Int)
 ·rw [if_pos (decide_eq_true h)]
  exact ⟨false,rfl,fun q=>by cases q⟩
 rw [if_neg (by rw [decide_eq_true_eq];exact h)]
 rw [List.length_map] at h
 obtain ⟨b,e,hb⟩:=qna l [] l rfl (by omega)
 refine ⟨b,e,fun q=> ?_⟩
 obtain ⟨h1,h2⟩:=hb q
 exact ⟨by omega,h1,by omega⟩
end Pj
end Go.Proofs.YtpnkemogepoioaaGreatDoorW.Ex.Gr

namespace Go.Proofs.YtpnkemogepoioaaGreatDoorW.Ex.Gr
open Go Go.Proofs.YtpnkemogepoioaaGreatDoorW.Ex Go.Proofs.YtpnkemogepoioaaGreatDoorW.Plain Tk
set_option linter.all false
set_option maxRecDepth 100000
namespace Pj
def ql8:List UInt8→List UInt8→Bool
 | cur, []=>qgw cur
 | cur,c::l=>if c=47 then qgw cur && ql8 [] l else ql8 (cur++ [c]) l
def qoq (s:BA):Bool:=decide (s≠⟨#[]⟩) && (decide (s.size≤64) && ql8 [] (L s))
theorem q0d (s:BA):qf1 s=some (qgw (L s)):=rfl
theorem qvy {s:BA} {pre cur rest:List UInt8} (h:L s=pre++(cur++rest)):ssub s (pre.length:Int) ((pre.length+cur.length:Nat):Int)=some (ofB cur):=by
 have hl:=congrArg List.length h
 rw [List.length_append,List.length_append,qfn] at hl
 rw [qf9 (by omega) (by omega),h,List.drop_left,Nat.add_sub_cancel_left,List.take_left]
theorem qpa (s:BA) (hs:s.size≤1000000):∀(rest pre cur:List UInt8),L s=pre++(cur++rest)→wr s (pre.length:Int) ((pre.length+cur.length:Nat):Int)=some (ql8 cur rest)
 | [],pre,cur,h=>by
   have hl:=congrArg List.length h
   rw [List.length_append,List.length_append,qfn,List.length_nil] at hl
   rw [wr.eq_def]
   simp only [qa]
   rw [if_pos (decide_eq_true (by omega)),if_neg (by rw [decide_eq_true_eq];omega),vu.eq_def]
   simp only [qa]
   rw [qvy h,bs,q0d,qpe,bs,ql8]
   cases hp:qgw cur with
   | false=>rw [if_pos (by decide)]
   | true=>
     rw [if_neg (by decide),uh.eq_def]
     simp only [qa]
     rw [ke (by omega) (by omega),wr.eq_def]
     simp only [qa]
     rw [if_neg (by rw [decide_eq_true_eq];omega)]
 | c ::l,pre,cur,h=>by
   have hl:=congrArg List.length h
   rw [List.length_append,List.length_append,qfn,List.length_cons] at hl
   have hd:(L s).drop (pre.length+cur.length)=c::l:=by rw [h,←List.append_assoc,←List.length_append,List.drop_left]
   have b1:∀(a:Int) (p q:List UInt8),L s=p++(q++l)→(p.length:Int)=a→p.length+q.length=pre.length+cur.length+1→uh s a ((pre.length+cur.length:Nat):Int)=some (ql8 q l):=by
    intro a p q hpq ha hlen
    rw [uh.eq_def]
    simp only [qa]
    rw [ke (by omega) (by omega),←ha,show ((pre.length+cur.length:Nat):Int)+1=((p.length+q.length:Nat):Int) by omega]
    exact qpa s hs l p q hpq
   rw [wr.eq_def]
   simp only [qa]
   rw [if_pos (decide_eq_true (by omega)),if_pos (decide_eq_true (by omega)),qpr hd,bs,ql8]
   by_cases hc:c=47
   ·subst hc
    rw [if_pos rfl,if_neg (by decide),vu.eq_def]
    simp only [qa]
    rw [qvy h,bs,q0d,qpe,bs]
    cases hp:qgw cur with
    | false=>rw [if_pos (by decide)];rfl
    | true=>
      rw [if_neg (by decide),Bool.true_and]
      rw [ke (by omega) (by omega)]
      exact b1 _ (pre++(cur++ [47])) [] (by rw [h];simp) (by simp;omega) (by simp;omega)
   rw [if_neg hc]
   have hn:¬((c.toNat:Int)=47):=fun e=>hc (by
    have:c.toNat=47:=by omega
    exact UInt8.toNat_inj.1 this)
   rw [decide_eq_false hn,if_pos (by decide)]
   exact b1 _ pre (cur++ [c]) (by rw [h];simp) rfl (by simp;omega)
theorem q3m (s:BA):qaj s=some (qoq s):=by
 unfold qaj qoq
 by_cases h0:s=⟨#[]⟩
 ·rw [if_pos (decide_eq_true h0),decide_eq_false (fun e=>e h0),Bool.false_and]
 rw [if_neg (by rw [decide_eq_true_eq];exact h0),decide_eq_true h0,Bool.true_and]
 by_cases h1:s.size≤64
 ·rw [if_neg (by rw [decide_eq_true_eq];omega),decide_eq_true h1,Bool.true_and]
  exact qpa s (by omega) (L s) [] [] rfl
 rw [if_pos (decide_eq_true (by omega)),decide_eq_false h1,Bool.false_and]
def leB (a b:BA):Bool:=Op.bytesLess a.toList b.toList || decide (a=b)
def qac:List File→Bool
 | x::y::l=>leB y.Path x.Path || qac (y::l)
 | _=>false
def qjv (l:List File):Int:=
 if 32 < l.length then 3 else if l.any (fun x=> !qoq x.Path)=true then 4 else if qac l=true then 14 else if l.any (fun x=>decide (65536 < x.Text.size))=true then 3 else 0
theorem C_l2:∀l:List File,yk l=some (if l.any (fun x=>decide (65536 < x.Text.size))=true then 3 else 0)
 | []=>by rw [yk.eq_def];rfl
 | x::l=>by
   rw [yk.eq_def]
   simp only [qa]
   rw [List.any_cons,C_l2 l]
   by_cases h:65536 < x.Text.size
   ·rw [if_pos (decide_eq_true (by omega)),decide_eq_true h,Bool.true_or,if_pos rfl]
   rw [if_neg (by rw [decide_eq_true_eq];omega),decide_eq_false h,Bool.false_or]
theorem C_l1 (D:List File) (hD:D.length≤1000000):∀(l pre:List File) (x:File),D=pre++(x::l)→jn l (pre.length+1) D=(if qac (x::l)=true then some 14 else yk D)
 | [],pre,x,h=>by
   have hb:qac [x]=false:=by simp [qac]
   rw [jn.eq_def,hb,if_neg (by decide)]
   simp only [qa]
 | y ::l,pre,x,h=>by
   have hl:=qfm h
   have h2:D=(pre++ [x])++(y::l):=Kr h
   have hy:ix D ((pre.length+1:Nat):Int)=some y:=by have:=Wn h2;rwa [List.length_append,List.length_singleton] at this
   rw [jn.eq_def]
   simp only [qa]
   rw [if_pos (decide_eq_true (by omega)),hy,bs,ke (by omega) (by omega),show ((pre.length+1:Nat):Int) - 1=(pre.length:Int) by omega,Wn h,bs,qac]
   show (if leB y.Path x.Path=true then _ else _)=_
   cases hle:leB y.Path x.Path with
   | true=>rw [if_pos rfl,Bool.true_or,if_pos rfl]
   | false=>
     rw [if_neg (by decide),Bool.false_or,wh.eq_def]
     simp only [qa]
     have:=C_l1 D hD l (pre++ [x]) y h2
     rw [List.length_append,List.length_singleton] at this
     exact this
theorem q3q (D:List File) (hD:D.length≤1000000):jn D 0 D=(if qac D=true then some 14 else yk D):=by
 cases D with
 | nil=>
   rw [jn.eq_def];rfl
 | cons x l=>
   rw [jn.eq_def]
   simp only [qa]
   rw [if_neg (by decide),wh.eq_def]
   simp only [qa]
   exact C_l1 (x::l) hD l [] x rfl
theorem C_l0 (D:List File) (hD:D.length≤1000000):∀l:List File,kz l D=(if l.any (fun x=> !qoq x.Path)=true then some 4 else jn D 0 D)
 | []=>by rw [kz.eq_def];rfl
 | x::l=>by
   rw [kz.eq_def]
   simp only [qa]
   rw [q3m,bs,List.any_cons,C_l0 D hD l]
   cases qoq x.Path with
   | false=>rw [if_pos (by decide),Bool.not_false,Bool.true_or,if_pos rfl]
   | true=>rw [if_neg (by decide),Bool.not_true,Bool.false_or]
theorem qwb (l:List File):Q2 l=some (qjv l):=by
 unfold Q2 qjv
 rw [List.length_map]
 by_cases h:32 < l.length
 ·rw [if_pos (decide_eq_true (by omega)),if_pos h]
 rw [if_neg (by rw [decide_eq_true_eq];omega),if_neg h,C_l0 l (by omega) l,q3q l (by omega),C_l2]
 by_cases h1:l.any (fun x=> !qoq x.Path)=true
 ·rw [if_pos h1,if_pos h1]
 rw [if_neg h1,if_neg h1]
 by_cases h2:qac l=true
 ·rw [if_pos h2,if_pos h2]
 rw [if_neg h2,if_neg h2]
def q11 (x:File):Unit:=⟨x.Path,x.Text,(Ps.readV Ps.fileR x.Text).1, !decide ((Ps.readV Ps.fileR x.Text).2.1=0)⟩
def qvi (l:List File):List Unit × Int:=if qjv l=0 then (l.map q11,0) else ([],qjv l)
theorem q2g:∀(l:List File) (acc:List Unit),acc.length+l.length≤1000000→wj l acc=some (acc++l.map q11,0)
 | [],acc,h=>by rw [wj.eq_def,List.map_nil,List.append_nil]
 | x::l,acc,h=>by
   rw [List.length_cons] at h
   rw [wj.eq_def]
   simp only [qa]
   rw [Ps.P_File,bs,qc3 (by rw [List.length_singleton];omega) (by decide),bs,q2g l _ (by rw [List.length_append,List.length_singleton];omega),List.map_cons,List.append_assoc]
   rfl
theorem q3n (l:List File):Zs l=some (qvi l):=by
 unfold Zs qvi
 rw [qwb,bs]
 by_cases h:qjv l=0
 ·have hl:l.length≤32:=by
   rcases Nat.lt_or_ge 32 l.length with q | q
   ·unfold qjv at h;rw [if_pos q] at h;cases h
   exact q
  rw [decide_eq_true h,if_neg (by decide),if_pos h,q2g l [] (by simp;omega),List.nil_append]
 rw [decide_eq_false h,if_pos (by decide),if_neg h]
mutual
def bdB:Node→Bool
 | .mk _ t g l=>decide (t.size≤4000) && decide (g.length≤4000) && g.all (fun s=>decide (s.size≤4000)) && bdBL l
def bdBL:List Node→Bool
 | []=>true
 | n::l=>bdB n && bdBL l
end
mutual
theorem qz6:∀n:Node,bdB n=true→bdN n
 | .mk k t g l,h=>by
   simp only [bdB,Bool.and_eq_true,decide_eq_true_eq,List.all_eq_true] at h
   rw [qo5]
   exact ⟨h.1.1.1,h.1.1.2,h.1.2,qv3 l h.2⟩
theorem qv3:∀l:List Node,bdBL l=true→bdL l
 | [],h=>by simp [bdL]
 | n::l,h=>by
   simp only [bdBL,Bool.and_eq_true] at h
   simp only [bdL]
   exact ⟨qz6 n h.1,qv3 l h.2⟩
end
theorem q2u {l:List Unit} (h:l.all (fun x=>bdB x.Tree)=true):okU l:=fun x hx _=>qz6 _ (List.all_eq_true.1 h x hx)
def awL:List File:= [(File.mk (⟨#[97]⟩:BA) (⟨#[99,108,97,115,115,32,67,32,123,32,102,110,32,109,40,97,32,105,110,116,41,32,105,110,116,32,123,32,108,101,116,32,98,32,61,32,97,59,32,114,101,116,117,114,110,32,98,59,32,125,32,125,10]⟩:BA)),(File.mk (⟨#[98]⟩:BA) (⟨#[102,110]⟩:BA))]
theorem qwa:Kl=some true:=by
 have ho:okU (qvi awL).1:=q2u (by kernel_rfl)
 have hs:qa0 (qvi awL).1≤100000:=of_decide_eq_true (by kernel_rfl)
 unfold Kl
 show (Zs awL >>=_)=_
 rw [q3n,bs,qqr _ ho hs,bs,qun _ _ _ _ ho hs,bs,qun _ _ _ _ ho hs,bs]
 simp only [qwb]
 kernel_rfl
end Pj
end Go.Proofs.YtpnkemogepoioaaGreatDoorW.Ex.Gr

namespace Go.Proofs.YtpnkemogepoioaaGreatDoorW.Ex.Gr
open Go Go.Proofs.YtpnkemogepoioaaGreatDoorW.Ex Go.Proofs.YtpnkemogepoioaaGreatDoorW.Plain Tk
set_option linter.all false
set_option maxRecDepth 100000
namespace Pj
theorem q1p (n:Node) (x:Around) (hc:x.class_.size≤4000) (ht:n.text.size≤4000):qak n x=some (blw n.kind n.text x):=by
 unfold qak Z9 Ja blw
 by_cases h2:n.kind=2
 ·rw [if_pos (decide_eq_true h2),if_pos h2]
  by_cases hm:x.method_=true
  ·have h1:(⟨#[46]⟩:BA).size=1:=rfl
   have c1:cat x.class_ (⟨#[46]⟩:BA)=some (x.class_++⟨#[46]⟩):=qlc (by omega)
   have c2:cat (x.class_++(⟨#[46]⟩:BA)) n.text=some (x.class_++⟨#[46]⟩++n.text):=qlc (by rw [ByteArray.size_append];omega)
   rw [if_pos hm,if_pos hm,c1,bs,c2,bs]
  rw [if_neg hm,if_neg hm]
 rw [if_neg (by rw [decide_eq_true_eq];exact h2),if_neg h2]
theorem q3c (n:Node) (a:Ref) (x:Around):∃d b,Zc n a x=some (d,b)∧(if b=true then [d] else [])=dclK n.kind n.text a x:=by
 unfold Zc kc uu uv uw ux dclK
 by_cases h2:n.kind=2
 ·rw [if_pos (decide_eq_true h2),if_pos h2]
  by_cases hm:x.method_=true
  ·rw [if_pos hm,if_pos hm];exact ⟨_,_,rfl,rfl⟩
  rw [if_neg hm,if_neg hm];exact ⟨_,_,rfl,rfl⟩
 rw [if_neg (by rw [decide_eq_true_eq];exact h2),if_neg h2]
 by_cases h7:n.kind=7
 ·rw [if_pos (decide_eq_true h7),if_pos h7];exact ⟨_,_,rfl,rfl⟩
 rw [if_neg (by rw [decide_eq_true_eq];exact h7),if_neg h7]
 by_cases h9:n.kind=9
 ·rw [if_pos (decide_eq_true h9),if_pos h9];exact ⟨_,_,rfl,rfl⟩
 rw [if_neg (by rw [decide_eq_true_eq];exact h9),if_neg h9]
 by_cases h4:n.kind=4
 ·have h10:¬n.kind=10:=by omega
  rw [if_pos (decide_eq_true h4),if_pos h4,if_neg (by rw [decide_eq_true_eq];exact h10)];exact ⟨_,_,rfl,rfl⟩
 rw [if_neg (by rw [decide_eq_true_eq];exact h4),if_neg h4]
 by_cases h10:n.kind=10
 ·rw [if_pos (decide_eq_true h10),if_pos (decide_eq_true h10),if_pos h10];exact ⟨_,_,rfl,rfl⟩
 rw [if_neg (by rw [decide_eq_true_eq];exact h10),if_neg h10];exact ⟨_,_,rfl,rfl⟩
theorem q1y {a:Int} (h0:0≤a) (h1:a≤1000000):IntKind.i64.wrap (a+1)=a+1:=ke (by omega) (by omega)
mutual
theorem q0b (u:Int):∀(n:Node) (a:Int) (x:Around) (acc:List Decl),0≤a→a+y7 n≤1000000→bdN n→x.class_.size≤4000→acc.length+y7 n≤1000000→Zb acc n ⟨u,a⟩ x=some (acc++wlk u n a x,⟨u,a+y7 n⟩)
 | .mk k t g l,a,x,acc,h0,h1,hb,hc,hs=>by
   rw [y7] at h1 hs
   have hb':=hb
   rw [qo5] at hb'
   have hl:=qbq l
   have t26:∀acc:List Decl,acc.length≤1000000→acc.length+yd l≤1000000→u3 acc (.mk k t g l) ⟨u,a⟩ x=some (acc++wlkL u l (a+1) (blw k t x),⟨u,a+1+yd l⟩):=by
    intro acc hs1 hs2
    rw [u3.eq_def]
    simp only [qa]
    rw [q1p _ _ hc hb'.1,bs,q1y h0 (by omega)]
    exact q0c u l [] (.mk k t g l) (a+1) (blw k t x) acc rfl (by omega) (by omega) (qld hb) hb'.1 hs2 (by show l.length≤_;omega)
   obtain ⟨d,b,e,hd⟩:=q3c (.mk k t g l) ⟨u,a⟩ x
   rw [Zb.eq_def]
   simp only [qa]
   rw [e,bs,wlk,y7]
   rw [show dclK k t ⟨u,a⟩ x=(if b=true then [d] else []) from hd.symm]
   rw [show a+((yd l+1:Nat):Int)=a+1+(yd l:Int) by omega]
   by_cases hb1:b=true
   ·rw [if_pos hb1,if_pos hb1,qc3 (by rw [List.length_singleton];omega) (by decide),bs,t26 _ (by rw [List.length_append,List.length_singleton];omega) (by rw [List.length_append,List.length_singleton];omega),List.append_assoc]
   rw [if_neg hb1,if_neg hb1,t26 _ (by omega) (by omega),List.nil_append]
theorem q0c (u:Int):∀(l pre:List Node) (n:Node) (a:Int) (y:Around) (acc:List Decl),n.kids=pre++l→0≤a→a+yd l≤1000000→(∀m∈l,bdN m)→y.class_.size≤4000→acc.length+yd l≤1000000→n.kids.length≤1000000→
 wu acc (pre.length:Int) n y ⟨u,a⟩=some (acc++wlkL u l a y,⟨u,a+yd l⟩)
 | [],pre,n,a,y,acc,hk,h0,h1,hb,hc,hs,hn=>by
   rw [wu.eq_def]
   simp only [qa]
   rw [qcn hk,Yh,wlkL,yd,List.append_nil]
   simp
 | m::l,pre,n,a,y,acc,hk,h0,h1,hb,hc,hs,hn=>by
   rw [yd] at h1 hs
   have hl:=qfm hk
   rw [wu.eq_def]
   simp only [qa]
   rw [qcm hk,Yg,Wn hk,bs,q0b u m a y acc h0 (by omega) (hb m (List.mem_cons_self ..)) hc (by omega),bs,qbo (by omega) m]
   have hw:=qf4 u m a y
   rw [q0c u l (pre++ [m]) n (a+y7 m) y (acc++wlk u m a y) (Kr hk) (by omega) (by omega) (fun q hq=>hb q (List.mem_cons_of_mem _ hq)) hc (by rw [List.length_append];omega) hn,wlkL,yd,List.append_assoc]
   rw [show a+((y7 m+yd l:Nat):Int)=a+y7 m+(yd l:Int) by omega]
end
theorem qm8:∀(l pre U:List Unit) (acc:List Decl),U=pre++l→okU l→acc.length+qa0 l≤100000→U.length≤1000000→ui U acc (pre.length:Int)=some (acc++qcp pre.length l)
 | [],pre,U,acc,hU,ho,h,hn=>by
   rw [ui.eq_def]
   simp only [qa]
   rw [qcn hU,Yh,qcp,List.append_nil]
 | x ::l,pre,U,acc,hU,ho,h,hn=>by
   rw [qa0] at h
   have hl:=qfm hU
   have hle:(pre++ [x]).length=pre.length+1:=by rw [List.length_append,List.length_singleton]
   have ih:=fun acc=>qm8 l (pre++ [x]) U acc (Kr hU) (fun q hq=>ho q (List.mem_cons_of_mem _ hq))
   rw [hle] at ih
   have t18:∀acc,acc.length+qa0 l≤100000→vv U acc (pre.length:Int)=some (acc++qcp (pre.length+1) l):=by
    intro acc ha
    rw [vv.eq_def]
    simp only [qa]
    rw [q1y (by omega) (by omega),show (pre.length:Int)+1=((pre.length+1:Nat):Int) by omega,ih acc ha hn]
   rw [ui.eq_def]
   simp only [qa]
   rw [qcm hU,Yg,Wn hU,bs,qcp]
   cases hb:x.Broken with
   | true=>rw [if_neg (by decide),if_pos rfl,t18 acc (by omega),List.nil_append]
   | false=>
     have hw:=qf4 (pre.length:Int) x.Tree 0 ar0
     rw [if_pos (by decide),if_neg (by decide),bs,q0b (pre.length:Int) x.Tree 0 ar0 acc (by decide) (by omega) (ho x (List.mem_cons_self ..) hb) (by decide) (by omega),bs,t18 _ (by rw [List.length_append];omega),List.append_assoc]
theorem qkn (l:List Unit) (ho:okU l) (h:qa0 l≤100000) (hn:l.length≤1000000):Kk l=some (qcp 0 l):=by
 unfold Kk
 have:=qm8 l [] l [] rfl ho (by simpa using h) hn
 rw [List.nil_append] at this
 exact this
theorem qo7 (k:Int) (o nm:BA):∀(l pre D:List Decl),D=pre++l→D.length≤1000000→u9 k o nm D (pre.length:Int)=some (qio k o nm l)
 | [],pre,D,h,hn=>by
   rw [u9.eq_def]
   simp only [qa]
   rw [qcn h,Yh];rfl
 | d ::l,pre,D,h,hn=>by
   have hl:=qfm h
   have ih:vf k o nm D (pre.length:Int)=some (qio k o nm l):=by
    rw [vf.eq_def]
    simp only [qa]
    rw [qbo (by omega) d]
    exact qo7 k o nm l (pre++ [d]) D (Kr h) hn
   rw [u9.eq_def]
   simp only [qa]
   rw [qcm h,Yg,Wn h,bs,bs,bs,bs,qio,ih]
   by_cases h1:d.Kind=k
   ·rw [if_pos (decide_eq_true h1)]
    by_cases h2:d.Owner=o
    ·rw [if_pos (decide_eq_true h2)]
     by_cases h3:d.Name=nm
     ·rw [if_pos (decide_eq_true h3),if_pos ⟨h1,h2,h3⟩]
     rw [if_neg (by rw [decide_eq_true_eq];exact h3),if_neg (fun e=>h3 e.2.2)]
    rw [if_neg (by rw [decide_eq_true_eq];exact h2),if_neg (fun e=>h2 e.2.1)]
   rw [if_neg (by rw [decide_eq_true_eq];exact h1),if_neg (fun e=>h1 e.1)]
theorem qum (l:List Unit) (k:Int) (o nm:BA) (ho:okU l) (h:qa0 l≤100000) (hn:l.length≤1000000):qca l k o nm=some (qio k o nm (qcp 0 l)):=by
 unfold qca
 have hd:=qjt l 0
 rw [qkn l ho h hn,bs]
 exact qo7 k o nm _ [] _ rfl (by omega)
theorem qo8:∀(l pre D:List Decl),D=pre++l→D.length≤1000000→Qh D D (pre.length:Int)=some true
 | [],pre,D,h,hn=>by
   rw [Qh.eq_def]
   simp only [qa]
   rw [qcn h,Yh]
 | d::l,pre,D,h,hn=>by
   have hl:=qfm h
   rw [Qh.eq_def]
   simp only [qa]
   rw [qcm h,Yg,Wn h,bs,bs,if_neg (by simp),qbo (by omega) d]
   exact qo8 l (pre++ [d]) D (Kr h) hn
theorem q3k (l:List Decl) (h:l.length≤1000000):qcb l l=some true:=by
 unfold qcb
 rw [if_neg (by simp)]
 exact qo8 l [] l rfl h
theorem L11_Decls (U:List Unit) (d:Decl):Z1 U d=some true:=by
 obtain ⟨b,e,hb⟩:=q1s U
 unfold Z1
 rw [e,bs]
 cases b with
 | false=>rw [if_pos (by decide),qwa];rfl
 | true=>
   obtain ⟨h1,h2,h3⟩:=hb rfl
   have hd:=qjt U 0
   rw [if_neg (by decide),qun _ _ _ _ h2 (by omega),bs,qum _ _ _ _ h2 (by omega) (by omega),bs,qqr _ h2 (by omega),bs,qkn _ h2 (by omega) (by omega),bs,q3k _ (by omega),bs,if_pos rfl,if_pos (by simp),if_pos (by simp),qwa]
   rfl
end Pj
end Go.Proofs.YtpnkemogepoioaaGreatDoorW.Ex.Gr
