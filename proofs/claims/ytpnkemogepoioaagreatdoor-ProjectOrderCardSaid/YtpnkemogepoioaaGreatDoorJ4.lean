/- Find, small units. Conditions: those in each theorem. Paths; what project.Check and Load return; the examples. Conditions: those in each theorem. -/
import Derived.Test.YtpnkemogepoioaaGreatDoorJ2
import Derived.Test.YtpnkemogepoioaaGreatDoorAF
import Derived.KernelRfl
namespace Go.Proofs.YtpnkemogepoioaaGreatDoorW.Ex.Gr
open Go Go.Proofs.YtpnkemogepoioaaGreatDoorW.Ex Go.Proofs.YtpnkemogepoioaaGreatDoorW.Plain Tk
set_option linter.all false
set_option maxRecDepth 100000
namespace Pj
@[reducible] def zD:Decl:=Decl.mk 0 eB eB (Ref.mk 0 0)
def qhb (k:Int) (o nm:BA):List Decl→Decl × Bool
 | []=>(zD,false)
 | d::l=>if d.Kind=k∧d.Owner=o∧d.Name=nm then (d,true) else qhb k o nm l
theorem qny (k:Int) (o nm:BA):∀l:List Decl,kl l k o nm=some (qhb k o nm l)
 | []=>by rw [kl.eq_def];rfl
 | d ::l=>by
   have ih:kz l k o nm=some (qhb k o nm l):=by
    rw [kz.eq_def]
    simp only [qa]
    exact qny k o nm l
   rw [kl.eq_def]
   simp only [qa]
   rw [qhb,ih]
   by_cases h1:d.Kind=k
   ·rw [if_pos (decide_eq_true h1)]
    by_cases h2:d.Owner=o
    ·rw [if_pos (decide_eq_true h2)]
     by_cases h3:d.Name=nm
     ·rw [if_pos (decide_eq_true h3),if_pos ⟨h1,h2,h3⟩]
     rw [if_neg (by rw [decide_eq_true_eq];exact h3),if_neg (fun e=>h3 e.2.2)]
    rw [if_neg (by rw [decide_eq_true_eq];exact h2),if_neg (fun e=>h2 e.2.1)]
   rw [if_neg (by rw [decide_eq_true_eq];exact h1),if_neg (fun e=>h1 e.1)]
theorem qs8 (l:List Unit) (k:Int) (o nm:BA) (ho:okU l) (h:qap l≤100000):uh l k o nm=some (qhb k o nm (Z4 0 l)):=by
 unfold uh
 rw [qpe l ho h,bs,qny]
theorem qnp:∀(l:List Unit) (j:Nat),(Z4 j l).length≤qap l
 | [],j=>Nat.zero_le _
 | x::l,j=>by
   rw [Z4,qap,List.length_append]
   have:=qnp l (j+1)
   have:=qjs (j:Int) x.Tree 0 ar0
   split
   ·simp only [List.length_nil];omega
   omega
theorem ql0:∀(l pre U:List Unit),U=pre++l→U.length≤1000000→∃b,u5 U (pre.length:Int)=some b∧(b=true→okU l∧qap l≤300*l.length)
 | [],pre,U,h,hn=>by
   refine ⟨true,?_,fun _=>⟨fun x hx=>absurd hx (List.not_mem_nil),Nat.zero_le _⟩⟩
   rw [u5.eq_def]
   simp only [qa]
   rw [qe2 h,Yn]
 | x ::l,pre,U,h,hn=>by
   have hl:=qia h
   obtain ⟨b,e,hb⟩:=q0n x.Tree
   obtain ⟨c,e2,hc⟩:=ql0 l (pre++ [x]) U (qau h) hn
   refine ⟨b && c,?_,fun q=> ?_⟩
   ·rw [u5.eq_def]
    simp only [qa]
    rw [qe1 h,Ka,Wu h,bs,e,bs]
    cases b with
    | false=>rw [if_pos (by decide)];rfl
    | true=>rw [if_neg (by decide),qby (by omega) x,e2];rfl
   rw [Bool.and_eq_true] at q
   obtain ⟨h1,h2⟩:=hb q.1
   obtain ⟨h3,h4⟩:=hc q.2
   refine ⟨fun y hy _=> ?_,?_⟩
   ·rcases List.mem_cons.1 hy with rfl | hy
    ·exact h2
    rename_i hbr;exact h3 y hy hbr
   rw [qap,List.length_cons];omega
theorem q0l (l:List Unit):∃b,Wq l=some b∧(b=true→l.length≤4∧okU l∧qap l≤1200):=by
 unfold Wq
 by_cases h:(4:Int) < ((l.map Unit.cells).length:Int)
 ·rw [if_pos (decide_eq_true h)]
  exact ⟨false,rfl,fun q=>by cases q⟩
 rw [if_neg (by rw [decide_eq_true_eq];exact h)]
 rw [List.length_map] at h
 obtain ⟨b,e,hb⟩:=ql0 l [] l rfl (by omega)
 refine ⟨b,e,fun q=> ?_⟩
 obtain ⟨h1,h2⟩:=hb q
 exact ⟨by omega,h1,by omega⟩
end Pj
end Go.Proofs.YtpnkemogepoioaaGreatDoorW.Ex.Gr

namespace Go.Proofs.YtpnkemogepoioaaGreatDoorW.Ex.Gr
open Go Go.Proofs.YtpnkemogepoioaaGreatDoorW.Ex Go.Proofs.YtpnkemogepoioaaGreatDoorW.Plain Tk
set_option linter.all false
set_option maxRecDepth 100000
namespace Pj
def qkv:List UInt8→List UInt8→Bool
 | cur, []=>qfk cur
 | cur,c::l=>if c=47 then qfk cur && qkv [] l else qkv (cur++ [c]) l
def qnc (s:BA):Bool:=decide (s≠⟨#[]⟩) && (decide (s.size≤64) && qkv [] (L s))
theorem qy5 (s:BA):qeq s=some (qfk (L s)):=rfl
theorem quk {s:BA} {pre cur rest:List UInt8} (h:L s=pre++(cur++rest)):ssub s (pre.length:Int) ((pre.length+cur.length:Nat):Int)=some (ofB cur):=by
 have hl:=congrArg List.length h
 rw [List.length_append,List.length_append,qd9] at hl
 rw [qex (by omega) (by omega),h,List.drop_left,Nat.add_sub_cancel_left,List.take_left]
theorem qnx (s:BA) (hs:s.size≤1000000):∀(rest pre cur:List UInt8),L s=pre++(cur++rest)→ws s (pre.length:Int) ((pre.length+cur.length:Nat):Int)=some (qkv cur rest)
 | [],pre,cur,h=>by
   have hl:=congrArg List.length h
   rw [List.length_append,List.length_append,qd9,List.length_nil] at hl
   rw [ws.eq_def]
   simp only [qa]
   rw [if_pos (decide_eq_true (by omega)),if_neg (by rw [decide_eq_true_eq];omega),vl.eq_def]
   simp only [qa]
   rw [quk h,bs,qy5,qn1,bs,qkv]
   cases hp:qfk cur with
   | false=>rw [if_pos (by decide)]
   | true=>
     rw [if_neg (by decide),ui.eq_def]
     simp only [qa]
     rw [ke (by omega) (by omega),ws.eq_def]
     simp only [qa]
     rw [if_neg (by rw [decide_eq_true_eq];omega)]
 | c ::l,pre,cur,h=>by
   have hl:=congrArg List.length h
   rw [List.length_append,List.length_append,qd9,List.length_cons] at hl
   have hd:(L s).drop (pre.length+cur.length)=c::l:=by rw [h,←List.append_assoc,←List.length_append,List.drop_left]
   have b1:∀(a:Int) (p q:List UInt8),L s=p++(q++l)→(p.length:Int)=a→p.length+q.length=pre.length+cur.length+1→ui s a ((pre.length+cur.length:Nat):Int)=some (qkv q l):=by
    intro a p q hpq ha hlen
    rw [ui.eq_def]
    simp only [qa]
    rw [ke (by omega) (by omega),←ha,show ((pre.length+cur.length:Nat):Int)+1=((p.length+q.length:Nat):Int) by omega]
    exact qnx s hs l p q hpq
   rw [ws.eq_def]
   simp only [qa]
   rw [if_pos (decide_eq_true (by omega)),if_pos (decide_eq_true (by omega)),qod hd,bs,qkv]
   by_cases hc:c=47
   ·subst hc
    rw [if_pos rfl,if_neg (by decide),vl.eq_def]
    simp only [qa]
    rw [quk h,bs,qy5,qn1,bs]
    cases hp:qfk cur with
    | false=>rw [if_pos (by decide)];rfl
    | true=>
      rw [if_neg (by decide),Bool.true_and]
      rw [ke (by omega) (by omega)]
      exact b1 _ (pre++(cur++ [47])) [] (by rw [h];simp) (by simp;omega) (by simp;omega)
   rw [if_neg hc]
   have hn:¬((c.toNat:Int)=47):=fun e=>hc (by
    have:c.toNat=47:=by omega
    exact UInt8.toNat_inj.1 this)
   rw [decide_eq_false hn,if_pos (by decide)]
   exact b1 _ pre (cur++ [c]) (by rw [h];simp) rfl (by simp;omega)
theorem q2d (s:BA):Wp s=some (qnc s):=by
 unfold Wp qnc
 by_cases h0:s=⟨#[]⟩
 ·rw [if_pos (decide_eq_true h0),decide_eq_false (fun e=>e h0),Bool.false_and]
 rw [if_neg (by rw [decide_eq_true_eq];exact h0),decide_eq_true h0,Bool.true_and]
 by_cases h1:s.size≤64
 ·rw [if_neg (by rw [decide_eq_true_eq];omega),decide_eq_true h1,Bool.true_and]
  exact qnx s (by omega) (L s) [] [] rfl
 rw [if_pos (decide_eq_true (by omega)),decide_eq_false h1,Bool.false_and]
def leB (a b:BA):Bool:=Op.bytesLess a.toList b.toList || decide (a=b)
def Wi:List File→Bool
 | x::y::l=>leB y.Path x.Path || Wi (y::l)
 | _=>false
def qih (l:List File):Int:=
 if 32 < l.length then 3 else if l.any (fun x=> !qnc x.Path)=true then 4 else if Wi l=true then 14 else if l.any (fun x=>decide (65536 < x.Text.size))=true then 3 else 0
theorem C_l2:∀l:List File,yp l=some (if l.any (fun x=>decide (65536 < x.Text.size))=true then 3 else 0)
 | []=>by rw [yp.eq_def];rfl
 | x::l=>by
   rw [yp.eq_def]
   simp only [qa]
   rw [List.any_cons,C_l2 l]
   by_cases h:65536 < x.Text.size
   ·rw [if_pos (decide_eq_true (by omega)),decide_eq_true h,Bool.true_or,if_pos rfl]
   rw [if_neg (by rw [decide_eq_true_eq];omega),decide_eq_false h,Bool.false_or]
theorem C_l1 (D:List File) (hD:D.length≤1000000):∀(l pre:List File) (x:File),D=pre++(x::l)→jo l (pre.length+1) D=(if Wi (x::l)=true then some 14 else yp D)
 | [],pre,x,h=>by
   have hb:Wi [x]=false:=by simp [Wi]
   rw [jo.eq_def,hb,if_neg (by decide)]
   simp only [qa]
 | y ::l,pre,x,h=>by
   have hl:=qia h
   have h2:D=(pre++ [x])++(y::l):=qau h
   have hy:ix D ((pre.length+1:Nat):Int)=some y:=by have:=Wu h2;rwa [List.length_append,List.length_singleton] at this
   rw [jo.eq_def]
   simp only [qa]
   rw [if_pos (decide_eq_true (by omega)),hy,bs,ke (by omega) (by omega),show ((pre.length+1:Nat):Int) - 1=(pre.length:Int) by omega,Wu h,bs,Wi]
   show (if leB y.Path x.Path=true then _ else _)=_
   cases hle:leB y.Path x.Path with
   | true=>rw [if_pos rfl,Bool.true_or,if_pos rfl]
   | false=>
     rw [if_neg (by decide),Bool.false_or,wj.eq_def]
     simp only [qa]
     have:=C_l1 D hD l (pre++ [x]) y h2
     rw [List.length_append,List.length_singleton] at this
     exact this
theorem q2h (D:List File) (hD:D.length≤1000000):jo D 0 D=(if Wi D=true then some 14 else yp D):=by
 cases D with
 | nil=>
   rw [jo.eq_def];rfl
 | cons x l=>
   rw [jo.eq_def]
   simp only [qa]
   rw [if_neg (by decide),wj.eq_def]
   simp only [qa]
   exact C_l1 (x::l) hD l [] x rfl
theorem C_l0 (D:List File) (hD:D.length≤1000000):∀l:List File,wa l D=(if l.any (fun x=> !qnc x.Path)=true then some 4 else jo D 0 D)
 | []=>by rw [wa.eq_def];rfl
 | x::l=>by
   rw [wa.eq_def]
   simp only [qa]
   rw [q2d,bs,List.any_cons,C_l0 D hD l]
   cases qnc x.Path with
   | false=>rw [if_pos (by decide),Bool.not_false,Bool.true_or,if_pos rfl]
   | true=>rw [if_neg (by decide),Bool.not_true,Bool.false_or]
theorem quz (l:List File):Qq l=some (qih l):=by
 unfold Qq qih
 rw [List.length_map]
 by_cases h:32 < l.length
 ·rw [if_pos (decide_eq_true (by omega)),if_pos h]
 rw [if_neg (by rw [decide_eq_true_eq];omega),if_neg h,C_l0 l (by omega) l,q2h l (by omega),C_l2]
 by_cases h1:l.any (fun x=> !qnc x.Path)=true
 ·rw [if_pos h1,if_pos h1]
 rw [if_neg h1,if_neg h1]
 by_cases h2:Wi l=true
 ·rw [if_pos h2,if_pos h2]
 rw [if_neg h2,if_neg h2]
def q0t (x:File):Unit:=⟨x.Path,x.Text,(Ps.readV Ps.fileR x.Text).1, !decide ((Ps.readV Ps.fileR x.Text).2.1=0)⟩
def qt3 (l:List File):List Unit × Int:=if qih l=0 then (l.map q0t,0) else ([],qih l)
theorem q09:∀(l:List File) (acc:List Unit),acc.length+l.length≤1000000→wm l acc=some (acc++l.map q0t,0)
 | [],acc,h=>by rw [wm.eq_def,List.map_nil,List.append_nil]
 | x::l,acc,h=>by
   rw [List.length_cons] at h
   rw [wm.eq_def]
   simp only [qa]
   rw [Ps.P_File,bs,qdc (by rw [List.length_singleton];omega) (by decide),bs,q09 l _ (by rw [List.length_append,List.length_singleton];omega),List.map_cons,List.append_assoc]
   rfl
theorem q2e (l:List File):Zf l=some (qt3 l):=by
 unfold Zf qt3
 rw [quz,bs]
 by_cases h:qih l=0
 ·have hl:l.length≤32:=by
   rcases Nat.lt_or_ge 32 l.length with q | q
   ·unfold qih at h;rw [if_pos q] at h;cases h
   exact q
  rw [decide_eq_true h,if_neg (by decide),if_pos h,q09 l [] (by simp;omega),List.nil_append]
 rw [decide_eq_false h,if_pos (by decide),if_neg h]
mutual
def bdB:Node→Bool
 | .mk _ t g l=>decide (t.size≤4000) && decide (g.length≤4000) && g.all (fun s=>decide (s.size≤4000)) && bdBL l
def bdBL:List Node→Bool
 | []=>true
 | n::l=>bdB n && bdBL l
end
mutual
theorem qyx:∀n:Node,bdB n=true→bdN n
 | .mk k t g l,h=>by
   simp only [bdB,Bool.and_eq_true,decide_eq_true_eq,List.all_eq_true] at h
   rw [qrm]
   exact ⟨h.1.1.1,h.1.1.2,h.1.2,qur l h.2⟩
theorem qur:∀l:List Node,bdBL l=true→bdL l
 | [],h=>by simp [bdL]
 | n::l,h=>by
   simp only [bdBL,Bool.and_eq_true] at h
   simp only [bdL]
   exact ⟨qyx n h.1,qur l h.2⟩
end
theorem q1n {l:List Unit} (h:l.all (fun x=>bdB x.Tree)=true):okU l:=fun x hx _=>qyx _ (List.all_eq_true.1 h x hx)
def awL:List File:= [(File.mk (⟨#[97]⟩:BA) (⟨#[99,108,97,115,115,32,67,32,123,32,102,110,32,109,40,97,32,105,110,116,41,32,105,110,116,32,123,32,108,101,116,32,98,32,61,32,97,59,32,114,101,116,117,114,110,32,98,59,32,125,32,125,10]⟩:BA)),(File.mk (⟨#[98]⟩:BA) (⟨#[102,110]⟩:BA))]
theorem quy:Y3=some true:=by
 have ho:okU (qt3 awL).1:=q1n (by kernel_rfl)
 have hs:qap (qt3 awL).1≤100000:=of_decide_eq_true (by kernel_rfl)
 unfold Y3
 show (Zf awL >>=_)=_
 rw [q2e,bs,qpe _ ho hs,bs,qs8 _ _ _ _ ho hs,bs,qs8 _ _ _ _ ho hs,bs]
 simp only [quz]
 kernel_rfl
end Pj
end Go.Proofs.YtpnkemogepoioaaGreatDoorW.Ex.Gr
