/- Find, small units. Conditions: those in each theorem. Paths; what project.Check and Load return; the examples. Conditions: those in each theorem. -/
import Derived.Test.YtpnkemogepoioaaGreatDoorJ2
import Derived.Test.YtpnkemogepoioaaGreatDoorAF
import Derived.KernelRfl
namespace Go.Proofs.YtpnkemogepoioaaGreatDoorW.Ex.Gr
open Go Go.Proofs.YtpnkemogepoioaaGreatDoorW.Ex Go.Proofs.YtpnkemogepoioaaGreatDoorW.Plain Tk
set_option linter.all false
set_option maxRecDepth 100000
namespace Pj
@[reducible] def zD:Decl:=Decl.mk 0 eB eB (Ref.mk 0 0)
def qww (k:Int) (o nm:BA):List Decl→Decl × Bool
 | []=>(zD,false)
 | d::l=>if d.Kind=k∧d.Owner=o∧d.Name=nm then (d,true) else qww k o nm l
theorem qs5 (k:Int) (o nm:BA):∀l:List Decl,wu l k o nm=some (qww k o nm l)
 | []=>by rw [wu.eq_def];rfl
 | d ::l=>by
   have ih:w6 l k o nm=some (qww k o nm l):=by
    rw [w6.eq_def]
    simp only [qa]
    exact qs5 k o nm l
   rw [wu.eq_def]
   simp only [qa]
   rw [qww,ih]
   by_cases h1:d.Kind=k
   ·rw [if_pos (decide_eq_true h1)]
    by_cases h2:d.Owner=o
    ·rw [if_pos (decide_eq_true h2)]
     by_cases h3:d.Name=nm
     ·rw [if_pos (decide_eq_true h3),if_pos ⟨h1,h2,h3⟩]
     rw [if_neg (by rw [decide_eq_true_eq];exact h3),if_neg (fun e=>h3 e.2.2)]
    rw [if_neg (by rw [decide_eq_true_eq];exact h2),if_neg (fun e=>h2 e.2.1)]
   rw [if_neg (by rw [decide_eq_true_eq];exact h1),if_neg (fun e=>h1 e.1)]
theorem q5z (l:List Unit) (k:Int) (o nm:BA) (ho:okU l) (h:qr7 l≤100000):J9 l k o nm=some (qww k o nm (qsx 0 l)):=by
 unfold J9
 rw [q06 l ho h,bs,qs5]
end Pj
end Go.Proofs.YtpnkemogepoioaaGreatDoorW.Ex.Gr

namespace Go.Proofs.YtpnkemogepoioaaGreatDoorW.Ex.Gr
open Go Go.Proofs.YtpnkemogepoioaaGreatDoorW.Ex Go.Proofs.YtpnkemogepoioaaGreatDoorW.Plain Tk
set_option linter.all false
set_option maxRecDepth 100000
namespace Pj
def qo4:List UInt8→List UInt8→Bool
 | cur, []=>qi5 cur
 | cur,c::l=>if c=47 then qi5 cur && qo4 [] l else qo4 (cur++ [c]) l
def qho (s:BA):Bool:=decide (s≠⟨#[]⟩) && (decide (s.size≤64) && qo4 [] (L s))
theorem q5v (s:BA):qic s=some (qi5 (L s)):=rfl
theorem q0o {s:BA} {pre cur rest:List UInt8} (h:L s=pre++(cur++rest)):ssub s (pre.length:Int) ((pre.length+cur.length:Nat):Int)=some (ofB cur):=by
 have hl:=congrArg List.length h
 rw [Ad,Ad,Y5] at hl
 rw [qf2 (by omega) (by omega),h,List.drop_left,BP,List.take_left]
theorem qs4 (s:BA) (hs:s.size≤1000000):∀(rest pre cur:List UInt8),L s=pre++(cur++rest)→uv s (pre.length:Int) ((pre.length+cur.length:Nat):Int)=some (qo4 cur rest)
 | [],pre,cur,h=>by
   have hl:=congrArg List.length h
   rw [Ad,Ad,Y5,Ar] at hl
   rw [uv.eq_def]
   simp only [qa]
   rw [if_pos (decide_eq_true (by omega)),if_neg (by rw [decide_eq_true_eq];omega),Q3.eq_def]
   simp only [qa]
   rw [q0o h,bs,q5v,qd3,bs,qo4]
   cases hp:qi5 cur with
   | false=>rw [if_pos (by decide)]
   | true=>
     rw [if_neg (by decide),vw.eq_def]
     simp only [qa]
     rw [we (by omega) (by omega),uv.eq_def]
     simp only [qa]
     rw [if_neg (by rw [decide_eq_true_eq];omega)]
 | c ::l,pre,cur,h=>by
   have hl:=congrArg List.length h
   rw [Ad,Ad,Y5,Ae] at hl
   have hd:(L s).drop (pre.length+cur.length)=c::l:=by rw [h,←Ap,←Ad,List.drop_left]
   have b1:∀(a:Int) (p q:List UInt8),L s=p++(q++l)→(p.length:Int)=a→p.length+q.length=pre.length+cur.length+1→vw s a ((pre.length+cur.length:Nat):Int)=some (qo4 q l):=by
    intro a p q hpq ha hlen
    rw [vw.eq_def]
    simp only [qa]
    rw [we (by omega) (by omega),←ha,show ((pre.length+cur.length:Nat):Int)+1=((p.length+q.length:Nat):Int) by omega]
    exact qs4 s hs l p q hpq
   rw [uv.eq_def]
   simp only [qa]
   rw [if_pos (decide_eq_true (by omega)),if_pos (decide_eq_true (by omega)),qnu hd,bs,qo4]
   by_cases hc:c=47
   ·subst hc
    rw [if_pos rfl,if_neg (by decide),Q3.eq_def]
    simp only [qa]
    rw [q0o h,bs,q5v,qd3,bs]
    cases hp:qi5 cur with
    | false=>rw [if_pos (by decide)];rfl
    | true=>
      rw [if_neg (by decide),Bv]
      rw [we (by omega) (by omega)]
      exact b1 _ (pre++(cur++ [47])) [] (by rw [h];simp) (by simp;omega) (by simp;omega)
   rw [if_neg hc]
   have hn:¬((c.toNat:Int)=47):=fun e=>hc (by
    have:c.toNat=47:=by omega
    exact B8.1 this)
   rw [decide_eq_false hn,if_pos (by decide)]
   exact b1 _ pre (cur++ [c]) (by rw [h];simp) rfl (by simp;omega)
theorem q5x (s:BA):Ks s=some (qho s):=by
 unfold Ks qho
 by_cases h0:s=⟨#[]⟩
 ·rw [if_pos (decide_eq_true h0),decide_eq_false (fun e=>e h0),Cf]
 rw [if_neg (by rw [decide_eq_true_eq];exact h0),decide_eq_true h0,Bv]
 by_cases h1:s.size≤64
 ·rw [if_neg (by rw [decide_eq_true_eq];omega),decide_eq_true h1,Bv]
  exact qs4 s (by omega) (L s) [] [] rfl
 rw [if_pos (decide_eq_true (by omega)),decide_eq_false h1,Cf]
def leB (a b:BA):Bool:=Op.bytesLess a.toList b.toList || decide (a=b)
def qb4:List File→Bool
 | x::y::l=>leB y.Path x.Path || qb4 (y::l)
 | _=>false
def qgi (l:List File):Int:=
 if 32 < l.length then 3 else if l.any (fun x=> !qho x.Path)=true then 4 else if qb4 l=true then 14 else if l.any (fun x=>decide (65536 < x.Text.size))=true then 3 else 0
theorem C_l2:∀l:List File,kp l=some (if l.any (fun x=>decide (65536 < x.Text.size))=true then 3 else 0)
 | []=>by rw [kp.eq_def];rfl
 | x::l=>by
   rw [kp.eq_def]
   simp only [qa]
   rw [List.any_cons,C_l2 l]
   by_cases h:65536 < x.Text.size
   ·rw [if_pos (decide_eq_true (by omega)),decide_eq_true h,Bool.true_or,if_pos rfl]
   rw [if_neg (by rw [decide_eq_true_eq];omega),decide_eq_false h,BC]
theorem C_l1 (D:List File) (hD:D.length≤1000000):∀(l pre:List File) (x:File),D=pre++(x::l)→yc l (pre.length+1) D=(if qb4 (x::l)=true then some 14 else kp D)
 | [],pre,x,h=>by
   have hb:qb4 [x]=false:=by simp [qb4]
   rw [yc.eq_def,hb,if_neg (by decide)]
   simp only [qa]
 | y ::l,pre,x,h=>by
   have hl:=qjt h
   have h2:D=(pre++ [x])++(y::l):=qdp h
   have hy:ix D ((pre.length+1:Nat):Int)=some y:=by have:=qdr h2;rwa [Ad,Ai] at this
   rw [yc.eq_def]
   simp only [qa]
   rw [if_pos (decide_eq_true (by omega)),hy,bs,we (by omega) (by omega),show ((pre.length+1:Nat):Int) - 1=(pre.length:Int) by omega,qdr h,bs,qb4]
   show (if leB y.Path x.Path=true then _ else _)=_
   cases hle:leB y.Path x.Path with
   | true=>rw [if_pos rfl,Bool.true_or,if_pos rfl]
   | false=>
     rw [if_neg (by decide),BC,uj.eq_def]
     simp only [qa]
     have:=C_l1 D hD l (pre++ [x]) y h2
     rw [Ad,Ai] at this
     exact this
theorem zad (D:List File) (hD:D.length≤1000000):yc D 0 D=(if qb4 D=true then some 14 else kp D):=by
 cases D with
 | nil=>
   rw [yc.eq_def];rfl
 | cons x l=>
   rw [yc.eq_def]
   simp only [qa]
   rw [if_neg (by decide),uj.eq_def]
   simp only [qa]
   exact C_l1 (x::l) hD l [] x rfl
theorem C_l0 (D:List File) (hD:D.length≤1000000):∀l:List File,w9 l D=(if l.any (fun x=> !qho x.Path)=true then some 4 else yc D 0 D)
 | []=>by rw [w9.eq_def];rfl
 | x::l=>by
   rw [w9.eq_def]
   simp only [qa]
   rw [q5x,bs,List.any_cons,C_l0 D hD l]
   cases qho x.Path with
   | false=>rw [if_pos (by decide),Aa,Bool.true_or,if_pos rfl]
   | true=>rw [if_neg (by decide),Ac,BC]
theorem qus (l:List File):Q2 l=some (qgi l):=by
 unfold Q2 qgi
 rw [As]
 by_cases h:32 < l.length
 ·rw [if_pos (decide_eq_true (by omega)),if_pos h]
 rw [if_neg (by rw [decide_eq_true_eq];omega),if_neg h,C_l0 l (by omega) l,zad l (by omega),C_l2]
 by_cases h1:l.any (fun x=> !qho x.Path)=true
 ·rw [if_pos h1,if_pos h1]
 rw [if_neg h1,if_neg h1]
 by_cases h2:qb4 l=true
 ·rw [if_pos h2,if_pos h2]
 rw [if_neg h2,if_neg h2]
def Wc (x:File):Unit:=⟨x.Path,x.Text,(Ps.readV Ps.fileR x.Text).1, !decide ((Ps.readV Ps.fileR x.Text).2.1=0)⟩
def qpj (l:List File):List Unit × Int:=if qgi l=0 then (l.map Wc,0) else ([],qgi l)
theorem q8g:∀(l:List File) (acc:List Unit),acc.length+l.length≤1000000→um l acc=some (acc++l.map Wc,0)
 | [],acc,h=>by rw [um.eq_def,BU,Az]
 | x::l,acc,h=>by
   rw [Ae] at h
   rw [um.eq_def]
   simp only [qa]
   rw [Ps.P_File,bs,qck (by rw [Ai];omega) (by decide),bs,q8g l _ (by rw [Ad,Ai];omega),AX,Ap]
   rfl
theorem q5y (l:List File):Zu l=some (qpj l):=by
 unfold Zu qpj
 rw [qus,bs]
 by_cases h:qgi l=0
 ·have hl:l.length≤32:=by
   rcases Br 32 l.length with q | q
   ·unfold qgi at h;rw [if_pos q] at h;cases h
   exact q
  rw [decide_eq_true h,if_neg (by decide),if_pos h,q8g l [] (by simp;omega),AQ]
 rw [decide_eq_false h,if_pos (by decide),if_neg h]
mutual
def bdB:Node→Bool
 | .mk _ t g l=>decide (t.size≤4000) && decide (g.length≤4000) && g.all (fun s=>decide (s.size≤4000)) && bdBL l
def bdBL:List Node→Bool
 | []=>true
 | n::l=>bdB n && bdBL l
end
mutual
theorem q5p:∀n:Node,bdB n=true→bdN n
 | .mk k t g l,h=>by
   simp only [bdB,An,decide_eq_true_eq,Aw] at h
   rw [q0u]
   exact ⟨h.1.1.1,h.1.1.2,h.1.2,q0w l h.2⟩
theorem q0w:∀l:List Node,bdBL l=true→bdL l
 | [],h=>by simp [bdL]
 | n::l,h=>by
   simp only [bdBL,An] at h
   simp only [bdL]
   exact ⟨q5p n h.1,q0w l h.2⟩
end
theorem q81 {l:List Unit} (h:l.all (fun x=>bdB x.Tree)=true):okU l:=fun x hx _=>q5p _ (Aw.1 h x hx)
def awL:List File:= [(File.mk (⟨#[97]⟩:BA) (⟨#[99,108,97,115,115,32,67,32,123,32,102,110,32,109,40,97,32,105,110,116,41,32,105,110,116,32,123,32,108,101,116,32,98,32,61,32,97,59,32,114,101,116,117,114,110,32,98,59,32,125,32,125,10]⟩:BA)),(File.mk (⟨#[98]⟩:BA) (⟨#[102,110]⟩:BA))]
theorem qur:Kt=some true:=by
 have ho:okU (qpj awL).1:=q81 (by kernel_rfl)
 have hs:qr7 (qpj awL).1≤100000:=of_decide_eq_true (by kernel_rfl)
 unfold Kt
 show (Zu awL >>=_)=_
 rw [q5y,bs,q06 _ ho hs,bs,q5z _ _ _ _ ho hs,bs,q5z _ _ _ _ ho hs,bs]
 simp only [qus]
 kernel_rfl
end Pj
end Go.Proofs.YtpnkemogepoioaaGreatDoorW.Ex.Gr
