/- Find, small units. Conditions: those in each theorem. Paths; what project.Check and Load return; the examples. Conditions: those in each theorem. -/
import Derived.Test.YtpnkemogepoioaaGreatDoorJ2
import Derived.Test.YtpnkemogepoioaaGreatDoorAF
import Derived.KernelRfl
namespace Go.Proofs.YtpnkemogepoioaaGreatDoorW.Ex.Gr
open Go Go.Proofs.YtpnkemogepoioaaGreatDoorW.Ex Go.Proofs.YtpnkemogepoioaaGreatDoorW.Plain Tk
set_option linter.all false
set_option maxRecDepth 100000
namespace Pj
@[reducible] def zD:Decl:=Decl.mk 0 eB eB (Ref.mk 0 0)
def qy2 (k:Int) (o nm:BA):List Decl→Decl × Bool
 | []=>(zD,false)
 | d::l=>if d.Kind=k∧d.Owner=o∧d.Name=nm then (d,true) else qy2 k o nm l
theorem qvi (k:Int) (o nm:BA):∀l:List Decl,w6 l k o nm=some (qy2 k o nm l)
 | []=>by rw [w6.eq_def];rfl
 | d ::l=>by
   have ih:ud l k o nm=some (qy2 k o nm l):=by
    rw [ud.eq_def]
    simp only [qa]
    exact qvi k o nm l
   rw [w6.eq_def]
   simp only [qa]
   rw [qy2,ih]
   by_cases h1:d.Kind=k
   ·rw [if_pos (decide_eq_true h1)]
    by_cases h2:d.Owner=o
    ·rw [if_pos (decide_eq_true h2)]
     by_cases h3:d.Name=nm
     ·rw [if_pos (decide_eq_true h3),if_pos ⟨h1,h2,h3⟩]
     rw [if_neg (by rw [decide_eq_true_eq];exact h3),if_neg (fun e=>h3 e.2.2)]
    rw [if_neg (by rw [decide_eq_true_eq];exact h2),if_neg (fun e=>h2 e.2.1)]
   rw [if_neg (by rw [decide_eq_true_eq];exact h1),if_neg (fun e=>h1 e.1)]
theorem q75 (l:List Unit) (k:Int) (o nm:BA) (ho:okU l) (h:qul l≤100000):Y1 l k o nm=some (qy2 k o nm (qu8 0 l)):=by
 unfold Y1
 rw [q3f l ho h,bs,qvi]
end Pj
end Go.Proofs.YtpnkemogepoioaaGreatDoorW.Ex.Gr

namespace Go.Proofs.YtpnkemogepoioaaGreatDoorW.Ex.Gr
open Go Go.Proofs.YtpnkemogepoioaaGreatDoorW.Ex Go.Proofs.YtpnkemogepoioaaGreatDoorW.Plain Tk
set_option linter.all false
set_option maxRecDepth 100000
namespace Pj
def qjy:List UInt8→List UInt8→Bool
 | cur, []=>qg4 cur
 | cur,c::l=>if c=47 then qg4 cur && qjy [] l else qjy (cur++ [c]) l
def qjx (s:BA):Bool:=decide (s≠⟨#[]⟩) && (decide (s.size≤64) && qjy [] (L s))
theorem q72 (s:BA):qkm s=some (qg4 (L s)):=rfl
theorem qqp {s:BA} {pre cur rest:List UInt8} (h:L s=pre++(cur++rest)):ssub s (pre.length:Int) ((pre.length+cur.length:Nat):Int)=some (ofB cur):=by
 have hl:=congrArg List.length h
 rw [Ad,Ad,qbt] at hl
 rw [qdc (by omega) (by omega),h,List.drop_left,BR,List.take_left]
theorem qvh (s:BA) (hs:s.size≤1000000):∀(rest pre cur:List UInt8),L s=pre++(cur++rest)→u4 s (pre.length:Int) ((pre.length+cur.length:Nat):Int)=some (qjy cur rest)
 | [],pre,cur,h=>by
   have hl:=congrArg List.length h
   rw [Ad,Ad,qbt,Ao] at hl
   rw [u4.eq_def]
   simp only [qa]
   rw [if_pos (decide_eq_true (by omega)),if_neg (by rw [decide_eq_true_eq];omega),Zt.eq_def]
   simp only [qa]
   rw [qqp h,bs,q72,qn9,bs,qjy]
   cases hp:qg4 cur with
   | false=>rw [if_pos (by decide)]
   | true=>
     rw [if_neg (by decide),Qa.eq_def]
     simp only [qa]
     rw [js (by omega) (by omega),u4.eq_def]
     simp only [qa]
     rw [if_neg (by rw [decide_eq_true_eq];omega)]
 | c ::l,pre,cur,h=>by
   have hl:=congrArg List.length h
   rw [Ad,Ad,qbt,Af] at hl
   have hd:(L s).drop (pre.length+cur.length)=c::l:=by rw [h,←AJ,←Ad,List.drop_left]
   have b1:∀(a:Int) (p q:List UInt8),L s=p++(q++l)→(p.length:Int)=a→p.length+q.length=pre.length+cur.length+1→Qa s a ((pre.length+cur.length:Nat):Int)=some (qjy q l):=by
    intro a p q hpq ha hlen
    rw [Qa.eq_def]
    simp only [qa]
    rw [js (by omega) (by omega),←ha,show ((pre.length+cur.length:Nat):Int)+1=((p.length+q.length:Nat):Int) by omega]
    exact qvh s hs l p q hpq
   rw [u4.eq_def]
   simp only [qa]
   rw [if_pos (decide_eq_true (by omega)),if_pos (decide_eq_true (by omega)),qbn hd,bs,qjy]
   by_cases hc:c=47
   ·subst hc
    rw [if_pos rfl,if_neg (by decide),Zt.eq_def]
    simp only [qa]
    rw [qqp h,bs,q72,qn9,bs]
    cases hp:qg4 cur with
    | false=>rw [if_pos (by decide)];rfl
    | true=>
      rw [if_neg (by decide),Bh]
      rw [js (by omega) (by omega)]
      exact b1 _ (pre++(cur++ [47])) [] (by rw [h];simp) (by simp;omega) (by simp;omega)
   rw [if_neg hc]
   have hn:¬((c.toNat:Int)=47):=fun e=>hc (by
    have:c.toNat=47:=by omega
    exact BF.1 this)
   rw [decide_eq_false hn,if_pos (by decide)]
   exact b1 _ pre (cur++ [c]) (by rw [h];simp) rfl (by simp;omega)
theorem zbm (s:BA):qdw s=some (qjx s):=by
 unfold qdw qjx
 by_cases h0:s=⟨#[]⟩
 ·rw [if_pos (decide_eq_true h0),decide_eq_false (fun e=>e h0),BM]
 rw [if_neg (by rw [decide_eq_true_eq];exact h0),decide_eq_true h0,Bh]
 by_cases h1:s.size≤64
 ·rw [if_neg (by rw [decide_eq_true_eq];omega),decide_eq_true h1,Bh]
  exact qvh s (by omega) (L s) [] [] rfl
 rw [if_pos (decide_eq_true (by omega)),decide_eq_false h1,BM]
def leB (a b:BA):Bool:=Op.bytesLess a.toList b.toList || decide (a=b)
def J8:List File→Bool
 | x::y::l=>leB y.Path x.Path || J8 (y::l)
 | _=>false
def qfk (l:List File):Int:=
 if 32 < l.length then 3 else if l.any (fun x=> !qjx x.Path)=true then 4 else if J8 l=true then 14 else if l.any (fun x=>decide (65536 < x.Text.size))=true then 3 else 0
theorem C_l2:∀l:List File,kz l=some (if l.any (fun x=>decide (65536 < x.Text.size))=true then 3 else 0)
 | []=>by rw [kz.eq_def];rfl
 | x::l=>by
   rw [kz.eq_def]
   simp only [qa]
   rw [B8,C_l2 l]
   by_cases h:65536 < x.Text.size
   ·rw [if_pos (decide_eq_true (by omega)),decide_eq_true h,Bool.true_or,if_pos rfl]
   rw [if_neg (by rw [decide_eq_true_eq];omega),decide_eq_false h,Bn]
theorem C_l1 (D:List File) (hD:D.length≤1000000):∀(l pre:List File) (x:File),D=pre++(x::l)→yk l (pre.length+1) D=(if J8 (x::l)=true then some 14 else kz D)
 | [],pre,x,h=>by
   have hb:J8 [x]=false:=by simp [J8]
   rw [yk.eq_def,hb,if_neg (by decide)]
   simp only [qa]
 | y ::l,pre,x,h=>by
   have hl:=qgn h
   have h2:D=(pre++ [x])++(y::l):=qbs h
   have hy:ix D ((pre.length+1:Nat):Int)=some y:=by have:=qbv h2;rwa [Ad,Ae] at this
   rw [yk.eq_def]
   simp only [qa]
   rw [if_pos (decide_eq_true (by omega)),hy,bs,js (by omega) (by omega),show ((pre.length+1:Nat):Int) - 1=(pre.length:Int) by omega,qbv h,bs,J8]
   show (if leB y.Path x.Path=true then _ else _)=_
   cases hle:leB y.Path x.Path with
   | true=>rw [if_pos rfl,Bool.true_or,if_pos rfl]
   | false=>
     rw [if_neg (by decide),Bn,uy.eq_def]
     simp only [qa]
     have:=C_l1 D hD l (pre++ [x]) y h2
     rw [Ad,Ae] at this
     exact this
theorem zbp (D:List File) (hD:D.length≤1000000):yk D 0 D=(if J8 D=true then some 14 else kz D):=by
 cases D with
 | nil=>
   rw [yk.eq_def];rfl
 | cons x l=>
   rw [yk.eq_def]
   simp only [qa]
   rw [if_neg (by decide),uy.eq_def]
   simp only [qa]
   exact C_l1 (x::l) hD l [] x rfl
theorem C_l0 (D:List File) (hD:D.length≤1000000):∀l:List File,uf l D=(if l.any (fun x=> !qjx x.Path)=true then some 4 else yk D 0 D)
 | []=>by rw [uf.eq_def];rfl
 | x::l=>by
   rw [uf.eq_def]
   simp only [qa]
   rw [zbm,bs,B8,C_l0 D hD l]
   cases qjx x.Path with
   | false=>rw [if_pos (by decide),Aa,Bool.true_or,if_pos rfl]
   | true=>rw [if_neg (by decide),Ab,Bn]
theorem qwz (l:List File):Zs l=some (qfk l):=by
 unfold Zs qfk
 rw [Av]
 by_cases h:32 < l.length
 ·rw [if_pos (decide_eq_true (by omega)),if_pos h]
 rw [if_neg (by rw [decide_eq_true_eq];omega),if_neg h,C_l0 l (by omega) l,zbp l (by omega),C_l2]
 by_cases h1:l.any (fun x=> !qjx x.Path)=true
 ·rw [if_pos h1,if_pos h1]
 rw [if_neg h1,if_neg h1]
 by_cases h2:J8 l=true
 ·rw [if_pos h2,if_pos h2]
 rw [if_neg h2,if_neg h2]
def qx3 (x:File):Unit:=⟨x.Path,x.Text,(Ps.readV Ps.fileR x.Text).1, !decide ((Ps.readV Ps.fileR x.Text).2.1=0)⟩
def qlh (l:List File):List Unit × Int:=if qfk l=0 then (l.map qx3,0) else ([],qfk l)
theorem zae:∀(l:List File) (acc:List Unit),acc.length+l.length≤1000000→uz l acc=some (acc++l.map qx3,0)
 | [],acc,h=>by rw [uz.eq_def,AN,Bs]
 | x::l,acc,h=>by
   rw [Af] at h
   rw [uz.eq_def]
   simp only [qa]
   rw [Ps.P_File,bs,yw (by rw [Ae];omega) (by decide),bs,zae l _ (by rw [Ad,Ae];omega),Ay,AJ]
   rfl
theorem q74 (l:List File):Jp l=some (qlh l):=by
 unfold Jp qlh
 rw [qwz,bs]
 by_cases h:qfk l=0
 ·have hl:l.length≤32:=by
   rcases Bt 32 l.length with q | q
   ·unfold qfk at h;rw [if_pos q] at h;cases h
   exact q
  rw [decide_eq_true h,if_neg (by decide),if_pos h,zae l [] (by simp;omega),Be]
 rw [decide_eq_false h,if_pos (by decide),if_neg h]
mutual
def bdB:Node→Bool
 | .mk _ t g l=>decide (t.size≤4000) && decide (g.length≤4000) && g.all (fun s=>decide (s.size≤4000)) && bdBL l
def bdBL:List Node→Bool
 | []=>true
 | n::l=>bdB n && bdBL l
end
mutual
theorem q7p:∀n:Node,bdB n=true→bdN n
 | .mk k t g l,h=>by
   simp only [bdB,An,decide_eq_true_eq,As] at h
   rw [q20]
   exact ⟨h.1.1.1,h.1.1.2,h.1.2,q22 l h.2⟩
theorem q22:∀l:List Node,bdBL l=true→bdL l
 | [],h=>by simp [bdL]
 | n::l,h=>by
   simp only [bdBL,An] at h
   simp only [bdL]
   exact ⟨q7p n h.1,q22 l h.2⟩
end
theorem zav {l:List Unit} (h:l.all (fun x=>bdB x.Tree)=true):okU l:=fun x hx _=>q7p _ (As.1 h x hx)
def awL:List File:= [(File.mk (⟨#[97]⟩:BA) (⟨#[99,108,97,115,115,32,67,32,123,32,102,110,32,109,40,97,32,105,110,116,41,32,105,110,116,32,123,32,108,101,116,32,98,32,61,32,97,59,32,114,101,116,117,114,110,32,98,59,32,125,32,125,10]⟩:BA)),(File.mk (⟨#[98]⟩:BA) (⟨#[102,110]⟩:BA))]
theorem q3e:qbk=some true:=by
 have ho:okU (qlh awL).1:=zav (by kernel_rfl)
 have hs:qul (qlh awL).1≤100000:=of_decide_eq_true (by kernel_rfl)
 unfold qbk
 show (Jp awL >>=_)=_
 rw [q74,bs,q3f _ ho hs,bs,q75 _ _ _ _ ho hs,bs,q75 _ _ _ _ ho hs,bs]
 simp only [qwz]
 kernel_rfl
end Pj
end Go.Proofs.YtpnkemogepoioaaGreatDoorW.Ex.Gr
