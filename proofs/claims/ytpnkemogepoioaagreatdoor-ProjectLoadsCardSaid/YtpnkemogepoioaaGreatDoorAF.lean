/- What File, Expr and Stmt of the program return. Conditions: those in each theorem. -/
import Derived.Test.YtpnkemogepoioaaGreatDoorA1
import Derived.Test.YtpnkemogepoioaaGreatDoorKq
import Derived.KernelRfl
namespace Go.Proofs.YtpnkemogepoioaaGreatDoorW.Ex.Gr
open Go Go.Proofs.YtpnkemogepoioaaGreatDoorW.Ex Go.Proofs.YtpnkemogepoioaaGreatDoorW.Plain
set_option linter.all false
set_option maxRecDepth 100000
namespace Ps
open Tk
@[reducible] def zN:Node:=Node.mk 0 (⟨#[]⟩) ([]:LB) ([]:LN)
theorem b3 {α β γ:Type} (a:Option (α × β × γ)):(a >>=fun x=>some (x.1,x.2.1,x.2.2))=a:=by cases a <;> rfl
def limV (n:Node):Node × Int × Int:=if checkErr n=3 then (zN,3,0) else (n,0,0)
def finV:Rs Node→Node × Int × Int
 | .error u=>(zN,1,atE u)
 | .ok y=>limV y.1
theorem q3c (s:BA) (h:zk (L s)= []):trivValid s=true:=by
 unfold trivValid
 rw [show (0:Int)=((0:Nat):Int) from rfl,qp4 (AD _)]
 refine decide_eq_true ?_
 unfold uk
 rw [BR,show s.data.toList=L s from rfl,h];rfl
theorem q62 (l:List UInt8):(ke l).2=0∨(ke l).2=1∨(ke l).2=2∨(ke l).2=3:=by
 cases l with
 | nil=>exact .inl rfl
 | cons c l=>
   unfold ke
   repeat' split
   all_goals simp
theorem qjk (S:Nat):∀(f:Nat) (l:List UInt8) (m:List Token),qdj S f l= .ok m→l.length < f→l.length≤65536→Good m∧m.length≤l.length+1
 | 0,l,m,_,h,_=>absurd h (BW _)
 | f + 1,l,m,h,hf,hl=>by
   have hr:=qhg l
   obtain ⟨p,hp⟩:=qko l
   have hpl:p=l.take (l.length - (zk l).length):=by
    have hlen:=congrArg List.length hp
    rw [Ad] at hlen
    have:l.length - (zk l).length=p.length:=by omega
    rw [this]
    conv=>rhs;rw [hp]
    rw [List.take_left'];rfl
   have hv:trivValid (ofB (l.take (l.length - (zk l).length)))=true:=by
    refine q3c _ ?_
    rw [qd3,←hpl]
    exact q3p p (zk l) (by rw [←hp])
   rw [qdj] at h
   by_cases h0:zk l= []
   ·rw [if_pos h0] at h
    cases h
    rw [h0,Ar,Nat.sub_zero,List.take_length] at hv
    exact ⟨⟨⟨by show l.length≤65536;exact hl,by show 0≤65536;omega,hv⟩, .inl ⟨rfl,rfl,rfl⟩⟩,by rw [Ai];omega⟩
   rw [if_neg h0] at h
   have hn:=qn2 (zk l)
   by_cases h2:(ke (zk l)).2=0
   ·rw [if_pos h2] at h;cases h
   rw [if_neg h2] at h
   have hpos:=qpd (zk l) h2
   cases h3:qdj S f ((zk l).drop (ke (zk l)).1) with
   | error e=>rw [h3] at h;cases h
   | ok m'=>
     rw [h3] at h
     cases h
     have hd:((zk l).drop (ke (zk l)).1).length=(zk l).length - (ke (zk l)).1:=BH
     obtain ⟨g1,g2⟩:=qjk S f _ m' h3 (by omega) (by omega)
     refine ⟨⟨⟨?_,?_,hv⟩, .inr ⟨?_,h2,?_,?_,g1⟩⟩,by rw [Ae];omega⟩
     ·rw [qhk,Bs];omega
     ·rw [qhk,Bs];omega
     ·show (ke (zk l)).2≠4
      rcases q62 (zk l) with e | e | e | e <;> rw [e] <;> decide
     ·show (ke (zk l)).2=qpo (L (ofB ((zk l).take (ke (zk l)).1)))
      rw [qd3]
      exact (q2e (zk l) h2).symm
     intro e
     have e:=congrArg ByteArray.size e
     rw [qhk,Bs] at e
     have:(⟨#[]⟩:BA).size=0:=rfl
     omega
theorem qjo (s:BA):(∃m,Tk.resT s=(m,0,0)∧Good m∧m.length≤65537∧qdj s.size (s.size+1) (L s)= .ok m∧s.size≤65536)∨((Tk.resT s).2.1≠0∧(Tk.resT s).1= []):=by
 unfold Tk.resT
 by_cases h:65536 < s.size
 ·rw [if_pos h];exact .inr ⟨by simp,rfl⟩
 rw [if_neg h]
 cases e:qdj s.size (s.size+1) (L s) with
 | error e=>exact .inr ⟨by simp [endT],rfl⟩
 | ok m=>
   have hl:=Y5 s
   obtain ⟨h1,h2⟩:=qjk _ _ _ _ e (by omega) (by omega)
   exact .inl ⟨m,by simp [endT],h1,by omega,rfl,by omega⟩
def qzt (c:Cat) (m:List Token):Rs Node:=S (mu c m.length) c m
def fileR (m:List Token):Rs Node:=qzt (.file []) m
def readV (c:List Token→Rs Node) (s:BA):Node × Int × Int:=if (Tk.resT s).2.1=0 then finV (c (Tk.resT s).1) else (zN,(Tk.resT s).2.1,(Tk.resT s).2.2)
theorem q5u {c:Cat} {m:List Token} (hg:Good m) (hp:pre c m.length):Q m (fun n r=>wfB n=true) (qzt c m):=(S_ok _ c m hg hp).mono fun _ _ _ p=>p.1
theorem qv8 {m:List Token} (h:m.length≤65537):pre (.file []) m.length:=⟨by omega,by simp only [Ar];omega,by simp only [Ar];omega,wl,wv⟩
theorem q6n (m:List Token):(⟨m,0⟩:Reader)=rd m m:=by unfold rd;rw [Nat.sub_self];rfl
theorem q3v {m:List Token} {y:Rs Node} (h:Q m (fun n r=>wfB n=true) y) {x:Option (Except Int (Node × Reader))} (hx:x=some (cvN m y)) {c:Except Int (Node × Reader)→Option (Node × Int × Int)} (hc:∀e,c (.error e)=some (zN,1,e))
 (hk:∀v,c (.ok v)=u0 v.1 >>=fun c=>if (decide (c=(3:Int)))=true then some (Node.mk 0 ⟨#[]⟩ [] [],3,0) else some (v.1,0,0)):(x >>=c)=some (finV y):=by
 subst hx
 cases y with
 | error u=>exact hc _
 | ok y=>
   show c (.ok (y.1,rd m y.2))=some (limV y.1)
   rw [hk]
   unfold u0 limV
   rw [if_pos h.2.2,bs]
   by_cases e:checkErr y.1=3
   ·rw [if_pos (decide_eq_true e),if_pos e]
   rw [if_neg (by rw [decide_eq_true_eq];exact e),if_neg e]
theorem not0 {a:Int} (h:a≠0):(!decide (a=0))=true:=by rw [decide_eq_false h];rfl
theorem P_File (s:BA):K8 s=some (readV fileR s):=by
 unfold K8 qa8 readV
 rw [b3,q5w,bs]
 rcases qjo s with ⟨m,h,hg,hl,_⟩ | ⟨h,_⟩
 ·rw [h]
  rw [if_neg (by simp),if_pos rfl]
  have hp:=qv8 hl
  refine q3v (m:=m) (q5u hg hp) ?_ (fun _=>rfl) (fun _=>rfl)
  show qd6 ⟨m,0⟩=_
  rw [q6n]
  unfold qd6 Zz
  exact q8i (q8j (by omega) _ (.file []) m (Aj _) (BI _) hg hp)
 rw [if_pos (not0 h),if_neg h]
end Ps
end Go.Proofs.YtpnkemogepoioaaGreatDoorW.Ex.Gr
