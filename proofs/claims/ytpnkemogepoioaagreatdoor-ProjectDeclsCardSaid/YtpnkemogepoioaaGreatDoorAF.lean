/- What File, Expr and Stmt of the program return. Conditions: those in each theorem. -/
import Derived.Test.YtpnkemogepoioaaGreatDoorA1
import Derived.Test.YtpnkemogepoioaaGreatDoorKq
import Derived.KernelRfl
namespace Go.Proofs.YtpnkemogepoioaaGreatDoorW.Ex.Gr
open Go Go.Proofs.YtpnkemogepoioaaGreatDoorW.Ex Go.Proofs.YtpnkemogepoioaaGreatDoorW.Plain
set_option linter.all false
set_option maxRecDepth 100000
namespace Ps
open Tk
@[reducible] def zN:Node:=Node.mk 0 (⟨#[]⟩) ([]:LB) ([]:LN)
theorem b3 {α β γ:Type} (a:Option (α × β × γ)):(a >>=fun x=>some (x.1,x.2.1,x.2.2))=a:=by cases a <;> rfl
def limV (n:Node):Node × Int × Int:=if checkErr n=3 then (zN,3,0) else (n,0,0)
def finV:Rs Node→Node × Int × Int
 | .error u=>(zN,1,atE u)
 | .ok y=>limV y.1
theorem qx5 (s:BA) (h:ze (L s)= []):J3 s=true:=by
 unfold J3
 rw [show (0:Int)=((0:Nat):Int) from rfl,qmx (Nat.zero_le _)]
 refine decide_eq_true ?_
 unfold wi
 rw [List.drop_zero,show s.data.toList=L s from rfl,h];rfl
theorem q1a (l:List UInt8):(y9 l).2=0∨(y9 l).2=1∨(y9 l).2=2∨(y9 l).2=3:=by
 cases l with
 | nil=>exact .inl rfl
 | cons c l=>
   unfold y9
   repeat' split
   all_goals simp
theorem qls (S:Nat):∀(f:Nat) (l:List UInt8) (m:List Token),qh2 S f l= .ok m→l.length < f→l.length≤65536→Good m∧m.length≤l.length+1
 | 0,l,m,_,h,_=>absurd h (Nat.not_lt_zero _)
 | f + 1,l,m,h,hf,hl=>by
   have hr:=qkd l
   obtain ⟨p,hp⟩:=ql0 l
   have hpl:p=l.take (l.length - (ze l).length):=by
    have hlen:=congrArg List.length hp
    rw [List.length_append] at hlen
    have:l.length - (ze l).length=p.length:=by omega
    rw [this]
    conv=>rhs;rw [hp]
    rw [List.take_left'];rfl
   have hv:J3 (ofB (l.take (l.length - (ze l).length)))=true:=by
    refine qx5 _ ?_
    rw [qpe,←hpl]
    exact qyi p (ze l) (by rw [←hp])
   rw [qh2] at h
   by_cases h0:ze l= []
   ·rw [if_pos h0] at h
    cases h
    rw [h0,List.length_nil,Nat.sub_zero,List.take_length] at hv
    exact ⟨⟨⟨by show l.length≤65536;exact hl,by show 0≤65536;omega,hv⟩, .inl ⟨rfl,rfl,rfl⟩⟩,by rw [List.length_singleton];omega⟩
   rw [if_neg h0] at h
   have hn:=qp5 (ze l)
   by_cases h2:(y9 (ze l)).2=0
   ·rw [if_pos h2] at h;cases h
   rw [if_neg h2] at h
   have hpos:=qsa (ze l) h2
   cases h3:qh2 S f ((ze l).drop (y9 (ze l)).1) with
   | error e=>rw [h3] at h;cases h
   | ok m'=>
     rw [h3] at h
     cases h
     have hd:((ze l).drop (y9 (ze l)).1).length=(ze l).length - (y9 (ze l)).1:=List.length_drop
     obtain ⟨g1,g2⟩:=qls S f _ m' h3 (by omega) (by omega)
     refine ⟨⟨⟨?_,?_,hv⟩, .inr ⟨?_,h2,?_,?_,g1⟩⟩,by rw [List.length_cons];omega⟩
     ·rw [qfe,List.length_take];omega
     ·rw [qfe,List.length_take];omega
     ·show (y9 (ze l)).2≠4
      rcases q1a (ze l) with e | e | e | e <;> rw [e] <;> decide
     ·show (y9 (ze l)).2=qsf (L (ofB ((ze l).take (y9 (ze l)).1)))
      rw [qpe]
      exact (qxe (ze l) h2).symm
     intro e
     have e:=congrArg ByteArray.size e
     rw [qfe,List.length_take] at e
     have:(⟨#[]⟩:BA).size=0:=rfl
     omega
theorem qtz (s:BA):(∃m,Tk.resT s=(m,0,0)∧Good m∧m.length≤65537∧qh2 s.size (s.size+1) (L s)= .ok m∧s.size≤65536)∨((Tk.resT s).2.1≠0∧(Tk.resT s).1= []):=by
 unfold Tk.resT
 by_cases h:65536 < s.size
 ·rw [if_pos h];exact .inr ⟨by simp,rfl⟩
 rw [if_neg h]
 cases e:qh2 s.size (s.size+1) (L s) with
 | error e=>exact .inr ⟨by simp [endT],rfl⟩
 | ok m=>
   have hl:=qfn s
   obtain ⟨h1,h2⟩:=qls _ _ _ _ e (by omega) (by omega)
   exact .inl ⟨m,by simp [endT],h1,by omega,rfl,by omega⟩
def q14 (c:Cat) (m:List Token):Rs Node:=S (mu c m.length) c m
def fileR (m:List Token):Rs Node:=q14 (.file []) m
def readV (c:List Token→Rs Node) (s:BA):Node × Int × Int:=if (Tk.resT s).2.1=0 then finV (c (Tk.resT s).1) else (zN,(Tk.resT s).2.1,(Tk.resT s).2.2)
theorem q3f {c:Cat} {m:List Token} (hg:Good m) (hp:pre c m.length):Q m (fun n r=>wfB n=true) (q14 c m):=(S_ok _ c m hg hp).mono fun _ _ _ p=>p.1
theorem qyv {m:List Token} (h:m.length≤65537):pre (.file []) m.length:=⟨by omega,by simp only [List.length_nil];omega,by simp only [List.length_nil];omega,y0,kp⟩
theorem q0z (m:List Token):(⟨m,0⟩:Reader)=rd m m:=by unfold rd;rw [Nat.sub_self];rfl
theorem qyn {m:List Token} {y:Rs Node} (h:Q m (fun n r=>wfB n=true) y) {x:Option (Except Int (Node × Reader))} (hx:x=some (cvN m y)) {c:Except Int (Node × Reader)→Option (Node × Int × Int)} (hc:∀e,c (.error e)=some (zN,1,e))
 (hk:∀v,c (.ok v)=Q3 v.1 >>=fun c=>if (decide (c=(3:Int)))=true then some (Node.mk 0 ⟨#[]⟩ [] [],3,0) else some (v.1,0,0)):(x >>=c)=some (finV y):=by
 subst hx
 cases y with
 | error u=>exact hc _
 | ok y=>
   show c (.ok (y.1,rd m y.2))=some (limV y.1)
   rw [hk]
   unfold Q3 limV
   rw [if_pos h.2.2,bs]
   by_cases e:checkErr y.1=3
   ·rw [if_pos (decide_eq_true e),if_pos e]
   rw [if_neg (by rw [decide_eq_true_eq];exact e),if_neg e]
theorem not0 {a:Int} (h:a≠0):(!decide (a=0))=true:=by rw [decide_eq_false h];rfl
theorem P_File (s:BA):K9 s=some (readV fileR s):=by
 unfold K9 K8 readV
 rw [b3,q0e,bs]
 rcases qtz s with ⟨m,h,hg,hl,_⟩ | ⟨h,_⟩
 ·rw [h]
  rw [if_neg (by simp),if_pos rfl]
  have hp:=qyv hl
  refine qyn (m:=m) (q3f hg hp) ?_ (fun _=>rfl) (fun _=>rfl)
  show qb8 ⟨m,0⟩=_
  rw [q0z]
  unfold qb8 Qu
  exact q2h (q2i (by omega) _ (.file []) m (Nat.le_refl _) (List.suffix_refl _) hg hp)
 rw [if_pos (not0 h),if_neg h]
end Ps
end Go.Proofs.YtpnkemogepoioaaGreatDoorW.Ex.Gr
