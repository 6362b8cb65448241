/- What File, Expr and Stmt of the program return. Conditions: those in each theorem. -/
import Derived.Test.YtpnkemogepoioaaGreatDoorA1
import Derived.Test.YtpnkemogepoioaaGreatDoorKq
import Derived.KernelRfl
namespace Go.Proofs.YtpnkemogepoioaaGreatDoorW.Ex.Gr
open Go Go.Proofs.YtpnkemogepoioaaGreatDoorW.Ex Go.Proofs.YtpnkemogepoioaaGreatDoorW.Plain
set_option linter.all false
set_option maxRecDepth 100000
namespace Ps
open Tk
@[reducible] def zN:Node:=Node.mk 0 (⟨#[]⟩) ([]:LB) ([]:LN)
theorem b3 {α β γ:Type} (a:Option (α × β × γ)):(a >>=fun x=>some (x.1,x.2.1,x.2.2))=a:=by cases a <;> rfl
def limV (n:Node):Node × Int × Int:=if checkErr n=3 then (zN,3,0) else (n,0,0)
def finV:Rs Node→Node × Int × Int
 | .error u=>(zN,1,atE u)
 | .ok y=>limV y.1
theorem q5h (s:BA) (h:jf (L s)= []):Jh s=true:=by
 unfold Jh
 rw [show (0:Int)=((0:Nat):Int) from rfl,qns (Az _)]
 refine decide_eq_true ?_
 unfold kd
 rw [BO,show s.data.toList=L s from rfl,h];rfl
theorem q80 (l:List UInt8):(ko l).2=0∨(ko l).2=1∨(ko l).2=2∨(ko l).2=3:=by
 cases l with
 | nil=>exact .inl rfl
 | cons c l=>
   unfold ko
   repeat' split
   all_goals simp
theorem qq7 (S:Nat):∀(f:Nat) (l:List UInt8) (m:List Token),qjp S f l= .ok m→l.length < f→l.length≤65536→Good m∧m.length≤l.length+1
 | 0,l,m,_,h,_=>absurd h (B9 _)
 | f + 1,l,m,h,hf,hl=>by
   have hr:=qpf l
   obtain ⟨p,hp⟩:=qrh l
   have hpl:p=l.take (l.length - (jf l).length):=by
    have hlen:=congrArg List.length hp
    rw [Ad] at hlen
    have:l.length - (jf l).length=p.length:=by omega
    rw [this]
    conv=>rhs;rw [hp]
    rw [List.take_left'];rfl
   have hv:Jh (ofB (l.take (l.length - (jf l).length)))=true:=by
    refine q5h _ ?_
    rw [qn9,←hpl]
    exact q5x p (jf l) (by rw [←hp])
   rw [qjp] at h
   by_cases h0:jf l= []
   ·rw [if_pos h0] at h
    cases h
    rw [h0,Ao,Nat.sub_zero,List.take_length] at hv
    exact ⟨⟨⟨by show l.length≤65536;exact hl,by show 0≤65536;omega,hv⟩, .inl ⟨rfl,rfl,rfl⟩⟩,by rw [Ae];omega⟩
   rw [if_neg h0] at h
   have hn:=qqj (jf l)
   by_cases h2:(ko (jf l)).2=0
   ·rw [if_pos h2] at h;cases h
   rw [if_neg h2] at h
   have hpos:=qrt (jf l) h2
   cases h3:qjp S f ((jf l).drop (ko (jf l)).1) with
   | error e=>rw [h3] at h;cases h
   | ok m'=>
     rw [h3] at h
     cases h
     have hd:((jf l).drop (ko (jf l)).1).length=(jf l).length - (ko (jf l)).1:=Bb
     obtain ⟨g1,g2⟩:=qq7 S f _ m' h3 (by omega) (by omega)
     refine ⟨⟨⟨?_,?_,hv⟩, .inr ⟨?_,h2,?_,?_,g1⟩⟩,by rw [Af];omega⟩
     ·rw [qdh,Br];omega
     ·rw [qdh,Br];omega
     ·show (ko (jf l)).2≠4
      rcases q80 (jf l) with e | e | e | e <;> rw [e] <;> decide
     ·show (ko (jf l)).2=qj1 (L (ofB ((jf l).take (ko (jf l)).1)))
      rw [qn9]
      exact (q4m (jf l) h2).symm
     intro e
     have e:=congrArg ByteArray.size e
     rw [qdh,Br] at e
     have:(⟨#[]⟩:BA).size=0:=rfl
     omega
theorem ql2 (s:BA):(∃m,Tk.resT s=(m,0,0)∧Good m∧m.length≤65537∧qjp s.size (s.size+1) (L s)= .ok m∧s.size≤65536)∨((Tk.resT s).2.1≠0∧(Tk.resT s).1= []):=by
 unfold Tk.resT
 by_cases h:65536 < s.size
 ·rw [if_pos h];exact .inr ⟨by simp,rfl⟩
 rw [if_neg h]
 cases e:qjp s.size (s.size+1) (L s) with
 | error e=>exact .inr ⟨by simp [endT],rfl⟩
 | ok m=>
   have hl:=qbt s
   obtain ⟨h1,h2⟩:=qq7 _ _ _ _ e (by omega) (by omega)
   exact .inl ⟨m,by simp [endT],h1,by omega,rfl,by omega⟩
def q9x (c:Cat) (m:List Token):Rs Node:=S (mu c m.length) c m
def fileR (m:List Token):Rs Node:=q9x (.file []) m
def readV (c:List Token→Rs Node) (s:BA):Node × Int × Int:=if (Tk.resT s).2.1=0 then finV (c (Tk.resT s).1) else (zN,(Tk.resT s).2.1,(Tk.resT s).2.2)
theorem q71 {c:Cat} {m:List Token} (hg:Good m) (hp:pre c m.length):Q m (fun n r=>wfB n=true) (q9x c m):=(S_ok _ c m hg hp).mono fun _ _ _ p=>p.1
theorem qrn {m:List Token} (h:m.length≤65537):pre (.file []) m.length:=⟨by omega,by simp only [Ao];omega,by simp only [Ao];omega,yt,kc⟩
theorem q8o (m:List Token):(⟨m,0⟩:Reader)=rd m m:=by unfold rd;rw [B3];rfl
theorem q51 {m:List Token} {y:Rs Node} (h:Q m (fun n r=>wfB n=true) y) {x:Option (Except Int (Node × Reader))} (hx:x=some (cvN m y)) {c:Except Int (Node × Reader)→Option (Node × Int × Int)} (hc:∀e,c (.error e)=some (zN,1,e))
 (hk:∀v,c (.ok v)=J3 v.1 >>=fun c=>if (decide (c=(3:Int)))=true then some (Node.mk 0 ⟨#[]⟩ [] [],3,0) else some (v.1,0,0)):(x >>=c)=some (finV y):=by
 subst hx
 cases y with
 | error u=>exact hc _
 | ok y=>
   show c (.ok (y.1,rd m y.2))=some (limV y.1)
   rw [hk]
   unfold J3 limV
   rw [if_pos h.2.2,bs]
   by_cases e:checkErr y.1=3
   ·rw [if_pos (decide_eq_true e),if_pos e]
   rw [if_neg (by rw [decide_eq_true_eq];exact e),if_neg e]
theorem not0 {a:Int} (h:a≠0):(!decide (a=0))=true:=by rw [decide_eq_false h];rfl
theorem P_File (s:BA):qce s=some (readV fileR s):=by
 unfold qce qcd readV
 rw [b3,q73,bs]
 rcases ql2 s with ⟨m,h,hg,hl,_⟩ | ⟨h,_⟩
 ·rw [h]
  rw [if_neg (by simp),if_pos rfl]
  have hp:=qrn hl
  refine q51 (m:=m) (q71 hg hp) ?_ (fun _=>rfl) (fun _=>rfl)
  show qfx ⟨m,0⟩=_
  rw [q8o]
  unfold qfx Jw
  exact zaf (zag (by omega) _ (.file []) m (Ak _) (AY _) hg hp)
 rw [if_pos (not0 h),if_neg h]
end Ps
end Go.Proofs.YtpnkemogepoioaaGreatDoorW.Ex.Gr
