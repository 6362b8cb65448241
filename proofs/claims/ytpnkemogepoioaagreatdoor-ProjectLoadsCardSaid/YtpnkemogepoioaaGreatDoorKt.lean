/- Tokens in plain words: what a text reads, tokens side by side. Conditions: those in each theorem. -/
import Derived.Test.YtpnkemogepoioaaGreatDoorKe
namespace Go.Proofs.YtpnkemogepoioaaGreatDoorW.Ex.Gr
open Go Go.Proofs.YtpnkemogepoioaaGreatDoorW.Ex Go.Proofs.YtpnkemogepoioaaGreatDoorW.Plain
set_option linter.all false
set_option maxRecDepth 100000
namespace Tk
def runL:List UInt8→Nat
 | []=>0
 | c::l=>if letC c=true then runL l+1 else 0
theorem qtn:∀l,runL l≤l.length
 | []=>Aj _
 | c::l=>by
   rw [runL,Ae]
   have:=qtn l
   split <;> omega
def ke:List UInt8→Nat × Int
 | []=>(0,0)
 | c ::l=>
   if letC c=true then
    (if digC c=true then (if Qg ((c::l).take (runL (c::l)))=true then (runL (c::l),2) else (0,0))
     else if runL (c::l)≤32 then (runL (c::l),1) else (0,0))
   else if qe7 c=false then (0,0)
   else if c=47∧l.head? =some 47 then (0,0)
   else if c=61∧l.head? =some 61 then (2,3)
   else (1,3)
theorem qz6 {c:UInt8} (h:digC c=true):letC c=true:=by
 unfold letC
 have:vo (c.toNat:Int)=true:=h
 rw [this];rfl
theorem qnw {c:UInt8} (l:List UInt8) (h:letC c=true):0 < runL (c::l):=by rw [runL,if_pos h];omega
theorem qpb {c:UInt8} (l:List UInt8) (hd:digC c=true):ke (c::l)=if Qg ((c::l).take (runL (c::l)))=true then (runL (c::l),2) else (0,0):=by
 rw [ke,if_pos (qz6 hd),if_pos hd]
theorem qpa {c:UInt8} (l:List UInt8) (hw:letC c=true) (hd:digC c=false):ke (c::l)=if runL (c::l)≤32 then (runL (c::l),1) else (0,0):=by
 rw [ke,if_pos hw,hd,if_neg (by decide)]
theorem qn0 {c:UInt8} (l:List UInt8) (hw:letC c=false) (hm:qe7 c=false):ke (c::l)=(0,0):=by
 rw [ke,hw,if_neg (by decide),if_pos hm]
theorem qks {c:UInt8} (l:List UInt8) (hw:letC c=false) (hm:qe7 c=true):ke (c::l)=if c=47∧l.head? =some 47 then (0,0) else if c=61∧l.head? =some 61 then (2,3) else (1,3):=by
 rw [ke,hw,if_neg (by decide),hm,if_neg (by decide)]
def qpo (l:List UInt8):Int:=if (ke l).1=l.length then (ke l).2 else 0
theorem qvv:∀(l r:List UInt8),wh l=some r→∃p,l=p++r
 | [],r,h=>by simp [wh] at h
 | c::l,r,h=>by
   have e:wh (c::l)=if c=10 then some l else wh l:=rfl
   rw [e] at h
   split at h
   ·cases h;exact ⟨[c],rfl⟩
   obtain ⟨p,hp⟩:=qvv l r h
   exact ⟨c::p,by rw [hp];rfl⟩
theorem q3g (l r:List UInt8) (h:Qf l=some r):∃p,l=p++r:=by
 cases l with
 | nil=>simp [Qf] at h
 | cons c l=>
   rw [Jl] at h
   split at h
   ·cases h;exact ⟨[c],rfl⟩
   split at h
   ·obtain ⟨p,hp⟩:=qvv l r h
    exact ⟨c::p,by rw [hp];rfl⟩
   cases h
theorem qko (l:List UInt8):∃p,l=p++zk l:=by
 have :∀n l,∃p,l=p++Ju n l:=by
  intro n
  induction n with
  | zero=>exact fun l=>⟨[],rfl⟩
  | succ n ih=>
    intro l
    unfold Ju
    cases hs:Qf l with
    | none=>exact ⟨[],rfl⟩
    | some r=>
      obtain ⟨p,hp⟩:=q3g l r hs
      obtain ⟨q,hq⟩:=ih r
      exact ⟨p++q,by simp only;rw [Ap,←hq,←hp]⟩
 exact this _ l
theorem q1z (l:List UInt8):zk l=l.drop (l.length - (zk l).length):=by
 obtain ⟨p,hp⟩:=qko l
 have hl:l.length - (zk l).length=p.length:=by
  have:=congrArg List.length hp
  rw [Ad] at this;omega
 rw [hl]
 conv=>rhs;rw [hp]
 rw [List.drop_left'];rfl
theorem qn2 (l:List UInt8):(ke l).1≤l.length:=by
 cases l with
 | nil=>exact Aj _
 | cons c l=>
   have:=qtn (c::l)
   rw [ke]
   split
   ·split
    ·split
     ·exact this
     exact AD _
    split
    ·exact this
    exact AD _
   split
   ·exact AD _
   split
   ·exact AD _
   split
   ·rename_i h
    cases l with
    | nil=>simp at h
    | cons d l=>simp
   simp
theorem qpd (l:List UInt8) (h:(ke l).2≠0):0 < (ke l).1:=by
 cases l with
 | nil=>exact absurd rfl h
 | cons c l=>
   rw [ke] at h ⊢
   by_cases hw:letC c=true
   ·have:=qnw l hw
    rw [if_pos hw] at h ⊢
    split
    ·rename_i hd
     rw [if_pos hd] at h
     split
     ·exact this
     rename_i hi;rw [if_neg hi] at h;exact absurd rfl h
    rename_i hd
    rw [if_neg hd] at h
    split
    ·exact this
    rename_i hi;rw [if_neg hi] at h;exact absurd rfl h
   rw [if_neg hw] at h ⊢
   split
   ·rename_i hm;rw [if_pos hm] at h;exact absurd rfl h
   rename_i hm
   rw [if_neg hm] at h
   split
   ·rename_i h7;rw [if_pos h7] at h;exact absurd rfl h
   split <;> decide
def qdj (S:Nat):Nat→List UInt8→Except Nat (List Token)
 | 0,_=> .ok []
 | f +1,l=>
   if zk l= [] then .ok [⟨4,ofB l,⟨#[]⟩,(S:Int)⟩]
   else if (ke (zk l)).2=0 then .error (S - (zk l).length)
   else match qdj S f ((zk l).drop (ke (zk l)).1) with
    | .ok m=> .ok (⟨(ke (zk l)).2,ofB (l.take (l.length - (zk l).length)),ofB ((zk l).take (ke (zk l)).1),((S - (zk l).length:Nat):Int)⟩::m)
    | .error e=> .error e
def endT (acc:List Token):Except Nat (List Token)→List Token × Int × Int
 | .ok m=>(acc++m,0,0)
 | .error e=>([],1,(e:Int))
theorem q5b (acc:List Token) (t:Token) (x:Except Nat (List Token)):endT (acc++ [t]) x=endT acc (match x with | .ok m=> .ok (t::m) | .error e=> .error e):=by
 cases x with
 | ok m=>simp [endT]
 | error e=>rfl
theorem qv1:∀(l:List UInt8),runL (l.take (runL l))=runL l
 | []=>rfl
 | c ::l=>by
   by_cases hc:letC c=true
   ·have e:runL (c::l)=runL l+1:=by rw [runL,if_pos hc]
    rw [e,BQ,runL,if_pos hc,qv1 l]
   have e:runL (c::l)=0:=by rw [runL,if_neg hc]
   rw [e];rfl
theorem q14 (r:List UInt8) (h:(ke r).2≠0):ke (r.take (ke r).1)=ke r:=by
 cases r with
 | nil=>rfl
 | cons c l=>
   by_cases hw:letC c=true
   ·have hpos:=qnw l hw
    obtain ⟨n,hn⟩:∃n,runL (c::l)=n+1:=⟨runL (c::l) - 1,by omega⟩
    have ht:(c::l).take (runL (c::l))=c::l.take n:=by rw [hn,BQ]
    have hrt:runL (c::l.take n)=runL (c::l):=by rw [←ht,qv1]
    have htt:(c::l.take n).take (runL (c::l))=c::l.take n:=by rw [←ht];exact Bi (by rw [Bs];omega)
    cases hd:digC c with
    | true=>
      rw [qpb l hd] at h ⊢
      by_cases hi:Qg ((c::l).take (runL (c::l)))=true
      ·rw [if_pos hi]
       show ke ((c::l).take (runL (c::l)))=_
       rw [ht] at hi ⊢
       rw [qpb _ hd,hrt,htt,if_pos hi]
      rw [if_neg hi] at h;exact absurd rfl h
    | false=>
      rw [qpa l hw hd] at h ⊢
      by_cases hi:runL (c::l)≤32
      ·rw [if_pos hi]
       show ke ((c::l).take (runL (c::l)))=_
       rw [ht,qpa _ hw hd,hrt,if_pos hi]
      rw [if_neg hi] at h;exact absurd rfl h
   have hw:letC c=false:=by simpa using hw
   cases hm:qe7 c with
   | false=>rw [qn0 l hw hm] at h;exact absurd rfl h
   | true=>
     rw [qks l hw hm] at h ⊢
     by_cases h7:c=47∧l.head? =some 47
     ·rw [if_pos h7] at h;exact absurd rfl h
     rw [if_neg h7]
     by_cases h6:c=61∧l.head? =some 61
     ·rw [if_pos h6]
      obtain ⟨rfl,hl⟩:=h6
      cases l with
      | nil=>cases hl
      | cons d r=>cases hl;show ke [61,61]=(2,3);decide
     rw [if_neg h6]
     show ke [c]=(1,3)
     rw [qks [] hw hm,if_neg (by simp),if_neg (by simp)]
theorem q2e (r:List UInt8) (h:(ke r).2≠0):qpo (r.take (ke r).1)=(ke r).2:=by
 unfold qpo
 rw [q14 r h,if_pos (by rw [Bs];have:=qn2 r;omega)]
def qxl (t r:List UInt8):Prop:=∀c,r.head? =some c→¬(letC (t.getLastD 0)=true∧letC c=true)∧¬(t= [61]∧c=61)∧¬(t= [47]∧c=47)
theorem qvw:∀(p r q:List UInt8),wh (p++r)=some (q++r)→q.length < p.length→wh p=some q
 | [],r,q,h,hl=>absurd hl (by simp)
 | c ::p,r,q,h,hl=>by
   have e:wh (c::(p++r))=if c=10 then some (p++r) else wh (p++r):=rfl
   have e2:wh (c::p)=if c=10 then some p else wh p:=rfl
   rw [AJ,e] at h
   rw [e2]
   split at h
   ·rename_i hc
    rw [if_pos hc]
    have:=List.append_cancel_right (Bh h)
    rw [this]
   rename_i hc
   rw [if_neg hc]
   have hlt:=qeb _ _ h
   rw [Ad,Ad] at hlt
   exact qvw p r q h (by omega)
theorem q3h (p r q:List UInt8) (h:Qf (p++r)=some (q++r)):Qf p=some q:=by
 have hlt:=qbz _ _ h
 rw [Ad,Ad] at hlt
 cases p with
 | nil=>simp at hlt;omega
 | cons c p=>
   rw [AJ,Jl] at h
   rw [Jl]
   split at h
   ·rename_i hc
    rw [if_pos hc,List.append_cancel_right (Bh h)]
   rename_i hc
   rw [if_neg hc]
   split at h
   ·rename_i h7
    have hlt:=qeb _ _ h
    rw [Ad,Ad] at hlt
    cases p with
    | nil=>simp at hlt;omega
    | cons d p=>
      rw [if_pos ⟨h7.1,by have:=h7.2;rw [AJ,List.head?_cons] at this;exact this⟩]
      exact qvw _ r q h (by omega)
   cases h
theorem q3p (p r:List UInt8) (h:zk (p++r)=r):zk p= []:=by
 have :∀n (p r:List UInt8),p.length≤n→zk (p++r)=r→zk p= []:=by
  intro n
  induction n with
  | zero=>
    intro p r hl _
    obtain rfl:p= []:=AZ.1 (by omega)
    rfl
  | succ n ih=>
    intro p r hl h
    cases hs:Qf (p++r) with
    | none=>
      rw [qi4 _ hs] at h
      have:=congrArg List.length h
      rw [Ad] at this
      obtain rfl:p= []:=AZ.1 (by omega)
      rfl
    | some x=>
      rw [qbt _ _ hs] at h
      obtain ⟨q,hq⟩:=qko x
      rw [h] at hq
      subst hq
      have h2:=q3h p r q hs
      have hlt:=qbz _ _ h2
      rw [qbt _ _ h2]
      exact ih q r (by omega) h
 exact this p.length p r (Aj _) h
end Tk
end Go.Proofs.YtpnkemogepoioaaGreatDoorW.Ex.Gr
