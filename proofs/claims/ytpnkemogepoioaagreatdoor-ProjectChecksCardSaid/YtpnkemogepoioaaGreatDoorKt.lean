/- Tokens in plain words: what a text reads, tokens side by side. Conditions: those in each theorem. -/
import Derived.Test.YtpnkemogepoioaaGreatDoorKe
namespace Go.Proofs.YtpnkemogepoioaaGreatDoorW.Ex.Gr
open Go Go.Proofs.YtpnkemogepoioaaGreatDoorW.Ex Go.Proofs.YtpnkemogepoioaaGreatDoorW.Plain
set_option linter.all false
set_option maxRecDepth 100000
namespace Tk
def runL:List UInt8→Nat
 | []=>0
 | c::l=>if letC c=true then runL l+1 else 0
theorem qqf:∀l,runL l≤l.length
 | []=>Ak _
 | c::l=>by
   rw [runL,Af]
   have:=qqf l
   split <;> omega
def ko:List UInt8→Nat × Int
 | []=>(0,0)
 | c ::l=>
   if letC c=true then
    (if digC c=true then (if kx ((c::l).take (runL (c::l)))=true then (runL (c::l),2) else (0,0))
     else if runL (c::l)≤32 then (runL (c::l),1) else (0,0))
   else if qff c=false then (0,0)
   else if c=47∧l.head? =some 47 then (0,0)
   else if c=61∧l.head? =some 61 then (2,3)
   else (1,3)
theorem q2i {c:UInt8} (h:digC c=true):letC c=true:=by
 unfold letC
 have:ye (c.toNat:Int)=true:=h
 rw [this];rfl
theorem qv2 {c:UInt8} (l:List UInt8) (h:letC c=true):0 < runL (c::l):=by rw [runL,if_pos h];omega
theorem qrs {c:UInt8} (l:List UInt8) (hd:digC c=true):ko (c::l)=if kx ((c::l).take (runL (c::l)))=true then (runL (c::l),2) else (0,0):=by
 rw [ko,if_pos (q2i hd),if_pos hd]
theorem qrr {c:UInt8} (l:List UInt8) (hw:letC c=true) (hd:digC c=false):ko (c::l)=if runL (c::l)≤32 then (runL (c::l),1) else (0,0):=by
 rw [ko,if_pos hw,hd,if_neg (by decide)]
theorem qqi {c:UInt8} (l:List UInt8) (hw:letC c=false) (hm:qff c=false):ko (c::l)=(0,0):=by
 rw [ko,hw,if_neg (by decide),if_pos hm]
theorem qm7 {c:UInt8} (l:List UInt8) (hw:letC c=false) (hm:qff c=true):ko (c::l)=if c=47∧l.head? =some 47 then (0,0) else if c=61∧l.head? =some 61 then (2,3) else (1,3):=by
 rw [ko,hw,if_neg (by decide),hm,if_neg (by decide)]
def qj1 (l:List UInt8):Int:=if (ko l).1=l.length then (ko l).2 else 0
theorem qya:∀(l r:List UInt8),yn l=some r→∃p,l=p++r
 | [],r,h=>by simp [yn] at h
 | c::l,r,h=>by
   have e:yn (c::l)=if c=10 then some l else yn l:=rfl
   rw [e] at h
   split at h
   ·cases h;exact ⟨[c],rfl⟩
   obtain ⟨p,hp⟩:=qya l r h
   exact ⟨c::p,by rw [hp];rfl⟩
theorem q5l (l r:List UInt8) (h:ux l=some r):∃p,l=p++r:=by
 cases l with
 | nil=>simp [ux] at h
 | cons c l=>
   rw [Q1] at h
   split at h
   ·cases h;exact ⟨[c],rfl⟩
   split at h
   ·obtain ⟨p,hp⟩:=qya l r h
    exact ⟨c::p,by rw [hp];rfl⟩
   cases h
theorem qrh (l:List UInt8):∃p,l=p++jf l:=by
 have :∀n l,∃p,l=p++Yt n l:=by
  intro n
  induction n with
  | zero=>exact fun l=>⟨[],rfl⟩
  | succ n ih=>
    intro l
    unfold Yt
    cases hs:ux l with
    | none=>exact ⟨[],rfl⟩
    | some r=>
      obtain ⟨p,hp⟩:=q5l l r hs
      obtain ⟨q,hq⟩:=ih r
      exact ⟨p++q,by simp only;rw [AJ,←hq,←hp]⟩
 exact this _ l
theorem q38 (l:List UInt8):jf l=l.drop (l.length - (jf l).length):=by
 obtain ⟨p,hp⟩:=qrh l
 have hl:l.length - (jf l).length=p.length:=by
  have:=congrArg List.length hp
  rw [Ad] at this;omega
 rw [hl]
 conv=>rhs;rw [hp]
 rw [List.drop_left'];rfl
theorem qqj (l:List UInt8):(ko l).1≤l.length:=by
 cases l with
 | nil=>exact Ak _
 | cons c l=>
   have:=qqf (c::l)
   rw [ko]
   split
   ·split
    ·split
     ·exact this
     exact Az _
    split
    ·exact this
    exact Az _
   split
   ·exact Az _
   split
   ·exact Az _
   split
   ·rename_i h
    cases l with
    | nil=>simp at h
    | cons d l=>simp
   simp
theorem qrt (l:List UInt8) (h:(ko l).2≠0):0 < (ko l).1:=by
 cases l with
 | nil=>exact absurd rfl h
 | cons c l=>
   rw [ko] at h ⊢
   by_cases hw:letC c=true
   ·have:=qv2 l hw
    rw [if_pos hw] at h ⊢
    split
    ·rename_i hd
     rw [if_pos hd] at h
     split
     ·exact this
     rename_i hi;rw [if_neg hi] at h;exact absurd rfl h
    rename_i hd
    rw [if_neg hd] at h
    split
    ·exact this
    rename_i hi;rw [if_neg hi] at h;exact absurd rfl h
   rw [if_neg hw] at h ⊢
   split
   ·rename_i hm;rw [if_pos hm] at h;exact absurd rfl h
   rename_i hm
   rw [if_neg hm] at h
   split
   ·rename_i h7;rw [if_pos h7] at h;exact absurd rfl h
   split <;> decide
def qjp (S:Nat):Nat→List UInt8→Except Nat (List Token)
 | 0,_=> .ok []
 | f +1,l=>
   if jf l= [] then .ok [⟨4,ofB l,⟨#[]⟩,(S:Int)⟩]
   else if (ko (jf l)).2=0 then .error (S - (jf l).length)
   else match qjp S f ((jf l).drop (ko (jf l)).1) with
    | .ok m=> .ok (⟨(ko (jf l)).2,ofB (l.take (l.length - (jf l).length)),ofB ((jf l).take (ko (jf l)).1),((S - (jf l).length:Nat):Int)⟩::m)
    | .error e=> .error e
def endT (acc:List Token):Except Nat (List Token)→List Token × Int × Int
 | .ok m=>(acc++m,0,0)
 | .error e=>([],1,(e:Int))
theorem qy6 (acc:List Token) (t:Token) (x:Except Nat (List Token)):endT (acc++ [t]) x=endT acc (match x with | .ok m=> .ok (t::m) | .error e=> .error e):=by
 cases x with
 | ok m=>simp [endT]
 | error e=>rfl
theorem qye:∀(l:List UInt8),runL (l.take (runL l))=runL l
 | []=>rfl
 | c ::l=>by
   by_cases hc:letC c=true
   ·have e:runL (c::l)=runL l+1:=by rw [runL,if_pos hc]
    rw [e,Cj,runL,if_pos hc,qye l]
   have e:runL (c::l)=0:=by rw [runL,if_neg hc]
   rw [e];rfl
theorem q4e (r:List UInt8) (h:(ko r).2≠0):ko (r.take (ko r).1)=ko r:=by
 cases r with
 | nil=>rfl
 | cons c l=>
   by_cases hw:letC c=true
   ·have hpos:=qv2 l hw
    obtain ⟨n,hn⟩:∃n,runL (c::l)=n+1:=⟨runL (c::l) - 1,by omega⟩
    have ht:(c::l).take (runL (c::l))=c::l.take n:=by rw [hn,Cj]
    have hrt:runL (c::l.take n)=runL (c::l):=by rw [←ht,qye]
    have htt:(c::l.take n).take (runL (c::l))=c::l.take n:=by rw [←ht];exact Bg (by rw [Br];omega)
    cases hd:digC c with
    | true=>
      rw [qrs l hd] at h ⊢
      by_cases hi:kx ((c::l).take (runL (c::l)))=true
      ·rw [if_pos hi]
       show ko ((c::l).take (runL (c::l)))=_
       rw [ht] at hi ⊢
       rw [qrs _ hd,hrt,htt,if_pos hi]
      rw [if_neg hi] at h;exact absurd rfl h
    | false=>
      rw [qrr l hw hd] at h ⊢
      by_cases hi:runL (c::l)≤32
      ·rw [if_pos hi]
       show ko ((c::l).take (runL (c::l)))=_
       rw [ht,qrr _ hw hd,hrt,if_pos hi]
      rw [if_neg hi] at h;exact absurd rfl h
   have hw:letC c=false:=by simpa using hw
   cases hm:qff c with
   | false=>rw [qqi l hw hm] at h;exact absurd rfl h
   | true=>
     rw [qm7 l hw hm] at h ⊢
     by_cases h7:c=47∧l.head? =some 47
     ·rw [if_pos h7] at h;exact absurd rfl h
     rw [if_neg h7]
     by_cases h6:c=61∧l.head? =some 61
     ·rw [if_pos h6]
      obtain ⟨rfl,hl⟩:=h6
      cases l with
      | nil=>cases hl
      | cons d r=>cases hl;show ko [61,61]=(2,3);decide
     rw [if_neg h6]
     show ko [c]=(1,3)
     rw [qm7 [] hw hm,if_neg (by simp),if_neg (by simp)]
theorem q4m (r:List UInt8) (h:(ko r).2≠0):qj1 (r.take (ko r).1)=(ko r).2:=by
 unfold qj1
 rw [q4e r h,if_pos (by rw [Br];have:=qqj r;omega)]
theorem ql8 {t:List UInt8} (h:qj1 t≠0):t≠ []∧ko t=(t.length,qj1 t)∧
 ((letC (t.headD 0)=true∧runL t=t.length)∨(∃c,t= [c]∧letC c=false∧qff c=true∧qj1 t=3)∨(t= [61,61]∧qj1 t=3)):=by
 have hn:(ko t).1=t.length∧qj1 t=(ko t).2:=by
  unfold qj1 at h ⊢
  split at h
  ·rename_i e;rw [if_pos e];exact ⟨e,rfl⟩
  exact absurd rfl h
 have h2:(ko t).2≠0:=by rw [←hn.2];exact h
 cases t with
 | nil=>exact absurd rfl h2
 | cons c l=>
   refine ⟨by simp,by rw [←hn.1,hn.2],?_⟩
   by_cases hw:letC c=true
   ·refine .inl ⟨hw,?_⟩
    cases hd:digC c with
    | true=>
      rw [qrs l hd] at h2 hn
      split at h2
      ·rename_i hi;rw [if_pos hi] at hn;exact hn.1
      exact absurd rfl h2
    | false=>
      rw [qrr l hw hd] at h2 hn
      split at h2
      ·rename_i hi;rw [if_pos hi] at hn;exact hn.1
      exact absurd rfl h2
   have hw:letC c=false:=by simpa using hw
   cases hm:qff c with
   | false=>rw [qqi l hw hm] at h2;exact absurd rfl h2
   | true=>
     rw [qm7 l hw hm] at h2 hn
     by_cases h7:c=47∧l.head? =some 47
     ·rw [if_pos h7] at h2;exact absurd rfl h2
     rw [if_neg h7] at hn
     by_cases h6:c=61∧l.head? =some 61
     ·rw [if_pos h6] at hn
      obtain ⟨rfl,hl⟩:=h6
      cases l with
      | nil=>cases hl
      | cons d r=>
        cases hl
        have:=hn.1
        simp only [Af] at this
        obtain rfl:r= []:=AK.1 (by omega)
        exact .inr (.inr ⟨rfl,hn.2⟩)
     rw [if_neg h6] at hn
     have:=hn.1
     simp only [Af] at this
     obtain rfl:l= []:=AK.1 (by omega)
     exact .inr (.inl ⟨c,rfl,hw,hm,hn.2⟩)
theorem qyb:∀(p r q:List UInt8),yn (p++r)=some (q++r)→q.length < p.length→yn p=some q
 | [],r,q,h,hl=>absurd hl (by simp)
 | c ::p,r,q,h,hl=>by
   have e:yn (c::(p++r))=if c=10 then some (p++r) else yn (p++r):=rfl
   have e2:yn (c::p)=if c=10 then some p else yn p:=rfl
   rw [Bq,e] at h
   rw [e2]
   split at h
   ·rename_i hc
    rw [if_pos hc]
    have:=List.append_cancel_right (Bf h)
    rw [this]
   rename_i hc
   rw [if_neg hc]
   have hlt:=qf6 _ _ h
   rw [Ad,Ad] at hlt
   exact qyb p r q h (by omega)
theorem q5m (p r q:List UInt8) (h:ux (p++r)=some (q++r)):ux p=some q:=by
 have hlt:=qbb _ _ h
 rw [Ad,Ad] at hlt
 cases p with
 | nil=>simp at hlt;omega
 | cons c p=>
   rw [Bq,Q1] at h
   rw [Q1]
   split at h
   ·rename_i hc
    rw [if_pos hc,List.append_cancel_right (Bf h)]
   rename_i hc
   rw [if_neg hc]
   split at h
   ·rename_i h7
    have hlt:=qf6 _ _ h
    rw [Ad,Ad] at hlt
    cases p with
    | nil=>simp at hlt;omega
    | cons d p=>
      rw [if_pos ⟨h7.1,by have:=h7.2;rw [Bq,List.head?_cons] at this;exact this⟩]
      exact qyb _ r q h (by omega)
   cases h
theorem q5x (p r:List UInt8) (h:jf (p++r)=r):jf p= []:=by
 have :∀n (p r:List UInt8),p.length≤n→jf (p++r)=r→jf p= []:=by
  intro n
  induction n with
  | zero=>
    intro p r hl _
    obtain rfl:p= []:=AK.1 (by omega)
    rfl
  | succ n ih=>
    intro p r hl h
    cases hs:ux (p++r) with
    | none=>
      rw [qld _ hs] at h
      have:=congrArg List.length h
      rw [Ad] at this
      obtain rfl:p= []:=AK.1 (by omega)
      rfl
    | some x=>
      rw [qak _ _ hs] at h
      obtain ⟨q,hq⟩:=qrh x
      rw [h] at hq
      subst hq
      have h2:=q5m p r q hs
      have hlt:=qbb _ _ h2
      rw [qak _ _ h2]
      exact ih q r (by omega) h
 exact this p.length p r (Ak _) h
end Tk
end Go.Proofs.YtpnkemogepoioaaGreatDoorW.Ex.Gr
