/- Tokens in plain words: what a text reads, tokens side by side. Conditions: those in each theorem. -/
import Derived.Test.YtpnkemogepoioaaGreatDoorKe
namespace Go.Proofs.YtpnkemogepoioaaGreatDoorW.Ex.Gr
open Go Go.Proofs.YtpnkemogepoioaaGreatDoorW.Ex Go.Proofs.YtpnkemogepoioaaGreatDoorW.Plain
set_option linter.all false
set_option maxRecDepth 100000
namespace Tk
def runL:List UInt8→Nat
 | []=>0
 | c::l=>if letC c=true then runL l+1 else 0
theorem qpx:∀l,runL l≤l.length
 | []=>Nat.le_refl _
 | c::l=>by
   rw [runL,List.length_cons]
   have:=qpx l
   split <;> omega
def y9:List UInt8→Nat × Int
 | []=>(0,0)
 | c ::l=>
   if letC c=true then
    (if digC c=true then (if Q5 ((c::l).take (runL (c::l)))=true then (runL (c::l),2) else (0,0))
     else if runL (c::l)≤32 then (runL (c::l),1) else (0,0))
   else if qfk c=false then (0,0)
   else if c=47∧l.head? =some 47 then (0,0)
   else if c=61∧l.head? =some 61 then (2,3)
   else (1,3)
theorem qvk {c:UInt8} (h:digC c=true):letC c=true:=by
 unfold letC
 have:ua (c.toNat:Int)=true:=h
 rw [this];rfl
theorem qpw {c:UInt8} (l:List UInt8) (h:letC c=true):0 < runL (c::l):=by rw [runL,if_pos h];omega
theorem qt7 {c:UInt8} (l:List UInt8) (hd:digC c=true):y9 (c::l)=if Q5 ((c::l).take (runL (c::l)))=true then (runL (c::l),2) else (0,0):=by
 rw [y9,if_pos (qvk hd),if_pos hd]
theorem qt6 {c:UInt8} (l:List UInt8) (hw:letC c=true) (hd:digC c=false):y9 (c::l)=if runL (c::l)≤32 then (runL (c::l),1) else (0,0):=by
 rw [y9,if_pos hw,hd,if_neg (by decide)]
theorem qve {c:UInt8} (l:List UInt8) (hw:letC c=false) (hm:qfk c=false):y9 (c::l)=(0,0):=by
 rw [y9,hw,if_neg (by decide),if_pos hm]
theorem qp3 {c:UInt8} (l:List UInt8) (hw:letC c=false) (hm:qfk c=true):y9 (c::l)=if c=47∧l.head? =some 47 then (0,0) else if c=61∧l.head? =some 61 then (2,3) else (1,3):=by
 rw [y9,hw,if_neg (by decide),hm,if_neg (by decide)]
def qsf (l:List UInt8):Int:=if (y9 l).1=l.length then (y9 l).2 else 0
theorem qrw:∀(l r:List UInt8),yy l=some r→∃p,l=p++r
 | [],r,h=>by simp [yy] at h
 | c::l,r,h=>by
   have e:yy (c::l)=if c=10 then some l else yy l:=rfl
   rw [e] at h
   split at h
   ·cases h;exact ⟨[c],rfl⟩
   obtain ⟨p,hp⟩:=qrw l r h
   exact ⟨c::p,by rw [hp];rfl⟩
theorem qx9 (l r:List UInt8) (h:ut l=some r):∃p,l=p++r:=by
 cases l with
 | nil=>simp [ut] at h
 | cons c l=>
   rw [Ze] at h
   split at h
   ·cases h;exact ⟨[c],rfl⟩
   split at h
   ·obtain ⟨p,hp⟩:=qrw l r h
    exact ⟨c::p,by rw [hp];rfl⟩
   cases h
theorem ql0 (l:List UInt8):∃p,l=p++ze l:=by
 have :∀n l,∃p,l=p++Zl n l:=by
  intro n
  induction n with
  | zero=>exact fun l=>⟨[],rfl⟩
  | succ n ih=>
    intro l
    unfold Zl
    cases hs:ut l with
    | none=>exact ⟨[],rfl⟩
    | some r=>
      obtain ⟨p,hp⟩:=qx9 l r hs
      obtain ⟨q,hq⟩:=ih r
      exact ⟨p++q,by simp only;rw [List.append_assoc,←hq,←hp]⟩
 exact this _ l
theorem qw3 (l:List UInt8):ze l=l.drop (l.length - (ze l).length):=by
 obtain ⟨p,hp⟩:=ql0 l
 have hl:l.length - (ze l).length=p.length:=by
  have:=congrArg List.length hp
  rw [List.length_append] at this;omega
 rw [hl]
 conv=>rhs;rw [hp]
 rw [List.drop_left'];rfl
theorem qp5 (l:List UInt8):(y9 l).1≤l.length:=by
 cases l with
 | nil=>exact Nat.le_refl _
 | cons c l=>
   have:=qpx (c::l)
   rw [y9]
   split
   ·split
    ·split
     ·exact this
     exact Nat.zero_le _
    split
    ·exact this
    exact Nat.zero_le _
   split
   ·exact Nat.zero_le _
   split
   ·exact Nat.zero_le _
   split
   ·rename_i h
    cases l with
    | nil=>simp at h
    | cons d l=>simp
   simp
theorem qsa (l:List UInt8) (h:(y9 l).2≠0):0 < (y9 l).1:=by
 cases l with
 | nil=>exact absurd rfl h
 | cons c l=>
   rw [y9] at h ⊢
   by_cases hw:letC c=true
   ·have:=qpw l hw
    rw [if_pos hw] at h ⊢
    split
    ·rename_i hd
     rw [if_pos hd] at h
     split
     ·exact this
     rename_i hi;rw [if_neg hi] at h;exact absurd rfl h
    rename_i hd
    rw [if_neg hd] at h
    split
    ·exact this
    rename_i hi;rw [if_neg hi] at h;exact absurd rfl h
   rw [if_neg hw] at h ⊢
   split
   ·rename_i hm;rw [if_pos hm] at h;exact absurd rfl h
   rename_i hm
   rw [if_neg hm] at h
   split
   ·rename_i h7;rw [if_pos h7] at h;exact absurd rfl h
   split <;> decide
def qh2 (S:Nat):Nat→List UInt8→Except Nat (List Token)
 | 0,_=> .ok []
 | f +1,l=>
   if ze l= [] then .ok [⟨4,ofB l,⟨#[]⟩,(S:Int)⟩]
   else if (y9 (ze l)).2=0 then .error (S - (ze l).length)
   else match qh2 S f ((ze l).drop (y9 (ze l)).1) with
    | .ok m=> .ok (⟨(y9 (ze l)).2,ofB (l.take (l.length - (ze l).length)),ofB ((ze l).take (y9 (ze l)).1),((S - (ze l).length:Nat):Int)⟩::m)
    | .error e=> .error e
def endT (acc:List Token):Except Nat (List Token)→List Token × Int × Int
 | .ok m=>(acc++m,0,0)
 | .error e=>([],1,(e:Int))
theorem qzu (acc:List Token) (t:Token) (x:Except Nat (List Token)):endT (acc++ [t]) x=endT acc (match x with | .ok m=> .ok (t::m) | .error e=> .error e):=by
 cases x with
 | ok m=>simp [endT]
 | error e=>rfl
theorem qr2:∀(l:List UInt8),runL (l.take (runL l))=runL l
 | []=>rfl
 | c ::l=>by
   by_cases hc:letC c=true
   ·have e:runL (c::l)=runL l+1:=by rw [runL,if_pos hc]
    rw [e,List.take_succ_cons,runL,if_pos hc,qr2 l]
   have e:runL (c::l)=0:=by rw [runL,if_neg hc]
   rw [e];rfl
theorem qw6 (r:List UInt8) (h:(y9 r).2≠0):y9 (r.take (y9 r).1)=y9 r:=by
 cases r with
 | nil=>rfl
 | cons c l=>
   by_cases hw:letC c=true
   ·have hpos:=qpw l hw
    obtain ⟨n,hn⟩:∃n,runL (c::l)=n+1:=⟨runL (c::l) - 1,by omega⟩
    have ht:(c::l).take (runL (c::l))=c::l.take n:=by rw [hn,List.take_succ_cons]
    have hrt:runL (c::l.take n)=runL (c::l):=by rw [←ht,qr2]
    have htt:(c::l.take n).take (runL (c::l))=c::l.take n:=by rw [←ht];exact List.take_of_length_le (by rw [List.length_take];omega)
    cases hd:digC c with
    | true=>
      rw [qt7 l hd] at h ⊢
      by_cases hi:Q5 ((c::l).take (runL (c::l)))=true
      ·rw [if_pos hi]
       show y9 ((c::l).take (runL (c::l)))=_
       rw [ht] at hi ⊢
       rw [qt7 _ hd,hrt,htt,if_pos hi]
      rw [if_neg hi] at h;exact absurd rfl h
    | false=>
      rw [qt6 l hw hd] at h ⊢
      by_cases hi:runL (c::l)≤32
      ·rw [if_pos hi]
       show y9 ((c::l).take (runL (c::l)))=_
       rw [ht,qt6 _ hw hd,hrt,if_pos hi]
      rw [if_neg hi] at h;exact absurd rfl h
   have hw:letC c=false:=by simpa using hw
   cases hm:qfk c with
   | false=>rw [qve l hw hm] at h;exact absurd rfl h
   | true=>
     rw [qp3 l hw hm] at h ⊢
     by_cases h7:c=47∧l.head? =some 47
     ·rw [if_pos h7] at h;exact absurd rfl h
     rw [if_neg h7]
     by_cases h6:c=61∧l.head? =some 61
     ·rw [if_pos h6]
      obtain ⟨rfl,hl⟩:=h6
      cases l with
      | nil=>cases hl
      | cons d r=>cases hl;show y9 [61,61]=(2,3);decide
     rw [if_neg h6]
     show y9 [c]=(1,3)
     rw [qp3 [] hw hm,if_neg (by simp),if_neg (by simp)]
theorem qxe (r:List UInt8) (h:(y9 r).2≠0):qsf (r.take (y9 r).1)=(y9 r).2:=by
 unfold qsf
 rw [qw6 r h,if_pos (by rw [List.length_take];have:=qp5 r;omega)]
theorem qrx:∀(p r q:List UInt8),yy (p++r)=some (q++r)→q.length < p.length→yy p=some q
 | [],r,q,h,hl=>absurd hl (by simp)
 | c ::p,r,q,h,hl=>by
   have e:yy (c::(p++r))=if c=10 then some (p++r) else yy (p++r):=rfl
   have e2:yy (c::p)=if c=10 then some p else yy p:=rfl
   rw [List.cons_append,e] at h
   rw [e2]
   split at h
   ·rename_i hc
    rw [if_pos hc]
    have:=List.append_cancel_right (Option.some.inj h)
    rw [this]
   rename_i hc
   rw [if_neg hc]
   have hlt:=qch _ _ h
   rw [List.length_append,List.length_append] at hlt
   exact qrx p r q h (by omega)
theorem qya (p r q:List UInt8) (h:ut (p++r)=some (q++r)):ut p=some q:=by
 have hlt:=W8 _ _ h
 rw [List.length_append,List.length_append] at hlt
 cases p with
 | nil=>simp at hlt;omega
 | cons c p=>
   rw [List.cons_append,Ze] at h
   rw [Ze]
   split at h
   ·rename_i hc
    rw [if_pos hc,List.append_cancel_right (Option.some.inj h)]
   rename_i hc
   rw [if_neg hc]
   split at h
   ·rename_i h7
    have hlt:=qch _ _ h
    rw [List.length_append,List.length_append] at hlt
    cases p with
    | nil=>simp at hlt;omega
    | cons d p=>
      rw [if_pos ⟨h7.1,by have:=h7.2;rw [List.cons_append,List.head?_cons] at this;exact this⟩]
      exact qrx _ r q h (by omega)
   cases h
theorem qyi (p r:List UInt8) (h:ze (p++r)=r):ze p= []:=by
 have :∀n (p r:List UInt8),p.length≤n→ze (p++r)=r→ze p= []:=by
  intro n
  induction n with
  | zero=>
    intro p r hl _
    obtain rfl:p= []:=List.length_eq_zero_iff.1 (by omega)
    rfl
  | succ n ih=>
    intro p r hl h
    cases hs:ut (p++r) with
    | none=>
      rw [qgu _ hs] at h
      have:=congrArg List.length h
      rw [List.length_append] at this
      obtain rfl:p= []:=List.length_eq_zero_iff.1 (by omega)
      rfl
    | some x=>
      rw [W3 _ _ hs] at h
      obtain ⟨q,hq⟩:=ql0 x
      rw [h] at hq
      subst hq
      have h2:=qya p r q hs
      have hlt:=W8 _ _ h2
      rw [W3 _ _ h2]
      exact ih q r (by omega) h
 exact this p.length p r (Nat.le_refl _) h
end Tk
end Go.Proofs.YtpnkemogepoioaaGreatDoorW.Ex.Gr
