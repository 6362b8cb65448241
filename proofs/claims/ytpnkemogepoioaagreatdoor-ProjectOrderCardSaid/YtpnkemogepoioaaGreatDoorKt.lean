/- Tokens in plain words: what a text reads, tokens side by side. Conditions: those in each theorem. -/
import Derived.Test.YtpnkemogepoioaaGreatDoorKe
namespace Go.Proofs.YtpnkemogepoioaaGreatDoorW.Ex.Gr
open Go Go.Proofs.YtpnkemogepoioaaGreatDoorW.Ex Go.Proofs.YtpnkemogepoioaaGreatDoorW.Plain
set_option linter.all false
set_option maxRecDepth 100000
namespace Tk
def runL:List UInt8→Nat
 | []=>0
 | c::l=>if letC c=true then runL l+1 else 0
theorem qoj:∀l,runL l≤l.length
 | []=>Nat.le_refl _
 | c::l=>by
   rw [runL,List.length_cons]
   have:=qoj l
   split <;> omega
def kg:List UInt8→Nat × Int
 | []=>(0,0)
 | c ::l=>
   if letC c=true then
    (if digC c=true then (if Qt ((c::l).take (runL (c::l)))=true then (runL (c::l),2) else (0,0))
     else if runL (c::l)≤32 then (runL (c::l),1) else (0,0))
   else if qd7 c=false then (0,0)
   else if c=47∧l.head? =some 47 then (0,0)
   else if c=61∧l.head? =some 61 then (2,3)
   else (1,3)
theorem qt5 {c:UInt8} (h:digC c=true):letC c=true:=by
 unfold letC
 have:ua (c.toNat:Int)=true:=h
 rw [this];rfl
theorem qoi {c:UInt8} (l:List UInt8) (h:letC c=true):0 < runL (c::l):=by rw [runL,if_pos h];omega
theorem qss {c:UInt8} (l:List UInt8) (hd:digC c=true):kg (c::l)=if Qt ((c::l).take (runL (c::l)))=true then (runL (c::l),2) else (0,0):=by
 rw [kg,if_pos (qt5 hd),if_pos hd]
theorem qsr {c:UInt8} (l:List UInt8) (hw:letC c=true) (hd:digC c=false):kg (c::l)=if runL (c::l)≤32 then (runL (c::l),1) else (0,0):=by
 rw [kg,if_pos hw,hd,if_neg (by decide)]
theorem qtz {c:UInt8} (l:List UInt8) (hw:letC c=false) (hm:qd7 c=false):kg (c::l)=(0,0):=by
 rw [kg,hw,if_neg (by decide),if_pos hm]
theorem qop {c:UInt8} (l:List UInt8) (hw:letC c=false) (hm:qd7 c=true):kg (c::l)=if c=47∧l.head? =some 47 then (0,0) else if c=61∧l.head? =some 61 then (2,3) else (1,3):=by
 rw [kg,hw,if_neg (by decide),hm,if_neg (by decide)]
def qqz (l:List UInt8):Int:=if (kg l).1=l.length then (kg l).2 else 0
theorem qqe:∀(l r:List UInt8),y6 l=some r→∃p,l=p++r
 | [],r,h=>by simp [y6] at h
 | c::l,r,h=>by
   have e:y6 (c::l)=if c=10 then some l else y6 l:=rfl
   rw [e] at h
   split at h
   ·cases h;exact ⟨[c],rfl⟩
   obtain ⟨p,hp⟩:=qqe l r h
   exact ⟨c::p,by rw [hp];rfl⟩
theorem qwz (l r:List UInt8) (h:ur l=some r):∃p,l=p++r:=by
 cases l with
 | nil=>simp [ur] at h
 | cons c l=>
   rw [Q0] at h
   split at h
   ·cases h;exact ⟨[c],rfl⟩
   split at h
   ·obtain ⟨p,hp⟩:=qqe l r h
    exact ⟨c::p,by rw [hp];rfl⟩
   cases h
theorem qkp (l:List UInt8):∃p,l=p++zd l:=by
 have :∀n l,∃p,l=p++Q8 n l:=by
  intro n
  induction n with
  | zero=>exact fun l=>⟨[],rfl⟩
  | succ n ih=>
    intro l
    unfold Q8
    cases hs:ur l with
    | none=>exact ⟨[],rfl⟩
    | some r=>
      obtain ⟨p,hp⟩:=qwz l r hs
      obtain ⟨q,hq⟩:=ih r
      exact ⟨p++q,by simp only;rw [List.append_assoc,←hq,←hp]⟩
 exact this _ l
theorem qvs (l:List UInt8):zd l=l.drop (l.length - (zd l).length):=by
 obtain ⟨p,hp⟩:=qkp l
 have hl:l.length - (zd l).length=p.length:=by
  have:=congrArg List.length hp
  rw [List.length_append] at this;omega
 rw [hl]
 conv=>rhs;rw [hp]
 rw [List.drop_left'];rfl
theorem qor (l:List UInt8):(kg l).1≤l.length:=by
 cases l with
 | nil=>exact Nat.le_refl _
 | cons c l=>
   have:=qoj (c::l)
   rw [kg]
   split
   ·split
    ·split
     ·exact this
     exact Nat.zero_le _
    split
    ·exact this
    exact Nat.zero_le _
   split
   ·exact Nat.zero_le _
   split
   ·exact Nat.zero_le _
   split
   ·rename_i h
    cases l with
    | nil=>simp at h
    | cons d l=>simp
   simp
theorem qqu (l:List UInt8) (h:(kg l).2≠0):0 < (kg l).1:=by
 cases l with
 | nil=>exact absurd rfl h
 | cons c l=>
   rw [kg] at h ⊢
   by_cases hw:letC c=true
   ·have:=qoi l hw
    rw [if_pos hw] at h ⊢
    split
    ·rename_i hd
     rw [if_pos hd] at h
     split
     ·exact this
     rename_i hi;rw [if_neg hi] at h;exact absurd rfl h
    rename_i hd
    rw [if_neg hd] at h
    split
    ·exact this
    rename_i hi;rw [if_neg hi] at h;exact absurd rfl h
   rw [if_neg hw] at h ⊢
   split
   ·rename_i hm;rw [if_pos hm] at h;exact absurd rfl h
   rename_i hm
   rw [if_neg hm] at h
   split
   ·rename_i h7;rw [if_pos h7] at h;exact absurd rfl h
   split <;> decide
def qgq (S:Nat):Nat→List UInt8→Except Nat (List Token)
 | 0,_=> .ok []
 | f +1,l=>
   if zd l= [] then .ok [⟨4,ofB l,⟨#[]⟩,(S:Int)⟩]
   else if (kg (zd l)).2=0 then .error (S - (zd l).length)
   else match qgq S f ((zd l).drop (kg (zd l)).1) with
    | .ok m=> .ok (⟨(kg (zd l)).2,ofB (l.take (l.length - (zd l).length)),ofB ((zd l).take (kg (zd l)).1),((S - (zd l).length:Nat):Int)⟩::m)
    | .error e=> .error e
def endT (acc:List Token):Except Nat (List Token)→List Token × Int × Int
 | .ok m=>(acc++m,0,0)
 | .error e=>([],1,(e:Int))
theorem qyl (acc:List Token) (t:Token) (x:Except Nat (List Token)):endT (acc++ [t]) x=endT acc (match x with | .ok m=> .ok (t::m) | .error e=> .error e):=by
 cases x with
 | ok m=>simp [endT]
 | error e=>rfl
theorem qqk:∀(l:List UInt8),runL (l.take (runL l))=runL l
 | []=>rfl
 | c ::l=>by
   by_cases hc:letC c=true
   ·have e:runL (c::l)=runL l+1:=by rw [runL,if_pos hc]
    rw [e,List.take_succ_cons,runL,if_pos hc,qqk l]
   have e:runL (c::l)=0:=by rw [runL,if_neg hc]
   rw [e];rfl
theorem qvv (r:List UInt8) (h:(kg r).2≠0):kg (r.take (kg r).1)=kg r:=by
 cases r with
 | nil=>rfl
 | cons c l=>
   by_cases hw:letC c=true
   ·have hpos:=qoi l hw
    obtain ⟨n,hn⟩:∃n,runL (c::l)=n+1:=⟨runL (c::l) - 1,by omega⟩
    have ht:(c::l).take (runL (c::l))=c::l.take n:=by rw [hn,List.take_succ_cons]
    have hrt:runL (c::l.take n)=runL (c::l):=by rw [←ht,qqk]
    have htt:(c::l.take n).take (runL (c::l))=c::l.take n:=by rw [←ht];exact List.take_of_length_le (by rw [List.length_take];omega)
    cases hd:digC c with
    | true=>
      rw [qss l hd] at h ⊢
      by_cases hi:Qt ((c::l).take (runL (c::l)))=true
      ·rw [if_pos hi]
       show kg ((c::l).take (runL (c::l)))=_
       rw [ht] at hi ⊢
       rw [qss _ hd,hrt,htt,if_pos hi]
      rw [if_neg hi] at h;exact absurd rfl h
    | false=>
      rw [qsr l hw hd] at h ⊢
      by_cases hi:runL (c::l)≤32
      ·rw [if_pos hi]
       show kg ((c::l).take (runL (c::l)))=_
       rw [ht,qsr _ hw hd,hrt,if_pos hi]
      rw [if_neg hi] at h;exact absurd rfl h
   have hw:letC c=false:=by simpa using hw
   cases hm:qd7 c with
   | false=>rw [qtz l hw hm] at h;exact absurd rfl h
   | true=>
     rw [qop l hw hm] at h ⊢
     by_cases h7:c=47∧l.head? =some 47
     ·rw [if_pos h7] at h;exact absurd rfl h
     rw [if_neg h7]
     by_cases h6:c=61∧l.head? =some 61
     ·rw [if_pos h6]
      obtain ⟨rfl,hl⟩:=h6
      cases l with
      | nil=>cases hl
      | cons d r=>cases hl;show kg [61,61]=(2,3);decide
     rw [if_neg h6]
     show kg [c]=(1,3)
     rw [qop [] hw hm,if_neg (by simp),if_neg (by simp)]
theorem qv3 (r:List UInt8) (h:(kg r).2≠0):qqz (r.take (kg r).1)=(kg r).2:=by
 unfold qqz
 rw [qvv r h,if_pos (by rw [List.length_take];have:=qor r;omega)]
theorem qqf:∀(p r q:List UInt8),y6 (p++r)=some (q++r)→q.length < p.length→y6 p=some q
 | [],r,q,h,hl=>absurd hl (by simp)
 | c ::p,r,q,h,hl=>by
   have e:y6 (c::(p++r))=if c=10 then some (p++r) else y6 (p++r):=rfl
   have e2:y6 (c::p)=if c=10 then some p else y6 p:=rfl
   rw [List.cons_append,e] at h
   rw [e2]
   split at h
   ·rename_i hc
    rw [if_pos hc]
    have:=List.append_cancel_right (Option.some.inj h)
    rw [this]
   rename_i hc
   rw [if_neg hc]
   have hlt:=qbc _ _ h
   rw [List.length_append,List.length_append] at hlt
   exact qqf p r q h (by omega)
theorem qw0 (p r q:List UInt8) (h:ur (p++r)=some (q++r)):ur p=some q:=by
 have hlt:=Wd _ _ h
 rw [List.length_append,List.length_append] at hlt
 cases p with
 | nil=>simp at hlt;omega
 | cons c p=>
   rw [List.cons_append,Q0] at h
   rw [Q0]
   split at h
   ·rename_i hc
    rw [if_pos hc,List.append_cancel_right (Option.some.inj h)]
   rename_i hc
   rw [if_neg hc]
   split at h
   ·rename_i h7
    have hlt:=qbc _ _ h
    rw [List.length_append,List.length_append] at hlt
    cases p with
    | nil=>simp at hlt;omega
    | cons d p=>
      rw [if_pos ⟨h7.1,by have:=h7.2;rw [List.cons_append,List.head?_cons] at this;exact this⟩]
      exact qqf _ r q h (by omega)
   cases h
theorem qw8 (p r:List UInt8) (h:zd (p++r)=r):zd p= []:=by
 have :∀n (p r:List UInt8),p.length≤n→zd (p++r)=r→zd p= []:=by
  intro n
  induction n with
  | zero=>
    intro p r hl _
    obtain rfl:p= []:=List.length_eq_zero_iff.1 (by omega)
    rfl
  | succ n ih=>
    intro p r hl h
    cases hs:ur (p++r) with
    | none=>
      rw [qfi _ hs] at h
      have:=congrArg List.length h
      rw [List.length_append] at this
      obtain rfl:p= []:=List.length_eq_zero_iff.1 (by omega)
      rfl
    | some x=>
      rw [K9 _ _ hs] at h
      obtain ⟨q,hq⟩:=qkp x
      rw [h] at hq
      subst hq
      have h2:=qw0 p r q hs
      have hlt:=Wd _ _ h2
      rw [K9 _ _ h2]
      exact ih q r (by omega) h
 exact this p.length p r (Nat.le_refl _) h
end Tk
end Go.Proofs.YtpnkemogepoioaaGreatDoorW.Ex.Gr
