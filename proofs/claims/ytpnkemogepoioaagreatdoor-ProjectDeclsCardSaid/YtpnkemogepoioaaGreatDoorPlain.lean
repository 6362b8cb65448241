/- Plain words on bytes: what the trivia at the begin of a text is, what a name is, what an integer of the language is. No program in sight; no conditions beside those in each theorem. -/
import Derived.Lib.Bytealg
namespace Go.Proofs.YtpnkemogepoioaaGreatDoorW.Plain
set_option linter.all false
open Go
def yy:List UInt8→Option (List UInt8)
 | []=>none
 | c::r=>if c=10 then some r else yy r
theorem qch:∀(l r:List UInt8),yy l=some r→r.length < l.length
 | [],r,h=>by simp [yy] at h
 | c ::l,r,h=>by
   have e:yy (c::l)=if c=10 then some l else yy l:=rfl
   rw [e] at h
   split at h
   ·simp only [Option.some.injEq] at h
    subst h
    simp
   have:=qch l r h
   simp only [List.length_cons]
   omega
def ut:List UInt8→Option (List UInt8)
 | []=>none
 | c::r=>if c=32∨c=9∨c=10 then some r else if c=47∧r.head? =some 47 then yy r else none
theorem W8 (l r:List UInt8) (h:ut l=some r):r.length < l.length:=by
 cases l with
 | nil=>simp [ut] at h
 | cons c l=>
   have e:ut (c::l)=if c=32∨c=9∨c=10 then some l else if c=47∧l.head? =some 47 then yy l else none:=rfl
   rw [e] at h
   split at h
   ·simp only [Option.some.injEq] at h
    subst h
    simp
   split at h
   ·have:=qch l r h
    simp only [List.length_cons]
    omega
   cases h
def Zl:Nat→List UInt8→List UInt8
 | 0,l=>l
 | n+1,l=>match ut l with | some r=>Zl n r | none=>l
def ze (l:List UInt8):List UInt8:=Zl l.length l
theorem qh1:∀(n m:Nat) (l:List UInt8),l.length≤n→l.length≤m→Zl n l=Zl m l
 | 0,0,l,_,_=>rfl
 | 0,m+1,l,h,_=>by
   obtain rfl:l= []:=List.length_eq_zero_iff.1 (by omega)
   rfl
 | n+1,0,l,_,h=>by
   obtain rfl:l= []:=List.length_eq_zero_iff.1 (by omega)
   rfl
 | n +1,m+1,l,h1,h2=>by
   unfold Zl
   cases hs:ut l with
   | none=>rfl
   | some r=>
     have:=W8 l r hs
     exact qh1 n m r (by omega) (by omega)
theorem W3 (l r:List UInt8) (h:ut l=some r):ze l=ze r:=by
 have:=W8 l r h
 unfold ze
 obtain ⟨n,hn⟩:∃n,l.length=n+1:=⟨l.length - 1,by omega⟩
 rw [hn]
 show (match ut l with | some r=>Zl n r | none=>l)=_
 rw [h]
 exact qh1 _ _ _ (by omega) (Nat.le_refl _)
theorem qgu (l:List UInt8) (h:ut l=none):ze l=l:=by
 unfold ze
 cases hn:l.length with
 | zero=>rfl
 | succ n=>
   show (match ut l with | some r=>Zl n r | none=>l)=_
   rw [h]
theorem qkd (l:List UInt8):(ze l).length≤l.length:=by
 have :∀n l,(Zl n l).length≤l.length:=by
  intro n
  induction n with
  | zero=>exact fun _=>Nat.le_refl _
  | succ n ih=>
    intro l
    unfold Zl
    cases hs:ut l with
    | none=>exact Nat.le_refl _
    | some r=>
      have:=W8 l r hs
      exact Nat.le_trans (ih r) (by omega)
 exact this _ l
def wi (s:ByteArray) (k:Nat):Nat:=s.size - (ze (s.data.toList.drop k)).length
theorem len_bytes (s:ByteArray):s.data.toList.length=s.size:=Array.length_toList
theorem Kp:∀l:List UInt8,(Go.Lib.indexByte l 10= -1∧yy l=none)∨∃n:Nat,Go.Lib.indexByte l 10=n∧n < l.length∧yy l=some (l.drop (n+1))
 | []=> .inl ⟨rfl,rfl⟩
 | c ::l=>by
   have e:yy (c::l)=if c=10 then some l else yy l:=rfl
   have e2:Go.Lib.indexByte (c::l) 10=if c==10 then 0 else if Go.Lib.indexByte l 10== -1 then -1 else Go.Lib.indexByte l 10+1:=rfl
   by_cases h:c=10
   ·refine .inr ⟨0,?_,by simp,?_⟩
    ·rw [e2,if_pos (by simp [h])];rfl
    rw [e,if_pos h];rfl
   rw [e,e2,if_neg h,if_neg (by simpa using h)]
   rcases Kp l with ⟨h1,h2⟩ | ⟨n,h1,h2,h3⟩
   ·exact .inl ⟨by rw [h1];rfl,h2⟩
   refine .inr ⟨n+1,?_,by simp;omega,by rw [h3];rfl⟩
   rw [h1,if_neg (by simp)]
   omega
def Ko:List UInt8→Bool
 | c::d::_=>c==47 && d==47
 | _=>false
theorem Ze (c:UInt8) (r:List UInt8):ut (c::r)=if c=32∨c=9∨c=10 then some r else if c=47∧r.head? =some 47 then yy r else none:=rfl
theorem qbl (s:ByteArray) (k:Nat) (h:k < s.size):s.data.toList.drop k=s[k]::s.data.toList.drop (k+1):=by
 rw [List.drop_eq_getElem_cons (by rw [len_bytes];exact h)]
 rfl
theorem qnl (s:ByteArray) (k:Nat) (h:k < s.size) (hb:s[k]=32∨s[k]=9∨s[k]=10):wi s k=wi s (k+1):=by
 unfold wi
 rw [W3 _ (s.data.toList.drop (k+1)) (by rw [qbl s k h,Ze,if_pos hb])]
theorem qha (s:ByteArray) (k:Nat) (h:k≤s.size) (hn:ut (s.data.toList.drop k)=none):wi s k=k:=by
 unfold wi
 rw [qgu _ hn,List.length_drop,len_bytes]
 omega
theorem qfd (c:UInt8) (r:List UInt8):Ko (c::r)=true ↔ c=47∧r.head? =some 47:=by
 cases r with
 | nil=>simp [Ko]
 | cons d r=>simp [Ko]
theorem qpo (s:ByteArray) (k:Nat) (h:k < s.size) (hb:¬(s[k]=32∨s[k]=9∨s[k]=10)) (hs:Ko (s.data.toList.drop k)=false):wi s k=k:=by
 refine qha s k (by omega) ?_
 rw [qbl s k h] at hs ⊢
 rw [Ze,if_neg hb,if_neg]
 intro h2
 rw [(qfd _ _).2 h2] at hs
 cases hs
theorem qpp (s:ByteArray) (k:Nat) (h:k < s.size) (hs:Ko (s.data.toList.drop k)=true) (hi:Go.Lib.indexByte (s.data.toList.drop k) 10= -1):wi s k=k:=by
 refine qha s k (by omega) ?_
 rw [qbl s k h] at hs hi ⊢
 have h2:=(qfd _ _).1 hs
 rw [Ze,if_neg (by rw [h2.1];decide),if_pos h2]
 rcases Kp (s[k]::s.data.toList.drop (k+1)) with ⟨_,h4⟩ | ⟨n,h3,_⟩
 ·have e:yy (s[k]::s.data.toList.drop (k+1))=if s[k]=10 then some (s.data.toList.drop (k+1)) else yy (s.data.toList.drop (k+1)):=rfl
  rw [e,if_neg (by rw [h2.1];decide)] at h4
  exact h4
 rw [hi] at h3
 omega
theorem qpq (s:ByteArray) (k n:Nat) (h:k < s.size) (hs:Ko (s.data.toList.drop k)=true) (hi:Go.Lib.indexByte (s.data.toList.drop k) 10=n):k+n+1≤s.size∧wi s k=wi s (k+n+1):=by
 have hl:=len_bytes s
 rw [qbl s k h] at hs hi
 have h2:=(qfd _ _).1 hs
 rcases Kp (s[k]::s.data.toList.drop (k+1)) with ⟨h3,_⟩ | ⟨m,h3,h4,h5⟩
 ·rw [hi] at h3
  omega
 have hm:m=n:=by rw [hi] at h3;omega
 subst hm
 have h6:k+m+1≤s.size:=by
  simp only [List.length_cons,List.length_drop] at h4
  omega
 refine ⟨h6,?_⟩
 unfold wi
 rw [W3 _ (s.data.toList.drop (k+m+1))]
 rw [qbl s k h,Ze,if_neg (by rw [h2.1];decide),if_pos h2]
 have e:yy (s[k]::s.data.toList.drop (k+1))=if s[k]=10 then some (s.data.toList.drop (k+1)) else yy (s.data.toList.drop (k+1)):=rfl
 rw [e,if_neg (by rw [h2.1];decide)] at h5
 rw [h5]
 have e2:(s[k]::s.data.toList.drop (k+1))=s.data.toList.drop k:=(qbl s k h).symm
 rw [e2,List.drop_drop]
 congr 2
theorem qrq (s:ByteArray) (k:Nat) (h:k=s.size):wi s k=k:=by
 refine qha s k (by omega) ?_
 rw [List.drop_of_length_le (by rw [len_bytes];omega)]
 rfl
theorem qir (s:ByteArray) (k:Nat):(s.extract k s.size).data.toList=s.data.toList.drop k:=by
 rw [ByteArray.data_extract,Array.toList_extract,List.extract_eq_take_drop]
 rw [List.take_of_length_le (by rw [List.length_drop,len_bytes];exact Nat.le_refl _)]
def Zu (c:Int):Bool:=decide (97≤c∧c≤122∨65≤c∧c≤90∨c=95)
def ua (c:Int):Bool:=decide (48≤c∧c≤57)
def qsg:List (List UInt8):= [[102,110], [99,108,97,115,115], [99,111,110,115,116], [108,101,116], [114,101,116,117,114,110], [105,102], [101,108,115,101], [119,104,105,108,101], [110,101,119], [115,101,108,102], [116,114,117,101], [102,97,108,115,101]]
def qdj (l:List UInt8):Bool:=qsg.contains l
def J6:Nat→List UInt8→Bool
 | _, []=>true
 | i,c::r=>(Zu c.toNat || (i !=0 && ua c.toNat)) && J6 (i+1) r
def qbv (l:List UInt8):Bool:= !l.isEmpty && decide (l.length≤32) && !qdj l && J6 0 l
def js:Int→List UInt8→Option Int
 | n, []=>some n
 | n,c::r=>if ua c.toNat then js (n*10+((c.toNat:Int) - 48)) r else none
def Q5 (l:List UInt8):Bool:=
 !l.isEmpty && decide (l.length≤13) && !(decide (1 < l.length) && l.head? ==some 48) && (match js 0 l with | some n=>decide (n≤1000000000000) | none=>false)
end Go.Proofs.YtpnkemogepoioaaGreatDoorW.Plain
