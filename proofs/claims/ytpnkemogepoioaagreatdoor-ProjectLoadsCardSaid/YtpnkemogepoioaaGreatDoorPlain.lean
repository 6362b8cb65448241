/- Plain words on bytes: what the trivia at the begin of a text is, what a name is, what an integer of the language is. No program in sight; no conditions beside those in each theorem. -/
import Derived.Lib.Bytealg
namespace Go.Proofs.YtpnkemogepoioaaGreatDoorW.Plain
set_option linter.all false
open Go
def wh:List UInt8→Option (List UInt8)
 | []=>none
 | c::r=>if c=10 then some r else wh r
theorem qeb:∀(l r:List UInt8),wh l=some r→r.length < l.length
 | [],r,h=>by simp [wh] at h
 | c ::l,r,h=>by
   have e:wh (c::l)=if c=10 then some l else wh l:=rfl
   rw [e] at h
   split at h
   ·simp only [Option.some.injEq] at h
    subst h
    simp
   have:=qeb l r h
   simp only [List.length_cons]
   omega
def Qf:List UInt8→Option (List UInt8)
 | []=>none
 | c::r=>if c=32∨c=9∨c=10 then some r else if c=47∧r.head? =some 47 then wh r else none
theorem qbz (l r:List UInt8) (h:Qf l=some r):r.length < l.length:=by
 cases l with
 | nil=>simp [Qf] at h
 | cons c l=>
   have e:Qf (c::l)=if c=32∨c=9∨c=10 then some l else if c=47∧l.head? =some 47 then wh l else none:=rfl
   rw [e] at h
   split at h
   ·simp only [Option.some.injEq] at h
    subst h
    simp
   split at h
   ·have:=qeb l r h
    simp only [List.length_cons]
    omega
   cases h
def Ju:Nat→List UInt8→List UInt8
 | 0,l=>l
 | n+1,l=>match Qf l with | some r=>Ju n r | none=>l
def zk (l:List UInt8):List UInt8:=Ju l.length l
theorem qkj:∀(n m:Nat) (l:List UInt8),l.length≤n→l.length≤m→Ju n l=Ju m l
 | 0,0,l,_,_=>rfl
 | 0,m+1,l,h,_=>by
   obtain rfl:l= []:=List.length_eq_zero_iff.1 (by omega)
   rfl
 | n+1,0,l,_,h=>by
   obtain rfl:l= []:=List.length_eq_zero_iff.1 (by omega)
   rfl
 | n +1,m+1,l,h1,h2=>by
   unfold Ju
   cases hs:Qf l with
   | none=>rfl
   | some r=>
     have:=qbz l r hs
     exact qkj n m r (by omega) (by omega)
theorem qbt (l r:List UInt8) (h:Qf l=some r):zk l=zk r:=by
 have:=qbz l r h
 unfold zk
 obtain ⟨n,hn⟩:∃n,l.length=n+1:=⟨l.length - 1,by omega⟩
 rw [hn]
 show (match Qf l with | some r=>Ju n r | none=>l)=_
 rw [h]
 exact qkj _ _ _ (by omega) (Nat.le_refl _)
theorem qi4 (l:List UInt8) (h:Qf l=none):zk l=l:=by
 unfold zk
 cases hn:l.length with
 | zero=>rfl
 | succ n=>
   show (match Qf l with | some r=>Ju n r | none=>l)=_
   rw [h]
theorem qhg (l:List UInt8):(zk l).length≤l.length:=by
 have :∀n l,(Ju n l).length≤l.length:=by
  intro n
  induction n with
  | zero=>exact fun _=>Nat.le_refl _
  | succ n ih=>
    intro l
    unfold Ju
    cases hs:Qf l with
    | none=>exact Nat.le_refl _
    | some r=>
      have:=qbz l r hs
      exact Nat.le_trans (ih r) (by omega)
 exact this _ l
def uk (s:ByteArray) (k:Nat):Nat:=s.size - (zk (s.data.toList.drop k)).length
theorem len_bytes (s:ByteArray):s.data.toList.length=s.size:=Array.length_toList
theorem qah:∀l:List UInt8,(Go.Lib.indexByte l 10= -1∧wh l=none)∨∃n:Nat,Go.Lib.indexByte l 10=n∧n < l.length∧wh l=some (l.drop (n+1))
 | []=> .inl ⟨rfl,rfl⟩
 | c ::l=>by
   have e:wh (c::l)=if c=10 then some l else wh l:=rfl
   have e2:Go.Lib.indexByte (c::l) 10=if c==10 then 0 else if Go.Lib.indexByte l 10== -1 then -1 else Go.Lib.indexByte l 10+1:=rfl
   by_cases h:c=10
   ·refine .inr ⟨0,?_,by simp,?_⟩
    ·rw [e2,if_pos (by simp [h])];rfl
    rw [e,if_pos h];rfl
   rw [e,e2,if_neg h,if_neg (by simpa using h)]
   rcases qah l with ⟨h1,h2⟩ | ⟨n,h1,h2,h3⟩
   ·exact .inl ⟨by rw [h1];rfl,h2⟩
   refine .inr ⟨n+1,?_,by simp;omega,by rw [h3];rfl⟩
   rw [h1,if_neg (by simp)]
   omega
def qag:List UInt8→Bool
 | c::d::_=>c==47 && d==47
 | _=>false
theorem Jl (c:UInt8) (r:List UInt8):Qf (c::r)=if c=32∨c=9∨c=10 then some r else if c=47∧r.head? =some 47 then wh r else none:=rfl
theorem qdg (s:ByteArray) (k:Nat) (h:k < s.size):s.data.toList.drop k=s[k]::s.data.toList.drop (k+1):=by
 rw [List.drop_eq_getElem_cons (by rw [len_bytes];exact h)]
 rfl
theorem qq8 (s:ByteArray) (k:Nat) (h:k < s.size) (hb:s[k]=32∨s[k]=9∨s[k]=10):uk s k=uk s (k+1):=by
 unfold uk
 rw [qbt _ (s.data.toList.drop (k+1)) (by rw [qdg s k h,Jl,if_pos hb])]
theorem qjj (s:ByteArray) (k:Nat) (h:k≤s.size) (hn:Qf (s.data.toList.drop k)=none):uk s k=k:=by
 unfold uk
 rw [qi4 _ hn,List.length_drop,len_bytes]
 omega
theorem qhj (c:UInt8) (r:List UInt8):qag (c::r)=true ↔ c=47∧r.head? =some 47:=by
 cases r with
 | nil=>simp [qag]
 | cons d r=>simp [qag]
theorem qtf (s:ByteArray) (k:Nat) (h:k < s.size) (hb:¬(s[k]=32∨s[k]=9∨s[k]=10)) (hs:qag (s.data.toList.drop k)=false):uk s k=k:=by
 refine qjj s k (by omega) ?_
 rw [qdg s k h] at hs ⊢
 rw [Jl,if_neg hb,if_neg]
 intro h2
 rw [(qhj _ _).2 h2] at hs
 cases hs
theorem qtg (s:ByteArray) (k:Nat) (h:k < s.size) (hs:qag (s.data.toList.drop k)=true) (hi:Go.Lib.indexByte (s.data.toList.drop k) 10= -1):uk s k=k:=by
 refine qjj s k (by omega) ?_
 rw [qdg s k h] at hs hi ⊢
 have h2:=(qhj _ _).1 hs
 rw [Jl,if_neg (by rw [h2.1];decide),if_pos h2]
 rcases qah (s[k]::s.data.toList.drop (k+1)) with ⟨_,h4⟩ | ⟨n,h3,_⟩
 ·have e:wh (s[k]::s.data.toList.drop (k+1))=if s[k]=10 then some (s.data.toList.drop (k+1)) else wh (s.data.toList.drop (k+1)):=rfl
  rw [e,if_neg (by rw [h2.1];decide)] at h4
  exact h4
 rw [hi] at h3
 omega
theorem qth (s:ByteArray) (k n:Nat) (h:k < s.size) (hs:qag (s.data.toList.drop k)=true) (hi:Go.Lib.indexByte (s.data.toList.drop k) 10=n):k+n+1≤s.size∧uk s k=uk s (k+n+1):=by
 have hl:=len_bytes s
 rw [qdg s k h] at hs hi
 have h2:=(qhj _ _).1 hs
 rcases qah (s[k]::s.data.toList.drop (k+1)) with ⟨h3,_⟩ | ⟨m,h3,h4,h5⟩
 ·rw [hi] at h3
  omega
 have hm:m=n:=by rw [hi] at h3;omega
 subst hm
 have h6:k+m+1≤s.size:=by
  simp only [List.length_cons,List.length_drop] at h4
  omega
 refine ⟨h6,?_⟩
 unfold uk
 rw [qbt _ (s.data.toList.drop (k+m+1))]
 rw [qdg s k h,Jl,if_neg (by rw [h2.1];decide),if_pos h2]
 have e:wh (s[k]::s.data.toList.drop (k+1))=if s[k]=10 then some (s.data.toList.drop (k+1)) else wh (s.data.toList.drop (k+1)):=rfl
 rw [e,if_neg (by rw [h2.1];decide)] at h5
 rw [h5]
 have e2:(s[k]::s.data.toList.drop (k+1))=s.data.toList.drop k:=(qdg s k h).symm
 rw [e2,List.drop_drop]
 congr 2
theorem qvn (s:ByteArray) (k:Nat) (h:k=s.size):uk s k=k:=by
 refine qjj s k (by omega) ?_
 rw [List.drop_of_length_le (by rw [len_bytes];omega)]
 rfl
theorem qk8 (s:ByteArray) (k:Nat):(s.extract k s.size).data.toList=s.data.toList.drop k:=by
 rw [ByteArray.data_extract,Array.toList_extract,List.extract_eq_take_drop]
 rw [List.take_of_length_le (by rw [List.length_drop,len_bytes];exact Nat.le_refl _)]
def Yc (c:Int):Bool:=decide (97≤c∧c≤122∨65≤c∧c≤90∨c=95)
def vo (c:Int):Bool:=decide (48≤c∧c≤57)
def qwj:List (List UInt8):= [[102,110], [99,108,97,115,115], [99,111,110,115,116], [108,101,116], [114,101,116,117,114,110], [105,102], [101,108,115,101], [119,104,105,108,101], [110,101,119], [115,101,108,102], [116,114,117,101], [102,97,108,115,101]]
def qfa (l:List UInt8):Bool:=qwj.contains l
def Kx:Nat→List UInt8→Bool
 | _, []=>true
 | i,c::r=>(Yc c.toNat || (i !=0 && vo c.toNat)) && Kx (i+1) r
def qal (l:List UInt8):Bool:= !l.isEmpty && decide (l.length≤32) && !qfa l && Kx 0 l
def yj:Int→List UInt8→Option Int
 | n, []=>some n
 | n,c::r=>if vo c.toNat then yj (n*10+((c.toNat:Int) - 48)) r else none
def Qg (l:List UInt8):Bool:=
 !l.isEmpty && decide (l.length≤13) && !(decide (1 < l.length) && l.head? ==some 48) && (match yj 0 l with | some n=>decide (n≤1000000000000) | none=>false)
end Go.Proofs.YtpnkemogepoioaaGreatDoorW.Plain
