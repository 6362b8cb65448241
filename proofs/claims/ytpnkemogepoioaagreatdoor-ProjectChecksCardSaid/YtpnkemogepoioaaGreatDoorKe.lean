/- Glue, the same in the program and in the reference; what is written behind a source. Conditions: those in each theorem. -/
import Derived.Test.YtpnkemogepoioaaGreatDoorYa
import Derived.Test.YtpnkemogepoioaaGreatDoorXCc
import Derived.Test.YtpnkemogepoioaaGreatDoorPlain
namespace Go.Proofs.YtpnkemogepoioaaGreatDoorW.Ex.Gr
open Go Go.Proofs.YtpnkemogepoioaaGreatDoorW.Ex Go.Proofs.YtpnkemogepoioaaGreatDoorW.Plain
set_option linter.all false
set_option maxRecDepth 100000
namespace Tk
theorem tt {α:Type} {A B:α}:(if (true=true) then A else B)=A:=rfl
theorem ff {α:Type} {A B:α}:(if (false=true) then A else B)=B:=rfl
theorem nff {α:Type} {A B:α}:(if ((!true)=true) then A else B)=B:=rfl
theorem ntt {α:Type} {A B:α}:(if ((!false)=true) then A else B)=A:=rfl
@[reducible] def L (s:ByteArray):List UInt8:=s.data.toList
def ofB (l:List UInt8):ByteArray:=⟨l.toArray⟩
theorem q9z (s:ByteArray):ofB (L s)=s:=by rcases s with ⟨⟨l⟩⟩;rfl
theorem qn9 (l:List UInt8):L (ofB l)=l:=rfl
theorem qdh (l:List UInt8):(ofB l).size=l.length:=rfl
theorem qbt (s:ByteArray):(L s).length=s.size:=Bc
theorem q79 {a b:ByteArray} (h:L a=L b):a=b:=by rw [←q9z a,←q9z b,h]
theorem zbt {s:ByteArray} {k:Nat} {c:UInt8} (h:(L s)[k]? =some c):sx s (k:Int)=some (c.toNat:Int):=by
 unfold sx
 rw [if_pos (BV k),Bi]
 obtain ⟨hk,rfl⟩:=Ai.1 h
 have hk':k < s.size:=by rw [←qbt];exact hk
 rw [getElem?_pos s k hk',AP];rfl
theorem qbn {s:ByteArray} {k:Nat} {c:UInt8} {r:List UInt8} (h:(L s).drop k=c::r):sx s (k:Int)=some (c.toNat:Int):=by
 refine zbt ?_
 have:=congrArg List.head? h
 rwa [List.head?_drop] at this
theorem qnt {s:ByteArray} {k:Nat} {c:UInt8} {r:List UInt8} (h:(L s).drop k=c::r):k < s.size∧(L s).drop (k+1)=r:=by
 have hl:=congrArg List.length h
 rw [Bb,qbt,Af] at hl
 refine ⟨by omega,?_⟩
 rw [←BS,h];rfl
theorem drop_nil {s:ByteArray} {k:Nat} (h:(L s).drop k= []):s.size≤k:=by
 have hl:=congrArg List.length h
 rw [Bb,qbt,Ao] at hl
 omega
theorem qdc {s:ByteArray} {a b:Nat} (h:a≤b) (hb:b≤s.size):ssub s (a:Int) (b:Int)=some (ofB (((L s).drop a).take (b - a))):=by
 unfold ssub
 rw [if_pos ⟨by omega,by omega,by omega⟩,Bi,Bi]
 congr 1
 apply q79
 rw [qn9]
 show (s.extract a b).data.toList=_
 rw [Cb,Ch,B1]
def q6l:List UInt8:= [40,41,123,125,44,59,58,46,61,60,43,45,42,47,33,38,124]
def digC (c:UInt8):Bool:=ye c.toNat
def letC (c:UInt8):Bool:=ye c.toNat || wc c.toNat
def qff (c:UInt8):Bool:=q6l.any (fun d=>decide (d=c))
def cls (c:UInt8):Int:=if digC c=true then 1 else if letC c=true then 2 else if qff c=true then 3 else 0
theorem quz:∀(l:List UInt8) (c:UInt8),decide (0≤Lib.indexByte l c)=l.any (fun d=>decide (d=c))
 | [],c=>rfl
 | d::l,c=>by
   have ih:=quz l c
   rw [Lib.indexByte,B8]
   by_cases h:d=c
   ·simp [h]
   have hb:(d==c)=false:=by simpa using h
   rw [decide_eq_false h,Bn,←ih,hb]
   have:=Lib.indexByte_ge l c
   by_cases h2:Lib.indexByte l c= -1
   ·rw [h2];rfl
   have hb2:(Lib.indexByte l c== -1)=false:=by simpa using h2
   rw [hb2]
   rw [decide_eq_decide]
   simp only [Aq,if_false];omega
theorem qn2 (c:UInt8):Yl (c.toNat:Int)=some (cls c):=by
 rw [Yl.eq_def]
 unfold kh
 have hm:decide (0≤Lib.indexByte (L (⟨#[40,41,123,125,44,59,58,46,61,60,43,45,42,47,33,38,124]⟩:ByteArray)) ((c.toNat:Int).toNat.toUInt8))=qff c:=by
  rw [Bi,quz]
  have:c.toNat.toUInt8=c:=BF.1 (by simp)
  rw [this];rfl
 simp only [bs,hm,kq.eq_def]
 unfold cls letC digC ye wc
 generalize qff c=m
 have hn:=c.toNat_lt
 generalize c.toNat=n at hn
 clear hm hn
 simp only [Bu,decide_eq_true_eq]
 cases m <;> simp only [Aq,if_false,if_true] <;> (repeat' split) <;> first | rfl | omega | (exact kq.eq_def) | (trace_state;omega)
theorem q9n (c:UInt8):Ky (c.toNat:Int)=some (letC c):=by
 rw [Ky.eq_def,qn2,bs]
 unfold cls letC digC
 cases ye c.toNat <;> cases wc c.toNat <;> cases qff c <;> simp [bs]
end Tk
end Go.Proofs.YtpnkemogepoioaaGreatDoorW.Ex.Gr
