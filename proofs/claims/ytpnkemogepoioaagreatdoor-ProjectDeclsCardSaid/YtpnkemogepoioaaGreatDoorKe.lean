/- Glue, the same in the program and in the reference; what is written behind a source. Conditions: those in each theorem. -/
import Derived.Test.YtpnkemogepoioaaGreatDoorYa
import Derived.Test.YtpnkemogepoioaaGreatDoorXEb
import Derived.Test.YtpnkemogepoioaaGreatDoorPlain
namespace Go.Proofs.YtpnkemogepoioaaGreatDoorW.Ex.Gr
open Go Go.Proofs.YtpnkemogepoioaaGreatDoorW.Ex Go.Proofs.YtpnkemogepoioaaGreatDoorW.Plain
set_option linter.all false
set_option maxRecDepth 100000
namespace Tk
theorem tt {α:Type} {A B:α}:(if (true=true) then A else B)=A:=rfl
theorem ff {α:Type} {A B:α}:(if (false=true) then A else B)=B:=rfl
@[reducible] def L (s:ByteArray):List UInt8:=s.data.toList
def ofB (l:List UInt8):ByteArray:=⟨l.toArray⟩
theorem q16 (s:ByteArray):ofB (L s)=s:=by rcases s with ⟨⟨l⟩⟩;rfl
theorem qpe (l:List UInt8):L (ofB l)=l:=rfl
theorem qfe (l:List UInt8):(ofB l).size=l.length:=rfl
theorem qfn (s:ByteArray):(L s).length=s.size:=Array.length_toList
theorem q0j {a b:ByteArray} (h:L a=L b):a=b:=by rw [←q16 a,←q16 b,h]
theorem q3t {s:ByteArray} {k:Nat} {c:UInt8} (h:(L s)[k]? =some c):sx s (k:Int)=some (c.toNat:Int):=by
 unfold sx
 rw [if_pos (Int.natCast_nonneg k),Int.toNat_natCast]
 obtain ⟨hk,rfl⟩:=List.getElem?_eq_some_iff.1 h
 have hk':k < s.size:=by rw [←qfn];exact hk
 rw [getElem?_pos s k hk',Option.map_some];rfl
theorem qpr {s:ByteArray} {k:Nat} {c:UInt8} {r:List UInt8} (h:(L s).drop k=c::r):sx s (k:Int)=some (c.toNat:Int):=by
 refine q3t ?_
 have:=congrArg List.head? h
 rwa [List.head?_drop] at this
theorem q1d {s:ByteArray} {k:Nat} {c:UInt8} {r:List UInt8} (h:(L s).drop k=c::r):k < s.size∧(L s).drop (k+1)=r:=by
 have hl:=congrArg List.length h
 rw [List.length_drop,qfn,List.length_cons] at hl
 refine ⟨by omega,?_⟩
 rw [←List.drop_drop,h];rfl
theorem drop_nil {s:ByteArray} {k:Nat} (h:(L s).drop k= []):s.size≤k:=by
 have hl:=congrArg List.length h
 rw [List.length_drop,qfn,List.length_nil] at hl
 omega
theorem qf9 {s:ByteArray} {a b:Nat} (h:a≤b) (hb:b≤s.size):ssub s (a:Int) (b:Int)=some (ofB (((L s).drop a).take (b - a))):=by
 unfold ssub
 rw [if_pos ⟨by omega,by omega,by omega⟩,Int.toNat_natCast,Int.toNat_natCast]
 congr 1
 apply q0j
 rw [qpe]
 show (s.extract a b).data.toList=_
 rw [ByteArray.data_extract,Array.toList_extract,List.extract_eq_take_drop]
def q2y:List UInt8:= [40,41,123,125,44,59,58,46,61,60,43,45,42,47,33,38,124]
def digC (c:UInt8):Bool:=ua c.toNat
def letC (c:UInt8):Bool:=ua c.toNat || Zu c.toNat
def qfk (c:UInt8):Bool:=q2y.any (fun d=>decide (d=c))
def cls (c:UInt8):Int:=if digC c=true then 1 else if letC c=true then 2 else if qfk c=true then 3 else 0
theorem qov:∀(l:List UInt8) (c:UInt8),decide (0≤Lib.indexByte l c)=l.any (fun d=>decide (d=c))
 | [],c=>rfl
 | d::l,c=>by
   have ih:=qov l c
   rw [Lib.indexByte,List.any_cons]
   by_cases h:d=c
   ·simp [h]
   have hb:(d==c)=false:=by simpa using h
   rw [decide_eq_false h,Bool.false_or,←ih,hb]
   have:=Lib.indexByte_ge l c
   by_cases h2:Lib.indexByte l c= -1
   ·rw [h2];rfl
   have hb2:(Lib.indexByte l c== -1)=false:=by simpa using h2
   rw [hb2]
   rw [decide_eq_decide]
   simp only [Bool.false_eq_true,if_false];omega
theorem qi2 (c:UInt8):Zh (c.toNat:Int)=some (cls c):=by
 rw [Zh.eq_def]
 unfold yc
 have hm:decide (0≤Lib.indexByte (L (⟨#[40,41,123,125,44,59,58,46,61,60,43,45,42,47,33,38,124]⟩:ByteArray)) ((c.toNat:Int).toNat.toUInt8))=qfk c:=by
  rw [Int.toNat_natCast,qov]
  have:c.toNat.toUInt8=c:=UInt8.toNat_inj.1 (by simp)
  rw [this];rfl
 simp only [bs,hm,yi.eq_def]
 unfold cls letC digC ua Zu
 generalize qfk c=m
 have hn:=c.toNat_lt
 generalize c.toNat=n at hn
 clear hm hn
 simp only [Bool.or_eq_true,decide_eq_true_eq]
 cases m <;> simp only [Bool.false_eq_true,if_false,if_true] <;> (repeat' split) <;> first | rfl | omega | (exact yi.eq_def) | (trace_state;omega)
theorem q1r (c:UInt8):Jc (c.toNat:Int)=some (letC c):=by
 rw [Jc.eq_def,qi2,bs]
 unfold cls letC digC
 cases ua c.toNat <;> cases Zu c.toNat <;> cases qfk c <;> simp [bs]
end Tk
end Go.Proofs.YtpnkemogepoioaaGreatDoorW.Ex.Gr
