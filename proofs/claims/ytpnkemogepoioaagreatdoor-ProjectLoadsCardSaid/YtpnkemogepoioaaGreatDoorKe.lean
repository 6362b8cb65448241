/- Lines and groups of kinds, as print uses them. Conditions: those in each theorem. Glue, the same in the program and in the reference; what is written behind a source. Conditions: those in each theorem. -/
import Derived.Test.YtpnkemogepoioaaGreatDoorXLb
import Derived.Test.YtpnkemogepoioaaGreatDoorYa
import Derived.Test.YtpnkemogepoioaaGreatDoorPlain
namespace Go.Proofs.YtpnkemogepoioaaGreatDoorW.Ex.Gr
open Go Go.Proofs.YtpnkemogepoioaaGreatDoorW.Ex
set_option linter.all false
set_option maxRecDepth 100000
theorem qm2 (c:UInt8):∀n:Nat,Lib.repeatL [c] n=List.replicate n c
 | 0=>rfl
 | n+1=>by rw [Lib.repeatL,qm2 c n];rfl
theorem q9l {a b:BA} (h:a.size+b.size≤1000000000000):cat a b=some (a++b):=by unfold cat;rw [if_pos (by omega)]
theorem qwd (a b:List UInt8):((⟨a.toArray⟩:BA)++(⟨b.toArray⟩:BA))=⟨(a++b).toArray⟩:=by
 apply ByteArray.ext
 rw [ByteArray.data_append,List.append_toArray]
theorem qz4 (v:Int) (h0:0≤v) (h1:v≤1000000):K7 v=some (q4f v):=by
 have e:J6 (⟨#[9]⟩:BA) v=some (⟨(List.replicate v.toNat 9).toArray⟩:BA):=by
  unfold J6
  rw [if_pos ⟨h0,by omega,by show (1:Nat)*v.toNat≤_;omega⟩]
  rw [show (⟨#[9]⟩:BA).data.toList= [9] from rfl,qm2]
 rw [K7.eq_def,e,bs,q9l,bs]
 ·exact congrArg some (qwd [10] (List.replicate v.toNat 9))
 show (1:Nat)+(List.replicate v.toNat 9).toArray.size≤_
 rw [List.size_toArray,BX];omega
theorem q4x {k:Int} (h:known k=true):Yr k=some (yo k):=by
 unfold known at h
 simp only [An,decide_eq_true_eq] at h
 have:k=1∨k=2∨k=3∨k=4∨k=5∨k=6∨k=7∨k=8∨k=9∨k=10∨k=11∨k=12∨k=13∨k=14∨k=15∨k=16∨k=17∨k=18∨k=19∨k=20∨k=21∨k=22∨k=23∨k=24∨k=25∨k=26:=by omega
 rcases this with rfl | rfl | rfl | rfl | rfl | rfl | rfl | rfl | rfl | rfl | rfl | rfl | rfl | rfl | rfl | rfl | rfl | rfl | rfl | rfl | rfl | rfl | rfl | rfl | rfl | rfl <;> rfl
end Go.Proofs.YtpnkemogepoioaaGreatDoorW.Ex.Gr

namespace Go.Proofs.YtpnkemogepoioaaGreatDoorW.Ex.Gr
open Go Go.Proofs.YtpnkemogepoioaaGreatDoorW.Ex Go.Proofs.YtpnkemogepoioaaGreatDoorW.Plain
set_option linter.all false
set_option maxRecDepth 100000
namespace Tk
theorem tt {α:Type} {A B:α}:(if (true=true) then A else B)=A:=rfl
theorem ff {α:Type} {A B:α}:(if (false=true) then A else B)=B:=rfl
theorem nff {α:Type} {A B:α}:(if ((!true)=true) then A else B)=B:=rfl
@[reducible] def L (s:ByteArray):List UInt8:=s.data.toList
def ofB (l:List UInt8):ByteArray:=⟨l.toArray⟩
theorem q4a (s:ByteArray):ofB (L s)=s:=by rcases s with ⟨⟨l⟩⟩;rfl
theorem qd3 (l:List UInt8):L (ofB l)=l:=rfl
theorem qhk (l:List UInt8):(ofB l).size=l.length:=rfl
theorem Y5 (s:ByteArray):(L s).length=s.size:=AY
theorem q1a {a b:ByteArray} (h:L a=L b):a=b:=by rw [←q4a a,←q4a b,h]
theorem q70 {s:ByteArray} {k:Nat} {c:UInt8} (h:(L s)[k]? =some c):sx s (k:Int)=some (c.toNat:Int):=by
 unfold sx
 rw [if_pos (BL k),Bj]
 obtain ⟨hk,rfl⟩:=Ah.1 h
 have hk':k < s.size:=by rw [←Y5];exact hk
 rw [getElem?_pos s k hk',Ba];rfl
theorem qnu {s:ByteArray} {k:Nat} {c:UInt8} {r:List UInt8} (h:(L s).drop k=c::r):sx s (k:Int)=some (c.toNat:Int):=by
 refine q70 ?_
 have:=congrArg List.head? h
 rwa [List.head?_drop] at this
theorem q68 {s:ByteArray} {k:Nat} {c:UInt8} {r:List UInt8} (h:(L s).drop k=c::r):k < s.size∧(L s).drop (k+1)=r:=by
 have hl:=congrArg List.length h
 rw [BH,Y5,Ae] at hl
 refine ⟨by omega,?_⟩
 rw [←List.drop_drop,h];rfl
theorem drop_nil {s:ByteArray} {k:Nat} (h:(L s).drop k= []):s.size≤k:=by
 have hl:=congrArg List.length h
 rw [BH,Y5,Ar] at hl
 omega
theorem qf2 {s:ByteArray} {a b:Nat} (h:a≤b) (hb:b≤s.size):ssub s (a:Int) (b:Int)=some (ofB (((L s).drop a).take (b - a))):=by
 unfold ssub
 rw [if_pos ⟨by omega,by omega,by omega⟩,Bj,Bj]
 congr 1
 apply q1a
 rw [qd3]
 show (s.extract a b).data.toList=_
 rw [Ca,Ch,B2]
def q85:List UInt8:= [40,41,123,125,44,59,58,46,61,60,43,45,42,47,33,38,124]
def digC (c:UInt8):Bool:=vo c.toNat
def letC (c:UInt8):Bool:=vo c.toNat || Yc c.toNat
def qe7 (c:UInt8):Bool:=q85.any (fun d=>decide (d=c))
def cls (c:UInt8):Int:=if digC c=true then 1 else if letC c=true then 2 else if qe7 c=true then 3 else 0
theorem qsm:∀(l:List UInt8) (c:UInt8),decide (0≤Lib.indexByte l c)=l.any (fun d=>decide (d=c))
 | [],c=>rfl
 | d::l,c=>by
   have ih:=qsm l c
   rw [Lib.indexByte,List.any_cons]
   by_cases h:d=c
   ·simp [h]
   have hb:(d==c)=false:=by simpa using h
   rw [decide_eq_false h,BC,←ih,hb]
   have:=Lib.indexByte_ge l c
   by_cases h2:Lib.indexByte l c= -1
   ·rw [h2];rfl
   have hb2:(Lib.indexByte l c== -1)=false:=by simpa using h2
   rw [hb2]
   rw [decide_eq_decide]
   simp only [AA,if_false];omega
theorem qlh (c:UInt8):Jp (c.toNat:Int)=some (cls c):=by
 rw [Jp.eq_def]
 unfold y4
 have hm:decide (0≤Lib.indexByte (L (⟨#[40,41,123,125,44,59,58,46,61,60,43,45,42,47,33,38,124]⟩:ByteArray)) ((c.toNat:Int).toNat.toUInt8))=qe7 c:=by
  rw [Bj,qsm]
  have:c.toNat.toUInt8=c:=B8.1 (by simp)
  rw [this];rfl
 simp only [bs,hm,kj.eq_def]
 unfold cls letC digC vo Yc
 generalize qe7 c=m
 have hn:=c.toNat_lt
 generalize c.toNat=n at hn
 clear hm hn
 simp only [Bp,decide_eq_true_eq]
 cases m <;> simp only [AA,if_false,if_true] <;> (repeat' split) <;> first | rfl | omega | (exact kj.eq_def) | (trace_state;omega)
theorem q04 (c:UInt8):Zj (c.toNat:Int)=some (letC c):=by
 rw [Zj.eq_def,qlh,bs]
 unfold cls letC digC
 cases vo c.toNat <;> cases Yc c.toNat <;> cases qe7 c <;> simp [bs]
def qwr (a b:List UInt8):Bool:=
 if a= []∨b= [] then false
 else if letC (a.getLastD 0)=true∧letC (b.headD 0)=true then true
 else (decide (a= [61]) && (decide (b= [61]) || decide (b= [61,61]))) || (decide (a= [47]) && decide (b= [47]))
theorem qgb (s:ByteArray) (l:List UInt8):decide (s=⟨l.toArray⟩)=decide (L s=l):=by
 rw [decide_eq_decide]
 constructor
 ·rintro rfl;rfl
 intro h;exact q1a h
theorem q6g {s:ByteArray} (h:L s≠ []) (hs:s.size≤9223372036854775807):sx s (IntKind.i64.wrap ((s.size:Int) - 1))=some (((L s).getLastD 0).toNat:Int):=by
 have hl:=Y5 s
 have h0:0 < s.size:=by rw [←hl];exact B4.2 h
 rw [we (by omega) (by omega),show (s.size:Int) - 1=((s.size - 1:Nat):Int) by omega]
 refine q70 ?_
 rw [←hl,List.getLastD_eq_getLast?,←List.getLast?_eq_getElem?]
 cases e:(L s).getLast? with
 | none=>exact absurd (List.getLast?_eq_none_iff.1 e) h
 | some c=>rfl
def ql2 (last g w:List UInt8):Bool:=if g= [] then qwr last w else decide (last= [47]) && decide (g.head? =some 47)
def outL (s last g w:List UInt8):List UInt8:=s++((if ql2 last g w=true then [32] else [])++(g++w))
end Tk
end Go.Proofs.YtpnkemogepoioaaGreatDoorW.Ex.Gr
