/- Strings: the library's functions, trivia and names, in the program and in the references. No conditions beside those in each theorem. -/
import Derived.Test.YtpnkemogepoioaaGreatDoorExF
import Derived.Test.YtpnkemogepoioaaGreatDoorPlain
import Derived.LoopTactic
import Derived.WalkKit
import Derived.KernelRfl
namespace Go.Proofs.YtpnkemogepoioaaGreatDoorW.Ex.Gr
open Go Go.Proofs.YtpnkemogepoioaaGreatDoorW.Ex
set_option linter.all false
set_option maxRecDepth 100000
open Go.Proofs.YtpnkemogepoioaaGreatDoorW.Plain Go.RowKit
variable {G:Nat→List AV}
theorem qgg {k:IntKind} {a b:Int} (h:a=b):AV.int k a=AV.int k b:=by rw [h]
theorem Y6 {a b:Bool} (h:a=b):AV.bool a=AV.bool b:=by rw [h]
theorem we {x:Int} (h0: -9223372036854775808≤x) (h1:x≤9223372036854775807):IntKind.i64.wrap x=x:=by
 have hb:IntKind.i64.bits=64:=rfl
 have hs:IntKind.i64.signed=true:=rfl
 simp only [IntKind.wrap,hb,hs,Bv]
 split <;> rename_i h <;> simp at h <;> omega
section
variable {w:World} {S:Nat→Prop} {β:Nat→Nat} {n:Nat} {vs:Array Value}
theorem qtd {s:ByteArray} (h:RVs w S β n [.str s] vs):vs= #[.string s]:=by
 obtain ⟨h1,h2⟩:=h
 have a:=h2 0 _ rfl
 have e:vs= #[vs.getD 0 Go.undef]:=by
  apply Array.ext
  ·simpa using h1
  intro i h3 h4
  have hi:i < 1:=by simpa using h4
  obtain rfl:i=0:=by omega
  simp [Ag,h3]
 generalize vs.getD 0 Go.undef=v at a e
 cases a
 exact e
theorem qoj {s:ByteArray} {k:IntKind} {m:Int} (h:RVs w S β n [.str s, .int k m] vs):vs= #[.string s, .int k m]:=by
 obtain ⟨h1,h2⟩:=h
 have a:=h2 0 _ rfl
 have b:=h2 1 _ rfl
 have e:=two vs h1
 generalize vs.getD 0 Go.undef=v at a e
 generalize vs.getD 1 Go.undef=u at b e
 cases a
 cases b
 exact e
end
theorem qx4 (a0:ByteArray) (a1:Int) (w:World):Calls Tryz.prog 174 #[.string a0, .int .u8 a1] w fun e w'=>e= .returned (.int .i64 (Lib.indexByte a0.data.toList a1.toNat.toUInt8))∧w'=w:=by
 go_enter Tryz.func174,Tryz.ntmps174
 go_wp2
 rw [run_callFunc_extern Tryz.func189 (by kernel_rfl) (by kernel_rfl) (by kernel_rfl) (e:=Extern.BytealgIndexByte.indexByte) (by kernel_rfl),Lib.run_indexByteString]
 simp only [Result.andThen]
 rw [Oper.upon_value]
 go_wp2
 go_ret
 exact ⟨rfl,rfl⟩
theorem qg6 (s:ByteArray) (c:Int):Fn Tryz.prog G 174 [.str s, .int .u8 c] (.int .i64 (Lib.indexByte s.data.toList c.toNat.toUInt8)):=
 qcd (fun vs w=>by simp) fun w S β n vs hv=>by
  rw [qoj hv]
  refine (qx4 s c w).mono ?_
  rintro e w' ⟨rfl,rfl⟩
  exact ⟨⟨_,rfl,fun _ _ _=> .int _ _⟩,Below.refl _ _⟩
set_option maxHeartbeats 4000000 in
theorem qea (s:ByteArray) (c:Int):Fn Tryz.prog G 147 [.str s, .int .u8 c] (.int .i64 (Lib.indexByte s.data.toList c.toNat.toUInt8)):=by
 refine z8 (T:=tt) (N:=8) (rs:= [.tmp 4]) (fun vs w=>by simp) Tryz.func147 rfl rfl rfl rfl (by kernel_rfl) (jo rfl) (zf _ rfl) ?_
 repeat' first
  | refine ky env rfl ?_
  | refine qn (qg6 _ _) ?_
  | refine qr (fun h=> ?_) (fun h=> ?_)
  | refine q9 (fun h=> ?_) (fun h=> ?_)
  | refine qe (fun h=> ?_) (fun h=> ?_)
  | refine yg env rfl rfl (zl ?_)
  | refine jp env rfl (zl ?_)
 all_goals rfl
theorem q3d (b c:UInt8):decide ((b.toNat:Int)=(c.toNat:Int))=decide (b=c):=by
 rw [decide_eq_decide]
 constructor
 ·intro h;exact B8.1 (by omega)
 rintro rfl;rfl
def Z8 (s p:ByteArray):Bool:=decide (p.size≤s.size) && decide (s.extract 0 p.size=p)
theorem qv7 (s:ByteArray) (k:Nat) (h:k≤s.size):Z8 (s.extract k s.size) (⟨#[47,47]⟩:ByteArray)=qag (s.data.toList.drop k):=by
 have hd:=qk8 s k
 generalize s.extract k s.size=t at*
 have ht:t.data.toList.length=t.size:=len_bytes t
 rw [←hd]
 unfold Z8
 have h2:(⟨#[47,47]⟩:ByteArray).size=2:=rfl
 rw [h2]
 have e:∀u:ByteArray,(u=⟨#[47,47]⟩)=(u.data.toList= [47,47]):=by
  intro u
  apply propext
  constructor
  ·rintro rfl;rfl
  intro h
  rcases u with ⟨⟨l⟩⟩
  simp only at h
  subst h;rfl
 rw [Bool.eq_iff_iff]
 simp only [An,decide_eq_true_eq,e,Ca,Ch,B2]
 match hl:t.data.toList with
 | []=>rw [hl] at ht;simp [qag]
 | [c]=>rw [hl] at ht;simp [qag]
 | c::d::r=>rw [hl] at ht;simp [qag];simp at ht;omega
set_option maxHeartbeats 4000000 in
theorem qg7 (s p:ByteArray):Fn Tryz.prog G 72 [.str s, .str p] (.bool (Z8 s p)):=by
 refine z8 (T:=tt) (N:=18) (rs:= [.tmp 4]) (fun vs w=>by simp) Tryz.func72 rfl rfl rfl rfl (by kernel_rfl) (jo rfl) (zf _ rfl) ?_
 repeat' first
  | refine ky env rfl ?_
  | (refine qut (l:=0) (h:=p.size) env rfl rfl rfl rfl (qle rfl) (AD _) ?_ ?_;(· simpa using h))
  | refine qr (fun h=> ?_) (fun h=> ?_)
  | refine q9 (fun h=> ?_) (fun h=> ?_)
  | refine qe (fun h=> ?_) (fun h=> ?_)
  | refine yg env rfl rfl (zl ?_)
  | refine jp env rfl (zl ?_)
 all_goals refine Y6 ?_
 all_goals simp_all [Z8]
 all_goals omega
set_option maxHeartbeats 4000000 in
theorem qkl (s p:ByteArray):Fn Tryz.prog G 47 [.str s, .str p] (.bool (Z8 s p)):=by
 refine z8 (T:=tt) (N:=8) (rs:= [.tmp 4]) (fun vs w=>by simp) Tryz.func47 rfl rfl rfl rfl (by kernel_rfl) (jo rfl) (zf _ rfl) ?_
 repeat' first
  | refine ky env rfl ?_
  | refine qn (qg7 _ _) ?_
  | refine qr (fun h=> ?_) (fun h=> ?_)
  | refine q9 (fun h=> ?_) (fun h=> ?_)
  | refine qe (fun h=> ?_) (fun h=> ?_)
  | refine yg env rfl rfl (zl ?_)
  | refine jp env rfl (zl ?_)
 all_goals rfl
set_option maxHeartbeats 4000000 in
theorem qki (s:ByteArray):Fn Tryz.prog G 150 [.str s] (.tup []):=by
 refine z8 (T:=tt) (N:=2) (rs:= []) (fun vs w=>by simp) Tryz.func150 rfl rfl rfl rfl (by kernel_rfl) (jo rfl) (zf _ rfl) ?_
 repeat' first
  | refine ky env rfl ?_
  | refine qr (fun h=> ?_) (fun h=> ?_)
  | refine q9 (fun h=> ?_) (fun h=> ?_)
  | refine qe (fun h=> ?_) (fun h=> ?_)
  | refine yg env rfl rfl (zl ?_)
  | refine jp env rfl (zl ?_)
 all_goals rfl
theorem q1n (s:ByteArray) (a k:Nat) (hs:s.size≤9223372036854775807) (hJ:k≤s.size∧uk s a=uk s k):
 (∃ b,s[k]? =some b∧decide ((k:Int) < (s.size:Int))=true∧IntKind.i64.wrap ((k:Int)+1)=((k+1:Nat):Int)∧k+1≤s.size∧uk s a=uk s (k+1)∧
   (decide ((b.toNat:Int)=32)=true∨(decide ((b.toNat:Int)=32)=false∧decide ((b.toNat:Int)=9)=true)∨(decide ((b.toNat:Int)=32)=false∧decide ((b.toNat:Int)=9)=false∧decide ((b.toNat:Int)=10)=true)))∨
 (∃ b, s[k]? =some b∧decide ((k:Int) < (s.size:Int))=true∧decide ((b.toNat:Int)=32)=false∧decide ((b.toNat:Int)=9)=false∧decide ((b.toNat:Int)=10)=false∧
   ((Z8 (s.extract k s.size) ⟨#[47,47]⟩=false∧uk s a=k)∨
    (Z8 (s.extract k s.size) ⟨#[47,47]⟩=true∧decide (Lib.indexByte (s.extract k s.size).data.toList (10:Int).toNat.toUInt8 < 0)=true∧uk s a=k)∨
    (∃ n:Nat,Z8 (s.extract k s.size) ⟨#[47,47]⟩=true∧decide (Lib.indexByte (s.extract k s.size).data.toList (10:Int).toNat.toUInt8 < 0)=false∧Lib.indexByte (s.extract k s.size).data.toList (10:Int).toNat.toUInt8=n∧
      IntKind.i64.wrap ((k:Int)+Lib.indexByte (s.extract k s.size).data.toList (10:Int).toNat.toUInt8)=((k+n:Nat):Int)∧IntKind.i64.wrap ((k:Int)+IntKind.i64.wrap (Lib.indexByte (s.extract k s.size).data.toList (10:Int).toNat.toUInt8+1))=((k+n+1:Nat):Int)∧
      k+n+1≤s.size∧uk s a=uk s (k+n+1))))∨
 (decide ((k:Int) < (s.size:Int))=false∧uk s a=k):=by
 obtain ⟨hk,he⟩:=hJ
 have c10:(10:Int).toNat.toUInt8=10:=rfl
 have t1:∀b:UInt8,decide ((b.toNat:Int)=32)=decide (b=32):=fun b=>q3d b 32
 have t2:∀b:UInt8,decide ((b.toNat:Int)=9)=decide (b=9):=fun b=>q3d b 9
 have t3:∀b:UInt8,decide ((b.toNat:Int)=10)=decide (b=10):=fun b=>q3d b 10
 simp only [t1,t2,t3,c10,qv7 s k hk,qk8]
 by_cases hlt:k < s.size
 ·have hd:decide ((k:Int) < (s.size:Int))=true:=by simpa using hlt
  have hb:s[k]? =some s[k]:=getElem?_pos s k hlt
  by_cases h:s[k]=32∨s[k]=9∨s[k]=10
  ·refine .inl ⟨s[k],hb,hd,we (by omega) (by omega),hlt,by rw [he,qq8 s k hlt h],?_⟩
   rcases h with h | h | h <;> rw [h] <;> simp
  refine .inr (.inl ⟨s[k],hb,hd,?_⟩)
  have h1:¬s[k]=32:=fun e=>h (.inl e)
  have h2:¬s[k]=9:=fun e=>h (.inr (.inl e))
  have h3:¬s[k]=10:=fun e=>h (.inr (.inr e))
  refine ⟨decide_eq_false h1,decide_eq_false h2,decide_eq_false h3,?_⟩
  cases hsl:qag (s.data.toList.drop k) with
  | false=>exact .inl ⟨rfl,by rw [he,qtf s k hlt h hsl]⟩
  | true=>
    rcases qah (s.data.toList.drop k) with ⟨hi,_⟩ | ⟨n,hi,hn2,_⟩
    ·exact .inr (.inl ⟨rfl,by rw [hi];rfl,by rw [he,qtg s k hlt hsl hi]⟩)
    have hln:=qth s k n hlt hsl hi
    refine .inr (.inr ⟨n,rfl,by rw [hi];simp,hi,?_,?_,hln.1,by rw [he,hln.2]⟩)
    ·rw [hi,we (by omega) (by omega)];rfl
    rw [hi,we (x:=(n:Int)+1) (by omega) (by omega),we (by omega) (by omega)];omega
 exact .inr (.inr ⟨by simpa using hlt,by rw [he,qvn s k (by omega)]⟩)
set_option maxHeartbeats 4000000 in
theorem qne (s:ByteArray) (a:Nat) (ha:a≤s.size) (hs:s.size≤9223372036854775807):Fn Tryz.prog G 149 [.str s, .int .i64 a, .fn 150 []] (.int .i64 (uk s a:Nat)):=by
 refine z8 (T:=tt) (N:=47) (rs:= [.tmp 6]) (fun vs w=>by simp) Tryz.func149 rfl rfl rfl rfl (by kernel_rfl) (jo rfl) (zf _ rfl) ?_
 repeat' first
  | refine ky env rfl ?_
  | refine q53 (qki _) ?_
  | refine qn (qki _) ?_
  | (refine qiz (α:=Nat) (fun k=>k≤s.size∧uk s a=uk s k) (fun k=>s.size - k) (fun k=> [(1, .int .i64 k)]) (fun _=> []) (a) (fun _=>rfl) (fun _=>rfl) (⟨ha,rfl⟩) ?_ ?_ (fun k hJ=> ?_);(· simp [leFT,leV,leOs,leO,leC,rho,AV.ren,AV.ren1,AV.un,AV.un1,AV.closed]);(· simp [leFT,leV,leOs,leO,leC,rho,AV.ren,AV.ren1,AV.un,AV.un1,AV.closed]);rcases q1n s a k hs hJ with ⟨b,hb,hd,hw,hle,he,h1 | ⟨h1,h2⟩ | ⟨h1,h2,h3⟩⟩ | ⟨b,hb,hd,h1,h2,h3,⟨hp,he⟩ | ⟨hp,hi,he⟩ | ⟨n,hp,hi,hn,hw1,hw2,hle,he⟩⟩ | ⟨hd,he⟩)
  | refine qiy rfl ?_
  | refine qfk rfl rfl ?_
  | (refine qgp (k+1) ?_ ?_ ?_ ?_;(· exact ⟨hle,he⟩);(· omega);(· simp [leFT,leV,leOs,leO,leC,rho,AV.ren,AV.ren1,AV.un,AV.un1,AV.closed,hw]);(· simp [leFT,leV,leOs,leO,leC,rho,AV.ren,AV.ren1,AV.un,AV.un1,AV.closed]))
  | (refine qgp (k+n+1) ?_ ?_ ?_ ?_;(· exact ⟨hle,he⟩);(· omega);(· (simp only [hw2];simp [leFT,leV,leOs,leO,leC,rho,AV.ren,AV.ren1,AV.un,AV.un1,AV.closed]));(· simp [leFT,leV,leOs,leO,leC,rho,AV.ren,AV.ren1,AV.un,AV.un1,AV.closed]))
  | refine q52 env rfl rfl rfl rfl rfl hb ?_
  | refine qut (l:=k) (h:=s.size) env rfl rfl rfl (qle rfl) rfl hJ.1 (Aj _) ?_
  | refine qut (l:=k) (h:=k+n) env rfl rfl rfl (qle rfl) (qle hw1) (Nat.le_add_right _ _) (by omega) ?_
  | (refine qt ?_ ?_;(· simp only [hd]))
  | (refine qu ?_ ?_;(· simp only [hd]))
  | (refine qw ?_ ?_;(· simp only [hd]))
  | (refine qv ?_ ?_;(· simp only [hd]))
  | (refine qy ?_ ?_;(· simp only [hd]))
  | (refine qz ?_ ?_;(· simp only [hd]))
  | (refine qt ?_ ?_;(· simp only [h1]))
  | (refine qu ?_ ?_;(· simp only [h1]))
  | (refine qw ?_ ?_;(· simp only [h1]))
  | (refine qv ?_ ?_;(· simp only [h1]))
  | (refine qy ?_ ?_;(· simp only [h1]))
  | (refine qz ?_ ?_;(· simp only [h1]))
  | (refine qt ?_ ?_;(· simp only [h2]))
  | (refine qu ?_ ?_;(· simp only [h2]))
  | (refine qw ?_ ?_;(· simp only [h2]))
  | (refine qv ?_ ?_;(· simp only [h2]))
  | (refine qy ?_ ?_;(· simp only [h2]))
  | (refine qz ?_ ?_;(· simp only [h2]))
  | (refine qt ?_ ?_;(· simp only [h3]))
  | (refine qu ?_ ?_;(· simp only [h3]))
  | (refine qw ?_ ?_;(· simp only [h3]))
  | (refine qv ?_ ?_;(· simp only [h3]))
  | (refine qy ?_ ?_;(· simp only [h3]))
  | (refine qz ?_ ?_;(· simp only [h3]))
  | (refine qt ?_ ?_;(· simp only [hp,Ac,Aa]))
  | (refine qu ?_ ?_;(· simp only [hp,Ac,Aa]))
  | (refine qw ?_ ?_;(· simp only [hp,Ac,Aa]))
  | (refine qv ?_ ?_;(· simp only [hp,Ac,Aa]))
  | (refine qy ?_ ?_;(· simp only [hp,Ac,Aa]))
  | (refine qz ?_ ?_;(· simp only [hp,Ac,Aa]))
  | (refine qt ?_ ?_;(· simp only [hi]))
  | (refine qu ?_ ?_;(· simp only [hi]))
  | (refine qw ?_ ?_;(· simp only [hi]))
  | (refine qv ?_ ?_;(· simp only [hi]))
  | (refine qy ?_ ?_;(· simp only [hi]))
  | (refine qz ?_ ?_;(· simp only [hi]))
  | refine qn (qkl _ _) ?_
  | refine qn (qea _ _) ?_
  | refine qr (fun h=> ?_) (fun h=> ?_)
  | refine q9 (fun h=> ?_) (fun h=> ?_)
  | refine qe (fun h=> ?_) (fun h=> ?_)
  | refine yg env rfl rfl (zl ?_)
  | refine jp env rfl (zl ?_)
 all_goals refine qgg ?_
 all_goals simp only [he]
def qp5 (s:ByteArray) (a:Int):Int:=if 0≤a∧a≤s.size then (uk s a.toNat:Nat) else a
theorem qp4 {s:ByteArray} {k:Nat} (h:k≤s.size):qp5 s k=(uk s k:Nat):=by
 unfold qp5
 rw [if_pos ⟨by omega,by omega⟩,Bj]
def trivValid (s:ByteArray):Bool:=decide (qp5 s 0=s.size)
set_option maxHeartbeats 4000000 in
theorem qon (s:ByteArray) (a:Int) (hs:s.size≤9223372036854775807):Fn Tryz.prog G 119 [.str s, .int .i64 a] (.int .i64 (qp5 s a)):=by
 by_cases hlo:a < 0
 case pos=>
  have d1:decide (a < 0)=true:=decide_eq_true hlo
  rw [show qp5 s a=a from if_neg (by omega)]
  refine z8 (T:=tt) (N:=17) (rs:= [.tmp 4]) (fun vs w=>by simp) Tryz.func119 rfl rfl rfl rfl (by kernel_rfl) (jo rfl) (zf _ rfl) ?_
  repeat' first
   | refine ky env rfl ?_
   | (refine qt ?_ ?_;(· simp only [d1]))
   | (refine qu ?_ ?_;(· simp only [d1]))
   | (refine qw ?_ ?_;(· simp only [d1]))
   | (refine qv ?_ ?_;(· simp only [d1]))
   | (refine qy ?_ ?_;(· simp only [d1]))
   | (refine qz ?_ ?_;(· simp only [d1]))
   | (refine qt ?_ ?_;(· simp only [d2]))
   | (refine qu ?_ ?_;(· simp only [d2]))
   | (refine qw ?_ ?_;(· simp only [d2]))
   | (refine qv ?_ ?_;(· simp only [d2]))
   | (refine qy ?_ ?_;(· simp only [d2]))
   | (refine qz ?_ ?_;(· simp only [d2]))
   | refine qr (fun h=> ?_) (fun h=> ?_)
   | refine q9 (fun h=> ?_) (fun h=> ?_)
   | refine qe (fun h=> ?_) (fun h=> ?_)
   | refine yg env rfl rfl (zl ?_)
   | refine jp env rfl (zl ?_)
  all_goals rfl
 have d1:decide (a < 0)=false:=decide_eq_false hlo
 by_cases hhi:(s.size:Int) < a
 case pos=>
  have d2:decide ((s.size:Int) < a)=true:=decide_eq_true hhi
  rw [show qp5 s a=a from if_neg (by omega)]
  refine z8 (T:=tt) (N:=17) (rs:= [.tmp 4]) (fun vs w=>by simp) Tryz.func119 rfl rfl rfl rfl (by kernel_rfl) (jo rfl) (zf _ rfl) ?_
  repeat' first
   | refine ky env rfl ?_
   | (refine qt ?_ ?_;(· simp only [d1]))
   | (refine qu ?_ ?_;(· simp only [d1]))
   | (refine qw ?_ ?_;(· simp only [d1]))
   | (refine qv ?_ ?_;(· simp only [d1]))
   | (refine qy ?_ ?_;(· simp only [d1]))
   | (refine qz ?_ ?_;(· simp only [d1]))
   | (refine qt ?_ ?_;(· simp only [d2]))
   | (refine qu ?_ ?_;(· simp only [d2]))
   | (refine qw ?_ ?_;(· simp only [d2]))
   | (refine qv ?_ ?_;(· simp only [d2]))
   | (refine qy ?_ ?_;(· simp only [d2]))
   | (refine qz ?_ ?_;(· simp only [d2]))
   | refine qr (fun h=> ?_) (fun h=> ?_)
   | refine q9 (fun h=> ?_) (fun h=> ?_)
   | refine qe (fun h=> ?_) (fun h=> ?_)
   | refine yg env rfl rfl (zl ?_)
   | refine jp env rfl (zl ?_)
  all_goals rfl
 have d2:decide ((s.size:Int) < a)=false:=decide_eq_false hhi
 obtain ⟨m,rfl⟩:∃m:Nat,a=m:=⟨a.toNat,by omega⟩
 have hm:m≤s.size:=by omega
 rw [qp4 hm]
 refine z8 (T:=tt) (N:=17) (rs:= [.tmp 4]) (fun vs w=>by simp) Tryz.func119 rfl rfl rfl rfl (by kernel_rfl) (jo rfl) (zf _ rfl) ?_
 repeat' first
  | refine ky env rfl ?_
  | (refine qt ?_ ?_;(· simp only [d1]))
  | (refine qu ?_ ?_;(· simp only [d1]))
  | (refine qw ?_ ?_;(· simp only [d1]))
  | (refine qv ?_ ?_;(· simp only [d1]))
  | (refine qy ?_ ?_;(· simp only [d1]))
  | (refine qz ?_ ?_;(· simp only [d1]))
  | (refine qt ?_ ?_;(· simp only [d2]))
  | (refine qu ?_ ?_;(· simp only [d2]))
  | (refine qw ?_ ?_;(· simp only [d2]))
  | (refine qv ?_ ?_;(· simp only [d2]))
  | (refine qy ?_ ?_;(· simp only [d2]))
  | (refine qz ?_ ?_;(· simp only [d2]))
  | refine qn (qne s m hm hs) ?_
  | refine qr (fun h=> ?_) (fun h=> ?_)
  | refine q9 (fun h=> ?_) (fun h=> ?_)
  | refine qe (fun h=> ?_) (fun h=> ?_)
  | refine yg env rfl rfl (zl ?_)
  | refine jp env rfl (zl ?_)
 all_goals rfl
set_option maxHeartbeats 4000000 in
theorem qte (s:ByteArray) (hs:s.size≤9223372036854775807):Fn Tryz.prog G 145 [.str s] (.bool (trivValid s)):=by
 refine z8 (T:=tt) (N:=8) (rs:= [.tmp 2]) (fun vs w=>by simp) Tryz.func145 rfl rfl rfl rfl (by kernel_rfl) (jo rfl) (zf _ rfl) ?_
 repeat' first
  | refine ky env rfl ?_
  | refine qn (qon s 0 hs) ?_
  | refine qr (fun h=> ?_) (fun h=> ?_)
  | refine q9 (fun h=> ?_) (fun h=> ?_)
  | refine qe (fun h=> ?_) (fun h=> ?_)
  | refine yg env rfl rfl (zl ?_)
  | refine jp env rfl (zl ?_)
 all_goals rfl
end Go.Proofs.YtpnkemogepoioaaGreatDoorW.Ex.Gr
