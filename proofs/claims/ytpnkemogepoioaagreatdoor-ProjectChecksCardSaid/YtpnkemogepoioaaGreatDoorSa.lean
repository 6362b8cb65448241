/- Strings: the library's functions, trivia and names, in the program and in the references. No conditions beside those in each theorem. -/
import Derived.Test.YtpnkemogepoioaaGreatDoorExF
import Derived.Test.YtpnkemogepoioaaGreatDoorPlain
import Derived.LoopTactic
import Derived.WalkKit
import Derived.KernelRfl
namespace Go.Proofs.YtpnkemogepoioaaGreatDoorW.Ex.Gr
open Go Go.Proofs.YtpnkemogepoioaaGreatDoorW.Ex
set_option linter.all false
set_option maxRecDepth 100000
open Go.Proofs.YtpnkemogepoioaaGreatDoorW.Plain Go.RowKit
variable {G:Nat→List AV}
theorem Ka {k:IntKind} {a b:Int} (h:a=b):AV.int k a=AV.int k b:=by rw [h]
theorem w8 {a b:Bool} (h:a=b):AV.bool a=AV.bool b:=by rw [h]
theorem js {x:Int} (h0: -9223372036854775808≤x) (h1:x≤9223372036854775807):IntKind.i64.wrap x=x:=by
 have hb:IntKind.i64.bits=64:=rfl
 have hs:IntKind.i64.signed=true:=rfl
 simp only [IntKind.wrap,hb,hs,Bh]
 split <;> rename_i h <;> simp at h <;> omega
section
variable {w:World} {S:Nat→Prop} {β:Nat→Nat} {n:Nat} {vs:Array Value}
theorem qvr {s:ByteArray} (h:RVs w S β n [.str s] vs):vs= #[.string s]:=by
 obtain ⟨h1,h2⟩:=h
 have a:=h2 0 _ rfl
 have e:vs= #[vs.getD 0 Go.undef]:=by
  apply Array.ext
  ·simpa using h1
  intro i h3 h4
  have hi:i < 1:=by simpa using h4
  obtain rfl:i=0:=by omega
  simp [Ag,h3]
 generalize vs.getD 0 Go.undef=v at a e
 cases a
 exact e
theorem q0k {s:ByteArray} {k:IntKind} {m:Int} (h:RVs w S β n [.str s, .int k m] vs):vs= #[.string s, .int k m]:=by
 obtain ⟨h1,h2⟩:=h
 have a:=h2 0 _ rfl
 have b:=h2 1 _ rfl
 have e:=two vs h1
 generalize vs.getD 0 Go.undef=v at a e
 generalize vs.getD 1 Go.undef=u at b e
 cases a
 cases b
 exact e
end
theorem q0s (a0:ByteArray) (a1:Int) (w:World):Calls Tryz.prog 174 #[.string a0, .int .u8 a1] w fun e w'=>e= .returned (.int .i64 (Lib.indexByte a0.data.toList a1.toNat.toUInt8))∧w'=w:=by
 go_enter Tryz.func174,Tryz.ntmps174
 go_wp2
 rw [run_callFunc_extern Tryz.func189 (by kernel_rfl) (by kernel_rfl) (by kernel_rfl) (e:=Extern.BytealgIndexByte.indexByte) (by kernel_rfl),Lib.run_indexByteString]
 simp only [Result.andThen]
 rw [Oper.upon_value]
 go_wp2
 go_ret
 exact ⟨rfl,rfl⟩
theorem qjd (s:ByteArray) (c:Int):Fn Tryz.prog G 174 [.str s, .int .u8 c] (.int .i64 (Lib.indexByte s.data.toList c.toNat.toUInt8)):=
 qgj (fun vs w=>by simp) fun w S β n vs hv=>by
  rw [q0k hv]
  refine (q0s s c w).mono ?_
  rintro e w' ⟨rfl,rfl⟩
  exact ⟨⟨_,rfl,fun _ _ _=> .int _ _⟩,Below.refl _ _⟩
set_option maxHeartbeats 4000000 in
theorem qf5 (s:ByteArray) (c:Int):Fn Tryz.prog G 147 [.str s, .int .u8 c] (.int .i64 (Lib.indexByte s.data.toList c.toNat.toUInt8)):=by
 refine zg (T:=tt) (N:=8) (rs:= [.tmp 4]) (fun vs w=>by simp) Tryz.func147 rfl rfl rfl rfl (by kernel_rfl) (zm rfl) (qy _ rfl) ?_
 repeat' first
  | refine ji env rfl ?_
  | refine qk (qjd _ _) ?_
  | refine qq (fun h=> ?_) (fun h=> ?_)
  | refine qw (fun h=> ?_) (fun h=> ?_)
  | refine qd (fun h=> ?_) (fun h=> ?_)
  | refine zb env rfl rfl (qz ?_)
  | refine zn env rfl (qz ?_)
 all_goals rfl
theorem qmv (b c:UInt8):decide ((b.toNat:Int)=(c.toNat:Int))=decide (b=c):=by
 rw [decide_eq_decide]
 constructor
 ·intro h;exact BF.1 (by omega)
 rintro rfl;rfl
def J0 (s p:ByteArray):Bool:=decide (p.size≤s.size) && decide (s.extract 0 p.size=p)
theorem qyk (s:ByteArray) (k:Nat) (h:k≤s.size):J0 (s.extract k s.size) (⟨#[47,47]⟩:ByteArray)=qbq (s.data.toList.drop k):=by
 have hd:=qno s k
 generalize s.extract k s.size=t at*
 have ht:t.data.toList.length=t.size:=len_bytes t
 rw [←hd]
 unfold J0
 have h2:(⟨#[47,47]⟩:ByteArray).size=2:=rfl
 rw [h2]
 have e:∀u:ByteArray,(u=⟨#[47,47]⟩)=(u.data.toList= [47,47]):=by
  intro u
  apply propext
  constructor
  ·rintro rfl;rfl
  intro h
  rcases u with ⟨⟨l⟩⟩
  simp only at h
  subst h;rfl
 rw [BP]
 simp only [An,decide_eq_true_eq,e,Cb,Ch,B1]
 match hl:t.data.toList with
 | []=>rw [hl] at ht;simp [qbq]
 | [c]=>rw [hl] at ht;simp [qbq]
 | c::d::r=>rw [hl] at ht;simp [qbq];simp at ht;omega
set_option maxHeartbeats 4000000 in
theorem qje (s p:ByteArray):Fn Tryz.prog G 72 [.str s, .str p] (.bool (J0 s p)):=by
 refine zg (T:=tt) (N:=18) (rs:= [.tmp 4]) (fun vs w=>by simp) Tryz.func72 rfl rfl rfl rfl (by kernel_rfl) (zm rfl) (qy _ rfl) ?_
 repeat' first
  | refine ji env rfl ?_
  | (refine qw0 (l:=0) (h:=p.size) env rfl rfl rfl rfl (qnw rfl) (Az _) ?_ ?_;(· simpa using h))
  | refine qq (fun h=> ?_) (fun h=> ?_)
  | refine qw (fun h=> ?_) (fun h=> ?_)
  | refine qd (fun h=> ?_) (fun h=> ?_)
  | refine zb env rfl rfl (qz ?_)
  | refine zn env rfl (qz ?_)
 all_goals refine w8 ?_
 all_goals simp_all [J0]
 all_goals omega
set_option maxHeartbeats 4000000 in
theorem qmz (s p:ByteArray):Fn Tryz.prog G 47 [.str s, .str p] (.bool (J0 s p)):=by
 refine zg (T:=tt) (N:=8) (rs:= [.tmp 4]) (fun vs w=>by simp) Tryz.func47 rfl rfl rfl rfl (by kernel_rfl) (zm rfl) (qy _ rfl) ?_
 repeat' first
  | refine ji env rfl ?_
  | refine qk (qje _ _) ?_
  | refine qq (fun h=> ?_) (fun h=> ?_)
  | refine qw (fun h=> ?_) (fun h=> ?_)
  | refine qd (fun h=> ?_) (fun h=> ?_)
  | refine zb env rfl rfl (qz ?_)
  | refine zn env rfl (qz ?_)
 all_goals rfl
set_option maxHeartbeats 4000000 in
theorem qmw (s:ByteArray):Fn Tryz.prog G 150 [.str s] (.tup []):=by
 refine zg (T:=tt) (N:=2) (rs:= []) (fun vs w=>by simp) Tryz.func150 rfl rfl rfl rfl (by kernel_rfl) (zm rfl) (qy _ rfl) ?_
 repeat' first
  | refine ji env rfl ?_
  | refine qq (fun h=> ?_) (fun h=> ?_)
  | refine qw (fun h=> ?_) (fun h=> ?_)
  | refine qd (fun h=> ?_) (fun h=> ?_)
  | refine zb env rfl rfl (qz ?_)
  | refine zn env rfl (qz ?_)
 all_goals rfl
theorem q3t (s:ByteArray) (a k:Nat) (hs:s.size≤9223372036854775807) (hJ:k≤s.size∧kd s a=kd s k):
 (∃ b,s[k]? =some b∧decide ((k:Int) < (s.size:Int))=true∧IntKind.i64.wrap ((k:Int)+1)=((k+1:Nat):Int)∧k+1≤s.size∧kd s a=kd s (k+1)∧
   (decide ((b.toNat:Int)=32)=true∨(decide ((b.toNat:Int)=32)=false∧decide ((b.toNat:Int)=9)=true)∨(decide ((b.toNat:Int)=32)=false∧decide ((b.toNat:Int)=9)=false∧decide ((b.toNat:Int)=10)=true)))∨
 (∃ b, s[k]? =some b∧decide ((k:Int) < (s.size:Int))=true∧decide ((b.toNat:Int)=32)=false∧decide ((b.toNat:Int)=9)=false∧decide ((b.toNat:Int)=10)=false∧
   ((J0 (s.extract k s.size) ⟨#[47,47]⟩=false∧kd s a=k)∨
    (J0 (s.extract k s.size) ⟨#[47,47]⟩=true∧decide (Lib.indexByte (s.extract k s.size).data.toList (10:Int).toNat.toUInt8 < 0)=true∧kd s a=k)∨
    (∃ n:Nat,J0 (s.extract k s.size) ⟨#[47,47]⟩=true∧decide (Lib.indexByte (s.extract k s.size).data.toList (10:Int).toNat.toUInt8 < 0)=false∧Lib.indexByte (s.extract k s.size).data.toList (10:Int).toNat.toUInt8=n∧
      IntKind.i64.wrap ((k:Int)+Lib.indexByte (s.extract k s.size).data.toList (10:Int).toNat.toUInt8)=((k+n:Nat):Int)∧IntKind.i64.wrap ((k:Int)+IntKind.i64.wrap (Lib.indexByte (s.extract k s.size).data.toList (10:Int).toNat.toUInt8+1))=((k+n+1:Nat):Int)∧
      k+n+1≤s.size∧kd s a=kd s (k+n+1))))∨
 (decide ((k:Int) < (s.size:Int))=false∧kd s a=k):=by
 obtain ⟨hk,he⟩:=hJ
 have c10:(10:Int).toNat.toUInt8=10:=rfl
 have t1:∀b:UInt8,decide ((b.toNat:Int)=32)=decide (b=32):=fun b=>qmv b 32
 have t2:∀b:UInt8,decide ((b.toNat:Int)=9)=decide (b=9):=fun b=>qmv b 9
 have t3:∀b:UInt8,decide ((b.toNat:Int)=10)=decide (b=10):=fun b=>qmv b 10
 simp only [t1,t2,t3,c10,qyk s k hk,qno]
 by_cases hlt:k < s.size
 ·have hd:decide ((k:Int) < (s.size:Int))=true:=by simpa using hlt
  have hb:s[k]? =some s[k]:=getElem?_pos s k hlt
  by_cases h:s[k]=32∨s[k]=9∨s[k]=10
  ·refine .inl ⟨s[k],hb,hd,js (by omega) (by omega),hlt,by rw [he,qte s k hlt h],?_⟩
   rcases h with h | h | h <;> rw [h] <;> simp
  refine .inr (.inl ⟨s[k],hb,hd,?_⟩)
  have h1:¬s[k]=32:=fun e=>h (.inl e)
  have h2:¬s[k]=9:=fun e=>h (.inr (.inl e))
  have h3:¬s[k]=10:=fun e=>h (.inr (.inr e))
  refine ⟨decide_eq_false h1,decide_eq_false h2,decide_eq_false h3,?_⟩
  cases hsl:qbq (s.data.toList.drop k) with
  | false=>exact .inl ⟨rfl,by rw [he,qvt s k hlt h hsl]⟩
  | true=>
    rcases Wd (s.data.toList.drop k) with ⟨hi,_⟩ | ⟨n,hi,hn2,_⟩
    ·exact .inr (.inl ⟨rfl,by rw [hi];rfl,by rw [he,qvu s k hlt hsl hi]⟩)
    have hln:=qvv s k n hlt hsl hi
    refine .inr (.inr ⟨n,rfl,by rw [hi];simp,hi,?_,?_,hln.1,by rw [he,hln.2]⟩)
    ·rw [hi,js (by omega) (by omega)];rfl
    rw [hi,js (x:=(n:Int)+1) (by omega) (by omega),js (by omega) (by omega)];omega
 exact .inr (.inr ⟨by simpa using hlt,by rw [he,qx5 s k (by omega)]⟩)
set_option maxHeartbeats 4000000 in
theorem qpr (s:ByteArray) (a:Nat) (ha:a≤s.size) (hs:s.size≤9223372036854775807):Fn Tryz.prog G 149 [.str s, .int .i64 a, .fn 150 []] (.int .i64 (kd s a:Nat)):=by
 refine zg (T:=tt) (N:=47) (rs:= [.tmp 6]) (fun vs w=>by simp) Tryz.func149 rfl rfl rfl rfl (by kernel_rfl) (zm rfl) (qy _ rfl) ?_
 repeat' first
  | refine ji env rfl ?_
  | refine q78 (qmw _) ?_
  | refine qk (qmw _) ?_
  | (refine Kf (α:=Nat) (fun k=>k≤s.size∧kd s a=kd s k) (fun k=>s.size - k) (fun k=> [(1, .int .i64 k)]) (fun _=> []) (a) (fun _=>rfl) (fun _=>rfl) (⟨ha,rfl⟩) ?_ ?_ (fun k hJ=> ?_);(· simp [leFT,leV,leOs,leO,leC,rho,AV.ren,AV.ren1,AV.un,AV.un1,AV.closed]);(· simp [leFT,leV,leOs,leO,leC,rho,AV.ren,AV.ren1,AV.un,AV.un1,AV.closed]);rcases q3t s a k hs hJ with ⟨b,hb,hd,hw,hle,he,h1 | ⟨h1,h2⟩ | ⟨h1,h2,h3⟩⟩ | ⟨b,hb,hd,h1,h2,h3,⟨hp,he⟩ | ⟨hp,hi,he⟩ | ⟨n,hp,hi,hn,hw1,hw2,hle,he⟩⟩ | ⟨hd,he⟩)
  | refine Ke rfl ?_
  | refine Jk rfl rfl ?_
  | (refine Yq (k+1) ?_ ?_ ?_ ?_;(· exact ⟨hle,he⟩);(· omega);(· simp [leFT,leV,leOs,leO,leC,rho,AV.ren,AV.ren1,AV.un,AV.un1,AV.closed,hw]);(· simp [leFT,leV,leOs,leO,leC,rho,AV.ren,AV.ren1,AV.un,AV.un1,AV.closed]))
  | (refine Yq (k+n+1) ?_ ?_ ?_ ?_;(· exact ⟨hle,he⟩);(· omega);(· (simp only [hw2];simp [leFT,leV,leOs,leO,leC,rho,AV.ren,AV.ren1,AV.un,AV.un1,AV.closed]));(· simp [leFT,leV,leOs,leO,leC,rho,AV.ren,AV.ren1,AV.un,AV.un1,AV.closed]))
  | refine qiu env rfl rfl rfl rfl rfl hb ?_
  | refine qw0 (l:=k) (h:=s.size) env rfl rfl rfl (qnw rfl) rfl hJ.1 (Ak _) ?_
  | refine qw0 (l:=k) (h:=k+n) env rfl rfl rfl (qnw rfl) (qnw hw1) (Nat.le_add_right _ _) (by omega) ?_
  | (refine qf ?_ ?_;(· simp only [hd]))
  | (refine qg ?_ ?_;(· simp only [hd]))
  | (refine qi ?_ ?_;(· simp only [hd]))
  | (refine qh ?_ ?_;(· simp only [hd]))
  | (refine qn ?_ ?_;(· simp only [hd]))
  | (refine qo ?_ ?_;(· simp only [hd]))
  | (refine qf ?_ ?_;(· simp only [h1]))
  | (refine qg ?_ ?_;(· simp only [h1]))
  | (refine qi ?_ ?_;(· simp only [h1]))
  | (refine qh ?_ ?_;(· simp only [h1]))
  | (refine qn ?_ ?_;(· simp only [h1]))
  | (refine qo ?_ ?_;(· simp only [h1]))
  | (refine qf ?_ ?_;(· simp only [h2]))
  | (refine qg ?_ ?_;(· simp only [h2]))
  | (refine qi ?_ ?_;(· simp only [h2]))
  | (refine qh ?_ ?_;(· simp only [h2]))
  | (refine qn ?_ ?_;(· simp only [h2]))
  | (refine qo ?_ ?_;(· simp only [h2]))
  | (refine qf ?_ ?_;(· simp only [h3]))
  | (refine qg ?_ ?_;(· simp only [h3]))
  | (refine qi ?_ ?_;(· simp only [h3]))
  | (refine qh ?_ ?_;(· simp only [h3]))
  | (refine qn ?_ ?_;(· simp only [h3]))
  | (refine qo ?_ ?_;(· simp only [h3]))
  | (refine qf ?_ ?_;(· simp only [hp,Ab,Aa]))
  | (refine qg ?_ ?_;(· simp only [hp,Ab,Aa]))
  | (refine qi ?_ ?_;(· simp only [hp,Ab,Aa]))
  | (refine qh ?_ ?_;(· simp only [hp,Ab,Aa]))
  | (refine qn ?_ ?_;(· simp only [hp,Ab,Aa]))
  | (refine qo ?_ ?_;(· simp only [hp,Ab,Aa]))
  | (refine qf ?_ ?_;(· simp only [hi]))
  | (refine qg ?_ ?_;(· simp only [hi]))
  | (refine qi ?_ ?_;(· simp only [hi]))
  | (refine qh ?_ ?_;(· simp only [hi]))
  | (refine qn ?_ ?_;(· simp only [hi]))
  | (refine qo ?_ ?_;(· simp only [hi]))
  | refine qk (qmz _ _) ?_
  | refine qk (qf5 _ _) ?_
  | refine qq (fun h=> ?_) (fun h=> ?_)
  | refine qw (fun h=> ?_) (fun h=> ?_)
  | refine qd (fun h=> ?_) (fun h=> ?_)
  | refine zb env rfl rfl (qz ?_)
  | refine zn env rfl (qz ?_)
 all_goals refine Ka ?_
 all_goals simp only [he]
def qj6 (s:ByteArray) (a:Int):Int:=if 0≤a∧a≤s.size then (kd s a.toNat:Nat) else a
theorem qns {s:ByteArray} {k:Nat} (h:k≤s.size):qj6 s k=(kd s k:Nat):=by
 unfold qj6
 rw [if_pos ⟨by omega,by omega⟩,Bi]
def Jh (s:ByteArray):Bool:=decide (qj6 s 0=s.size)
set_option maxHeartbeats 4000000 in
theorem qq6 (s:ByteArray) (a:Int) (hs:s.size≤9223372036854775807):Fn Tryz.prog G 119 [.str s, .int .i64 a] (.int .i64 (qj6 s a)):=by
 by_cases hlo:a < 0
 case pos=>
  have d1:decide (a < 0)=true:=decide_eq_true hlo
  rw [show qj6 s a=a from if_neg (by omega)]
  refine zg (T:=tt) (N:=17) (rs:= [.tmp 4]) (fun vs w=>by simp) Tryz.func119 rfl rfl rfl rfl (by kernel_rfl) (zm rfl) (qy _ rfl) ?_
  repeat' first
   | refine ji env rfl ?_
   | (refine qf ?_ ?_;(· simp only [d1]))
   | (refine qg ?_ ?_;(· simp only [d1]))
   | (refine qi ?_ ?_;(· simp only [d1]))
   | (refine qh ?_ ?_;(· simp only [d1]))
   | (refine qn ?_ ?_;(· simp only [d1]))
   | (refine qo ?_ ?_;(· simp only [d1]))
   | (refine qf ?_ ?_;(· simp only [d2]))
   | (refine qg ?_ ?_;(· simp only [d2]))
   | (refine qi ?_ ?_;(· simp only [d2]))
   | (refine qh ?_ ?_;(· simp only [d2]))
   | (refine qn ?_ ?_;(· simp only [d2]))
   | (refine qo ?_ ?_;(· simp only [d2]))
   | refine qq (fun h=> ?_) (fun h=> ?_)
   | refine qw (fun h=> ?_) (fun h=> ?_)
   | refine qd (fun h=> ?_) (fun h=> ?_)
   | refine zb env rfl rfl (qz ?_)
   | refine zn env rfl (qz ?_)
  all_goals rfl
 have d1:decide (a < 0)=false:=decide_eq_false hlo
 by_cases hhi:(s.size:Int) < a
 case pos=>
  have d2:decide ((s.size:Int) < a)=true:=decide_eq_true hhi
  rw [show qj6 s a=a from if_neg (by omega)]
  refine zg (T:=tt) (N:=17) (rs:= [.tmp 4]) (fun vs w=>by simp) Tryz.func119 rfl rfl rfl rfl (by kernel_rfl) (zm rfl) (qy _ rfl) ?_
  repeat' first
   | refine ji env rfl ?_
   | (refine qf ?_ ?_;(· simp only [d1]))
   | (refine qg ?_ ?_;(· simp only [d1]))
   | (refine qi ?_ ?_;(· simp only [d1]))
   | (refine qh ?_ ?_;(· simp only [d1]))
   | (refine qn ?_ ?_;(· simp only [d1]))
   | (refine qo ?_ ?_;(· simp only [d1]))
   | (refine qf ?_ ?_;(· simp only [d2]))
   | (refine qg ?_ ?_;(· simp only [d2]))
   | (refine qi ?_ ?_;(· simp only [d2]))
   | (refine qh ?_ ?_;(· simp only [d2]))
   | (refine qn ?_ ?_;(· simp only [d2]))
   | (refine qo ?_ ?_;(· simp only [d2]))
   | refine qq (fun h=> ?_) (fun h=> ?_)
   | refine qw (fun h=> ?_) (fun h=> ?_)
   | refine qd (fun h=> ?_) (fun h=> ?_)
   | refine zb env rfl rfl (qz ?_)
   | refine zn env rfl (qz ?_)
  all_goals rfl
 have d2:decide ((s.size:Int) < a)=false:=decide_eq_false hhi
 obtain ⟨m,rfl⟩:∃m:Nat,a=m:=⟨a.toNat,by omega⟩
 have hm:m≤s.size:=by omega
 rw [qns hm]
 refine zg (T:=tt) (N:=17) (rs:= [.tmp 4]) (fun vs w=>by simp) Tryz.func119 rfl rfl rfl rfl (by kernel_rfl) (zm rfl) (qy _ rfl) ?_
 repeat' first
  | refine ji env rfl ?_
  | (refine qf ?_ ?_;(· simp only [d1]))
  | (refine qg ?_ ?_;(· simp only [d1]))
  | (refine qi ?_ ?_;(· simp only [d1]))
  | (refine qh ?_ ?_;(· simp only [d1]))
  | (refine qn ?_ ?_;(· simp only [d1]))
  | (refine qo ?_ ?_;(· simp only [d1]))
  | (refine qf ?_ ?_;(· simp only [d2]))
  | (refine qg ?_ ?_;(· simp only [d2]))
  | (refine qi ?_ ?_;(· simp only [d2]))
  | (refine qh ?_ ?_;(· simp only [d2]))
  | (refine qn ?_ ?_;(· simp only [d2]))
  | (refine qo ?_ ?_;(· simp only [d2]))
  | refine qk (qpr s m hm hs) ?_
  | refine qq (fun h=> ?_) (fun h=> ?_)
  | refine qw (fun h=> ?_) (fun h=> ?_)
  | refine qd (fun h=> ?_) (fun h=> ?_)
  | refine zb env rfl rfl (qz ?_)
  | refine zn env rfl (qz ?_)
 all_goals rfl
set_option maxHeartbeats 4000000 in
theorem qvs (s:ByteArray) (hs:s.size≤9223372036854775807):Fn Tryz.prog G 145 [.str s] (.bool (Jh s)):=by
 refine zg (T:=tt) (N:=8) (rs:= [.tmp 2]) (fun vs w=>by simp) Tryz.func145 rfl rfl rfl rfl (by kernel_rfl) (zm rfl) (qy _ rfl) ?_
 repeat' first
  | refine ji env rfl ?_
  | refine qk (qq6 s 0 hs) ?_
  | refine qq (fun h=> ?_) (fun h=> ?_)
  | refine qw (fun h=> ?_) (fun h=> ?_)
  | refine qd (fun h=> ?_) (fun h=> ?_)
  | refine zb env rfl rfl (qz ?_)
  | refine zn env rfl (qz ?_)
 all_goals rfl
def u7 (s:ByteArray) (k:Nat):Nat:=match ux (s.data.toList.drop k) with | some r=>s.size - r.length | none=>k
theorem qvy (s:ByteArray) (k:Nat) (hk:k≤s.size):u7 s k≤s.size∧((k < u7 s k∧kd s k=kd s (u7 s k))∨(u7 s k=k∧kd s k=k)):=by
 have hl:=len_bytes s
 unfold u7
 cases h:ux (s.data.toList.drop k) with
 | none=>exact ⟨hk, .inr ⟨rfl,qh8 s k hk h⟩⟩
 | some r=>
   have h1:=qbb _ r h
   rw [Bb,hl] at h1
   have h2:s.data.toList.drop (s.size - r.length)=r:=by
    have :∃j,r=(s.data.toList.drop k).drop j:=by
     cases hd:s.data.toList.drop k with
     | nil=>rw [hd] at h;cases h
     | cons c l=>
       rw [hd,Q1] at h
       split at h
       ·simp only [Ac] at h;exact ⟨1,by rw [←h];rfl⟩
       split at h
       ·rcases Wd l with ⟨_,h5⟩ | ⟨m,_,_,h5⟩
        ·rw [h5] at h;cases h
        rw [h5] at h;simp only [Ac] at h;exact ⟨m+1+1,by rw [←h];rfl⟩
       cases h
    obtain ⟨j,hj⟩:=this
    rw [BS] at hj
    have h3:r.length=s.size - (k+j):=by rw [hj,Bb,hl]
    by_cases h4:k+j≤s.size
    ·rw [hj,Bb,hl];congr 1;omega
    have:r= []:=by rw [hj];exact AD (by omega)
    rw [this,AD (by simp [hl])]
   refine ⟨by simp, .inl ⟨by show k < s.size - r.length;omega,?_⟩⟩
   unfold kd
   rw [qak _ r h]
   simp only
   rw [h2]
theorem q3y (s:ByteArray) (k:Nat) (hs:s.size≤9223372036854775807) (hk:k≤s.size):
 (decide ((s.size:Int)≤(k:Int))=true∧u7 s k=k)∨
 (∃ b,s[k]? =some b∧decide ((s.size:Int)≤(k:Int))=false∧IntKind.i64.wrap ((k:Int)+1)=((k+1:Nat):Int)∧u7 s k=k+1∧
   (decide ((b.toNat:Int)=32)=true∨(decide ((b.toNat:Int)=32)=false∧decide ((b.toNat:Int)=9)=true)∨(decide ((b.toNat:Int)=32)=false∧decide ((b.toNat:Int)=9)=false∧decide ((b.toNat:Int)=10)=true)))∨
 (∃ b, s[k]? =some b∧decide ((s.size:Int)≤(k:Int))=false∧decide ((b.toNat:Int)=32)=false∧decide ((b.toNat:Int)=9)=false∧decide ((b.toNat:Int)=10)=false∧IntKind.i64.wrap ((k:Int)+1)=((k+1:Nat):Int)∧
   ((u7 s k=k∧(decide ((b.toNat:Int)=47)=false∨(decide ((b.toNat:Int)=47)=true∧decide ((s.size:Int)≤IntKind.i64.wrap ((k:Int)+1))=true)))∨
    (∃ c, s[k+1]? =some c∧decide ((b.toNat:Int)=47)=true∧decide ((s.size:Int)≤IntKind.i64.wrap ((k:Int)+1))=false∧
     ((u7 s k=k∧decide ((c.toNat:Int)=47)=false)∨
      (decide ((c.toNat:Int)=47)=true∧∀i:Nat,k≤i→i≤s.size→yn (s.data.toList.drop k)=yn (s.data.toList.drop i)→
       (∃ e,s[i]? =some e∧decide ((i:Int) < (s.size:Int))=true∧IntKind.i64.wrap ((i:Int)+1)=((i+1:Nat):Int)∧i < s.size∧
         ((decide ((e.toNat:Int)=10)=true∧u7 s k=i+1)∨(decide ((e.toNat:Int)=10)=false∧yn (s.data.toList.drop k)=yn (s.data.toList.drop (i+1)))))∨
       (decide ((i:Int) < (s.size:Int))=false∧u7 s k=k)))))):=by
 have hl:=len_bytes s
 have t1:∀b:UInt8,decide ((b.toNat:Int)=32)=decide (b=32):=fun b=>qmv b 32
 have t2:∀b:UInt8,decide ((b.toNat:Int)=9)=decide (b=9):=fun b=>qmv b 9
 have t3:∀b:UInt8,decide ((b.toNat:Int)=10)=decide (b=10):=fun b=>qmv b 10
 have t4:∀b:UInt8,decide ((b.toNat:Int)=47)=decide (b=47):=fun b=>qmv b 47
 simp only [t1,t2,t3,t4]
 by_cases hlt:k < s.size
 ·have hd:decide ((s.size:Int)≤(k:Int))=false:=decide_eq_false (by omega)
  have hw:IntKind.i64.wrap ((k:Int)+1)=((k+1:Nat):Int):=js (by omega) (by omega)
  have hb:s[k]? =some s[k]:=getElem?_pos s k hlt
  have hst:ux (s.data.toList.drop k)=if s[k]=32∨s[k]=9∨s[k]=10 then some (s.data.toList.drop (k+1)) else if s[k]=47∧(s.data.toList.drop (k+1)).head? =some 47 then yn (s.data.toList.drop (k+1)) else none:=by
   rw [Qt s k hlt,Q1]
  by_cases h:s[k]=32∨s[k]=9∨s[k]=10
  ·refine .inr (.inl ⟨s[k],hb,hd,hw,?_,?_⟩)
   ·unfold u7
    rw [hst,if_pos h]
    simp only [Bb,hl];omega
   rcases h with h | h | h <;> rw [h] <;> simp
  have h1:¬s[k]=32:=fun e=>h (.inl e)
  have h2:¬s[k]=9:=fun e=>h (.inr (.inl e))
  have h3:¬s[k]=10:=fun e=>h (.inr (.inr e))
  rw [if_neg h] at hst
  refine .inr (.inr ⟨s[k],hb,hd,decide_eq_false h1,decide_eq_false h2,decide_eq_false h3,hw,?_⟩)
  rw [hw]
  by_cases h47:s[k]=47
  ·by_cases h5:k+1 < s.size
   ·have hc:s[k+1]? =some s[k+1]:=getElem?_pos s (k+1) h5
    have hhd:(s.data.toList.drop (k+1)).head? =some s[k+1]:=by rw [Qt s (k+1) h5];rfl
    refine .inr ⟨s[k+1],hc,decide_eq_true h47,decide_eq_false (by omega),?_⟩
    by_cases h6:s[k+1]=47
    ·refine .inr ⟨decide_eq_true h6,fun i hi1 hi2 hi3=> ?_⟩
     rw [if_pos ⟨h47,by rw [hhd,h6]⟩] at hst
     have hst2:ux (s.data.toList.drop k)=yn (s.data.toList.drop k):=by
      rw [hst,Qt s k hlt]
      show _=if s[k]=10 then _ else _
      rw [if_neg h3]
     rw [hi3] at hst2
     by_cases h7:i < s.size
     ·refine .inl ⟨s[i],getElem?_pos s i h7,by simpa using h7,js (by omega) (by omega),h7,?_⟩
      have e:yn (s.data.toList.drop i)=if s[i]=10 then some (s.data.toList.drop (i+1)) else yn (s.data.toList.drop (i+1)):=by rw [Qt s i h7];rfl
      by_cases h8:s[i]=10
      ·refine .inl ⟨decide_eq_true h8,?_⟩
       unfold u7
       rw [hst2,e,if_pos h8]
       simp only [Bb,hl];omega
      refine .inr ⟨decide_eq_false h8,?_⟩
      rw [hi3,e,if_neg h8]
     refine .inr ⟨decide_eq_false (by omega),?_⟩
     unfold u7
     rw [hst2,AD (by omega)]
     rfl
    refine .inl ⟨?_,decide_eq_false h6⟩
    unfold u7
    rw [hst,if_neg (by rw [hhd];intro h9;exact h6 (Bf h9.2))]
   refine .inl ⟨?_, .inr ⟨decide_eq_true h47,decide_eq_true (by omega)⟩⟩
   unfold u7
   rw [hst,if_neg (by rw [AD (by omega)];intro h9;cases h9.2)]
  refine .inl ⟨?_, .inl (decide_eq_false h47)⟩
  unfold u7
  rw [hst,if_neg (fun h9=>h47 h9.1)]
 refine .inl ⟨decide_eq_true (by omega),?_⟩
 unfold u7
 rw [AD (by omega)]
 rfl
set_option maxHeartbeats 4000000 in
theorem q9l (s:ByteArray) (k:Nat) (hs:s.size≤9223372036854775807) (hk:k≤s.size):Fn Tryz.prog G 164 [.str s, .int .i64 k] (.int .i64 (u7 s k:Nat)):=by
 rcases q3y s k hs hk with ⟨hd,he⟩ | ⟨b,hb,hd,hw,he,h1 | ⟨h1,h2⟩ | ⟨h1,h2,h3⟩⟩ | ⟨b,hb,hd,h1,h2,h3,hw,⟨he,h4 | ⟨h4,h5⟩⟩ | ⟨c,hc,h4,h5,⟨he,h6⟩ | ⟨h6,h7⟩⟩⟩
 all_goals
  refine zg (T:=tt) (N:=62) (rs:= [.tmp 4]) (fun vs w=>by simp) Tryz.func164 rfl rfl rfl rfl (by kernel_rfl) (zm rfl) (qy _ rfl) ?_
  repeat' first
   | refine ji env rfl ?_
   | (refine Kf (α:=Nat) (fun i=>k≤i∧i≤s.size∧yn (s.data.toList.drop k)=yn (s.data.toList.drop i)) (fun i=>s.size - i) (fun i=> [(5, .int .i64 i)]) (fun _=> []) (k) (fun _=>rfl) (fun _=>rfl) (⟨Ak _,hk,rfl⟩) ?_ ?_ (fun i hJ=> ?_);(· simp [leFT,leV,leOs,leO,leC,rho,AV.ren,AV.ren1,AV.un,AV.un1,AV.closed]);(· simp [leFT,leV,leOs,leO,leC,rho,AV.ren,AV.ren1,AV.un,AV.un1,AV.closed]);rcases h7 i hJ.1 hJ.2.1 hJ.2.2 with ⟨e,hx,g1,hw1,hle,⟨g2,he⟩ | ⟨g2,he⟩⟩ | ⟨g1,he⟩)
   | refine Ke rfl ?_
   | refine Jk rfl rfl ?_
   | (refine Yq (i+1) ?_ ?_ ?_ ?_;(· exact ⟨by omega,by omega,he⟩);(· omega);(· (simp only [hw1];simp [leFT,leV,leOs,leO,leC,rho,AV.ren,AV.ren1,AV.un,AV.un1,AV.closed]));(· simp [leFT,leV,leOs,leO,leC,rho,AV.ren,AV.ren1,AV.un,AV.un1,AV.closed]))
   | (refine qf ?_ ?_;(· simp only [hd]))
   | (refine qg ?_ ?_;(· simp only [hd]))
   | (refine qi ?_ ?_;(· simp only [hd]))
   | (refine qh ?_ ?_;(· simp only [hd]))
   | (refine qn ?_ ?_;(· simp only [hd]))
   | (refine qo ?_ ?_;(· simp only [hd]))
   | (refine qf ?_ ?_;(· simp only [h1]))
   | (refine qg ?_ ?_;(· simp only [h1]))
   | (refine qi ?_ ?_;(· simp only [h1]))
   | (refine qh ?_ ?_;(· simp only [h1]))
   | (refine qn ?_ ?_;(· simp only [h1]))
   | (refine qo ?_ ?_;(· simp only [h1]))
   | (refine qf ?_ ?_;(· simp only [h2]))
   | (refine qg ?_ ?_;(· simp only [h2]))
   | (refine qi ?_ ?_;(· simp only [h2]))
   | (refine qh ?_ ?_;(· simp only [h2]))
   | (refine qn ?_ ?_;(· simp only [h2]))
   | (refine qo ?_ ?_;(· simp only [h2]))
   | (refine qf ?_ ?_;(· simp only [h3]))
   | (refine qg ?_ ?_;(· simp only [h3]))
   | (refine qi ?_ ?_;(· simp only [h3]))
   | (refine qh ?_ ?_;(· simp only [h3]))
   | (refine qn ?_ ?_;(· simp only [h3]))
   | (refine qo ?_ ?_;(· simp only [h3]))
   | (refine qf ?_ ?_;(· simp only [h4,Ab,Aa]))
   | (refine qg ?_ ?_;(· simp only [h4,Ab,Aa]))
   | (refine qi ?_ ?_;(· simp only [h4,Ab,Aa]))
   | (refine qh ?_ ?_;(· simp only [h4,Ab,Aa]))
   | (refine qn ?_ ?_;(· simp only [h4,Ab,Aa]))
   | (refine qo ?_ ?_;(· simp only [h4,Ab,Aa]))
   | (refine qf ?_ ?_;(· simp only [h5]))
   | (refine qg ?_ ?_;(· simp only [h5]))
   | (refine qi ?_ ?_;(· simp only [h5]))
   | (refine qh ?_ ?_;(· simp only [h5]))
   | (refine qn ?_ ?_;(· simp only [h5]))
   | (refine qo ?_ ?_;(· simp only [h5]))
   | (refine qf ?_ ?_;(· simp only [h6,Ab,Aa]))
   | (refine qg ?_ ?_;(· simp only [h6,Ab,Aa]))
   | (refine qi ?_ ?_;(· simp only [h6,Ab,Aa]))
   | (refine qh ?_ ?_;(· simp only [h6,Ab,Aa]))
   | (refine qn ?_ ?_;(· simp only [h6,Ab,Aa]))
   | (refine qo ?_ ?_;(· simp only [h6,Ab,Aa]))
   | (refine qf ?_ ?_;(· simp only [g1]))
   | (refine qg ?_ ?_;(· simp only [g1]))
   | (refine qi ?_ ?_;(· simp only [g1]))
   | (refine qh ?_ ?_;(· simp only [g1]))
   | (refine qn ?_ ?_;(· simp only [g1]))
   | (refine qo ?_ ?_;(· simp only [g1]))
   | (refine qf ?_ ?_;(· simp only [g2]))
   | (refine qg ?_ ?_;(· simp only [g2]))
   | (refine qi ?_ ?_;(· simp only [g2]))
   | (refine qh ?_ ?_;(· simp only [g2]))
   | (refine qn ?_ ?_;(· simp only [g2]))
   | (refine qo ?_ ?_;(· simp only [g2]))
   | refine qiu env rfl rfl rfl rfl rfl hb ?_
   | refine qiu env rfl rfl rfl rfl hw hc ?_
   | refine qiu env rfl rfl rfl rfl rfl hx ?_
   | refine qq (fun h=> ?_) (fun h=> ?_)
   | refine qw (fun h=> ?_) (fun h=> ?_)
   | refine qd (fun h=> ?_) (fun h=> ?_)
   | refine zb env rfl rfl (qz ?_)
   | refine zn env rfl (qz ?_)
  all_goals refine Ka ?_
  all_goals simp only [he]
  all_goals first | done | assumption
theorem q7c (s:ByteArray) (a k:Nat) (hJ:k≤s.size∧kd s a=kd s k):
 (decide ((k:Int) < (u7 s k:Nat))=true∧k < u7 s k∧u7 s k≤s.size∧kd s a=kd s (u7 s k))∨(decide ((k:Int) < (u7 s k:Nat))=false∧kd s a=k):=by
 obtain ⟨h1,h2 | h2⟩:=qvy s k hJ.1
 ·exact .inl ⟨decide_eq_true (by omega),h2.1,h1,by rw [hJ.2,h2.2]⟩
 exact .inr ⟨decide_eq_false (by omega),by rw [hJ.2,h2.2]⟩
set_option maxHeartbeats 4000000 in
theorem q7z (s:ByteArray) (a:Int) (hs:s.size≤9223372036854775807):Fn Tryz.prog G 133 [.str s, .int .i64 a] (.int .i64 (qj6 s a)):=by
 by_cases hlo:a < 0
 case pos=>
  have d1:decide (a < 0)=true:=decide_eq_true hlo
  rw [show qj6 s a=a from if_neg (by omega)]
  refine zg (T:=tt) (N:=23) (rs:= [.tmp 4]) (fun vs w=>by simp) Tryz.func133 rfl rfl rfl rfl (by kernel_rfl) (zm rfl) (qy _ rfl) ?_
  repeat' first
   | refine ji env rfl ?_
   | (refine qf ?_ ?_;(· simp only [d1]))
   | (refine qg ?_ ?_;(· simp only [d1]))
   | (refine qi ?_ ?_;(· simp only [d1]))
   | (refine qh ?_ ?_;(· simp only [d1]))
   | (refine qn ?_ ?_;(· simp only [d1]))
   | (refine qo ?_ ?_;(· simp only [d1]))
   | (refine qf ?_ ?_;(· simp only [d2]))
   | (refine qg ?_ ?_;(· simp only [d2]))
   | (refine qi ?_ ?_;(· simp only [d2]))
   | (refine qh ?_ ?_;(· simp only [d2]))
   | (refine qn ?_ ?_;(· simp only [d2]))
   | (refine qo ?_ ?_;(· simp only [d2]))
   | refine qq (fun h=> ?_) (fun h=> ?_)
   | refine qw (fun h=> ?_) (fun h=> ?_)
   | refine qd (fun h=> ?_) (fun h=> ?_)
   | refine zb env rfl rfl (qz ?_)
   | refine zn env rfl (qz ?_)
  all_goals rfl
 have d1:decide (a < 0)=false:=decide_eq_false hlo
 by_cases hhi:(s.size:Int) < a
 case pos=>
  have d2:decide ((s.size:Int) < a)=true:=decide_eq_true hhi
  rw [show qj6 s a=a from if_neg (by omega)]
  refine zg (T:=tt) (N:=23) (rs:= [.tmp 4]) (fun vs w=>by simp) Tryz.func133 rfl rfl rfl rfl (by kernel_rfl) (zm rfl) (qy _ rfl) ?_
  repeat' first
   | refine ji env rfl ?_
   | (refine qf ?_ ?_;(· simp only [d1]))
   | (refine qg ?_ ?_;(· simp only [d1]))
   | (refine qi ?_ ?_;(· simp only [d1]))
   | (refine qh ?_ ?_;(· simp only [d1]))
   | (refine qn ?_ ?_;(· simp only [d1]))
   | (refine qo ?_ ?_;(· simp only [d1]))
   | (refine qf ?_ ?_;(· simp only [d2]))
   | (refine qg ?_ ?_;(· simp only [d2]))
   | (refine qi ?_ ?_;(· simp only [d2]))
   | (refine qh ?_ ?_;(· simp only [d2]))
   | (refine qn ?_ ?_;(· simp only [d2]))
   | (refine qo ?_ ?_;(· simp only [d2]))
   | refine qq (fun h=> ?_) (fun h=> ?_)
   | refine qw (fun h=> ?_) (fun h=> ?_)
   | refine qd (fun h=> ?_) (fun h=> ?_)
   | refine zb env rfl rfl (qz ?_)
   | refine zn env rfl (qz ?_)
  all_goals rfl
 have d2:decide ((s.size:Int) < a)=false:=decide_eq_false hhi
 obtain ⟨m,rfl⟩:∃m:Nat,a=m:=⟨a.toNat,by omega⟩
 have hm:m≤s.size:=by omega
 rw [qns hm]
 refine zg (T:=tt) (N:=23) (rs:= [.tmp 4]) (fun vs w=>by simp) Tryz.func133 rfl rfl rfl rfl (by kernel_rfl) (zm rfl) (qy _ rfl) ?_
 repeat' first
  | refine ji env rfl ?_
  | (refine Kf (α:=Nat) (fun k=>k≤s.size∧kd s m=kd s k) (fun k=>s.size - k) (fun k=> [(1, .int .i64 k)]) (fun _=> []) (m) (fun _=>rfl) (fun _=>rfl) (⟨hm,rfl⟩) ?_ ?_ (fun k hJ=> ?_);(· simp [leFT,leV,leOs,leO,leC,rho,AV.ren,AV.ren1,AV.un,AV.un1,AV.closed]);(· simp [leFT,leV,leOs,leO,leC,rho,AV.ren,AV.ren1,AV.un,AV.un1,AV.closed]);rcases q7c s m k hJ with ⟨hd,hlt,hle,he⟩ | ⟨hd,he⟩)
  | refine Ke rfl ?_
  | refine Jk rfl rfl ?_
  | (refine Yq (u7 s k) ?_ ?_ ?_ ?_;(· exact ⟨hle,he⟩);(· omega);(· simp [leFT,leV,leOs,leO,leC,rho,AV.ren,AV.ren1,AV.un,AV.un1,AV.closed]);(· simp [leFT,leV,leOs,leO,leC,rho,AV.ren,AV.ren1,AV.un,AV.un1,AV.closed]))
  | (refine qf ?_ ?_;(· simp only [d1]))
  | (refine qg ?_ ?_;(· simp only [d1]))
  | (refine qi ?_ ?_;(· simp only [d1]))
  | (refine qh ?_ ?_;(· simp only [d1]))
  | (refine qn ?_ ?_;(· simp only [d1]))
  | (refine qo ?_ ?_;(· simp only [d1]))
  | (refine qf ?_ ?_;(· simp only [d2]))
  | (refine qg ?_ ?_;(· simp only [d2]))
  | (refine qi ?_ ?_;(· simp only [d2]))
  | (refine qh ?_ ?_;(· simp only [d2]))
  | (refine qn ?_ ?_;(· simp only [d2]))
  | (refine qo ?_ ?_;(· simp only [d2]))
  | (refine qf ?_ ?_;(· simp only [hd]))
  | (refine qg ?_ ?_;(· simp only [hd]))
  | (refine qi ?_ ?_;(· simp only [hd]))
  | (refine qh ?_ ?_;(· simp only [hd]))
  | (refine qn ?_ ?_;(· simp only [hd]))
  | (refine qo ?_ ?_;(· simp only [hd]))
  | refine qk (q9l s k hs hJ.1) ?_
  | refine qq (fun h=> ?_) (fun h=> ?_)
  | refine qw (fun h=> ?_) (fun h=> ?_)
  | refine qd (fun h=> ?_) (fun h=> ?_)
  | refine zb env rfl rfl (qz ?_)
  | refine zn env rfl (qz ?_)
 all_goals refine Ka ?_
 all_goals simp only [he]
set_option maxHeartbeats 4000000 in
theorem qnz (s:ByteArray) (hs:s.size≤9223372036854775807):Fn Tryz.prog G 162 [.str s] (.bool (Jh s)):=by
 refine zg (T:=tt) (N:=8) (rs:= [.tmp 2]) (fun vs w=>by simp) Tryz.func162 rfl rfl rfl rfl (by kernel_rfl) (zm rfl) (qy _ rfl) ?_
 repeat' first
  | refine ji env rfl ?_
  | refine qk (q7z s 0 hs) ?_
  | refine qq (fun h=> ?_) (fun h=> ?_)
  | refine qw (fun h=> ?_) (fun h=> ?_)
  | refine qd (fun h=> ?_) (fun h=> ?_)
  | refine zb env rfl rfl (qz ?_)
  | refine zn env rfl (qz ?_)
 all_goals rfl
end Go.Proofs.YtpnkemogepoioaaGreatDoorW.Ex.Gr
