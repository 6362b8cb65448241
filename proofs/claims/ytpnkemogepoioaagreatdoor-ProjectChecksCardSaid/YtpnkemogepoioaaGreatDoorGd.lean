/- The grammar's functions on numbers: kinds and groups. No conditions beside those in each theorem. The grammar's functions on a node: Level, Own and Fits. No conditions beside those in each theorem. Which kind may be a kid at which position of another kind. No conditions beside those in each theorem. -/
import Derived.Test.YtpnkemogepoioaaGreatDoorGa
namespace Go.Proofs.YtpnkemogepoioaaGreatDoorW.Ex.Gr
open Go Go.Proofs.YtpnkemogepoioaaGreatDoorW.Ex
set_option linter.all false
set_option maxRecDepth 100000
theorem qka {α:Type} (p:Nat→α→Bool) (l:List α) (C:α→List AV) (i:Nat) (hl:l.length≤9223372036854775807) (hJ:i≤l.length∧vl p 0 l=vl p i (l.drop i)):
 (∃m,l[i]? =some m∧i < l.length∧decide ((i:Int) < ((l.map C).length:Int))=true∧IntKind.i64.wrap ((i:Int)+1)=(i:Int)+1∧vl p 0 l=(p i m && vl p (i+1) (l.drop (i+1))))∨
 (decide ((i:Int) < ((l.map C).length:Int))=false∧vl p 0 l=true):=by
 rcases Bt i l.length with h | h
 ·refine .inl ⟨l[i],Aj h,h,by simpa using h,js (by omega) (by omega),?_⟩
  rw [hJ.2,Bl h]
  rfl
 refine .inr ⟨by simpa using h,?_⟩
 rw [hJ.2,AD h]
 rfl
set_option maxHeartbeats 4000000 in
theorem wj (k:Int):Fn Tryz.prog G 106 [.int .i64 k] (.bool (known k)):=by
 refine zg (T:=tt) (N:=9) (rs:= [.tmp 2]) (fun vs w=>by simp) Tryz.func106 rfl rfl rfl rfl (by kernel_rfl) (zm rfl) (qy _ rfl) ?_
 repeat' first
  | refine ji env rfl ?_
  | refine qq (fun h=> ?_) (fun h=> ?_)
  | refine qw (fun h=> ?_) (fun h=> ?_)
  | refine qd (fun h=> ?_) (fun h=> ?_)
  | refine zb env rfl rfl (qz ?_)
  | refine zn env rfl (qz ?_)
 all_goals (first | refine Ka ?_ | refine w8 ?_)
 all_goals (simp_all [known])
 all_goals (try omega)
set_option maxHeartbeats 4000000 in
theorem Kx (k:Int):Fn Tryz.prog G 74 [.int .i64 k] (.int .i64 (K8 k)):=by
 refine zg (T:=tt) (N:=21) (rs:= [.tmp 2]) (fun vs w=>by simp) Tryz.func74 rfl rfl rfl rfl (by kernel_rfl) (zm rfl) (qy _ rfl) ?_
 repeat' first
  | refine ji env rfl ?_
  | refine qq (fun h=> ?_) (fun h=> ?_)
  | refine qw (fun h=> ?_) (fun h=> ?_)
  | refine qd (fun h=> ?_) (fun h=> ?_)
  | refine zb env rfl rfl (qz ?_)
  | refine zn env rfl (qz ?_)
 all_goals (first | refine Ka ?_ | refine w8 ?_)
 all_goals (simp_all [K8])
 all_goals (try omega)
set_option maxHeartbeats 4000000 in
theorem qzl (k:Int):Fn Tryz.prog G 195 [.int .i64 k] (.int .i64 (K8 k)):=by
 refine zg (T:=tt) (N:=33) (rs:= [.tmp 2]) (fun vs w=>by simp) Tryz.func195 rfl rfl rfl rfl (by kernel_rfl) (zm rfl) (qy _ rfl) ?_
 repeat' first
  | refine ji env rfl ?_
  | refine qq (fun h=> ?_) (fun h=> ?_)
  | refine qw (fun h=> ?_) (fun h=> ?_)
  | refine qd (fun h=> ?_) (fun h=> ?_)
  | refine zb env rfl rfl (qz ?_)
  | refine zn env rfl (qz ?_)
 all_goals (first | refine Ka ?_ | refine w8 ?_)
 all_goals (simp_all [K8])
 all_goals (try omega)
set_option maxHeartbeats 4000000 in
theorem qng (k:Int):Fn Tryz.prog G 105 [.int .i64 k] (.int .i64 (most k)):=by
 refine zg (T:=tt) (N:=9) (rs:= [.tmp 2]) (fun vs w=>by simp) Tryz.func105 rfl rfl rfl rfl (by kernel_rfl) (zm rfl) (qy _ rfl) ?_
 repeat' first
  | refine ji env rfl ?_
  | refine qq (fun h=> ?_) (fun h=> ?_)
  | refine qw (fun h=> ?_) (fun h=> ?_)
  | refine qd (fun h=> ?_) (fun h=> ?_)
  | refine zb env rfl rfl (qz ?_)
  | refine zn env rfl (qz ?_)
 all_goals (first | refine Ka ?_ | refine w8 ?_)
 all_goals (simp_all [most])
 all_goals (try omega)
set_option maxHeartbeats 4000000 in
theorem q3a (k:Int):Fn Tryz.prog G 126 [.int .i64 k] (.int .i64 (most k)):=by
 refine zg (T:=tt) (N:=9) (rs:= [.tmp 2]) (fun vs w=>by simp) Tryz.func126 rfl rfl rfl rfl (by kernel_rfl) (zm rfl) (qy _ rfl) ?_
 repeat' first
  | refine ji env rfl ?_
  | refine qq (fun h=> ?_) (fun h=> ?_)
  | refine qw (fun h=> ?_) (fun h=> ?_)
  | refine qd (fun h=> ?_) (fun h=> ?_)
  | refine zb env rfl rfl (qz ?_)
  | refine zn env rfl (qz ?_)
 all_goals (first | refine Ka ?_ | refine w8 ?_)
 all_goals (simp_all [most])
 all_goals (try omega)
end Go.Proofs.YtpnkemogepoioaaGreatDoorW.Ex.Gr

namespace Go.Proofs.YtpnkemogepoioaaGreatDoorW.Ex.Gr
open Go Go.Proofs.YtpnkemogepoioaaGreatDoorW.Ex
set_option linter.all false
set_option maxRecDepth 100000
theorem q6k (a:Int):(if a < 0 then 0 else a)=max 0 a:=by split <;> omega
theorem qwk (k:Int):(K8 k=3)=(17≤k∧k≤26):=by
 apply propext
 unfold K8
 split
 ·omega
 split
 ·omega
 split
 ·omega
 omega
theorem q8s:∀m:Nat,m < 27→(shapes.getD m ⟨[],(0,0),0, [],0⟩).own=ownN m:=by decide
theorem q35 (k:Int) (h0:1≤k) (h1:k < 27):(y7 k).own=ownN k:=by
 have:=q8s k.toNat (by omega)
 rw [show ((k.toNat:Nat):Int)=k by omega] at this
 exact this
theorem q8t (n:Node) (h:known n.kind=false):own n=0:=by simp [own,h]
theorem Wg {k:Int} (h:known k=true):1≤k∧k < 27:=by simpa [known] using h
set_option maxHeartbeats 4000000 in
theorem qgo (n:Node):Fn Tryz.prog G 142 [.agg (zl n)] (.int .i64 (qbc n)):=by
 refine zg (T:=tt) (N:=28) (rs:= [.tmp 2]) (fun vs w=>by simp) Tryz.func142 rfl rfl rfl rfl (by kernel_rfl) (zm rfl) (qy _ rfl) ?_
 repeat' first
  | refine ji env rfl ?_
  | refine qk (Kx _) ?_
  | refine qq (fun h=> ?_) (fun h=> ?_)
  | refine qw (fun h=> ?_) (fun h=> ?_)
  | refine qd (fun h=> ?_) (fun h=> ?_)
  | refine zb env rfl rfl (qz ?_)
  | refine zn env rfl (qz ?_)
 all_goals refine Ka ?_
 all_goals (simp_all [qbc,Y8,qwk])
 all_goals (try omega)
set_option maxHeartbeats 4000000 in
theorem qny (n:Node):Fn Tryz.prog G 196 [.agg (zl n)] (.int .i64 (qbc n)):=by
 refine zg (T:=tt) (N:=28) (rs:= [.tmp 2]) (fun vs w=>by simp) Tryz.func196 rfl rfl rfl rfl (by kernel_rfl) (zm rfl) (qy _ rfl) ?_
 repeat' first
  | refine ji env rfl ?_
  | refine qk (qzl _) ?_
  | refine qq (fun h=> ?_) (fun h=> ?_)
  | refine qw (fun h=> ?_) (fun h=> ?_)
  | refine qd (fun h=> ?_) (fun h=> ?_)
  | refine zb env rfl rfl (qz ?_)
  | refine zn env rfl (qz ?_)
 all_goals refine Ka ?_
 all_goals (simp_all [qbc,Y8,qwk])
 all_goals (try omega)
set_option maxHeartbeats 4000000 in
theorem qww (n:Node) (hk:n.kids.length≤9223372036854775807):Fn Tryz.prog G 161 [.agg (zl n)] (.int .i64 (own n)):=by
 have w1:IntKind.i64.wrap ((n.kids.length:Int) - 1)=(n.kids.length:Int) - 1:=js (by omega) (by omega)
 have w2:IntKind.i64.wrap ((n.kids.length:Int) - 2)=(n.kids.length:Int) - 2:=js (by omega) (by omega)
 have w3:IntKind.i64.wrap ((n.kids.length:Int) - 1 - 1)=(n.kids.length:Int) - 1 - 1:=js (by omega) (by omega)
 refine zg (T:=tt) (N:=56) (rs:= [.tmp 2]) (fun vs w=>by simp) Tryz.func161 rfl rfl rfl rfl (by kernel_rfl) (zm rfl) (qy _ rfl) ?_
 repeat' first
  | refine ji env rfl ?_
  | refine qq (fun h=> ?_) (fun h=> ?_)
  | refine qw (fun h=> ?_) (fun h=> ?_)
  | refine qd (fun h=> ?_) (fun h=> ?_)
  | refine zb env rfl rfl (qz ?_)
  | refine zn env rfl (qz ?_)
 all_goals refine Ka ?_
 all_goals (try simp only [Av,w1,w2,w3])
 all_goals clear w1 w2 w3
 all_goals (simp_all [own,ownN,known,q6k])
 all_goals (try omega)
 all_goals (cases hk2:n.kids <;> simp <;> omega)
set_option maxHeartbeats 4000000 in
theorem qyz (n:Node) (hk:n.kids.length≤9223372036854775807):Fn Tryz.prog G 146 [.agg (zl n)] (.int .i64 (own n)):=by
 cases hkn:known n.kind
 ·rw [q8t n hkn]
  refine zg (T:=tt) (N:=45) (rs:= [.tmp 2]) (fun vs w=>by simp) Tryz.func146 rfl rfl rfl rfl (by kernel_rfl) (zm rfl) (qy _ rfl) ?_
  repeat' first
   | refine ji env rfl ?_
   | (refine qf ?_ ?_;(· simp only [hkn,Aa]))
   | (refine qg ?_ ?_;(· simp only [hkn,Aa]))
   | (refine qi ?_ ?_;(· simp only [hkn,Aa]))
   | (refine qh ?_ ?_;(· simp only [hkn,Aa]))
   | (refine qn ?_ ?_;(· simp only [hkn,Aa]))
   | (refine qo ?_ ?_;(· simp only [hkn,Aa]))
   | refine qk (wj _) ?_
   | refine qq (fun h=> ?_) (fun h=> ?_)
   | refine qw (fun h=> ?_) (fun h=> ?_)
   | refine qd (fun h=> ?_) (fun h=> ?_)
   | refine zb env rfl rfl (qz ?_)
   | refine zn env rfl (qz ?_)
  all_goals rfl
 have w1:IntKind.i64.wrap ((n.kids.length:Int) - 1)=(n.kids.length:Int) - 1:=js (by omega) (by omega)
 have w2:IntKind.i64.wrap ((n.kids.length:Int) - 2)=(n.kids.length:Int) - 2:=js (by omega) (by omega)
 have w3:IntKind.i64.wrap ((n.kids.length:Int) - 1 - 1)=(n.kids.length:Int) - 1 - 1:=js (by omega) (by omega)
 have kb:=Wg hkn
 have h0:0≤n.kind:=by omega
 have h2:n.kind.toNat < 27:=by omega
 have hg:=qnk n.kind h2
 have ho:=q35 n.kind kb.1 kb.2
 refine zg (T:=tt) (N:=45) (rs:= [.tmp 2]) (fun vs w=>by simp) Tryz.func146 rfl rfl rfl rfl (by kernel_rfl) (zm rfl) (qy _ rfl) ?_
 repeat' first
  | refine ji env rfl ?_
  | (refine qf ?_ ?_;(· simp only [hkn,Ab]))
  | (refine qg ?_ ?_;(· simp only [hkn,Ab]))
  | (refine qi ?_ ?_;(· simp only [hkn,Ab]))
  | (refine qh ?_ ?_;(· simp only [hkn,Ab]))
  | (refine qn ?_ ?_;(· simp only [hkn,Ab]))
  | (refine qo ?_ ?_;(· simp only [hkn,Ab]))
  | refine qoy env rfl rfl rfl rfl h0 h2 hg ?_
  | refine qk (wj _) ?_
  | refine qq (fun h=> ?_) (fun h=> ?_)
  | refine qw (fun h=> ?_) (fun h=> ?_)
  | refine qd (fun h=> ?_) (fun h=> ?_)
  | refine zb env rfl rfl (qz ?_)
  | refine zn env rfl (qz ?_)
 all_goals refine Ka ?_
 all_goals (try simp only [Av,w1,w3])
 all_goals clear w1 w2 w3 hg h2 h0
 all_goals (simp_all [own,ownN,q6k])
 all_goals (first | done | (refine congrArg IntKind.i64.wrap (congrArg (_+ ·) ?_);split <;> omega))
end Go.Proofs.YtpnkemogepoioaaGreatDoorW.Ex.Gr

namespace Go.Proofs.YtpnkemogepoioaaGreatDoorW.Ex.Gr
open Go Go.Proofs.YtpnkemogepoioaaGreatDoorW.Ex
set_option linter.all false
set_option maxRecDepth 100000
theorem qse {parent pos kid:Int} (h:known parent=false∨pos < 0∨known kid=false):fits parent pos kid=false:=by
 rcases h with h | h | h
 ·simp [fits,h]
 ·simp [fits,show ¬0≤pos by omega]
 simp [fits,h]
theorem q67 {s:Shape} {pos:Int} (h0:0≤pos) (h:pos < s.first.length):(s.first.map qut)[pos.toNat]? =some [.int .i64 (s.first.getD pos.toNat (0,0)).1, .int .i64 (s.first.getD pos.toNat (0,0)).2]:=by
 have:pos.toNat < s.first.length:=by omega
 rw [Ar,Ax,Aj this]
 rfl
set_option maxHeartbeats 4000000 in
theorem qwl (parent pos kid:Int):Fn Tryz.prog G 140 [.int .i64 parent, .int .i64 pos, .int .i64 kid] (.bool (fits parent pos kid)):=by
 cases hp:known parent
 case false=>
  rw [qse (.inl hp)]
  refine zg (T:=tt) (N:=48) (rs:= [.tmp 6]) (fun vs w=>by simp) Tryz.func140 rfl rfl rfl rfl (by kernel_rfl) (zm rfl) (qy _ rfl) ?_
  repeat' first
   | refine ji env rfl ?_
   | (refine qf ?_ ?_;(· simp only [hp,Ab,Aa]))
   | (refine qg ?_ ?_;(· simp only [hp,Ab,Aa]))
   | (refine qi ?_ ?_;(· simp only [hp,Ab,Aa]))
   | (refine qh ?_ ?_;(· simp only [hp,Ab,Aa]))
   | (refine qn ?_ ?_;(· simp only [hp,Ab,Aa]))
   | (refine qo ?_ ?_;(· simp only [hp,Ab,Aa]))
   | refine qk (wj _) ?_
   | refine qk (Kx _) ?_
   | refine qq (fun h=> ?_) (fun h=> ?_)
   | refine qw (fun h=> ?_) (fun h=> ?_)
   | refine qd (fun h=> ?_) (fun h=> ?_)
   | refine zb env rfl rfl (qz ?_)
   | refine zn env rfl (qz ?_)
  all_goals rfl
 cases hp0:decide (pos < 0)
 case true=>
  rw [qse (.inr (.inl (of_decide_eq_true hp0)))]
  refine zg (T:=tt) (N:=48) (rs:= [.tmp 6]) (fun vs w=>by simp) Tryz.func140 rfl rfl rfl rfl (by kernel_rfl) (zm rfl) (qy _ rfl) ?_
  repeat' first
   | refine ji env rfl ?_
   | (refine qf ?_ ?_;(· simp only [hp,hp0,Ab,Aa]))
   | (refine qg ?_ ?_;(· simp only [hp,hp0,Ab,Aa]))
   | (refine qi ?_ ?_;(· simp only [hp,hp0,Ab,Aa]))
   | (refine qh ?_ ?_;(· simp only [hp,hp0,Ab,Aa]))
   | (refine qn ?_ ?_;(· simp only [hp,hp0,Ab,Aa]))
   | (refine qo ?_ ?_;(· simp only [hp,hp0,Ab,Aa]))
   | refine qk (wj _) ?_
   | refine qk (Kx _) ?_
   | refine qq (fun h=> ?_) (fun h=> ?_)
   | refine qw (fun h=> ?_) (fun h=> ?_)
   | refine qd (fun h=> ?_) (fun h=> ?_)
   | refine zb env rfl rfl (qz ?_)
   | refine zn env rfl (qz ?_)
  all_goals rfl
 cases hk:known kid
 case false=>
  rw [qse (.inr (.inr hk))]
  refine zg (T:=tt) (N:=48) (rs:= [.tmp 6]) (fun vs w=>by simp) Tryz.func140 rfl rfl rfl rfl (by kernel_rfl) (zm rfl) (qy _ rfl) ?_
  repeat' first
   | refine ji env rfl ?_
   | (refine qf ?_ ?_;(· simp only [hp,hp0,hk,Ab,Aa]))
   | (refine qg ?_ ?_;(· simp only [hp,hp0,hk,Ab,Aa]))
   | (refine qi ?_ ?_;(· simp only [hp,hp0,hk,Ab,Aa]))
   | (refine qh ?_ ?_;(· simp only [hp,hp0,hk,Ab,Aa]))
   | (refine qn ?_ ?_;(· simp only [hp,hp0,hk,Ab,Aa]))
   | (refine qo ?_ ?_;(· simp only [hp,hp0,hk,Ab,Aa]))
   | refine qk (wj _) ?_
   | refine qk (Kx _) ?_
   | refine qq (fun h=> ?_) (fun h=> ?_)
   | refine qw (fun h=> ?_) (fun h=> ?_)
   | refine qd (fun h=> ?_) (fun h=> ?_)
   | refine zb env rfl rfl (qz ?_)
   | refine zn env rfl (qz ?_)
  all_goals rfl
 have kb:=Wg hp
 have h0:0≤parent:=by omega
 have h2:parent.toNat < 27:=by omega
 have hg:=qnk parent h2
 have hq:0≤pos:=by simpa using hp0
 have hfit:fits parent pos kid=(if (qid parent pos).2=0 then decide ((qid parent pos).1=kid) else decide ((qid parent pos).2=K8 kid)):=by simp [fits,hp,hk,hq]
 rw [hfit]
 have hpart:∀pos:Int,qid parent pos=if pos < (y7 parent).first.length then (y7 parent).first.getD pos.toNat (0,0) else (y7 parent).rest:=fun _=>rfl
 rw [hpart]
 clear hpart hfit kb
 generalize y7 parent=s at*
 by_cases hl:pos < s.first.length
 case neg=>
  have hl':decide (pos < ((s.first.map qut).length:Int))=false:=by simpa using hl
  simp only [if_neg hl]
  refine zg (T:=tt) (N:=48) (rs:= [.tmp 6]) (fun vs w=>by simp) Tryz.func140 rfl rfl rfl rfl (by kernel_rfl) (zm rfl) (qy _ rfl) ?_
  repeat' first
   | refine ji env rfl ?_
   | (refine qf ?_ ?_;(· simp only [hp,hp0,hk,hl',Ab,Aa]))
   | (refine qg ?_ ?_;(· simp only [hp,hp0,hk,hl',Ab,Aa]))
   | (refine qi ?_ ?_;(· simp only [hp,hp0,hk,hl',Ab,Aa]))
   | (refine qh ?_ ?_;(· simp only [hp,hp0,hk,hl',Ab,Aa]))
   | (refine qn ?_ ?_;(· simp only [hp,hp0,hk,hl',Ab,Aa]))
   | (refine qo ?_ ?_;(· simp only [hp,hp0,hk,hl',Ab,Aa]))
   | refine qoy env rfl rfl rfl rfl h0 h2 hg ?_
   | refine qk (wj _) ?_
   | refine qk (Kx _) ?_
   | refine qq (fun h=> ?_) (fun h=> ?_)
   | refine qw (fun h=> ?_) (fun h=> ?_)
   | refine qd (fun h=> ?_) (fun h=> ?_)
   | refine zb env rfl rfl (qz ?_)
   | refine zn env rfl (qz ?_)
  all_goals refine w8 ?_
  all_goals simp_all
 have hl':decide (pos < ((s.first.map qut).length:Int))=true:=by simpa using hl
 have hx:=q67 hq hl
 simp only [if_pos hl]
 generalize s.first.getD pos.toNat (0,0)=p at*
 refine zg (T:=tt) (N:=48) (rs:= [.tmp 6]) (fun vs w=>by simp) Tryz.func140 rfl rfl rfl rfl (by kernel_rfl) (zm rfl) (qy _ rfl) ?_
 repeat' first
  | refine ji env rfl ?_
  | (refine qf ?_ ?_;(· simp only [hp,hp0,hk,hl',Ab,Aa]))
  | (refine qg ?_ ?_;(· simp only [hp,hp0,hk,hl',Ab,Aa]))
  | (refine qi ?_ ?_;(· simp only [hp,hp0,hk,hl',Ab,Aa]))
  | (refine qh ?_ ?_;(· simp only [hp,hp0,hk,hl',Ab,Aa]))
  | (refine qn ?_ ?_;(· simp only [hp,hp0,hk,hl',Ab,Aa]))
  | (refine qo ?_ ?_;(· simp only [hp,hp0,hk,hl',Ab,Aa]))
  | refine qoy env rfl rfl rfl rfl h0 h2 hg ?_
  | refine Y5 env rfl rfl rfl rfl (Int.toNat_of_nonneg hq).symm hx ?_
  | refine qk (wj _) ?_
  | refine qk (Kx _) ?_
  | refine qq (fun h=> ?_) (fun h=> ?_)
  | refine qw (fun h=> ?_) (fun h=> ?_)
  | refine qd (fun h=> ?_) (fun h=> ?_)
  | refine zb env rfl rfl (qz ?_)
  | refine zn env rfl (qz ?_)
 all_goals refine w8 ?_
 all_goals simp_all
set_option maxHeartbeats 4000000
def q13 (parent pos kid:Int):Bool:=
 if pos < 0 then false
 else if parent=1 then decide (K8 kid=1)
 else if parent=2 then (decide (pos=0) && decide (kid=3)) || (decide (pos=1) && decide (kid=5)) || (decide (pos=2) && decide (kid=6))
 else if parent=3 then decide (kid=4)
 else if parent=4 then decide (pos=0) && decide (kid=5)
 else if parent=6 then decide (K8 kid=2)
 else if parent=7 then (decide (pos=0) && decide (kid=8)) || (decide (0 < pos) && decide (kid=2))
 else if parent=13 then (decide (pos=0) && decide (K8 kid=3)) || (decide (pos=1) && decide (kid=6)) || (decide (pos=2) && decide (kid=14))
 else if parent=14 then decide (pos=0) && decide (kid=6)
 else if parent=15 then (decide (pos=0) && decide (K8 kid=3)) || (decide (pos=1) && decide (kid=6))
 else if parent=20∨parent=21 then decide (K8 kid=3)
 else if parent=24 then decide (pos < 2) && decide (K8 kid=3)
 else if parent=9∨parent=10∨parent=11∨parent=12∨parent=16∨parent=25∨parent=26 then decide (pos=0) && decide (K8 kid=3)
 else false
theorem g1 (k:Int):(K8 k=1)=(k=2∨k=7∨k=9):=by
 apply propext;unfold K8;(repeat' split) <;> omega
theorem g1' (k:Int):(1=K8 k)=(k=2∨k=7∨k=9):=by rw [←g1];exact propext ⟨Eq.symm,Eq.symm⟩
theorem g2 (k:Int):(K8 k=2)=(k=10∨k=11∨k=12∨k=13∨k=15∨k=16):=by
 apply propext;unfold K8;(repeat' split) <;> omega
theorem g2' (k:Int):(2=K8 k)=(k=10∨k=11∨k=12∨k=13∨k=15∨k=16):=by rw [←g2];exact propext ⟨Eq.symm,Eq.symm⟩
theorem g3' (k:Int):(3=K8 k)=(17≤k∧k≤26):=by rw [←qwk];exact propext ⟨Eq.symm,Eq.symm⟩
theorem get1 {α:Type} (a d:α) (n:Nat): [a].getD n d=if n=0 then a else d:=by
 rcases n with _ | n <;> simp
theorem get2 {α:Type} (a b d:α) (n:Nat): [a,b].getD n d=if n=0 then a else if n=1 then b else d:=by
 rcases n with _ | _ | n <;> simp
theorem get3 {α:Type} (a b c d:α) (n:Nat): [a,b,c].getD n d=if n=0 then a else if n=1 then b else if n=2 then c else d:=by
 rcases n with _ | _ | _ | n <;> simp
theorem q5w (parent pos kid:Int):q13 parent pos kid=fits parent pos kid:=by
 have key:∀s:Shape,y7 parent=s→fits parent pos kid=(known parent && decide (0≤pos) && known kid && (if (if pos < s.first.length then s.first.getD pos.toNat (0,0) else s.rest).2=0 then decide ((if pos < s.first.length then s.first.getD pos.toNat (0,0) else s.rest).1=kid) else decide ((if pos < s.first.length then s.first.getD pos.toNat (0,0) else s.rest).2=K8 kid))):=by
  rintro _ rfl;rfl
 by_cases hk:known parent=true
 ·have:=Wg hk
  have hp:parent=1∨parent=2∨parent=3∨parent=4∨parent=5∨parent=6∨parent=7∨parent=8∨parent=9∨parent=10∨parent=11∨parent=12∨parent=13∨parent=14∨parent=15∨parent=16∨parent=17∨parent=18∨parent=19∨parent=20∨parent=21∨parent=22∨parent=23∨parent=24∨parent=25∨parent=26:=by omega
  rw [BP]
  rcases hp with rfl | rfl | rfl | rfl | rfl | rfl | rfl | rfl | rfl | rfl | rfl | rfl | rfl | rfl | rfl | rfl | rfl | rfl | rfl | rfl | rfl | rfl | rfl | rfl | rfl | rfl
  all_goals
   rw [key _ rfl]
   clear key this hk
   simp only [y7,shapes,Int.reduceToNat,List.getD_cons_succ,Ck,q13,known,g1,g2,qwk,get1,get2,get3,Af,Ao,List.getD_nil]
   by_cases h0:pos < 0
   ·have:¬0≤pos:=by omega
    simp [h0,this]
   have e:0≤pos:=by omega
   have e0:(pos.toNat=0)=(pos=0):=by apply propext;omega
   have e1:(pos.toNat=1)=(pos=1):=by apply propext;omega
   have e2:(pos.toNat=2)=(pos=2):=by apply propext;omega
   simp only [e0,e1,e2,h0,e]
   by_cases h1:pos=0
   ·subst h1;simp [g1',g2',g3'] <;> omega
   by_cases h2:pos=1
   ·subst h2;simp [g1',g2',g3'] <;> omega
   by_cases h3:pos=2
   ·subst h3;simp [g1',g2',g3'] <;> omega
   have f1:¬pos < 1:=by omega
   have f2:¬pos < 2:=by omega
   have f3:¬pos < 3:=by omega
   have f4:0 < pos:=by omega
   simp [h0,h1,h2,h3,f1,f2,f3,f4,g1',g2',g3'] <;> omega
 have hf:fits parent pos kid=false:=by simp [fits,Bool.eq_false_iff.2 hk]
 rw [hf]
 simp only [known,An,decide_eq_true_eq] at hk
 simp only [q13,show ¬parent=1 by omega,show ¬parent=2 by omega,show ¬parent=3 by omega,show ¬parent=4 by omega,show ¬parent=6 by omega,show ¬parent=7 by omega,show ¬parent=13 by omega,show ¬parent=14 by omega,show ¬parent=15 by omega,show ¬parent=20 by omega,show ¬parent=21 by omega,show ¬parent=24 by omega,show ¬parent=9 by omega,show ¬parent=10 by omega,show ¬parent=11 by omega,show ¬parent=12 by omega,show ¬parent=16 by omega,show ¬parent=25 by omega,show ¬parent=26 by omega,if_false,or_false]
 split <;> rfl
set_option maxHeartbeats 4000000 in
theorem q3b (parent pos kid:Int):Fn Tryz.prog G 181 [.int .i64 parent, .int .i64 pos, .int .i64 kid] (.bool (fits parent pos kid)):=by
 refine zg (T:=tt) (N:=152) (rs:= [.tmp 6]) (fun vs w=>by simp) Tryz.func181 rfl rfl rfl rfl (by kernel_rfl) (zm rfl) (qy _ rfl) ?_
 repeat' first
  | refine ji env rfl ?_
  | refine qk (qzl _) ?_
  | refine qq (fun h=> ?_) (fun h=> ?_)
  | refine qw (fun h=> ?_) (fun h=> ?_)
  | refine qd (fun h=> ?_) (fun h=> ?_)
  | refine zb env rfl rfl (qz ?_)
  | refine zn env rfl (qz ?_)
 all_goals rw [←q5w]
 all_goals refine w8 ?_
 all_goals simp_all [q13]
 all_goals omega
end Go.Proofs.YtpnkemogepoioaaGreatDoorW.Ex.Gr
