/- The grammar's functions on numbers: kinds and groups. No conditions beside those in each theorem. The grammar's functions on a node: Level, Own and Fits. No conditions beside those in each theorem. Which kind may be a kid at which position of another kind. No conditions beside those in each theorem. -/
import Derived.Test.YtpnkemogepoioaaGreatDoorGa
namespace Go.Proofs.YtpnkemogepoioaaGreatDoorW.Ex.Gr
open Go Go.Proofs.YtpnkemogepoioaaGreatDoorW.Ex
set_option linter.all false
set_option maxRecDepth 100000
theorem qs3 {α:Type} (p:Nat→α→Bool) (l:List α) (C:α→List AV) (i:Nat) (hl:l.length≤9223372036854775807) (hJ:i≤l.length∧Zz p 0 l=Zz p i (l.drop i)):
 (∃m,l[i]? =some m∧i < l.length∧decide ((i:Int) < ((l.map C).length:Int))=true∧IntKind.i64.wrap ((i:Int)+1)=(i:Int)+1∧Zz p 0 l=(p i m && Zz p (i+1) (l.drop (i+1))))∨
 (decide ((i:Int) < ((l.map C).length:Int))=false∧Zz p 0 l=true):=by
 rcases Nat.lt_or_ge i l.length with h | h
 ·refine .inl ⟨l[i],List.getElem?_eq_getElem h,h,by simpa using h,ke (by omega) (by omega),?_⟩
  rw [hJ.2,List.drop_eq_getElem_cons h]
  rfl
 refine .inr ⟨by simpa using h,?_⟩
 rw [hJ.2,List.drop_of_length_le h]
 rfl
set_option maxHeartbeats 4000000 in
theorem yx (k:Int):Fn Tryz.prog G 106 [.int .i64 k] (.bool (known k)):=by
 refine zo (T:=tt) (N:=9) (rs:= [.tmp 2]) (fun vs w=>by simp) Tryz.func106 rfl rfl rfl rfl (by kernel_rfl) (z7 rfl) (q5 _ rfl) ?_
 repeat' first
  | refine yo env rfl ?_
  | refine qo (fun h=> ?_) (fun h=> ?_)
  | refine za (fun h=> ?_) (fun h=> ?_)
  | refine qf (fun h=> ?_) (fun h=> ?_)
  | refine j5 env rfl rfl (q9 ?_)
  | refine z8 env rfl (q9 ?_)
 all_goals (first | refine qel ?_ | refine Jl ?_)
 all_goals (simp_all [known])
 all_goals (try omega)
set_option maxHeartbeats 4000000 in
theorem Jb (k:Int):Fn Tryz.prog G 74 [.int .i64 k] (.int .i64 (qfp k)):=by
 refine zo (T:=tt) (N:=21) (rs:= [.tmp 2]) (fun vs w=>by simp) Tryz.func74 rfl rfl rfl rfl (by kernel_rfl) (z7 rfl) (q5 _ rfl) ?_
 repeat' first
  | refine yo env rfl ?_
  | refine qo (fun h=> ?_) (fun h=> ?_)
  | refine za (fun h=> ?_) (fun h=> ?_)
  | refine qf (fun h=> ?_) (fun h=> ?_)
  | refine j5 env rfl rfl (q9 ?_)
  | refine z8 env rfl (q9 ?_)
 all_goals (first | refine qel ?_ | refine Jl ?_)
 all_goals (simp_all [qfp])
 all_goals (try omega)
set_option maxHeartbeats 4000000 in
theorem qij (k:Int):Fn Tryz.prog G 105 [.int .i64 k] (.int .i64 (most k)):=by
 refine zo (T:=tt) (N:=9) (rs:= [.tmp 2]) (fun vs w=>by simp) Tryz.func105 rfl rfl rfl rfl (by kernel_rfl) (z7 rfl) (q5 _ rfl) ?_
 repeat' first
  | refine yo env rfl ?_
  | refine qo (fun h=> ?_) (fun h=> ?_)
  | refine za (fun h=> ?_) (fun h=> ?_)
  | refine qf (fun h=> ?_) (fun h=> ?_)
  | refine j5 env rfl rfl (q9 ?_)
  | refine z8 env rfl (q9 ?_)
 all_goals (first | refine qel ?_ | refine Jl ?_)
 all_goals (simp_all [most])
 all_goals (try omega)
end Go.Proofs.YtpnkemogepoioaaGreatDoorW.Ex.Gr

namespace Go.Proofs.YtpnkemogepoioaaGreatDoorW.Ex.Gr
open Go Go.Proofs.YtpnkemogepoioaaGreatDoorW.Ex
set_option linter.all false
set_option maxRecDepth 100000
theorem q2x (a:Int):(if a < 0 then 0 else a)=max 0 a:=by split <;> omega
theorem q26 (k:Int):(qfp k=3)=(17≤k∧k≤26):=by
 apply propext
 unfold qfp
 split
 ·omega
 split
 ·omega
 split
 ·omega
 omega
theorem q03:∀m:Nat,m < 27→(shapes.getD m ⟨[],(0,0),0, [],0⟩).own=ownN m:=by decide
theorem qw0 (k:Int) (h0:1≤k) (h1:k < 27):(wx k).own=ownN k:=by
 have:=q03 k.toNat (by omega)
 rw [show ((k.toNat:Nat):Int)=k by omega] at this
 exact this
theorem q04 (n:Node) (h:known n.kind=false):own n=0:=by simp [own,h]
theorem qdi {k:Int} (h:known k=true):1≤k∧k < 27:=by simpa [known] using h
set_option maxHeartbeats 4000000 in
theorem qc1 (n:Node):Fn Tryz.prog G 142 [.agg (zq n)] (.int .i64 (qfl n)):=by
 refine zo (T:=tt) (N:=28) (rs:= [.tmp 2]) (fun vs w=>by simp) Tryz.func142 rfl rfl rfl rfl (by kernel_rfl) (z7 rfl) (q5 _ rfl) ?_
 repeat' first
  | refine yo env rfl ?_
  | refine qp (Jb _) ?_
  | refine qo (fun h=> ?_) (fun h=> ?_)
  | refine za (fun h=> ?_) (fun h=> ?_)
  | refine qf (fun h=> ?_) (fun h=> ?_)
  | refine j5 env rfl rfl (q9 ?_)
  | refine z8 env rfl (q9 ?_)
 all_goals refine qel ?_
 all_goals (simp_all [qfl,qa8,q26])
 all_goals (try omega)
set_option maxHeartbeats 4000000 in
theorem qsn (n:Node) (hk:n.kids.length≤9223372036854775807):Fn Tryz.prog G 146 [.agg (zq n)] (.int .i64 (own n)):=by
 cases hkn:known n.kind
 ·rw [q04 n hkn]
  refine zo (T:=tt) (N:=45) (rs:= [.tmp 2]) (fun vs w=>by simp) Tryz.func146 rfl rfl rfl rfl (by kernel_rfl) (z7 rfl) (q5 _ rfl) ?_
  repeat' first
   | refine yo env rfl ?_
   | (refine qk ?_ ?_;(· simp only [hkn,Bool.not_false]))
   | (refine ql ?_ ?_;(· simp only [hkn,Bool.not_false]))
   | (refine qn ?_ ?_;(· simp only [hkn,Bool.not_false]))
   | (refine qm ?_ ?_;(· simp only [hkn,Bool.not_false]))
   | (refine qu ?_ ?_;(· simp only [hkn,Bool.not_false]))
   | (refine qv ?_ ?_;(· simp only [hkn,Bool.not_false]))
   | refine qp (yx _) ?_
   | refine qo (fun h=> ?_) (fun h=> ?_)
   | refine za (fun h=> ?_) (fun h=> ?_)
   | refine qf (fun h=> ?_) (fun h=> ?_)
   | refine j5 env rfl rfl (q9 ?_)
   | refine z8 env rfl (q9 ?_)
  all_goals rfl
 have w1:IntKind.i64.wrap ((n.kids.length:Int) - 1)=(n.kids.length:Int) - 1:=ke (by omega) (by omega)
 have w2:IntKind.i64.wrap ((n.kids.length:Int) - 2)=(n.kids.length:Int) - 2:=ke (by omega) (by omega)
 have w3:IntKind.i64.wrap ((n.kids.length:Int) - 1 - 1)=(n.kids.length:Int) - 1 - 1:=ke (by omega) (by omega)
 have kb:=qdi hkn
 have h0:0≤n.kind:=by omega
 have h2:n.kind.toNat < 27:=by omega
 have hg:=qim n.kind h2
 have ho:=qw0 n.kind kb.1 kb.2
 refine zo (T:=tt) (N:=45) (rs:= [.tmp 2]) (fun vs w=>by simp) Tryz.func146 rfl rfl rfl rfl (by kernel_rfl) (z7 rfl) (q5 _ rfl) ?_
 repeat' first
  | refine yo env rfl ?_
  | (refine qk ?_ ?_;(· simp only [hkn,Bool.not_true]))
  | (refine ql ?_ ?_;(· simp only [hkn,Bool.not_true]))
  | (refine qn ?_ ?_;(· simp only [hkn,Bool.not_true]))
  | (refine qm ?_ ?_;(· simp only [hkn,Bool.not_true]))
  | (refine qu ?_ ?_;(· simp only [hkn,Bool.not_true]))
  | (refine qv ?_ ?_;(· simp only [hkn,Bool.not_true]))
  | refine qjz env rfl rfl rfl rfl h0 h2 hg ?_
  | refine qp (yx _) ?_
  | refine qo (fun h=> ?_) (fun h=> ?_)
  | refine za (fun h=> ?_) (fun h=> ?_)
  | refine qf (fun h=> ?_) (fun h=> ?_)
  | refine j5 env rfl rfl (q9 ?_)
  | refine z8 env rfl (q9 ?_)
 all_goals refine qel ?_
 all_goals (try simp only [List.length_map,w1,w3])
 all_goals clear w1 w2 w3 hg h2 h0
 all_goals (simp_all [own,ownN,q2x])
 all_goals (first | done | (refine congrArg IntKind.i64.wrap (congrArg (_+ ·) ?_);split <;> omega))
end Go.Proofs.YtpnkemogepoioaaGreatDoorW.Ex.Gr

namespace Go.Proofs.YtpnkemogepoioaaGreatDoorW.Ex.Gr
open Go Go.Proofs.YtpnkemogepoioaaGreatDoorW.Ex
set_option linter.all false
set_option maxRecDepth 100000
theorem qmu {parent pos kid:Int} (h:known parent=false∨pos < 0∨known kid=false):fits parent pos kid=false:=by
 rcases h with h | h | h
 ·simp [fits,h]
 ·simp [fits,show ¬0≤pos by omega]
 simp [fits,h]
theorem qzp {s:Shape} {pos:Int} (h0:0≤pos) (h:pos < s.first.length):(s.first.map qor)[pos.toNat]? =some [.int .i64 (s.first.getD pos.toNat (0,0)).1, .int .i64 (s.first.getD pos.toNat (0,0)).2]:=by
 have:pos.toNat < s.first.length:=by omega
 rw [List.getElem?_map,List.getD_eq_getElem?_getD,List.getElem?_eq_getElem this]
 rfl
set_option maxHeartbeats 4000000 in
theorem qqg (parent pos kid:Int):Fn Tryz.prog G 140 [.int .i64 parent, .int .i64 pos, .int .i64 kid] (.bool (fits parent pos kid)):=by
 cases hp:known parent
 case false=>
  rw [qmu (.inl hp)]
  refine zo (T:=tt) (N:=48) (rs:= [.tmp 6]) (fun vs w=>by simp) Tryz.func140 rfl rfl rfl rfl (by kernel_rfl) (z7 rfl) (q5 _ rfl) ?_
  repeat' first
   | refine yo env rfl ?_
   | (refine qk ?_ ?_;(· simp only [hp,Bool.not_true,Bool.not_false]))
   | (refine ql ?_ ?_;(· simp only [hp,Bool.not_true,Bool.not_false]))
   | (refine qn ?_ ?_;(· simp only [hp,Bool.not_true,Bool.not_false]))
   | (refine qm ?_ ?_;(· simp only [hp,Bool.not_true,Bool.not_false]))
   | (refine qu ?_ ?_;(· simp only [hp,Bool.not_true,Bool.not_false]))
   | (refine qv ?_ ?_;(· simp only [hp,Bool.not_true,Bool.not_false]))
   | refine qp (yx _) ?_
   | refine qp (Jb _) ?_
   | refine qo (fun h=> ?_) (fun h=> ?_)
   | refine za (fun h=> ?_) (fun h=> ?_)
   | refine qf (fun h=> ?_) (fun h=> ?_)
   | refine j5 env rfl rfl (q9 ?_)
   | refine z8 env rfl (q9 ?_)
  all_goals rfl
 cases hp0:decide (pos < 0)
 case true=>
  rw [qmu (.inr (.inl (of_decide_eq_true hp0)))]
  refine zo (T:=tt) (N:=48) (rs:= [.tmp 6]) (fun vs w=>by simp) Tryz.func140 rfl rfl rfl rfl (by kernel_rfl) (z7 rfl) (q5 _ rfl) ?_
  repeat' first
   | refine yo env rfl ?_
   | (refine qk ?_ ?_;(· simp only [hp,hp0,Bool.not_true,Bool.not_false]))
   | (refine ql ?_ ?_;(· simp only [hp,hp0,Bool.not_true,Bool.not_false]))
   | (refine qn ?_ ?_;(· simp only [hp,hp0,Bool.not_true,Bool.not_false]))
   | (refine qm ?_ ?_;(· simp only [hp,hp0,Bool.not_true,Bool.not_false]))
   | (refine qu ?_ ?_;(· simp only [hp,hp0,Bool.not_true,Bool.not_false]))
   | (refine qv ?_ ?_;(· simp only [hp,hp0,Bool.not_true,Bool.not_false]))
   | refine qp (yx _) ?_
   | refine qp (Jb _) ?_
   | refine qo (fun h=> ?_) (fun h=> ?_)
   | refine za (fun h=> ?_) (fun h=> ?_)
   | refine qf (fun h=> ?_) (fun h=> ?_)
   | refine j5 env rfl rfl (q9 ?_)
   | refine z8 env rfl (q9 ?_)
  all_goals rfl
 cases hk:known kid
 case false=>
  rw [qmu (.inr (.inr hk))]
  refine zo (T:=tt) (N:=48) (rs:= [.tmp 6]) (fun vs w=>by simp) Tryz.func140 rfl rfl rfl rfl (by kernel_rfl) (z7 rfl) (q5 _ rfl) ?_
  repeat' first
   | refine yo env rfl ?_
   | (refine qk ?_ ?_;(· simp only [hp,hp0,hk,Bool.not_true,Bool.not_false]))
   | (refine ql ?_ ?_;(· simp only [hp,hp0,hk,Bool.not_true,Bool.not_false]))
   | (refine qn ?_ ?_;(· simp only [hp,hp0,hk,Bool.not_true,Bool.not_false]))
   | (refine qm ?_ ?_;(· simp only [hp,hp0,hk,Bool.not_true,Bool.not_false]))
   | (refine qu ?_ ?_;(· simp only [hp,hp0,hk,Bool.not_true,Bool.not_false]))
   | (refine qv ?_ ?_;(· simp only [hp,hp0,hk,Bool.not_true,Bool.not_false]))
   | refine qp (yx _) ?_
   | refine qp (Jb _) ?_
   | refine qo (fun h=> ?_) (fun h=> ?_)
   | refine za (fun h=> ?_) (fun h=> ?_)
   | refine qf (fun h=> ?_) (fun h=> ?_)
   | refine j5 env rfl rfl (q9 ?_)
   | refine z8 env rfl (q9 ?_)
  all_goals rfl
 have kb:=qdi hp
 have h0:0≤parent:=by omega
 have h2:parent.toNat < 27:=by omega
 have hg:=qim parent h2
 have hq:0≤pos:=by simpa using hp0
 have hfit:fits parent pos kid=(if (qhf parent pos).2=0 then decide ((qhf parent pos).1=kid) else decide ((qhf parent pos).2=qfp kid)):=by simp [fits,hp,hk,hq]
 rw [hfit]
 have hpart:∀pos:Int,qhf parent pos=if pos < (wx parent).first.length then (wx parent).first.getD pos.toNat (0,0) else (wx parent).rest:=fun _=>rfl
 rw [hpart]
 clear hpart hfit kb
 generalize wx parent=s at*
 by_cases hl:pos < s.first.length
 case neg=>
  have hl':decide (pos < ((s.first.map qor).length:Int))=false:=by simpa using hl
  simp only [if_neg hl]
  refine zo (T:=tt) (N:=48) (rs:= [.tmp 6]) (fun vs w=>by simp) Tryz.func140 rfl rfl rfl rfl (by kernel_rfl) (z7 rfl) (q5 _ rfl) ?_
  repeat' first
   | refine yo env rfl ?_
   | (refine qk ?_ ?_;(· simp only [hp,hp0,hk,hl',Bool.not_true,Bool.not_false]))
   | (refine ql ?_ ?_;(· simp only [hp,hp0,hk,hl',Bool.not_true,Bool.not_false]))
   | (refine qn ?_ ?_;(· simp only [hp,hp0,hk,hl',Bool.not_true,Bool.not_false]))
   | (refine qm ?_ ?_;(· simp only [hp,hp0,hk,hl',Bool.not_true,Bool.not_false]))
   | (refine qu ?_ ?_;(· simp only [hp,hp0,hk,hl',Bool.not_true,Bool.not_false]))
   | (refine qv ?_ ?_;(· simp only [hp,hp0,hk,hl',Bool.not_true,Bool.not_false]))
   | refine qjz env rfl rfl rfl rfl h0 h2 hg ?_
   | refine qp (yx _) ?_
   | refine qp (Jb _) ?_
   | refine qo (fun h=> ?_) (fun h=> ?_)
   | refine za (fun h=> ?_) (fun h=> ?_)
   | refine qf (fun h=> ?_) (fun h=> ?_)
   | refine j5 env rfl rfl (q9 ?_)
   | refine z8 env rfl (q9 ?_)
  all_goals refine Jl ?_
  all_goals simp_all
 have hl':decide (pos < ((s.first.map qor).length:Int))=true:=by simpa using hl
 have hx:=qzp hq hl
 simp only [if_pos hl]
 generalize s.first.getD pos.toNat (0,0)=p at*
 refine zo (T:=tt) (N:=48) (rs:= [.tmp 6]) (fun vs w=>by simp) Tryz.func140 rfl rfl rfl rfl (by kernel_rfl) (z7 rfl) (q5 _ rfl) ?_
 repeat' first
  | refine yo env rfl ?_
  | (refine qk ?_ ?_;(· simp only [hp,hp0,hk,hl',Bool.not_true,Bool.not_false]))
  | (refine ql ?_ ?_;(· simp only [hp,hp0,hk,hl',Bool.not_true,Bool.not_false]))
  | (refine qn ?_ ?_;(· simp only [hp,hp0,hk,hl',Bool.not_true,Bool.not_false]))
  | (refine qm ?_ ?_;(· simp only [hp,hp0,hk,hl',Bool.not_true,Bool.not_false]))
  | (refine qu ?_ ?_;(· simp only [hp,hp0,hk,hl',Bool.not_true,Bool.not_false]))
  | (refine qv ?_ ?_;(· simp only [hp,hp0,hk,hl',Bool.not_true,Bool.not_false]))
  | refine qjz env rfl rfl rfl rfl h0 h2 hg ?_
  | refine We env rfl rfl rfl rfl (Int.toNat_of_nonneg hq).symm hx ?_
  | refine qp (yx _) ?_
  | refine qp (Jb _) ?_
  | refine qo (fun h=> ?_) (fun h=> ?_)
  | refine za (fun h=> ?_) (fun h=> ?_)
  | refine qf (fun h=> ?_) (fun h=> ?_)
  | refine j5 env rfl rfl (q9 ?_)
  | refine z8 env rfl (q9 ?_)
 all_goals refine Jl ?_
 all_goals simp_all
set_option maxHeartbeats 4000000
theorem g1 (k:Int):(qfp k=1)=(k=2∨k=7∨k=9):=by
 apply propext;unfold qfp;(repeat' split) <;> omega
theorem g2 (k:Int):(qfp k=2)=(k=10∨k=11∨k=12∨k=13∨k=15∨k=16):=by
 apply propext;unfold qfp;(repeat' split) <;> omega
end Go.Proofs.YtpnkemogepoioaaGreatDoorW.Ex.Gr
