/- The grammar's functions on numbers: kinds and groups. No conditions beside those in each theorem. The grammar's functions on a node: Level, Own and Fits. No conditions beside those in each theorem. Which kind may be a kid at which position of another kind. No conditions beside those in each theorem. -/
import Derived.Test.YtpnkemogepoioaaGreatDoorGa
namespace Go.Proofs.YtpnkemogepoioaaGreatDoorW.Ex.Gr
open Go Go.Proofs.YtpnkemogepoioaaGreatDoorW.Ex
set_option linter.all false
set_option maxRecDepth 100000
theorem qxc {α:Type} (p:Nat→α→Bool) (l:List α) (C:α→List AV) (i:Nat) (hl:l.length≤9223372036854775807) (hJ:i≤l.length∧Q7 p 0 l=Q7 p i (l.drop i)):
 (∃m,l[i]? =some m∧i < l.length∧decide ((i:Int) < ((l.map C).length:Int))=true∧IntKind.i64.wrap ((i:Int)+1)=(i:Int)+1∧Q7 p 0 l=(p i m && Q7 p (i+1) (l.drop (i+1))))∨
 (decide ((i:Int) < ((l.map C).length:Int))=false∧Q7 p 0 l=true):=by
 rcases Br i l.length with h | h
 ·refine .inl ⟨l[i],Ak h,h,by simpa using h,we (by omega) (by omega),?_⟩
  rw [hJ.2,Be h]
  rfl
 refine .inr ⟨by simpa using h,?_⟩
 rw [hJ.2,AW h]
 rfl
set_option maxHeartbeats 4000000 in
theorem wg (k:Int):Fn Tryz.prog G 106 [.int .i64 k] (.bool (known k)):=by
 refine z8 (T:=tt) (N:=9) (rs:= [.tmp 2]) (fun vs w=>by simp) Tryz.func106 rfl rfl rfl rfl (by kernel_rfl) (jo rfl) (zf _ rfl) ?_
 repeat' first
  | refine ky env rfl ?_
  | refine qr (fun h=> ?_) (fun h=> ?_)
  | refine q9 (fun h=> ?_) (fun h=> ?_)
  | refine qe (fun h=> ?_) (fun h=> ?_)
  | refine yg env rfl rfl (zl ?_)
  | refine jp env rfl (zl ?_)
 all_goals (first | refine qgg ?_ | refine Y6 ?_)
 all_goals (simp_all [known])
 all_goals (try omega)
set_option maxHeartbeats 4000000 in
theorem Yu (k:Int):Fn Tryz.prog G 74 [.int .i64 k] (.int .i64 (yo k)):=by
 refine z8 (T:=tt) (N:=21) (rs:= [.tmp 2]) (fun vs w=>by simp) Tryz.func74 rfl rfl rfl rfl (by kernel_rfl) (jo rfl) (zf _ rfl) ?_
 repeat' first
  | refine ky env rfl ?_
  | refine qr (fun h=> ?_) (fun h=> ?_)
  | refine q9 (fun h=> ?_) (fun h=> ?_)
  | refine qe (fun h=> ?_) (fun h=> ?_)
  | refine yg env rfl rfl (zl ?_)
  | refine jp env rfl (zl ?_)
 all_goals (first | refine qgg ?_ | refine Y6 ?_)
 all_goals (simp_all [yo])
 all_goals (try omega)
set_option maxHeartbeats 4000000 in
theorem qk1 (k:Int):Fn Tryz.prog G 105 [.int .i64 k] (.int .i64 (most k)):=by
 refine z8 (T:=tt) (N:=9) (rs:= [.tmp 2]) (fun vs w=>by simp) Tryz.func105 rfl rfl rfl rfl (by kernel_rfl) (jo rfl) (zf _ rfl) ?_
 repeat' first
  | refine ky env rfl ?_
  | refine qr (fun h=> ?_) (fun h=> ?_)
  | refine q9 (fun h=> ?_) (fun h=> ?_)
  | refine qe (fun h=> ?_) (fun h=> ?_)
  | refine yg env rfl rfl (zl ?_)
  | refine jp env rfl (zl ?_)
 all_goals (first | refine qgg ?_ | refine Y6 ?_)
 all_goals (simp_all [most])
 all_goals (try omega)
end Go.Proofs.YtpnkemogepoioaaGreatDoorW.Ex.Gr

namespace Go.Proofs.YtpnkemogepoioaaGreatDoorW.Ex.Gr
open Go Go.Proofs.YtpnkemogepoioaaGreatDoorW.Ex
set_option linter.all false
set_option maxRecDepth 100000
theorem q84 (a:Int):(if a < 0 then 0 else a)=max 0 a:=by split <;> omega
theorem q9f (k:Int):(yo k=3)=(17≤k∧k≤26):=by
 apply propext
 unfold yo
 split
 ·omega
 split
 ·omega
 split
 ·omega
 omega
theorem q6q:∀m:Nat,m < 27→(shapes.getD m ⟨[],(0,0),0, [],0⟩).own=ownN m:=by decide
theorem q1y (k:Int) (h0:1≤k) (h1:k < 27):(jc k).own=ownN k:=by
 have:=q6q k.toNat (by omega)
 rw [show ((k.toNat:Nat):Int)=k by omega] at this
 exact this
theorem q6r (n:Node) (h:known n.kind=false):own n=0:=by simp [own,h]
theorem qb2 {k:Int} (h:known k=true):1≤k∧k < 27:=by simpa [known] using h
set_option maxHeartbeats 4000000 in
theorem qeq (n:Node):Fn Tryz.prog G 142 [.agg (z7 n)] (.int .i64 (vn n)):=by
 refine z8 (T:=tt) (N:=28) (rs:= [.tmp 2]) (fun vs w=>by simp) Tryz.func142 rfl rfl rfl rfl (by kernel_rfl) (jo rfl) (zf _ rfl) ?_
 repeat' first
  | refine ky env rfl ?_
  | refine qn (Yu _) ?_
  | refine qr (fun h=> ?_) (fun h=> ?_)
  | refine q9 (fun h=> ?_) (fun h=> ?_)
  | refine qe (fun h=> ?_) (fun h=> ?_)
  | refine yg env rfl rfl (zl ?_)
  | refine jp env rfl (zl ?_)
 all_goals refine qgg ?_
 all_goals (simp_all [vn,Jr,q9f])
 all_goals (try omega)
set_option maxHeartbeats 4000000 in
theorem qwq (n:Node) (hk:n.kids.length≤9223372036854775807):Fn Tryz.prog G 146 [.agg (z7 n)] (.int .i64 (own n)):=by
 cases hkn:known n.kind
 ·rw [q6r n hkn]
  refine z8 (T:=tt) (N:=45) (rs:= [.tmp 2]) (fun vs w=>by simp) Tryz.func146 rfl rfl rfl rfl (by kernel_rfl) (jo rfl) (zf _ rfl) ?_
  repeat' first
   | refine ky env rfl ?_
   | (refine qt ?_ ?_;(· simp only [hkn,Aa]))
   | (refine qu ?_ ?_;(· simp only [hkn,Aa]))
   | (refine qw ?_ ?_;(· simp only [hkn,Aa]))
   | (refine qv ?_ ?_;(· simp only [hkn,Aa]))
   | (refine qy ?_ ?_;(· simp only [hkn,Aa]))
   | (refine qz ?_ ?_;(· simp only [hkn,Aa]))
   | refine qn (wg _) ?_
   | refine qr (fun h=> ?_) (fun h=> ?_)
   | refine q9 (fun h=> ?_) (fun h=> ?_)
   | refine qe (fun h=> ?_) (fun h=> ?_)
   | refine yg env rfl rfl (zl ?_)
   | refine jp env rfl (zl ?_)
  all_goals rfl
 have w1:IntKind.i64.wrap ((n.kids.length:Int) - 1)=(n.kids.length:Int) - 1:=we (by omega) (by omega)
 have w2:IntKind.i64.wrap ((n.kids.length:Int) - 2)=(n.kids.length:Int) - 2:=we (by omega) (by omega)
 have w3:IntKind.i64.wrap ((n.kids.length:Int) - 1 - 1)=(n.kids.length:Int) - 1 - 1:=we (by omega) (by omega)
 have kb:=qb2 hkn
 have h0:0≤n.kind:=by omega
 have h2:n.kind.toNat < 27:=by omega
 have hg:=qk4 n.kind h2
 have ho:=q1y n.kind kb.1 kb.2
 refine z8 (T:=tt) (N:=45) (rs:= [.tmp 2]) (fun vs w=>by simp) Tryz.func146 rfl rfl rfl rfl (by kernel_rfl) (jo rfl) (zf _ rfl) ?_
 repeat' first
  | refine ky env rfl ?_
  | (refine qt ?_ ?_;(· simp only [hkn,Ac]))
  | (refine qu ?_ ?_;(· simp only [hkn,Ac]))
  | (refine qw ?_ ?_;(· simp only [hkn,Ac]))
  | (refine qv ?_ ?_;(· simp only [hkn,Ac]))
  | (refine qy ?_ ?_;(· simp only [hkn,Ac]))
  | (refine qz ?_ ?_;(· simp only [hkn,Ac]))
  | refine qmj env rfl rfl rfl rfl h0 h2 hg ?_
  | refine qn (wg _) ?_
  | refine qr (fun h=> ?_) (fun h=> ?_)
  | refine q9 (fun h=> ?_) (fun h=> ?_)
  | refine qe (fun h=> ?_) (fun h=> ?_)
  | refine yg env rfl rfl (zl ?_)
  | refine jp env rfl (zl ?_)
 all_goals refine qgg ?_
 all_goals (try simp only [As,w1,w3])
 all_goals clear w1 w2 w3 hg h2 h0
 all_goals (simp_all [own,ownN,q84])
 all_goals (first | done | (refine congrArg IntKind.i64.wrap (congrArg (_+ ·) ?_);split <;> omega))
end Go.Proofs.YtpnkemogepoioaaGreatDoorW.Ex.Gr

namespace Go.Proofs.YtpnkemogepoioaaGreatDoorW.Ex.Gr
open Go Go.Proofs.YtpnkemogepoioaaGreatDoorW.Ex
set_option linter.all false
set_option maxRecDepth 100000
theorem qp0 {parent pos kid:Int} (h:known parent=false∨pos < 0∨known kid=false):fits parent pos kid=false:=by
 rcases h with h | h | h
 ·simp [fits,h]
 ·simp [fits,show ¬0≤pos by omega]
 simp [fits,h]
theorem q45 {s:Shape} {pos:Int} (h0:0≤pos) (h:pos < s.first.length):(s.first.map qsg)[pos.toNat]? =some [.int .i64 (s.first.getD pos.toNat (0,0)).1, .int .i64 (s.first.getD pos.toNat (0,0)).2]:=by
 have:pos.toNat < s.first.length:=by omega
 rw [Av,Ax,Ak this]
 rfl
set_option maxHeartbeats 4000000 in
theorem qt9 (parent pos kid:Int):Fn Tryz.prog G 140 [.int .i64 parent, .int .i64 pos, .int .i64 kid] (.bool (fits parent pos kid)):=by
 cases hp:known parent
 case false=>
  rw [qp0 (.inl hp)]
  refine z8 (T:=tt) (N:=48) (rs:= [.tmp 6]) (fun vs w=>by simp) Tryz.func140 rfl rfl rfl rfl (by kernel_rfl) (jo rfl) (zf _ rfl) ?_
  repeat' first
   | refine ky env rfl ?_
   | (refine qt ?_ ?_;(· simp only [hp,Ac,Aa]))
   | (refine qu ?_ ?_;(· simp only [hp,Ac,Aa]))
   | (refine qw ?_ ?_;(· simp only [hp,Ac,Aa]))
   | (refine qv ?_ ?_;(· simp only [hp,Ac,Aa]))
   | (refine qy ?_ ?_;(· simp only [hp,Ac,Aa]))
   | (refine qz ?_ ?_;(· simp only [hp,Ac,Aa]))
   | refine qn (wg _) ?_
   | refine qn (Yu _) ?_
   | refine qr (fun h=> ?_) (fun h=> ?_)
   | refine q9 (fun h=> ?_) (fun h=> ?_)
   | refine qe (fun h=> ?_) (fun h=> ?_)
   | refine yg env rfl rfl (zl ?_)
   | refine jp env rfl (zl ?_)
  all_goals rfl
 cases hp0:decide (pos < 0)
 case true=>
  rw [qp0 (.inr (.inl (of_decide_eq_true hp0)))]
  refine z8 (T:=tt) (N:=48) (rs:= [.tmp 6]) (fun vs w=>by simp) Tryz.func140 rfl rfl rfl rfl (by kernel_rfl) (jo rfl) (zf _ rfl) ?_
  repeat' first
   | refine ky env rfl ?_
   | (refine qt ?_ ?_;(· simp only [hp,hp0,Ac,Aa]))
   | (refine qu ?_ ?_;(· simp only [hp,hp0,Ac,Aa]))
   | (refine qw ?_ ?_;(· simp only [hp,hp0,Ac,Aa]))
   | (refine qv ?_ ?_;(· simp only [hp,hp0,Ac,Aa]))
   | (refine qy ?_ ?_;(· simp only [hp,hp0,Ac,Aa]))
   | (refine qz ?_ ?_;(· simp only [hp,hp0,Ac,Aa]))
   | refine qn (wg _) ?_
   | refine qn (Yu _) ?_
   | refine qr (fun h=> ?_) (fun h=> ?_)
   | refine q9 (fun h=> ?_) (fun h=> ?_)
   | refine qe (fun h=> ?_) (fun h=> ?_)
   | refine yg env rfl rfl (zl ?_)
   | refine jp env rfl (zl ?_)
  all_goals rfl
 cases hk:known kid
 case false=>
  rw [qp0 (.inr (.inr hk))]
  refine z8 (T:=tt) (N:=48) (rs:= [.tmp 6]) (fun vs w=>by simp) Tryz.func140 rfl rfl rfl rfl (by kernel_rfl) (jo rfl) (zf _ rfl) ?_
  repeat' first
   | refine ky env rfl ?_
   | (refine qt ?_ ?_;(· simp only [hp,hp0,hk,Ac,Aa]))
   | (refine qu ?_ ?_;(· simp only [hp,hp0,hk,Ac,Aa]))
   | (refine qw ?_ ?_;(· simp only [hp,hp0,hk,Ac,Aa]))
   | (refine qv ?_ ?_;(· simp only [hp,hp0,hk,Ac,Aa]))
   | (refine qy ?_ ?_;(· simp only [hp,hp0,hk,Ac,Aa]))
   | (refine qz ?_ ?_;(· simp only [hp,hp0,hk,Ac,Aa]))
   | refine qn (wg _) ?_
   | refine qn (Yu _) ?_
   | refine qr (fun h=> ?_) (fun h=> ?_)
   | refine q9 (fun h=> ?_) (fun h=> ?_)
   | refine qe (fun h=> ?_) (fun h=> ?_)
   | refine yg env rfl rfl (zl ?_)
   | refine jp env rfl (zl ?_)
  all_goals rfl
 have kb:=qb2 hp
 have h0:0≤parent:=by omega
 have h2:parent.toNat < 27:=by omega
 have hg:=qk4 parent h2
 have hq:0≤pos:=by simpa using hp0
 have hfit:fits parent pos kid=(if (Kb parent pos).2=0 then decide ((Kb parent pos).1=kid) else decide ((Kb parent pos).2=yo kid)):=by simp [fits,hp,hk,hq]
 rw [hfit]
 have hpart:∀pos:Int,Kb parent pos=if pos < (jc parent).first.length then (jc parent).first.getD pos.toNat (0,0) else (jc parent).rest:=fun _=>rfl
 rw [hpart]
 clear hpart hfit kb
 generalize jc parent=s at*
 by_cases hl:pos < s.first.length
 case neg=>
  have hl':decide (pos < ((s.first.map qsg).length:Int))=false:=by simpa using hl
  simp only [if_neg hl]
  refine z8 (T:=tt) (N:=48) (rs:= [.tmp 6]) (fun vs w=>by simp) Tryz.func140 rfl rfl rfl rfl (by kernel_rfl) (jo rfl) (zf _ rfl) ?_
  repeat' first
   | refine ky env rfl ?_
   | (refine qt ?_ ?_;(· simp only [hp,hp0,hk,hl',Ac,Aa]))
   | (refine qu ?_ ?_;(· simp only [hp,hp0,hk,hl',Ac,Aa]))
   | (refine qw ?_ ?_;(· simp only [hp,hp0,hk,hl',Ac,Aa]))
   | (refine qv ?_ ?_;(· simp only [hp,hp0,hk,hl',Ac,Aa]))
   | (refine qy ?_ ?_;(· simp only [hp,hp0,hk,hl',Ac,Aa]))
   | (refine qz ?_ ?_;(· simp only [hp,hp0,hk,hl',Ac,Aa]))
   | refine qmj env rfl rfl rfl rfl h0 h2 hg ?_
   | refine qn (wg _) ?_
   | refine qn (Yu _) ?_
   | refine qr (fun h=> ?_) (fun h=> ?_)
   | refine q9 (fun h=> ?_) (fun h=> ?_)
   | refine qe (fun h=> ?_) (fun h=> ?_)
   | refine yg env rfl rfl (zl ?_)
   | refine jp env rfl (zl ?_)
  all_goals refine Y6 ?_
  all_goals simp_all
 have hl':decide (pos < ((s.first.map qsg).length:Int))=true:=by simpa using hl
 have hx:=q45 hq hl
 simp only [if_pos hl]
 generalize s.first.getD pos.toNat (0,0)=p at*
 refine z8 (T:=tt) (N:=48) (rs:= [.tmp 6]) (fun vs w=>by simp) Tryz.func140 rfl rfl rfl rfl (by kernel_rfl) (jo rfl) (zf _ rfl) ?_
 repeat' first
  | refine ky env rfl ?_
  | (refine qt ?_ ?_;(· simp only [hp,hp0,hk,hl',Ac,Aa]))
  | (refine qu ?_ ?_;(· simp only [hp,hp0,hk,hl',Ac,Aa]))
  | (refine qw ?_ ?_;(· simp only [hp,hp0,hk,hl',Ac,Aa]))
  | (refine qv ?_ ?_;(· simp only [hp,hp0,hk,hl',Ac,Aa]))
  | (refine qy ?_ ?_;(· simp only [hp,hp0,hk,hl',Ac,Aa]))
  | (refine qz ?_ ?_;(· simp only [hp,hp0,hk,hl',Ac,Aa]))
  | refine qmj env rfl rfl rfl rfl h0 h2 hg ?_
  | refine qay env rfl rfl rfl rfl (Int.toNat_of_nonneg hq).symm hx ?_
  | refine qn (wg _) ?_
  | refine qn (Yu _) ?_
  | refine qr (fun h=> ?_) (fun h=> ?_)
  | refine q9 (fun h=> ?_) (fun h=> ?_)
  | refine qe (fun h=> ?_) (fun h=> ?_)
  | refine yg env rfl rfl (zl ?_)
  | refine jp env rfl (zl ?_)
 all_goals refine Y6 ?_
 all_goals simp_all
set_option maxHeartbeats 4000000
theorem g1 (k:Int):(yo k=1)=(k=2∨k=7∨k=9):=by
 apply propext;unfold yo;(repeat' split) <;> omega
theorem g2 (k:Int):(yo k=2)=(k=10∨k=11∨k=12∨k=13∨k=15∨k=16):=by
 apply propext;unfold yo;(repeat' split) <;> omega
end Go.Proofs.YtpnkemogepoioaaGreatDoorW.Ex.Gr
