/- The reference's words on nodes are the program's. No conditions beside those in each theorem. Whole trees: the reference's shape, node, first, size and Check, and the program's Check. Conditions: those of the trees that come in (Wf). -/
import Derived.Test.YtpnkemogepoioaaGreatDoorGf
namespace Go.Proofs.YtpnkemogepoioaaGreatDoorW.Ex.Gr
open Go.Proofs.YtpnkemogepoioaaGreatDoorW.Plain
open Go Go.Proofs.YtpnkemogepoioaaGreatDoorW.Ex
set_option linter.all false
set_option maxRecDepth 100000
def qt5 (k:Int):Int:=if k=2∨k=13 then 3 else if k=15∨k=24 then 2 else if k=4∨k=7∨k=9∨k=10∨k=11∨k=12∨k=16∨k=21∨k=25∨k=26 then 1 else 0
theorem q1q:∀k:Nat,k < 27→1≤k→k≠14→((shapes.getD k ⟨[],(0,0),0, [],0⟩).first.length:Int)=qt5 k:=by decide
theorem q8o:(jc 14).first.length=1∧(jc 14).rest=(0,0):=by decide
theorem qy0 {α:Type} (p:Nat→α→Bool):∀(l:List α) (i:Nat),Q7 p i l=true→∀(j:Nat) (m:α),l[j]? =some m→p (i+j) m=true
 | [],i,_,j,m,h=>by simp at h
 | a ::l,i,ha,j,m,h=>by
   simp only [Q7,An] at ha
   cases j with
   | zero=>simp at h;subst h;exact ha.1
   | succ j=>
     have:=qy0 p l (i+1) ha.2 j m (by simpa using h)
     rwa [BB,Nat.add_comm 1] at this
theorem qss (n:Node) (h:(jc n.kind).rest=(0,0)) (hl:(jc n.kind).first.length < n.kids.length):qfc n.kind n.kids=false:=by
 cases hf:qfc n.kind n.kids with
 | false=>rfl
 | true=>
   have h1:=qy0 _ n.kids 0 hf (jc n.kind).first.length n.kids[(jc n.kind).first.length] (Ak hl)
   have hp:Kb n.kind ((jc n.kind).first.length:Int)=(0,0):=by
    unfold Kb
    rw [if_neg (by omega),h]
   simp only [AN,fits,An] at h1
   rw [hp] at h1
   have h2:=qb2 h1.1.2
   have h3:=h1.2
   rw [if_pos rfl] at h3
   simp only [decide_eq_true_eq] at h3
   omega
theorem q63 (n:Node) (h:known n.kind=true):Yd n=(!decide ((n.kids.length:Int) < qt5 n.kind) && qfc n.kind n.kids):=by
 have kb:=qb2 h
 unfold Yd
 by_cases h14:n.kind=14
 ·have e:qt5 n.kind=0:=by rw [h14];rfl
  have ht:=q8o
  rw [←h14] at ht
  rw [e]
  by_cases h0:n.kids.length=0
  ·rw [if_pos ⟨h14,h0⟩,h0]
   have:n.kids= []:=AZ.1 h0
   rw [this];rfl
  rw [if_neg (fun h=>h0 h.2),ht.1]
  by_cases h1:1 < n.kids.length
  ·rw [if_pos (.inr ⟨h1,ht.2⟩),qss n ht.2 (by rw [ht.1];exact h1)];simp
  rw [if_neg (by omega),decide_eq_false (by omega)];simp
 have ht:((jc n.kind).first.length:Int)=qt5 n.kind:=by
  have:=q1q n.kind.toNat (by omega) (by omega) (by omega)
  rw [show ((n.kind.toNat:Nat):Int)=n.kind by omega] at this
  exact this
 rw [if_neg (fun h=>h14 h.1),←ht]
 by_cases h1:n.kids.length < (jc n.kind).first.length
 ·rw [if_pos (.inl h1),decide_eq_true (by omega)];simp
 rw [decide_eq_false (by omega)]
 by_cases h2:n.kids.length > (jc n.kind).first.length∧(jc n.kind).rest=(0,0)
 ·rw [if_pos (.inr h2),qss n h2.2 h2.1];simp
 rw [if_neg (fun h=>h.elim h1 h2)];simp
end Go.Proofs.YtpnkemogepoioaaGreatDoorW.Ex.Gr

namespace Go.Proofs.YtpnkemogepoioaaGreatDoorW.Ex.Gr
open Go.Proofs.YtpnkemogepoioaaGreatDoorW.Plain
open Go Go.Proofs.YtpnkemogepoioaaGreatDoorW.Ex
set_option linter.all false
set_option maxRecDepth 100000
theorem qxx (o:Option Nat):decide (jx o 4000 < 0)= !(match o with | some k=>decide (k≤4000) | none=>false):=by
 cases o with
 | none=>rfl
 | some k=>
   by_cases h:k≤4000
   ·have e:jx (some k) 4000=4000 - (k:Int):=by simp only [jx];rw [if_pos (by omega)]
    rw [e];simp [h];omega
   have e:jx (some k) 4000= -1:=by simp only [jx];rw [if_neg (by omega)]
   rw [e];simp [h]
set_option maxHeartbeats 4000000 in
theorem qre (n:Node) (hwf:Wf n):Fn Tryz.prog G 44 [.agg (z7 n)] (.int .i64 (checkErr n)):=by
 have hl:=qxx (size? n 60)
 have hc:Fn Tryz.prog G 69 [.agg (z7 n), .int .i64 4000, .int .i64 60] (.int .i64 (jx (size? n 60) 4000)):=(qps n hwf 4000 60 (by decide) (by decide) (by decide) (by decide))
 cases hb:decide (jx (size? n 60) 4000 < 0)
 case true=>
  have e:checkErr n=3:=by
   rw [hb] at hl
   unfold checkErr
   split at hl
   ·rename_i k hk;rw [hk];simp only;rw [if_neg (by simpa using hl)]
   rename_i hk;rw [hk]
  rw [e]
  refine z8 (T:=tt) (N:=8) (rs:= [.tmp 2]) (fun vs w=>by simp) Tryz.func44 rfl rfl rfl rfl (by kernel_rfl) (jo rfl) (zf _ rfl) ?_
  repeat' first
   | refine ky env rfl ?_
   | (refine qt ?_ ?_;(· simp only [hb,Ac,Aa]))
   | (refine qu ?_ ?_;(· simp only [hb,Ac,Aa]))
   | (refine qw ?_ ?_;(· simp only [hb,Ac,Aa]))
   | (refine qv ?_ ?_;(· simp only [hb,Ac,Aa]))
   | (refine qy ?_ ?_;(· simp only [hb,Ac,Aa]))
   | (refine qz ?_ ?_;(· simp only [hb,Ac,Aa]))
   | refine qn (hc) ?_
   | refine qr (fun h=> ?_) (fun h=> ?_)
   | refine q9 (fun h=> ?_) (fun h=> ?_)
   | refine qe (fun h=> ?_) (fun h=> ?_)
   | refine yg env rfl rfl (zl ?_)
   | refine jp env rfl (zl ?_)
  all_goals rfl
 have e:checkErr n=firstErr n:=by
  rw [hb] at hl
  unfold checkErr
  split at hl
  ·rename_i k hk;rw [hk];simp only;rw [if_pos (by simpa using hl)]
  cases hl
 rw [e]
 refine z8 (T:=tt) (N:=8) (rs:= [.tmp 2]) (fun vs w=>by simp) Tryz.func44 rfl rfl rfl rfl (by kernel_rfl) (jo rfl) (zf _ rfl) ?_
 repeat' first
  | refine ky env rfl ?_
  | (refine qt ?_ ?_;(· simp only [hb,Ac,Aa]))
  | (refine qu ?_ ?_;(· simp only [hb,Ac,Aa]))
  | (refine qw ?_ ?_;(· simp only [hb,Ac,Aa]))
  | (refine qv ?_ ?_;(· simp only [hb,Ac,Aa]))
  | (refine qy ?_ ?_;(· simp only [hb,Ac,Aa]))
  | (refine qz ?_ ?_;(· simp only [hb,Ac,Aa]))
  | refine qn (hc) ?_
  | refine qn (qrd n hwf) ?_
  | refine qr (fun h=> ?_) (fun h=> ?_)
  | refine q9 (fun h=> ?_) (fun h=> ?_)
  | refine qe (fun h=> ?_) (fun h=> ?_)
  | refine yg env rfl rfl (zl ?_)
  | refine jp env rfl (zl ?_)
 all_goals rfl
end Go.Proofs.YtpnkemogepoioaaGreatDoorW.Ex.Gr
