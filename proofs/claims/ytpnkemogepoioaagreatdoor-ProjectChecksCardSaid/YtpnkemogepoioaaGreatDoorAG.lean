/- Trees that are read are equal to themselves. Conditions: those in each theorem. What the reference's File returns. Conditions: those in each theorem. -/
import Derived.Test.YtpnkemogepoioaaGreatDoorAF
import Derived.Test.YtpnkemogepoioaaGreatDoorA2
namespace Go.Proofs.YtpnkemogepoioaaGreatDoorW.Ex.Gr
open Go Go.Proofs.YtpnkemogepoioaaGreatDoorW.Ex Go.Proofs.YtpnkemogepoioaaGreatDoorW.Plain
set_option linter.all false
set_option maxRecDepth 100000
namespace Ps
open Tk
mutual
theorem equal_wf:∀n:Node,wfB n=true→vg n n=some true
 | .mk k t g l,h=>by
   rw [wfB] at h
   simp only [An,decide_eq_true_eq] at h
   exact q1c h.1.1.1.2 h.1.1.1.1 (qu5 l h.2)
theorem qu5:∀l:List Node,wfBL l=true→∀m∈l,vg m m=some true
 | [],_,m,hm=>by cases hm
 | n::l,h,m,hm=>by
   rw [wfBL,An] at h
   rcases AQ.1 hm with e | hm
   ·rw [e];exact equal_wf n h.1
   exact qu5 l h.2 m hm
end
theorem za5 {m:List Token} {y:Rs Node} (h:Q m (fun n r=>wfB n=true) y):wfB (finV y).1=true:=by
 cases y with
 | error u=>rfl
 | ok y=>
   show wfB (limV y.1).1=true
   unfold limV
   split
   ·rfl
   exact h.2.2
theorem read_wf {c:List Token→Rs Node} (h:∀m,Good m→m.length≤65537→Q m (fun n r=>wfB n=true) (c m)) (s:BA):wfB (readV c s).1=true:=by
 unfold readV
 rcases ql2 s with ⟨m,e,hg,hl,_⟩ | ⟨e,_⟩
 ·rw [e,if_pos rfl];exact za5 (h m hg hl)
 rw [if_neg e];rfl
theorem Q_fileR (m:List Token) (hg:Good m) (hl:m.length≤65537):Q m (fun n r=>wfB n=true) (fileR m):=q71 hg (qrn hl)
end Ps
end Go.Proofs.YtpnkemogepoioaaGreatDoorW.Ex.Gr

namespace Go.Proofs.YtpnkemogepoioaaGreatDoorW.Ex.Gr
open Go Go.Proofs.YtpnkemogepoioaaGreatDoorW.Ex Go.Proofs.YtpnkemogepoioaaGreatDoorW.Plain
set_option linter.all false
set_option maxRecDepth 100000
namespace Ps
open Tk
theorem q7s (s:BA):qdx s=some (Tk.resT s):=by
 unfold qdx
 rw [qzp,b3]
 by_cases h:65536 < s.size
 ·rw [if_pos (decide_eq_true (by omega))]
  unfold Tk.resT
  rw [if_pos h]
 rw [if_neg (by rw [decide_eq_true_eq];omega)]
theorem R_File (s:BA):qh0 s=some (readV fileR s):=by
 unfold qh0 readV
 rw [q7s,bs]
 rcases ql2 s with ⟨m,h,hg,hl,_⟩ | ⟨h,_⟩
 ·rw [h]
  rw [if_neg (by simp),if_pos rfl]
  have:=q7w (tk:=m) (by omega) _ [] m (Ak _) (AY _) hg (qrn hl)
  unfold idx at this
  rw [B3] at this
  exact this
 rw [if_pos (not0 h),if_neg h]
end Ps
end Go.Proofs.YtpnkemogepoioaaGreatDoorW.Ex.Gr
