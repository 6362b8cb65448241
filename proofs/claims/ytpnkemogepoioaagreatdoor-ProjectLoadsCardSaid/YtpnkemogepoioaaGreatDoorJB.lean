/- Trees that are read are equal to themselves. Conditions: those in each theorem. The same units; small files; units that are loaded. Conditions: those in each theorem. -/
import Derived.Test.YtpnkemogepoioaaGreatDoorAF
import Derived.Test.YtpnkemogepoioaaGreatDoorJ4
namespace Go.Proofs.YtpnkemogepoioaaGreatDoorW.Ex.Gr
open Go Go.Proofs.YtpnkemogepoioaaGreatDoorW.Ex Go.Proofs.YtpnkemogepoioaaGreatDoorW.Plain
set_option linter.all false
set_option maxRecDepth 100000
namespace Ps
open Tk
mutual
theorem qwx:∀n:Node,wfB n=true→u4 n n=some true
 | .mk k t g l,h=>by
   rw [wfB] at h
   simp only [An,decide_eq_true_eq] at h
   exact qyq h.1.1.1.2 h.1.1.1.1 (qsu l h.2)
theorem qsu:∀l:List Node,wfBL l=true→∀m∈l,u4 m m=some true
 | [],_,m,hm=>by cases hm
 | n::l,h,m,hm=>by
   rw [wfBL,An] at h
   rcases AE.1 hm with e | hm
   ·rw [e];exact qwx n h.1
   exact qsu l h.2 m hm
end
theorem q9h {m:List Token} {y:Rs Node} (h:Q m (fun n r=>wfB n=true) y):wfB (finV y).1=true:=by
 cases y with
 | error u=>rfl
 | ok y=>
   show wfB (limV y.1).1=true
   unfold limV
   split
   ·rfl
   exact h.2.2
theorem q6l {c:List Token→Rs Node} (h:∀m,Good m→m.length≤65537→Q m (fun n r=>wfB n=true) (c m)) (s:BA):wfB (readV c s).1=true:=by
 unfold readV
 rcases qjo s with ⟨m,e,hg,hl,_⟩ | ⟨e,_⟩
 ·rw [e,if_pos rfl];exact q9h (h m hg hl)
 rw [if_neg e];rfl
theorem q03 (m:List Token) (hg:Good m) (hl:m.length≤65537):Q m (fun n r=>wfB n=true) (fileR m):=q5u hg (qv8 hl)
end Ps
end Go.Proofs.YtpnkemogepoioaaGreatDoorW.Ex.Gr

namespace Go.Proofs.YtpnkemogepoioaaGreatDoorW.Ex.Gr
open Go Go.Proofs.YtpnkemogepoioaaGreatDoorW.Ex Go.Proofs.YtpnkemogepoioaaGreatDoorW.Plain Tk
set_option linter.all false
set_option maxRecDepth 100000
namespace Pj
theorem S_l0 (D:List Unit) (hD:D.length≤1000000) (hw:∀u∈D,u4 u.Tree u.Tree=some true):∀(l pre:List Unit),D=pre++l→Zl D D (pre.length:Int)=some true
 | [],pre,h=>by
   rw [Zl.eq_def]
   simp only [qa]
   rw [qio h,qgf]
 | x::l,pre,h=>by
   have hl:=qjt h
   rw [Zl.eq_def]
   simp only [qa,qdr h,bs]
   rw [qin h,qge,if_neg (by simp),if_neg (by simp),if_neg (by simp),hw x (by rw [h];simp),bs,if_neg (by decide),qez (by omega) x]
   exact S_l0 D hD hw l (pre++ [x]) (qdp h)
theorem q97 (D:List Unit) (hD:D.length≤1000000) (hw:∀u∈D,u4 u.Tree u.Tree=some true):qd7 D D=some true:=by
 unfold qd7
 rw [if_neg (by simp)]
 exact S_l0 D hD hw D [] rfl
theorem qqm (D:List File) (hD:D.length≤1000000):∀(l pre:List File) (left:Nat),D=pre++l→left≤3000→∃b,Qr D (left:Int) (pre.length:Int)=some b∧(b=true→∀x∈l,x.Text.size≤3000)
 | [],pre,left,h,hf=>⟨true,by
   rw [Qr.eq_def]
   simp only [qa]
   rw [qio h,qgf],fun _ x hx=>absurd hx Bw⟩
 | x::l,pre,left,h,hf=>by
   have hl:=qjt h
   rw [Qr.eq_def]
   simp only [qa,qdr h,bs]
   rw [qin h,qge]
   by_cases h1:left < x.Path.size
   ·exact ⟨false,by rw [if_pos (decide_eq_true (by omega))],fun q=>by cases q⟩
   rw [if_neg (by rw [decide_eq_true_eq];omega)]
   by_cases h2:left < x.Text.size
   ·exact ⟨false,by rw [if_pos (decide_eq_true (by omega))],fun q=>by cases q⟩
   rw [if_neg (by rw [decide_eq_true_eq];omega),we (by omega) (by omega)]
   by_cases h3:left - x.Path.size < x.Text.size
   ·exact ⟨false,by rw [if_pos (decide_eq_true (by omega))],fun q=>by cases q⟩
   rw [if_neg (by rw [decide_eq_true_eq];omega),we (by omega) (by omega),qez (by omega) x]
   obtain ⟨b,e,hb⟩:=qqm D hD l (pre++ [x]) (left - x.Path.size - x.Text.size) (qdp h) (by omega)
   rw [show (((left - x.Path.size - x.Text.size:Nat)):Int)=(left:Int) - (x.Path.size:Int) - (x.Text.size:Int) by omega] at e
   refine ⟨b,e,fun q y hy=> ?_⟩
   rcases AE.1 hy with rfl | hy
   ·omega
   exact hb q y hy
theorem q7s (l:List File):∃b,qcg l=some b∧(b=true→∀x∈l,x.Text.size≤3000):=by
 unfold qcg
 by_cases h:(40:Int) < ((l.map File.cells).length:Int)
 ·exact ⟨false,by rw [if_pos (decide_eq_true h)],fun q=>by cases q⟩
 rw [if_neg (by rw [decide_eq_true_eq];exact h)]
 rw [As] at h
 exact qqm l (by omega) l [] 3000 rfl (Aj _)
theorem q4e (l:List File):(qpj l).1.length≤32:=by
 unfold qpj
 split
 ·rename_i h
  rw [As]
  rcases Br 32 l.length with q | q
  ·unfold qgi at h;rw [if_pos q] at h;cases h
  exact q
 exact AD _
end Pj
end Go.Proofs.YtpnkemogepoioaaGreatDoorW.Ex.Gr
