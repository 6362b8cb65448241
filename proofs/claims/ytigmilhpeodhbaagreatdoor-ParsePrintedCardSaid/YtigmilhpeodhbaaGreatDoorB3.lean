/- The source is the tokens side by side, and a tree with its tokens is printed as the source. Conditions: those in each theorem. The law ParseLossless on the printed functions. Conditions: those in each theorem. -/
import Derived.Test.YtigmilhpeodhbaaGreatDoorB1
import Derived.Test.YtigmilhpeodhbaaGreatDoorKg
namespace Go.Proofs.YtigmilhpeodhbaaGreatDoorW.Ex.Gr
open Go Go.Proofs.YtigmilhpeodhbaaGreatDoorW.Ex Go.Proofs.YtigmilhpeodhbaaGreatDoorW.Plain
set_option linter.all false
set_option maxRecDepth 100000
namespace Ps
open Tk
end Ps
end Go.Proofs.YtigmilhpeodhbaaGreatDoorW.Ex.Gr

namespace Go.Proofs.YtigmilhpeodhbaaGreatDoorW.Ex.Gr
open Go Go.Proofs.YtigmilhpeodhbaaGreatDoorW.Ex Go.Proofs.YtigmilhpeodhbaaGreatDoorW.Plain
set_option linter.all false
set_option maxRecDepth 100000
namespace Ps
open Tk
theorem q3m {m : List Token} (h : Good m) (hl : m.length ≤ 65537) : Gd m := ⟨h, by omega⟩
theorem qda {x : Token} {r : List Token} (h : Good (x :: r)) (h4 : x.Kind = 4) : r = [] ∧ x.Text = ⟨#[]⟩ := by
 rcases h.2 with ⟨h1, _, h2⟩ | ⟨h1, _⟩
 ·exact ⟨h1, h2⟩
 exact absurd h4 h1
theorem q5z {m : List Token} {n : Node} {r : List Token} (hg : Good m) (hl : m.length ≤ 65537) (h : qvn m = .ok (n, r)) : WF n m := by
 have q := qtd (mu (.file []) m.length) (.file []) m (q3m hg hl) trivial
 unfold qvn qns at h
 rw [h] at q
 obtain ⟨T, h1, h2, ks', y, q', h3, h4, hn, hv, kl⟩ := q
 simp only at h1 h2 h3 hn
 rw [h3] at h1 h2
 obtain ⟨h5, h6⟩ := qda h2.1 h4
 rw [hn, h1, h5]
 exact q78 kl h6 hv
theorem qv2 {B : List Token → Rs Node} {m : List Token} {n : Node} {r : List Token} {P : Node → List Token → Prop} (hq : QT m (fun n T _ => P n T) (B m)) (h : qcq B m = .ok (n, r)) : ∃ T x, m = T ++ [x] ∧ x.Kind = 4 ∧ x.Lead = ⟨#[]⟩ ∧ x.Text = ⟨#[]⟩ ∧ P n T ∧ B m = .ok (n, [x]) := by
 unfold qcq at h
 cases e : B m with
 | error u => rw [e, bR_e] at h; cases h
 | ok y =>
   rw [e] at h hq
   obtain ⟨T, h1, h2, h3⟩ := hq
   rw [bR_k] at h
   obtain ⟨n', r'⟩ := y
   cases r' with
   | nil => cases h
   | cons x r' =>
     simp only at h h1 h2 h3
     split at h
     ·rename_i h4
      split at h
      ·rename_i h5
       cases h
       have h4 := of_decide_eq_true h4
       obtain ⟨h6, h7⟩ := qda h2.1 h4
       refine ⟨T, x, by rw [h1, h6], h4, of_decide_eq_true h5, h7, h3, by rw [h6]⟩
      cases h
     cases h
theorem q50 {m : List Token} {n : Node} {r : List Token} (hg : Good m) (hl : m.length ≤ 65537) (h : qze m = .ok (n, r)) : ∃ T x, m = T ++ [x] ∧ x.Kind = 4 ∧ x.Lead = ⟨#[]⟩ ∧ x.Text = ⟨#[]⟩ ∧ (WF n T ∧ zv n.kind = 3) ∧ qns (.bin 1) m = .ok (n, [x]) :=
 qv2 (P := fun n T => WF n T ∧ zv n.kind = 3) ((qtd (mu (.bin 1) m.length) (.bin 1) m (q3m hg hl) ⟨by decide, by decide⟩).mono fun n T r h => ⟨h.1, h.2.1⟩) h
theorem q48 {m : List Token} {n : Node} {r : List Token} (hg : Good m) (hl : m.length ≤ 65537) (h : qyd m = .ok (n, r)) : ∃ T x, m = T ++ [x] ∧ x.Kind = 4 ∧ x.Lead = ⟨#[]⟩ ∧ x.Text = ⟨#[]⟩ ∧ (WF n T ∧ zv n.kind = 2) ∧ qns .stmt m = .ok (n, [x]) :=
 qv2 (P := fun n T => WF n T ∧ zv n.kind = 2) ((qtd (mu .stmt m.length) .stmt m (q3m hg hl) trivial).mono fun n T r h => h) h
end Ps
end Go.Proofs.YtigmilhpeodhbaaGreatDoorW.Ex.Gr
