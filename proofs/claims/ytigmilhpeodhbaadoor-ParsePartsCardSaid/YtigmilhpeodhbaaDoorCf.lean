/- Sources of trees, read. Conditions: those in each theorem. -/
import Derived.Test.YtigmilhpeodhbaaDoorC3
import Derived.Test.YtigmilhpeodhbaaDoorBf
namespace Go.Proofs.YtigmilhpeodhbaaDoorW.Ex.Gr
open Go Go.Proofs.YtigmilhpeodhbaaDoorW.Ex Go.Proofs.YtigmilhpeodhbaaDoorW.Plain
set_option linter.all false
set_option maxRecDepth 100000
namespace Ps
open Tk
theorem qlu : ∀ {T : List Token} {x : Token}, Good (T ++ [x]) → Ty T ∧ x.Kind = 4
 | [], x, h => by
   refine ⟨fun y hy => (by cases hy), ?_⟩
   rcases h.2 with ⟨_, h2, _⟩ | ⟨_, _, _, _, h2⟩
   ·exact h2
   exact h2.elim
 | y :: T, x, h => by
   rcases h.2 with ⟨h1, _⟩ | ⟨_, _, h2, _, h3⟩
   ·exact absurd h1 (by simp)
   obtain ⟨q1, q2⟩ := qlu h3
   refine ⟨fun z hz => ?_, q2⟩
   rcases List.mem_cons.1 hz with e | hz
   ·rw [e]; exact h2
   exact q1 z hz
theorem qvt {x : Token} (h : x.Text = ⟨#[]⟩) : stop 1 [x] := ⟨x, [], rfl, by rw [h]; decide, by rw [h]; decide, by rw [h]; decide⟩
theorem qp4 {B : List Token → Rs Node} {m : List Token} {n : Node} {x : Token} (h : B m = .ok (n, [x])) (h4 : x.Kind = 4) (h5 : x.Lead = ⟨#[]⟩) : W0 B m = .ok (n, [x]) := by
 unfold W0
 rw [h, bR_o]
 show (if decide (x.Kind = 4) = true then _ else _) = _
 rw [if_pos (decide_eq_true h4), if_pos (decide_eq_true h5)]
section
variable {n : Node} {s : BA} (hc : checkErr n = 0) (hsrc : s = ofB (sfx e0 (toks 0 n e0 0))) (hlen : s.size ≤ 65536)
include hc hsrc hlen
end
end Ps
end Go.Proofs.YtigmilhpeodhbaaDoorW.Ex.Gr
