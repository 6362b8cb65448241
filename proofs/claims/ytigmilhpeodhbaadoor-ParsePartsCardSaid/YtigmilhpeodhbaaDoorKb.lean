/- Sizes, tokens of kids, the source of tokens. Conditions: those in each theorem. Canonical gaps are blank; trees without gaps. Conditions: those in each theorem. -/
import Derived.Test.YtigmilhpeodhbaaDoorKt
import Derived.Test.YtigmilhpeodhbaaDoorYb
import Derived.Test.YtigmilhpeodhbaaDoorKq
namespace Go.Proofs.YtigmilhpeodhbaaDoorW.Ex.Gr
open Go Go.Proofs.YtigmilhpeodhbaaDoorW.Ex Go.Proofs.YtigmilhpeodhbaaDoorW.Plain Tk
set_option linter.all false
set_option maxRecDepth 100000
theorem qcd {l : List Node} {m : Node} (h : m ∈ l) : Zv m ≤ Z7 l := by
 obtain ⟨a, b, e⟩ := List.append_of_mem h
 rw [e, Ww, Z7]; omega
def srcL : List Tok → List UInt8 → BA → List UInt8 × BA
 | [], s, last => (s, last)
 | (g, w) :: T, s, last => srcL T (outL s (L last) (L g) (L w)) w
end Go.Proofs.YtigmilhpeodhbaaDoorW.Ex.Gr

namespace Go.Proofs.YtigmilhpeodhbaaDoorW.Ex.Gr
open Go Go.Proofs.YtigmilhpeodhbaaDoorW.Ex Go.Proofs.YtigmilhpeodhbaaDoorW.Plain Tk
set_option linter.all false
set_option maxRecDepth 100000
end Go.Proofs.YtigmilhpeodhbaaDoorW.Ex.Gr
