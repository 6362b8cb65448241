/- Sizes, tokens of kids, the source of tokens. Conditions: those in each theorem. -/
import Derived.Test.YtpnkemogepoioaaGreatDoorKt
import Derived.Test.YtpnkemogepoioaaGreatDoorYb
import Derived.Test.YtpnkemogepoioaaGreatDoorKq
namespace Go.Proofs.YtpnkemogepoioaaGreatDoorW.Ex.Gr
open Go Go.Proofs.YtpnkemogepoioaaGreatDoorW.Ex Go.Proofs.YtpnkemogepoioaaGreatDoorW.Plain Tk
set_option linter.all false
set_option maxRecDepth 100000
theorem q3m {l:List Node} {m:Node} (h:m∈l):u3 m≤ud l:=by
 obtain ⟨a,b,e⟩:=List.append_of_mem h
 rw [e,qen,ud];omega
def srcL:List Tok→List UInt8→BA→List UInt8 × BA
 | [],s,last=>(s,last)
 | (g,w)::T,s,last=>srcL T (outL s (L last) (L g) (L w)) w
theorem q6s (s last g w:List UInt8):(outL s last g w).length≤s.length+g.length+w.length+1:=by
 unfold outL
 rw [Ad,Ad,Ad]
 split <;> simp <;> omega
end Go.Proofs.YtpnkemogepoioaaGreatDoorW.Ex.Gr
