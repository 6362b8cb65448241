/- Sizes, tokens of kids, the source of tokens. Conditions: those in each theorem. -/
import Derived.Test.YtpnkemogepoioaaGreatDoorKt
import Derived.Test.YtpnkemogepoioaaGreatDoorYb
import Derived.Test.YtpnkemogepoioaaGreatDoorKq
namespace Go.Proofs.YtpnkemogepoioaaGreatDoorW.Ex.Gr
open Go Go.Proofs.YtpnkemogepoioaaGreatDoorW.Ex Go.Proofs.YtpnkemogepoioaaGreatDoorW.Plain Tk
set_option linter.all false
set_option maxRecDepth 100000
theorem q5r {l:List Node} {m:Node} (h:m∈l):Zf m≤vr l:=by
 obtain ⟨a,b,e⟩:=List.append_of_mem h
 rw [e,qle,vr];omega
end Go.Proofs.YtpnkemogepoioaaGreatDoorW.Ex.Gr
