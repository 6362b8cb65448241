/- The reference's words on nodes are the program's. No conditions beside those in each theorem. -/
import Derived.Test.YtpnkemogepoioaaGreatDoorGf
namespace Go.Proofs.YtpnkemogepoioaaGreatDoorW.Ex.Gr
open Go.Proofs.YtpnkemogepoioaaGreatDoorW.Plain
open Go Go.Proofs.YtpnkemogepoioaaGreatDoorW.Ex
set_option linter.all false
set_option maxRecDepth 100000
end Go.Proofs.YtpnkemogepoioaaGreatDoorW.Ex.Gr
