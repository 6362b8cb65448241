/- Small trees. Conditions: those in each theorem. -/
import Derived.Test.YtpnkemogepoioaaGreatDoorXLb
import Derived.Test.YtpnkemogepoioaaGreatDoorKg
import Derived.Test.YtpnkemogepoioaaGreatDoorKc
namespace Go.Proofs.YtpnkemogepoioaaGreatDoorW.Ex.Gr
open Go Go.Proofs.YtpnkemogepoioaaGreatDoorW.Ex Go.Proofs.YtpnkemogepoioaaGreatDoorW.Plain Tk
set_option linter.all false
set_option maxRecDepth 100000
end Go.Proofs.YtpnkemogepoioaaGreatDoorW.Ex.Gr
