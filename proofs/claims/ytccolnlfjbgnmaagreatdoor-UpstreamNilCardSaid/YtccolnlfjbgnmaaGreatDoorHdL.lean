/- Package head, plainly: no beginning of a head is taken for it, more bytes change nothing; own text of this session. -/
import Derived.Test.YtccolnlfjbgnmaaGreatDoorHdB
namespace Go.Proofs.YtccolnlfjbgnmaaGreatDoor.Hd
open Go.RowKit Go.Proofs.YtccolnlfjbgnmaaGreatDoorW.PrintWords Go.Proofs.YtccolnlfjbgnmaaGreatDoorW.PrintLast Chk Px Hr
set_option linter.unusedVariables false
set_option linter.unusedSimpArgs false
end Go.Proofs.YtccolnlfjbgnmaaGreatDoor.Hd
