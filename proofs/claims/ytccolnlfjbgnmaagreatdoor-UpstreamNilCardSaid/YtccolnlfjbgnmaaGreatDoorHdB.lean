/- Package head: are two heads the same; a head's text, plainly; own text of this session. -/
import Derived.Test.YtccolnlfjbgnmaaGreatDoorHdA
namespace Go.Proofs.YtccolnlfjbgnmaaGreatDoor.Hd
open Go.RowKit Go.Proofs.YtccolnlfjbgnmaaGreatDoorW.PrintWords Go.Proofs.YtccolnlfjbgnmaaGreatDoorW.PrintLast Chk Px Hr
set_option linter.unusedVariables false
set_option linter.unusedSimpArgs false
end Go.Proofs.YtccolnlfjbgnmaaGreatDoor.Hd
