/- The law LexisTells, and that the law's own case speaks: own text of this session. -/
import Derived.Test.YtccolnlfjbgnmaaGreatDoorPx2
namespace Go.Proofs.YtccolnlfjbgnmaaGreatDoor.Px
open Go.RowKit Go.Proofs.YtccolnlfjbgnmaaGreatDoor.P Go.Proofs.YtccolnlfjbgnmaaGreatDoorW.PrintWords Go.Proofs.YtccolnlfjbgnmaaGreatDoorW.PrintLast Go.Proofs.Hr
set_option linter.unusedVariables false
set_option linter.unusedSimpArgs false
end Go.Proofs.YtccolnlfjbgnmaaGreatDoor.Px
