/- Laid by a program of this session (hp.py) with the help of the kit's printer: functions as plain Lean functions, and that the machine's calls come to them. -/
import Derived.Test.YtccolnlfjbgnmaaGreatDoorPZ
import Derived.Test.YtccolnlfjbgnmaaGreatDoorPX
import Derived.Test.YtccolnlfjbgnmaaGreatDoorPY
import Derived.Test.YtccolnlfjbgnmaaGreatDoorPV
import Derived.Test.YtccolnlfjbgnmaaGreatDoorP17
import Derived.Test.YtccolnlfjbgnmaaGreatDoorP18
namespace Go.Proofs.YtccolnlfjbgnmaaGreatDoor.P
open Go.RowKit Go.Proofs.YtccolnlfjbgnmaaGreatDoorW.PrintWords Go.Proofs.YtccolnlfjbgnmaaGreatDoorW.PrintLast Go.Proofs.YtccolnlfjbgnmaaGreatDoorW.PrintMore
attribute [local go_sem] max2_int min2_int max_two min_two max_three min_three max_four min_four   -- for this text's walks alone
set_option linter.unusedVariables false
set_option linter.unusedSimpArgs false

end Go.Proofs.YtccolnlfjbgnmaaGreatDoor.P
