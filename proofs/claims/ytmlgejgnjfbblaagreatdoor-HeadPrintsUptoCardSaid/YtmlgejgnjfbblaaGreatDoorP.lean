/- Laid by a program of this session (hp.py) with the help of the kit's printer: functions as plain Lean functions, and that the machine's calls come to them. -/
import Derived.Test.YtmlgejgnjfbblaaGreatDoorPZ
import Derived.Test.YtmlgejgnjfbblaaGreatDoorPX
namespace Go.Proofs.YtmlgejgnjfbblaaGreatDoor.P
open Go.RowKit Go.Proofs.YtmlgejgnjfbblaaGreatDoorW.PrintWords Go.Proofs.YtmlgejgnjfbblaaGreatDoorW.PrintLast Go.Proofs.YtmlgejgnjfbblaaGreatDoorW.PrintMore
attribute [local go_sem] max2_int min2_int max_two min_two max_three min_three max_four min_four   -- for this text's walks alone
set_option linter.unusedVariables false
set_option linter.unusedSimpArgs false

end Go.Proofs.YtmlgejgnjfbblaaGreatDoor.P
