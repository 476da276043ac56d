/- Package head, plainly: no beginning of a head is taken for it, more bytes change nothing; own text of this session. -/
import Derived.Test.YtmlgejgnjfbblaaGreatDoorHdB
namespace Go.Proofs.YtmlgejgnjfbblaaGreatDoor.Hd
open Go.RowKit Go.Proofs.YtmlgejgnjfbblaaGreatDoorW.PrintWords Go.Proofs.YtmlgejgnjfbblaaGreatDoorW.PrintLast Chk Px Hr
set_option linter.unusedVariables false
set_option linter.unusedSimpArgs false
end Go.Proofs.YtmlgejgnjfbblaaGreatDoor.Hd
