/- The law LexisTells, and that the law's own case speaks: own text of this session. -/
import Derived.Test.YtmlgejgnjfbblaaGreatDoorPx2
namespace Go.Proofs.YtmlgejgnjfbblaaGreatDoor.Px
open Go.RowKit Go.Proofs.YtmlgejgnjfbblaaGreatDoor.P Go.Proofs.YtmlgejgnjfbblaaGreatDoorW.PrintWords Go.Proofs.YtmlgejgnjfbblaaGreatDoorW.PrintLast Go.Proofs.Hr
set_option linter.unusedVariables false
set_option linter.unusedSimpArgs false
end Go.Proofs.YtmlgejgnjfbblaaGreatDoor.Px
