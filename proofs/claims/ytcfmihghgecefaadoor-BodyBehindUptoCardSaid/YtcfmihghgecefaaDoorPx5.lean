/- Lists: the laws LexisLists and LexisJoined: own text of this session. -/
import Derived.Test.YtcfmihghgecefaaDoorPx4
namespace Go.Proofs.YtcfmihghgecefaaDoor.Px
open Go.RowKit Go.Proofs.YtcfmihghgecefaaDoor.P Go.Proofs.YtcfmihghgecefaaDoorW.PrintWords Go.Proofs.YtcfmihghgecefaaDoorW.PrintLast Go.Proofs.Hr
set_option linter.unusedVariables false
set_option linter.unusedSimpArgs false
end Go.Proofs.YtcfmihghgecefaaDoor.Px
