/- Laid by a program of this session (hp.py) with the help of the kit's printer: functions as plain Lean functions, and that the machine's calls come to them. -/
import Derived.Test.YtbjljpjgkaeeiaaDoorP0
import Derived.Test.YtbjljpjgkaeeiaaDoorP1
import Derived.Test.YtbjljpjgkaeeiaaDoorP2
import Derived.Test.YtbjljpjgkaeeiaaDoorP3
import Derived.Test.YtbjljpjgkaeeiaaDoorP4
import Derived.Test.YtbjljpjgkaeeiaaDoorP5
import Derived.Test.YtbjljpjgkaeeiaaDoorP6
namespace Go.Proofs.YtbjljpjgkaeeiaaDoor.P
open Go.RowKit Go.Proofs.YtbjljpjgkaeeiaaDoorW.PrintWords Go.Proofs.YtbjljpjgkaeeiaaDoorW.PrintLast Go.Proofs.YtbjljpjgkaeeiaaDoorW.PrintMore
attribute [local go_sem] max2_int min2_int max_two min_two max_three min_three max_four min_four   -- for this text's walks alone
set_option linter.unusedVariables false
set_option linter.unusedSimpArgs false

end Go.Proofs.YtbjljpjgkaeeiaaDoor.P
