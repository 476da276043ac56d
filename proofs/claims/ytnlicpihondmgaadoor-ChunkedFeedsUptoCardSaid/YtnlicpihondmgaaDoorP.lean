/- Laid by a program of this session (hp.py) with the help of the kit's printer: functions as plain Lean functions, and that the machine's calls come to them. -/
import Derived.Test.YtnlicpihondmgaaDoorP0
import Derived.Test.YtnlicpihondmgaaDoorP1
import Derived.Test.YtnlicpihondmgaaDoorP2
import Derived.Test.YtnlicpihondmgaaDoorP3
import Derived.Test.YtnlicpihondmgaaDoorP4
import Derived.Test.YtnlicpihondmgaaDoorP5
import Derived.Test.YtnlicpihondmgaaDoorP6
import Derived.Test.YtnlicpihondmgaaDoorP7
import Derived.Test.YtnlicpihondmgaaDoorP8
namespace Go.Proofs.YtnlicpihondmgaaDoor.P
open Go.RowKit Go.Proofs.YtnlicpihondmgaaDoorW.PrintWords Go.Proofs.YtnlicpihondmgaaDoorW.PrintLast Go.Proofs.YtnlicpihondmgaaDoorW.PrintMore
attribute [local go_sem] max2_int min2_int max_two min_two max_three min_three max_four min_four   -- for this text's walks alone
set_option linter.unusedVariables false
set_option linter.unusedSimpArgs false

end Go.Proofs.YtnlicpihondmgaaDoor.P
