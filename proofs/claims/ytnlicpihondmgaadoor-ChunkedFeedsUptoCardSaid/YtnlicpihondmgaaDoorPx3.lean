/- The law LexisTells, and that the law's own case speaks: own text of this session. -/
import Derived.Test.YtnlicpihondmgaaDoorPx2
namespace Go.Proofs.YtnlicpihondmgaaDoor.Px
open Go.RowKit Go.Proofs.YtnlicpihondmgaaDoor.P Go.Proofs.YtnlicpihondmgaaDoorW.PrintWords Go.Proofs.YtnlicpihondmgaaDoorW.PrintLast Go.Proofs.Hr
set_option linter.unusedVariables false
set_option linter.unusedSimpArgs false
theorem ev_true {f : Nat → Option Bool} (h : Ev f true) : ∃ k, f k = some true := ⟨_, h.choose_spec _ (Nat.le_refl _)⟩
end Go.Proofs.YtnlicpihondmgaaDoor.Px
