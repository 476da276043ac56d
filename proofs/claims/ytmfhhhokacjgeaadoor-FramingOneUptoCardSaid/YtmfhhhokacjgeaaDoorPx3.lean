/- The law LexisTells, and that the law's own case speaks: own text of this session. -/
import Derived.Test.YtmfhhhokacjgeaaDoorPx2
namespace Go.Proofs.YtmfhhhokacjgeaaDoor.Px
open Go.RowKit Go.Proofs.YtmfhhhokacjgeaaDoor.P Go.Proofs.YtmfhhhokacjgeaaDoorW.PrintWords Go.Proofs.YtmfhhhokacjgeaaDoorW.PrintLast Go.Proofs.Hr
set_option linter.unusedVariables false
set_option linter.unusedSimpArgs false
theorem ev_true {f : Nat → Option Bool} (h : Ev f true) : ∃ k, f k = some true := ⟨_, h.choose_spec _ (Nat.le_refl _)⟩
end Go.Proofs.YtmfhhhokacjgeaaDoor.Px
