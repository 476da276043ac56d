/- The law FramingRequests: own text of this session. -/
import Derived.Test.YtmfhhhokacjgeaaDoorFr3
import Derived.Test.YtmfhhhokacjgeaaDoorP10
namespace Go.Proofs.YtmfhhhokacjgeaaDoor.Px
open Go.RowKit Go.Proofs.YtmfhhhokacjgeaaDoor.P Go.Proofs.YtmfhhhokacjgeaaDoorW.PrintWords Go.Proofs.YtmfhhhokacjgeaaDoorW.PrintLast Go.Proofs.Hr
set_option linter.unusedVariables false
set_option linter.unusedSimpArgs false
theorem pure_FramingRequests (a : Bool) (b c : ByteArray) (minor d : Int) (e : ByteArray) (l : List Fld) (hb : fsz l + b.size + c.size + e.size ≤ 1048576) : ∃ k, headracelaw09_FramingRequests.f k a b c minor d e l = some true := by
  have hl : fsz l ≤ 4194304 := by omega
  apply ev_true
  unfold headracelaw09_FramingRequests.f
  refine Ev.bind (ev_Request a b c minor d e l hl) (Ev.bind (ev_rRequest a b c minor d e l hl) ?_)
  simp only [beq_self_eq_true, Bool.and_self, if_true]
  refine Ev.bind (ev_Keep a b c minor d e l hl) (Ev.bind (ev_rKeep a b c minor d e l hl) ?_)
  simp only [beq_self_eq_true, if_true]
  exact Ev.bind speaks09 (Ev.now _)
end Go.Proofs.YtmfhhhokacjgeaaDoor.Px
