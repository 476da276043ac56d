/- The law FramingResponses: own text of this session. -/
import Derived.Test.YtmfhhhokacjgeaaDoorFr3
import Derived.Test.YtmfhhhokacjgeaaDoorP11
namespace Go.Proofs.YtmfhhhokacjgeaaDoor.Px
open Go.RowKit Go.Proofs.YtmfhhhokacjgeaaDoor.P Go.Proofs.YtmfhhhokacjgeaaDoorW.PrintWords Go.Proofs.YtmfhhhokacjgeaaDoorW.PrintLast Go.Proofs.Hr
set_option linter.unusedVariables false
set_option linter.unusedSimpArgs false
theorem pure_FramingResponses (a : Bool) (b c : ByteArray) (minor d : Int) (e : ByteArray) (l : List Fld) (m : ByteArray) (hb : fsz l + b.size + c.size + e.size ≤ 1048576) (_ : m.size ≤ 1048576) : ∃ k, headracelaw09_FramingResponses.f k a b c minor d e l m = some true := by
  have hl : fsz l ≤ 4194304 := by omega
  apply ev_true
  unfold headracelaw09_FramingResponses.f
  refine Ev.bind (ev_Response a b c minor d e l m hl) (Ev.bind (ev_rResponse a b c minor d e l m hl) ?_)
  simp only [beq_self_eq_true, Bool.and_self, if_true]
  exact Ev.bind speaks09 (Ev.now _)
end Go.Proofs.YtmfhhhokacjgeaaDoor.Px
