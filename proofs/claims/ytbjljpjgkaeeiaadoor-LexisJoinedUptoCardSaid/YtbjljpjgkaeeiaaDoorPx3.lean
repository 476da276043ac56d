/- The law LexisTells, and that the law's own case speaks: own text of this session. -/
import Derived.Test.YtbjljpjgkaeeiaaDoorPx2
namespace Go.Proofs.YtbjljpjgkaeeiaaDoor.Px
open Go.RowKit Go.Proofs.YtbjljpjgkaeeiaaDoor.P Go.Proofs.YtbjljpjgkaeeiaaDoorW.PrintWords Go.Proofs.YtbjljpjgkaeeiaaDoorW.PrintLast Go.Proofs.Hr
set_option linter.unusedVariables false
set_option linter.unusedSimpArgs false
theorem ev_true {f : Nat → Option Bool} (h : Ev f true) : ∃ k, f k = some true := ⟨_, h.choose_spec _ (Nat.le_refl _)⟩
theorem speaks05 : Ev (fun k => headracelaw05_speaks.f k) true := by
  refine Ev.of headracelaw05_speaks.mono (k := 60) ?_
  simp only [headracelaw05_speaks.f, tl]
  decide +kernel
theorem pure_LexisTells : headracelaw05_LexisTells.Pure := by
  intro a b ha hb
  apply ev_true
  unfold headracelaw05_LexisTells.f
  have la := lLower a (by omega)
  have lb := lLower b (by omega)
  have ea := ev_rLower a (by omega)
  have eb := ev_rLower b (by omega)
  refine Ev.bind (ev_Token a (by omega)) ?_
  refine Ev.bind (ev_rToken a (by omega)) ?_
  simp only [beq_self_eq_true, if_true]
  refine Ev.bind (ev_Value a (by omega)) ?_
  refine Ev.bind (ev_rValue a (by omega)) ?_
  simp only [beq_self_eq_true, if_true, lTrim a (by omega), Option.bind_some, la]
  refine Ev.bind (ev_rTrim a (by omega)) ?_
  simp only [if_true]
  refine Ev.bind ea ?_
  simp only [if_true, lexis_Same.f, la, lb, Option.bind_some]
  refine Ev.bind (a := (mkB (lower a.data.toList)).toList == (mkB (lower b.data.toList)).toList) ?_ ?_
  · unfold headraceref05_Same.f
    exact Ev.bind ea (Ev.bind eb (Ev.now _))
  · simp only [beq_self_eq_true, if_true]
    exact Ev.bind speaks05 (Ev.now _)
end Go.Proofs.YtbjljpjgkaeeiaaDoor.Px
