/- Requests' and responses' framing, plainly, and the laws' own case: own text of this session. -/
import Derived.Test.YtmfhhhokacjgeaaDoorFr2
import Derived.Test.YtmfhhhokacjgeaaDoorP5
namespace Go.Proofs.YtmfhhhokacjgeaaDoor.Px
open Go.RowKit Go.Proofs.YtmfhhhokacjgeaaDoor.P Go.Proofs.YtmfhhhokacjgeaaDoorW.PrintWords Go.Proofs.YtmfhhhokacjgeaaDoorW.PrintLast Go.Proofs.Hr
set_option linter.unusedVariables false
set_option linter.unusedSimpArgs false
def reqS (a : Bool) (minor : Int) (l : List Fld) : Int × Int × Bool × Int := if a = true then rtoldS 1 minor l else (0, 0, false, 1)
theorem toldS_four (minor : Int) (l : List Fld) (h : (toldS minor l).1 = 4) : toldS minor l = (4, 0, keepS minor l, 0) := by
  revert h
  unfold toldS
  split
  · split
    · intro _; rfl
    · split <;> (intro h; simp at h)
  · split
    · split <;> (intro h; simp at h)
    · intro h; simp at h
theorem ev_Request (a : Bool) (b c : ByteArray) (minor d : Int) (e : ByteArray) (l : List Fld) (hl : fsz l ≤ 4194304) : Ev (fun k => framing_Request.f k a b c minor d e l) (reqS a minor l) := by
  unfold framing_Request.f reqS rtoldS
  cases a with
  | false => simp only [Bool.false_eq_true, if_false]; exact Ev.now _
  | true =>
    simp only [if_true]
    refine Ev.bind (ev_told true b c minor d e l hl) ?_
    by_cases h : (toldS minor l).1 = 4
    · simp only [if_pos h]
      have h2 := toldS_four minor l h
      rw [h2]
      simp only [show ((1 : Int) != 4) = true from rfl, Bool.and_true]
      exact Ev.now _
    · simp only [if_neg h]; exact Ev.now _
def bare (status : Int) (m : Bs) : Bool := decide (status < 200) || decide (status = 204) || decide (status = 304) || m == [72, 69, 65, 68]
def resS (a : Bool) (minor status : Int) (l : List Fld) (m : Bs) : Int × Int × Bool × Int := if a = true then (0, 0, false, 1) else if bare status m = true then (1, 0, keepS minor l, 0) else rtoldS 4 minor l
theorem ev_Response (a : Bool) (b c : ByteArray) (minor d : Int) (e : ByteArray) (l : List Fld) (m : ByteArray) (hl : fsz l ≤ 4194304) : Ev (fun k => framing_Response.f k a b c minor d e l m) (resS a minor d l m.data.toList) := by
  have key : ∀ q : Bool, Ev (fun k => framing_Response.j0 k q a b c minor d e l) (if q = true then (1, 0, keepS minor l, 0) else rtoldS 4 minor l) := by
    intro q
    refine Ev.step (fun k => rfl) ?_
    cases q with
    | true =>
      simp only [framing_Response.j0, if_true]
      exact Ev.bind (ev_Keep a b c minor d e l hl) (Ev.now _)
    | false =>
      simp only [framing_Response.j0, Bool.false_eq_true, if_false]
      refine Ev.bind (ev_told a b c minor d e l hl) ?_
      unfold rtoldS
      by_cases h : (toldS minor l).1 = 4
      · simp only [if_pos h]
        rw [toldS_four minor l h]
        simp only [show ((4 : Int) != 4) = false from rfl, Bool.and_false]
        exact Ev.now _
      · simp only [if_neg h]; exact Ev.now _
  unfold framing_Response.f resS bare
  cases a with
  | true => simp only [if_true]; exact Ev.now _
  | false =>
    simp only [Bool.false_eq_true, if_false]
    by_cases h1 : d < 200
    · have := key true
      simpa [h1] using this
    · by_cases h2 : d = 204
      · have := key true
        simpa [h1, h2] using this
      · by_cases h3 : d = 304
        · have := key true
          simpa [h1, h2, h3] using this
        · have := key (m.data.toList == [72, 69, 65, 68])
          simpa [h1, h2, h3, tl] using this
theorem speaks09 : Ev (fun k => headracelaw09_speaks.f k) true := by
  refine Ev.of headracelaw09_speaks.mono (k := 80) ?_
  simp only [headracelaw09_speaks.f, tl]
  decide +kernel
end Go.Proofs.YtmfhhhokacjgeaaDoor.Px
