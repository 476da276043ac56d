/- BodyBound: the walk and the plain law; own text of this session. -/
import Derived.Test.YtcfmihghgecefaaDoorBdZ
namespace Go.Proofs.YtcfmihghgecefaaDoor.P
open Go.RowKit Go.Proofs.YtcfmihghgecefaaDoorW.PrintWords Go.Proofs.YtcfmihghgecefaaDoorW.PrintLast Chk Bod
set_option linter.unusedVariables false
set_option linter.unusedSimpArgs false
/-- What is wrong with a framing and a bound. -/
def askB (kind length most : Int) : Int := if kind < 1 ∨ 4 < kind ∨ (length < 0 ∨ 9007199254740992 < length) ∨ (¬ kind = 2 ∧ ¬ length = 0) ∨ (most < 0 ∨ 9007199254740992 < most) then 1 else if kind = 2 ∧ most < length then 2 else 0
theorem asked11 (kind length most : Int) (x : Bool) : headraceref11_Asked.f 5 kind length x most = some (askB kind length most) := by
  unfold headraceref11_Asked.f askB
  by_cases a1 : kind < 1
  · rw [if_pos a1, if_pos (.inl a1)]; rfl
  rw [if_neg a1]
  by_cases a2 : kind > 4
  · rw [if_pos a2, if_pos (.inr (.inl (by omega)))]; rfl
  rw [if_neg a2]
  by_cases a3 : length < 0
  · rw [if_pos a3, if_pos (.inr (.inr (.inl (.inl a3))))]; rfl
  rw [if_neg a3]
  by_cases a4 : length > 9007199254740992
  · rw [if_pos a4, if_pos (.inr (.inr (.inl (.inr (by omega)))))]; rfl
  rw [if_neg a4]
  by_cases a5 : kind = 2
  · rw [if_pos a5]
    by_cases a6 : most < 0
    · rw [if_pos a6, if_pos (by omega)]; rfl
    rw [if_neg a6]
    by_cases a7 : most > 9007199254740992
    · rw [decide_eq_true a7, if_pos (by omega)]; rfl
    rw [decide_eq_false a7, if_neg (by omega)]
    show (if kind = 2 then (if length > most then some 2 else some 0) else some 0) = _
    rw [if_pos a5]
    by_cases a8 : length > most
    · rw [if_pos a8, if_pos ⟨a5, by omega⟩]
    · rw [if_neg a8, if_neg (by omega)]
  · rw [if_neg a5]
    by_cases a6 : length = 0
    · rw [if_pos a6]
      by_cases a7 : most < 0
      · rw [if_pos a7, if_pos (by omega)]; rfl
      rw [if_neg a7]
      by_cases a8 : most > 9007199254740992
      · rw [decide_eq_true a8, if_pos (by omega)]; rfl
      rw [decide_eq_false a8, if_neg (by omega), if_neg (by omega)]
      show (if kind = 2 then _ else some 0) = _
      rw [if_neg a5]
    · rw [if_neg a6, if_pos (by omega)]; rfl
theorem new_no_any (kind length most : Int) (x : Bool) (w : World) (h : ¬ askB kind length most = 0) :
    Calls Tryd.prog 7 #[.agg #[.int .i64 kind, .int .i64 length, .bool x], .int .i64 most] w fun e w' => e = .returned (.tuple #[.pointer none, .int .i64 (askB kind length most)]) ∧ Below w.heap.size w w' := by
  unfold askB at h ⊢
  split at h
  · rename_i h1
    rw [if_pos h1]
    exact new_arg kind length most x w h1
  · rename_i h1
    rw [if_neg h1]
    split at h
    · rename_i h2
      rw [if_pos h2]
      obtain ⟨rfl, h3⟩ := h2
      exact newLen_long length most x w (by omega) h3 (by omega)
    · exact absurd rfl h
end Go.Proofs.YtcfmihghgecefaaDoor.P
namespace Go.Proofs.YtcfmihghgecefaaDoor.Px
end Go.Proofs.YtcfmihghgecefaaDoor.Px
