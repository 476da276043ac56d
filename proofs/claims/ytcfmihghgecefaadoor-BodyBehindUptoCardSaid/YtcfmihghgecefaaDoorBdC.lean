/- A body's reader, plainly: what is whole is not wrong, and what stands behind it is not read; own text of this session. -/
import Derived.Test.YtcfmihghgecefaaDoorRfG1
namespace Go.Proofs.YtcfmihghgecefaaDoor.Bod
open Go.RowKit Go.Proofs.YtcfmihghgecefaaDoorW.PrintWords Go.Proofs.YtcfmihghgecefaaDoorW.PrintLast Chk
set_option linter.unusedVariables false
set_option linter.unusedSimpArgs false
theorem step_whole (d : Dec) (c : Int) (hw : d.whole = false) (h : (stepE d c).1.whole = true) : (stepE d c).2 = 0 := by
  revert h
  unfold stepE
  repeat' split
  · unfold sizeS
    repeat' split
    all_goals (try unfold sizeN)
    all_goals (repeat' split)
    all_goals first | (intro _; rfl) | (intro h; exact absurd (show d.whole = true from h) (by rw [hw]; decide))
  · intro _; rfl
  · unfold endS
    repeat' split
    all_goals first | (intro _; rfl) | (intro h; exact absurd (show d.whole = true from h) (by rw [hw]; decide))
  · unfold trailerS
    repeat' split
    all_goals first | (intro _; rfl) | (intro h; exact absurd (show d.whole = true from h) (by rw [hw]; decide))
theorem byteB_whole (r : Bd) (hf : BFine r) (ho : ¬ r.over) (x : Int) (h : (byteB r x).1.whole = true) : (byteB r x).1.wrong = 0 := by
  obtain ⟨l0, l1, g0, hk⟩ := hf
  have hw : ¬ r.whole = true := fun e => ho (.inl e)
  have he : r.wrong = 0 := by by_cases e : r.wrong = 0; exact e; exact absurd (.inr e) ho
  revert h
  unfold byteB
  rcases hk with ⟨k, w, _⟩ | ⟨k, w, e, d⟩ | ⟨k, d⟩ | ⟨k, d, hd, ho2, hf, hw2, he2⟩
  · exact absurd w hw
  · rw [if_pos k]; intro _; exact he
  · rw [if_neg (by rw [k]; decide), if_pos k]
    by_cases hz : r.left = 0
    · rw [if_pos hz]; intro h; exact absurd h hw
    · rw [if_neg hz]; intro h; exact absurd h hw
  · rw [if_neg (by rw [k]; decide), if_neg (by rw [k]; decide), hd]
    intro h
    refine step_whole d x ?_ h
    rw [hw2]
    simpa using hw
theorem feedB_whole (b : List Int) : ∀ r : Bd, BFine r → r.wrong = 0 → (feedB r b).1.whole = true → (feedB r b).1.wrong = 0 := by
  induction b with
  | nil => intro r _ h _; exact h
  | cons x t ih =>
    intro r hf h0 h
    by_cases ho : r.over
    · rw [feedB_stop r _ (.inr ho)]; exact h0
    · rw [feedB_next r x t ho] at h ⊢
      by_cases hz : (byteB r x).1.wrong = 0
      · exact ih _ (hf.byte ho x) hz h
      · rw [feedB_stop (byteB r x).1 t (.inr (.inr hz))] at h
        exact absurd (byteB_whole r hf ho x h) hz
/-- A reader reads the same from what it read alone. -/
theorem feedB_take (b : List Int) : ∀ r : Bd, feedB r (b.take (feedB r b).2.2) = feedB r b := by
  induction b with
  | nil => intro r; rw [List.take_nil]
  | cons x t ih =>
    intro r
    by_cases ho : r.over
    · rw [feedB_stop r (x :: t) (.inr ho), feedB_stop r _ (.inr ho)]
    · rw [feedB_next r x t ho]
      show feedB r ((x :: t).take ((feedB (byteB r x).1 t).2.2 + 1)) = _
      rw [List.take_succ_cons, feedB_next r x _ ho, ih]
/-- What stands behind a whole body is not read. -/
theorem feedB_behind (r : Bd) (b more : List Int) (h : (feedB r b).1.whole = true) : feedB r (b.take (feedB r b).2.2 ++ more) = feedB r b := by
  have hc := (feedB_count b r).1
  have hl : (b.take (feedB r b).2.2).length = (feedB r b).2.2 := by rw [List.length_take]; omega
  rw [feedB_append, feedB_take, if_pos hl.symm, feedB_stop (feedB r b).1 more (.inr (.inl h)), hl]
  show ((feedB r b).1, (feedB r b).2.1 ++ [], (feedB r b).2.2 + 0) = _
  rw [List.append_nil, Nat.add_zero]
theorem newB_zero {kind len most : Int} {r : Bd} (h : newB kind len most = some r) : r.wrong = 0 ∧ r.got = 0 ∧ r.mass = 0 := by
  unfold newB at h
  repeat' split at h
  all_goals first | (cases h; exact ⟨rfl, rfl, rfl⟩) | cases h
/-- What BodyBehind reads. -/
theorem behind_all {kind len most : Int} {b more : List Int} (hk : kind = 1 ∨ kind = 2 ∨ kind = 3 ∨ kind = 4) (hl : 0 ≤ len ∧ len ≤ 9007199254740992) (hkl : ¬ kind = 2 → len = 0) (h0 : 0 ≤ most) (h1 : most ≤ 9007199254740992) {r : Bd} (hr : newB kind len most = some r) (hf : BFine r) (hw : (seenB kind len most b).whole = true) :
    (seenB kind len most b).n ≤ b.length ∧ (feedB r (b.take (seenB kind len most b).n ++ more)).1.whole = true ∧ (feedB r (b.take (seenB kind len most b).n ++ more)).1.wrong = 0 ∧ (feedB r (b.take (seenB kind len most b).n ++ more)).2.1 = (seenB kind len most b).out ∧ (feedB r (b.take (seenB kind len most b).n ++ more)).2.2 = (seenB kind len most b).n := by
  obtain ⟨e1, e2, e3, e4⟩ := seenB_feed (b := b) hk hl.1 h0 hr
  rw [e3] at hw
  rw [e2, feedB_behind r b more hw, e1]
  exact ⟨(feedB_count b r).1, hw, feedB_whole b r hf (newB_zero hr).1 hw, rfl, rfl⟩
end Go.Proofs.YtcfmihghgecefaaDoor.Bod
