/- Package head, plainly: no beginning of a head is taken for it, more bytes change nothing; own text of this session. -/
import Derived.Test.YtccolnlfjbgnmaaGreatDoorHdS
namespace Go.Proofs.YtccolnlfjbgnmaaGreatDoor.Hd
open Go.RowKit Go.Proofs.YtccolnlfjbgnmaaGreatDoorW.PrintWords Go.Proofs.YtccolnlfjbgnmaaGreatDoorW.PrintLast Chk Px Hr
set_option linter.unusedVariables false
set_option linter.unusedSimpArgs false
theorem feedP_cut (b : List Int) : ∀ (p : Par) (n : Nat), p.whole = false → p.err = none → ∃ k, (feedP p b n).2 = n + k ∧ k ≤ b.length ∧ (∀ j, j < k → ∃ p', feedP p (b.take j) n = (p', n + j) ∧ p'.whole = false ∧ p'.err = none) ∧ (((feedP p b n).1.whole = true ∨ (feedP p b n).1.err.isSome = true) → 1 ≤ k ∧ ∀ more, feedP p (b.take k ++ more) n = feedP p b n) ∧ (¬ ((feedP p b n).1.whole = true ∨ (feedP p b n).1.err.isSome = true) → k = b.length) := by
  induction b with
  | nil =>
    intro p n hw he
    refine ⟨0, rfl, Nat.le_refl _, fun j hj => absurd hj (Nat.not_lt_zero _), fun h => ?_, fun _ => rfl⟩
    rcases h with h | h
    · rw [show (feedP p [] n).1 = p from rfl, hw] at h; cases h
    · rw [show (feedP p [] n).1 = p from rfl, he] at h; cases h
  | cons c r ih =>
    intro p n hw he
    obtain ⟨p1, hp1⟩ : ∃ p1, p1 = { (takeS p c).1 with err := (takeS p c).2 } := ⟨_, rfl⟩
    have hn : ∀ l m, feedP p (c :: l) m = feedP p1 l (m + 1) := fun l m => by rw [feedP_next p c l m hw he, hp1]
    by_cases hs : p1.whole = true ∨ p1.err.isSome = true
    · have e : ∀ l, feedP p1 l (n + 1) = (p1, n + 1) := fun l => feedP_stop p1 l _ (.inr hs)
      refine ⟨1, by rw [hn, e], by simp, fun j hj => ?_, fun _ => ⟨Nat.le_refl _, fun more => ?_⟩, fun h => absurd (by rw [hn, e]; exact hs) h⟩
      · obtain rfl : j = 0 := by omega
        exact ⟨p, rfl, hw, he⟩
      · show feedP p (c :: more) n = _
        rw [hn, hn, e, e]
    · have hw1 : p1.whole = false := by cases hx : p1.whole with | false => rfl | true => exact absurd (.inl hx) hs
      have he1 : p1.err = none := by cases hx : p1.err with | none => rfl | some y => exact absurd (.inr (by rw [hx]; rfl)) hs
      obtain ⟨k, h1, h2, h3, h4, h5⟩ := ih p1 (n + 1) hw1 he1
      refine ⟨k + 1, by rw [hn, h1]; omega, by simp; omega, fun j hj => ?_, fun h => ?_, fun h => ?_⟩
      · cases j with
        | zero => exact ⟨p, rfl, hw, he⟩
        | succ j =>
          obtain ⟨p', e1, e2, e3⟩ := h3 j (by omega)
          refine ⟨p', ?_, e2, e3⟩
          rw [List.take_succ_cons, hn, e1, show n + 1 + j = n + (j + 1) by omega]
      · rw [hn] at h
        refine ⟨by omega, fun more => ?_⟩
        rw [List.take_succ_cons, List.cons_append, hn, hn]
        exact (h4 h).2 more
      · rw [hn] at h
        rw [h5 h]; rfl
theorem newPar_fresh (rq : Bool) (most : Int) : (newPar rq most).whole = false ∧ (newPar rq most).err = none := ⟨rfl, rfl⟩
theorem parseS_no (rq : Bool) (b : List Int) (h : ¬ (parseS rq b).2.2 = 0) : (parseS rq b).2.1 = 0 ∧ (parseS rq b).1 = head0 false := by
  unfold parseS at h ⊢
  dsimp only at h ⊢
  split
  · exact ⟨rfl, rfl⟩
  · split
    · exact ⟨rfl, rfl⟩
    · rename_i h1 h2
      rw [if_neg h1, if_neg h2] at h
      exact absurd rfl h
theorem parseS_yes (rq : Bool) (b : List Int) (h : (parseS rq b).2.2 = 0) : codeOf (feedP (newPar rq 65536) b 0).1.err = 0 ∧ (feedP (newPar rq 65536) b 0).1.whole = true ∧ parseS rq b = ((feedP (newPar rq 65536) b 0).1.hd, ((feedP (newPar rq 65536) b 0).2 : Int), 0) := by
  unfold parseS at h ⊢
  dsimp only at h ⊢
  by_cases h1 : codeOf (feedP (newPar rq 65536) b 0).1.err = 0
  · rw [if_neg (fun h5 => h5 h1)] at h ⊢
    by_cases h2 : (feedP (newPar rq 65536) b 0).1.whole = false
    · rw [if_pos h2] at h; exact absurd h (by decide)
    · rw [if_neg h2]
      exact ⟨h1, by cases hx : (feedP (newPar rq 65536) b 0).1.whole with | true => rfl | false => exact absurd hx h2, rfl⟩
  · rw [if_pos h1] at h
    exact absurd h h1
/-- Where some bytes are a head: no fewer are one, and more bytes change nothing. -/
theorem parseS_cut (rq : Bool) (b : List Int) (h : (parseS rq b).2.2 = 0) : ∃ k : Nat, (parseS rq b).2.1 = (k : Int) ∧ 1 ≤ k ∧ k ≤ b.length ∧ (∀ j, j < k → parseS rq (b.take j) = (head0 false, 0, 6)) ∧ ∀ more, parseS rq (b.take k ++ more) = parseS rq b := by
  obtain ⟨h1, h2, h3⟩ := parseS_yes rq b h
  obtain ⟨k, e1, e2, e3, e4, e5⟩ := feedP_cut b (newPar rq 65536) 0 rfl rfl
  have e6 := e4 (.inl h2)
  refine ⟨k, by rw [h3]; show ((feedP (newPar rq 65536) b 0).2 : Int) = _; rw [e1, Nat.zero_add], e6.1, e2, fun j hj => ?_, fun more => ?_⟩
  · obtain ⟨p', f1, f2, f3⟩ := e3 j hj
    unfold parseS
    rw [f1]
    dsimp only
    rw [f3, if_neg (by decide), if_pos f2]
  · unfold parseS
    rw [e6.2 more]
end Go.Proofs.YtccolnlfjbgnmaaGreatDoor.Hd
