/- Package head, by hand: Parse; own text of this session. -/
import Derived.Test.YtccolnlfjbgnmaaGreatDoorHdAA
namespace Go.Proofs.YtccolnlfjbgnmaaGreatDoor.Hd
open Go.RowKit Go.Proofs.YtccolnlfjbgnmaaGreatDoorW.PrintWords Go.Proofs.YtccolnlfjbgnmaaGreatDoorW.PrintLast Chk Px Hr
set_option linter.unusedVariables false
set_option linter.unusedSimpArgs false
theorem feedP_count (b : List Int) : ∀ (p : Par) (n : Nat), n ≤ (feedP p b n).2 ∧ (feedP p b n).2 ≤ n + b.length := by
  induction b with
  | nil => intro p n; exact ⟨Nat.le_refl _, Nat.le_refl _⟩
  | cons c r ih =>
    intro p n
    by_cases hs : p.whole = true ∨ p.err.isSome = true
    · rw [feedP_stop p _ n (.inr hs)]; exact ⟨Nat.le_refl _, Nat.le_add_right _ _⟩
    · have hw : p.whole = false := by cases hx : p.whole with | false => rfl | true => exact absurd (.inl hx) hs
      have he : p.err = none := by cases hx : p.err with | none => rfl | some y => exact absurd (.inr (by rw [hx]; rfl)) hs
      rw [feedP_next p c r n hw he]
      have h5 := ih { (takeS p c).1 with err := (takeS p c).2 } (n + 1)
      refine ⟨Nat.le_trans (Nat.le_succ _) h5.1, Nat.le_trans h5.2 ?_⟩
      simp only [List.length_cons]
      omega
end Go.Proofs.YtccolnlfjbgnmaaGreatDoor.Hd
