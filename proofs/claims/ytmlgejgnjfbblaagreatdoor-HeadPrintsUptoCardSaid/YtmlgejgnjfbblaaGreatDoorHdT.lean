/- Package head, plainly: nothing slips in (the plain law of HeadStrict); own text of this session. -/
import Derived.Test.YtmlgejgnjfbblaaGreatDoorHdR
namespace Go.Proofs.YtmlgejgnjfbblaaGreatDoor.Hd
open Go.RowKit Go.Proofs.YtmlgejgnjfbblaaGreatDoorW.PrintWords Go.Proofs.YtmlgejgnjfbblaaGreatDoorW.PrintLast Chk Px Hr
set_option linter.unusedVariables false
set_option linter.unusedSimpArgs false
theorem print_same (h : Head) (hp : (printS h).2 = 0) : (printS h).1 = textS h ∧ parseS h.f0 (nOf (textS h)) = (h, ((textS h).length : Int), 0) := by
  unfold printS at hp ⊢
  split at hp
  · exact absurd (show (4 : Int) = 0 from hp) (by decide)
  · rename_i h1
    rw [if_neg h1]
    split at hp
    · exact absurd (show (4 : Int) = 0 from hp) (by decide)
    · rename_i h2
      rw [if_neg h2]
      have e0 : (parseS h.f0 (nOf (textS h))).2.2 = 0 := by by_cases e : (parseS h.f0 (nOf (textS h))).2.2 = 0; exact e; exact absurd (.inl e) h2
      have e1 : (parseS h.f0 (nOf (textS h))).2.1 = ((textS h).length : Int) := by by_cases e : (parseS h.f0 (nOf (textS h))).2.1 = ((textS h).length : Int); exact e; exact absurd (.inr (.inl e)) h2
      have e2 : sameB (parseS h.f0 (nOf (textS h))).1 h = true := by cases e : sameB (parseS h.f0 (nOf (textS h))).1 h with | true => rfl | false => exact absurd (.inr (.inr e)) h2
      refine ⟨rfl, ?_⟩
      obtain ⟨⟨x, n, e⟩, hz⟩ : ∃ z, z = parseS h.f0 (nOf (textS h)) := ⟨_, rfl⟩
      rw [← hz] at e0 e1 e2 ⊢
      simp only at e0 e1 e2
      rw [(sameB_iff _ _).1 e2, e1, e0]
end Go.Proofs.YtmlgejgnjfbblaaGreatDoor.Hd
