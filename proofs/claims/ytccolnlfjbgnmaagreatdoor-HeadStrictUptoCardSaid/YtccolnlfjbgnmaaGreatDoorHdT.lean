/- Package head, plainly: nothing slips in (the plain law of HeadStrict); own text of this session. -/
import Derived.Test.YtccolnlfjbgnmaaGreatDoorHdR
namespace Go.Proofs.YtccolnlfjbgnmaaGreatDoor.Hd
open Go.RowKit Go.Proofs.YtccolnlfjbgnmaaGreatDoorW.PrintWords Go.Proofs.YtccolnlfjbgnmaaGreatDoorW.PrintLast Chk Px Hr
set_option linter.unusedVariables false
set_option linter.unusedSimpArgs false
def good (c : UInt8) : Prop := c ≠ 10 ∧ c ≠ 13 ∧ c ≠ 0
theorem good_token {l : Bs} (h : token l = true) : ∀ c ∈ l, good c := fun c hc => by
  have := tch_ch' c ((token_mem h).1 c hc)
  exact ⟨this.1, this.2.1, this.2.2.2.2.2.1⟩
theorem good_value {l : Bs} (h : value l = true) : ∀ c ∈ l, good c := fun c hc => val_ch' c ((value_mem h).1 c hc)
theorem good_vis {l : Bs} (h : visS l = true) : ∀ c ∈ l, good c := fun c hc => by
  have := vis_ch' c ((vis_mem h).1 c hc)
  exact ⟨this.1, this.2.1, this.2.2.1⟩
theorem good_nil : ∀ c ∈ (⟨#[]⟩ : ByteArray).data.toList, good c := fun c hc => by cases hc
theorem good_first {h : Head} (ok : HdOk h) : ∀ c ∈ h.f1.data.toList ++ h.f2.data.toList ++ h.f5.data.toList, good c := by
  intro c hc
  rcases ok.first with ⟨_, h1, h2, _, h5⟩ | ⟨_, h1, h2, _, _, h6⟩
  · rw [h5] at hc
    rcases List.mem_append.1 hc with hc | hc
    · rcases List.mem_append.1 hc with hc | hc
      · exact good_token h1 c hc
      · exact good_vis h2 c hc
    · cases hc
  · rw [h1, h2] at hc
    rcases List.mem_append.1 hc with hc | hc
    · rcases List.mem_append.1 hc with hc | hc <;> cases hc
    · exact good_value h6 c (by simp [hc])
theorem good_flds {h : Head} (ok : HdOk h) : ∀ f ∈ h.f6, (∀ c ∈ f.f0.data.toList ++ f.f1.data.toList, good c) ∧ (∀ c ∈ f.f0.data.toList, 32 < c.toNat ∧ c ≠ 58) := by
  intro f hf
  obtain ⟨h0, h1⟩ := ok.flds f hf
  refine ⟨fun c hc => (List.mem_append.1 hc).elim (good_token h0 c) (good_value h1 c), fun c hc => ?_⟩
  have := tch_ch' c ((token_mem h0).1 c hc)
  exact ⟨this.2.2.2.2.2.2, this.2.2.1⟩
/-- Print refuses a head that was read only where it is long. -/
theorem print_long (rq : Bool) (b : List Int) (he : (parseS rq b).2.2 = 0) (hp : ¬ (printS (parseS rq b).1).2 = 0) : 65536 < (parseS rq b).2.1 + ((parseS rq b).1.f6.length : Int) ∨ ∃ f ∈ (parseS rq b).1.f6, 8190 < f.f0.size + f.f1.size := by
  obtain ⟨ok, _, h1, h2⟩ := parse_holds rq b he
  by_cases hl : 65536 < (parseS rq b).2.1 + ((parseS rq b).1.f6.length : Int)
  · exact .inl hl
  · by_cases hf : ∃ f ∈ (parseS rq b).1.f6, 8190 < f.f0.size + f.f1.size
    · exact .inr hf
    · exfalso
      apply hp
      rw [print_back ok (by omega) h1 (fun f hm => by by_cases h5 : 8190 < f.f0.size + f.f1.size; exact absurd ⟨f, hm, h5⟩ hf; omega)]
theorem print_same (h : Head) (hp : (printS h).2 = 0) : (printS h).1 = textS h ∧ parseS h.f0 (nOf (textS h)) = (h, ((textS h).length : Int), 0) := by
  unfold printS at hp ⊢
  split at hp
  · exact absurd (show (4 : Int) = 0 from hp) (by decide)
  · rename_i h1
    rw [if_neg h1]
    split at hp
    · exact absurd (show (4 : Int) = 0 from hp) (by decide)
    · rename_i h2
      rw [if_neg h2]
      have e0 : (parseS h.f0 (nOf (textS h))).2.2 = 0 := by by_cases e : (parseS h.f0 (nOf (textS h))).2.2 = 0; exact e; exact absurd (.inl e) h2
      have e1 : (parseS h.f0 (nOf (textS h))).2.1 = ((textS h).length : Int) := by by_cases e : (parseS h.f0 (nOf (textS h))).2.1 = ((textS h).length : Int); exact e; exact absurd (.inr (.inl e)) h2
      have e2 : sameB (parseS h.f0 (nOf (textS h))).1 h = true := by cases e : sameB (parseS h.f0 (nOf (textS h))).1 h with | true => rfl | false => exact absurd (.inr (.inr e)) h2
      refine ⟨rfl, ?_⟩
      obtain ⟨⟨x, n, e⟩, hz⟩ : ∃ z, z = parseS h.f0 (nOf (textS h)) := ⟨_, rfl⟩
      rw [← hz] at e0 e1 e2 ⊢
      simp only at e0 e1 e2
      rw [(sameB_iff _ _).1 e2, e1, e0]
/-- How long a head's text is, that was read. -/
theorem text_bound (rq : Bool) (b : List Int) (he : (parseS rq b).2.2 = 0) (hb : b.length ≤ 4294900000) : (textS (parseS rq b).1).length ≤ 4294930000 := by
  obtain ⟨ok, _, h1, h2⟩ := parse_holds rq b he
  obtain ⟨k, h3, _, h4, _⟩ := parseS_cut rq b he
  have := ok.few
  omega
theorem ints_bound {h : Head} (ok : HdOk h) : (-9223372036854775808 ≤ h.f3 ∧ h.f3 ≤ 9223372036854775807) ∧ (-9223372036854775808 ≤ h.f4 ∧ h.f4 ≤ 9223372036854775807) := by
  have h3 := ok.minor
  rcases ok.first with ⟨_, _, _, h4, _⟩ | ⟨_, _, _, h4, h5, _⟩ <;> (refine ⟨?_, ?_⟩ <;> omega)
end Go.Proofs.YtccolnlfjbgnmaaGreatDoor.Hd
