/- A decoder, plainly: how far it reads, and never more than it may; own text of this session. -/
import Derived.Test.YtnlicpihondmgaaDoorChk12
namespace Go.Proofs.YtnlicpihondmgaaDoor.Chk
open Go.RowKit Go.Proofs.YtnlicpihondmgaaDoorW.PrintWords Go.Proofs.YtnlicpihondmgaaDoorW.PrintLast
set_option linter.unusedVariables false
theorem feed_len (b : List Int) : ∀ (d : Dec) (n : Nat), n ≤ (feedGo d b n).2 ∧ (feedGo d b n).2 ≤ n + b.length ∧ ((feedGo d b n).2 = n + b.length ∨ (feedGo d b n).1.whole = true ∨ ¬ (feedGo d b n).1.wrong = 0) := by
  induction b with
  | nil => intro d n; exact ⟨Nat.le_refl _, Nat.le_refl _, .inl rfl⟩
  | cons c r ih =>
    intro d n
    by_cases h : d.whole = true ∨ ¬ d.wrong = 0
    · rw [feed_stop d (c :: r) n (.inr h)]
      exact ⟨Nat.le_refl _, by simp, .inr h⟩
    · have e : feedGo d (c :: r) n = feedGo { (stepE d c).1 with wrong := (stepE d c).2 } r (n + 1) := by
        show (if d.whole = true ∨ ¬ d.wrong = 0 then (d, n) else _) = _
        rw [if_neg h]
      rw [e]
      exact ⟨Nat.le_trans (Nat.le_succ n) (ih _ (n + 1)).1, Nat.le_trans (ih _ (n + 1)).2.1 (by simp only [List.length_cons]; omega), (ih _ (n + 1)).2.2.imp (fun h => h.trans (by simp only [List.length_cons]; omega)) id⟩
theorem feed_fine (b : List Int) : ∀ (d : Dec) (n : Nat), Fine d → Fine (feedGo d b n).1 := by
  induction b with
  | nil => intro d n h; exact h
  | cons c r ih =>
    intro d n h
    unfold feedGo
    split
    · exact h
    · have hs := step_fine d c h
      exact ih _ _ ⟨hs.left0, hs.left1, hs.need1, hs.need0⟩
theorem feed_mass (b : List Int) : ∀ (d : Dec) (n : Nat), (feedGo d b n).1.mass ≤ d.mass + b.length := by
  induction b with
  | nil => intro d n; exact Nat.le_refl _
  | cons c r ih =>
    intro d n
    unfold feedGo
    split
    · simp
    · have h1 := step_mass d c
      refine Nat.le_trans (ih _ (n + 1)) ?_
      show (stepE d c).1.mass + r.length ≤ d.mass + (r.length + 1)
      omega
/-- What was read, and what may come. -/
def Dec.room (d : Dec) : Int := (d.out.length : Int) + d.left + (if d.st = 1 then d.need else 0)
theorem step_room (d : Dec) (c : Int) (h : Fine d) : (stepE d c).1.room ≤ d.room := by
  obtain ⟨h0, h1, h2, h3⟩ := h
  unfold stepE
  match hs : d.st with
  | 0 =>
    show (sizeS d c).1.room ≤ _
    have e0 : d.room = (d.out.length : Int) + d.left := by unfold Dec.room; rw [hs]; simp
    have same : ∀ l : List Int, ({ d with line := l } : Dec).room = d.room := fun l => rfl
    unfold sizeS
    split
    · rw [same]; exact Int.le_refl _
    · split
      · rw [same]; exact Int.le_refl _
      · unfold sizeN
        split
        · rw [same]; exact Int.le_refl _
        · split
          · rw [e0]; unfold Dec.room; simp
          · rw [e0]; unfold Dec.room; simp; omega
  | 1 =>
    have h4 := h3 hs
    show (dataS d c).1.room ≤ _
    have e0 : d.room = (d.out.length : Int) + d.left + d.need := by unfold Dec.room; rw [hs]; simp
    rw [e0]
    unfold dataS Dec.room
    simp only [List.length_append, List.length_singleton]
    by_cases h5 : d.need - 1 = 0
    · rw [if_pos h5, if_neg (by decide)]; omega
    · rw [if_neg h5, hs, if_pos rfl]; omega
  | 2 =>
    show (endS d c).1.room ≤ _
    have e0 : d.room = (d.out.length : Int) + d.left := by unfold Dec.room; rw [hs]; simp
    unfold endS
    by_cases h9 : c ≠ (if d.line.length = 1 then 10 else 13)
    · rw [if_pos h9]; exact Int.le_refl _
    · rw [if_neg h9]
      by_cases h8 : c = 10
      · rw [if_pos h8, e0]; unfold Dec.room; simp
      · rw [if_neg h8]; exact Int.le_refl _
  | n + 3 =>
    show (trailerS d c).1.room ≤ _
    unfold trailerS
    split
    · exact Int.le_refl _
    · split
      · exact Int.le_refl _
      · split
        · exact Int.le_refl _
        · exact Int.le_refl _
theorem feed_room (b : List Int) : ∀ (d : Dec) (n : Nat), Fine d → (feedGo d b n).1.room ≤ d.room := by
  induction b with
  | nil => intro d n _; exact Int.le_refl _
  | cons c r ih =>
    intro d n h
    unfold feedGo
    split
    · exact Int.le_refl _
    · have hs := step_fine d c h
      exact Int.le_trans (ih _ (n + 1) ⟨hs.left0, hs.left1, hs.need1, hs.need0⟩) (step_room d c h)
theorem feed_bound (most : Int) (b : List Int) (h0 : 0 ≤ most) (h1 : most ≤ 9007199254740992) : ((feedGo (newDec most) b 0).1.out.length : Int) ≤ most := by
  have hf := fine_new most h0 h1
  have h2 := feed_room b (newDec most) 0 hf
  have h3 := feed_fine b (newDec most) 0 hf
  have h4 : (newDec most).room = most := by simp [Dec.room, newDec]
  obtain ⟨g0, _, _, g3⟩ := h3
  unfold Dec.room at h2 h4
  rw [h4] at h2
  split at h2
  · rename_i hs
    have := g3 hs
    omega
  · omega
/-- Feed, with what it comes to told apart. -/
def FeedTo (w : World) (F : Nat → Prop) (p : Nat) (d1 : Dec) (n1 : Nat) (e : Ending) (w' : World) : Prop :=
  ∃ (A2 : Option Addr) (c2 : Nat), e = .returned (.tuple #[.slice A2 d1.out.length c2, .int .i64 (n1 : Int), .bool d1.whole, .int .i64 d1.wrong]) ∧
    (∃ (F' G : Nat → Prop) (vl vt : Value), Rep w' F' p vl (.slice none 0 0) vt { d1 with out := [] } ∧ (Kd.int .u8).R 5 w' 0 G (.slice A2 d1.out.length c2) d1.out ∧
      (∀ k, F' k → (F k ∨ w.heap.size ≤ k) ∧ k < w'.heap.size) ∧ (∀ k, G k → (F k ∨ w.heap.size ≤ k) ∧ k < w'.heap.size ∧ ¬ F' k)) ∧ Stay F w w'
theorem feed_to (w0 w : World) (F : Nat → Prop) (p : Nat) (vl vo vt : Value) (d : Dec) (A : Option Addr) (cap : Nat) (b : List Int) (h : Rep w F p vl vo vt d) (hH : Held w0 w F) (hm : d.mass + b.length ≤ 4294960000) (hd : Fine d) (hb : ∀ W', Stay F w W' → (Kd.int .u8).C W' A b.length b) (d1 : Dec) (n1 : Nat) (hf : feedGo d b 0 = (d1, n1)) :
    Calls Tryd.prog 16 #[.pointer (some ⟨p, 0, none⟩), .slice A b.length cap] w (FeedTo w F p d1 n1) := by
  have H := feed_calls w0 w F p vl vo vt d A cap b h hH hm hd hb
  rw [hf] at H
  refine H.mono ?_
  rintro e w' ⟨v, rfl, ⟨F', G, vl', vt', h1, h2, h3, h4⟩, h5⟩
  obtain ⟨A2, c2, e2⟩ := Kd.R_slice h2
  subst e2
  exact ⟨A2, c2, rfl, ⟨F', G, vl', vt', h1, h2, h3, h4⟩, h5⟩
end Go.Proofs.YtnlicpihondmgaaDoor.Chk
