/- Numbers: the laws LexisNumbers and LexisBack: own text of this session. -/
import Derived.Test.YtmlgejgnjfbblaaGreatDoorPx3
namespace Go.Proofs.YtmlgejgnjfbblaaGreatDoor.Px
open Go.RowKit Go.Proofs.YtmlgejgnjfbblaaGreatDoor.P Go.Proofs.YtmlgejgnjfbblaaGreatDoorW.PrintWords Go.Proofs.YtmlgejgnjfbblaaGreatDoorW.PrintLast Go.Proofs.Hr
set_option linter.unusedVariables false
set_option linter.unusedSimpArgs false
/-! digits: what was read goes on -/
def dStep (base : Nat) (c : UInt8) (n : Nat) (b : Bool) : Option (Nat × Bool) := match digitOf base c with
  | none => none
  | some d => if b then some (n, b) else some (n * base + d, decide (9007199254740992 < n * base + d))
theorem digitsGo_cons (base : Nat) (c : UInt8) (r : Bs) (n : Nat) (b : Bool) : digitsGo base (c :: r) n b = (dStep base c n b).bind fun p => digitsGo base r p.1 p.2 := by
  unfold dStep
  rw [digitsGo]
  cases digitOf base c with
  | none => rfl
  | some d => cases b <;> rfl
theorem lDigits (s : ByteArray) (hs : s.size ≤ 281474976710656) (base : Int) (hb : base = 10 ∨ base = 16) : lexis_digits.f s base = some (digits base.toNat s.data.toList) := by
  unfold lexis_digits.f
  rw [if_pos ⟨hs, hb⟩]
theorem lNumber (s : ByteArray) (hs : s.size ≤ 281474976710656) : lexis_Number.f s = some (digits 10 s.data.toList) := by
  unfold lexis_Number.f
  rw [lDigits s hs 10 (Or.inl rfl)]; rfl
def dInt (base : Nat) (c : UInt8) : Int := match digitOf base c with | none => -1 | some d => (d : Int)
theorem rdigit10_at : ∀ n : Fin 256, headraceref05_digit.f 4 ((UInt8.ofNat n.val).toNat : Int) 10 = some (dInt 10 (UInt8.ofNat n.val)) := by decide +kernel
theorem rdigit16_at : ∀ n : Fin 256, headraceref05_digit.f 4 ((UInt8.ofNat n.val).toNat : Int) 16 = some (dInt 16 (UInt8.ofNat n.val)) := by decide +kernel
theorem ev_rdigit (base : Nat) (hb : base = 10 ∨ base = 16) (c : UInt8) : Ev (fun k => headraceref05_digit.f k (c.toNat : Int) (base : Int)) (dInt base c) := by
  rcases hb with rfl | rfl
  · exact Ev.of (headraceref05_digit.mono _ _) (byte_of (fun c => headraceref05_digit.f 4 (c.toNat : Int) 10 = some (dInt 10 c)) rdigit10_at c)
  · exact Ev.of (headraceref05_digit.mono _ _) (byte_of (fun c => headraceref05_digit.f 4 (c.toNat : Int) 16 = some (dInt 16 c)) rdigit16_at c)
def tellGo : Option (Nat × Bool) → Int × Int
  | none => (0, 50)
  | some (n, big) => if big then (0, 51) else ((n : Int), 0)
theorem digitOf_lt (base : Nat) (c : UInt8) (d : Nat) (h : digitOf base c = some d) : d < base := by
  unfold digitOf at h
  split at h
  · split at h
    · injection h with h; omega
    · cases h
  · split at h
    · split at h
      · injection h with h; omega
      · cases h
    · split at h
      · split at h
        · injection h with h; omega
        · cases h
      · cases h
theorem ev_rDigits_l0 (base : Nat) (hb : base = 10 ∨ base = 16) (s : ByteArray) (hs : s.size ≤ 4611686018427387904) (rest : Bs) : ∀ i n : Nat, n ≤ 9007199254740992 * 16 + 15 → s.data.toList.drop i = rest → Ev (fun k => headraceref05_Digits.l0 k s (base : Int) (n : Int) (i : Int)) (tellGo (digitsGo base rest n (decide (9007199254740992 < n)))) := by
  have hb2 : base ≤ 16 := by omega
  induction rest with
  | nil =>
    intro i n hn h
    have h1 := drop_nil h
    rw [← sz] at h1
    refine Ev.step (fun k => rfl) ?_
    simp only [headraceref05_Digits.l0, if_neg (show ¬ ((i : Int) < (s.size : Int)) by omega), digitsGo, tellGo]
    by_cases hm : 9007199254740992 < n
    · simp only [if_pos (show (n : Int) > 9007199254740992 by omega), decide_eq_true hm, if_true]
      exact Ev.now _
    · simp only [if_neg (show ¬ (n : Int) > 9007199254740992 by omega), decide_eq_false hm, Bool.false_eq_true, if_false]
      exact Ev.now _
  | cons c r ih =>
    intro i n hn h
    have h1 := drop_lt h
    rw [← sz] at h1
    have hw := w64 (i := i) (by omega)
    refine Ev.step (fun k => rfl) ?_
    simp only [headraceref05_Digits.l0, if_pos (show (i : Int) < (s.size : Int) by omega), if_pos (show 0 ≤ (i : Int) by omega), bt_nat h, hw]
    refine Ev.bind (ev_rdigit base hb c) ?_
    rw [digitsGo_cons]
    unfold dStep dInt
    cases hd : digitOf base c with
    | none =>
      simp only [if_pos (show (-1 : Int) < 0 by decide), Option.bind_none, tellGo]
      exact Ev.now _
    | some d =>
      have hdl := digitOf_lt base c d hd
      simp only [if_neg (show ¬ (d : Int) < 0 by omega)]
      by_cases hm : 9007199254740992 < n
      · simp only [if_neg (show ¬ (n : Int) ≤ 9007199254740992 by omega), decide_eq_true hm, if_true, Option.bind_some]
        have := ih (i + 1) n hn (drop_succ h)
        rwa [decide_eq_true hm] at this
      · simp only [if_pos (show (n : Int) ≤ 9007199254740992 by omega), decide_eq_false hm, Bool.false_eq_true, if_false, Option.bind_some]
        have hmul : n * base ≤ 9007199254740992 * 16 := Nat.mul_le_mul (by omega) hb2
        have e1 : wrap64 ((n : Int) * (base : Int)) = ((n * base : Nat) : Int) := by
          rw [← Int.natCast_mul]; unfold wrap64; omega
        have e2 : wrap64 (((n * base : Nat) : Int) + (d : Int)) = ((n * base + d : Nat) : Int) := by unfold wrap64; omega
        rw [e1, e2]
        exact ih (i + 1) (n * base + d) (by omega) (drop_succ h)
theorem ev_rDigits (base : Nat) (hb : base = 10 ∨ base = 16) (s : ByteArray) (hs : s.size ≤ 4611686018427387904) : Ev (fun k => headraceref05_Digits.f k s (base : Int)) (digits base s.data.toList) := by
  unfold headraceref05_Digits.f
  have hsz := sz s
  cases hl : s.data.toList with
  | nil =>
    rw [hl] at hsz
    have h0 : s.size = 0 := hsz
    simp only [if_pos (show (s.size : Int) = 0 by omega)]
    exact Ev.now _
  | cons c r =>
    rw [hl] at hsz
    simp only [List.length_cons] at hsz
    simp only [if_neg (show ¬ (s.size : Int) = 0 by omega)]
    have h := ev_rDigits_l0 base hb s hs (c :: r) 0 0 (by omega) (by rw [hl]; rfl)
    unfold digits
    unfold tellGo at h
    simp only [show decide (9007199254740992 < 0) = false from rfl] at h
    revert h
    cases digitsGo base (c :: r) 0 false with
    | none => exact fun h => h
    | some p =>
      intro h
      simp only [if_neg (show ¬ (c :: r) = [] by simp)]
      exact h
end Go.Proofs.YtmlgejgnjfbblaaGreatDoor.Px
