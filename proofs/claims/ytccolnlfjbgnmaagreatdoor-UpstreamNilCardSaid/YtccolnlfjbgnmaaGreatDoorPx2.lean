/- Plain laws of package lexis and its reference, second part (values, small letters, the law LexisTells): own text of this session. -/
import Derived.Test.YtccolnlfjbgnmaaGreatDoorPx1
namespace Go.Proofs.YtccolnlfjbgnmaaGreatDoor.Px
open Go.RowKit Go.Proofs.YtccolnlfjbgnmaaGreatDoor.P Go.Proofs.YtccolnlfjbgnmaaGreatDoorW.PrintWords Go.Proofs.YtccolnlfjbgnmaaGreatDoorW.PrintLast Go.Proofs.Hr
set_option linter.unusedVariables false
set_option linter.unusedSimpArgs false
def valOk (c : UInt8) : Bool := !((c < 32 && c != 9) || c == 127)
def value (l : Bs) : Bool := l.all valOk && (trim l == l)
theorem beq_toList (s t : ByteArray) : (s.toList == t.toList) = (s.data.toList == t.data.toList) := by rw [tl, tl]
theorem ev_ite {α : Type} {p : Prop} [Decidable p] {f g : Nat → Option α} {r : α} (hf : p → Ev f r) (hg : ¬ p → Ev g r) : Ev (fun k => if p then f k else g k) r := by
  by_cases h : p
  · simp only [if_pos h]; exact hf h
  · simp only [if_neg h]; exact hg h
theorem valOk_nat (c : UInt8) : valOk c = decide (¬ ((c.toNat < 32 ∧ c.toNat ≠ 9) ∨ c.toNat = 127)) :=
  byte_of (fun c => valOk c = decide (¬ ((c.toNat < 32 ∧ c.toNat ≠ 9) ∨ c.toNat = 127))) (by decide +kernel) c
theorem ev_Value_l0 (s : ByteArray) (hs : s.size ≤ 4611686018427387904) (rest : Bs) : ∀ i : Nat, s.data.toList.drop i = rest → Ev (fun k => lexis_Value.l0 k s (s.size : Int) (i : Int)) (rest.all valOk && (trim s.data.toList == s.data.toList)) := by
  induction rest with
  | nil =>
    intro i h
    have h1 := drop_nil h
    rw [← sz] at h1
    refine Ev.step (fun k => rfl) ?_
    simp only [lexis_Value.l0, if_neg (show ¬ ((i : Int) < (s.size : Int)) by omega), lTrim s hs, Option.bind_some, beq_toList, mkB_data, List.all_nil, Bool.true_and]
    exact Ev.now _
  | cons c r ih =>
    intro i h
    have h1 := drop_lt h
    rw [← sz] at h1
    have hw := w64 (i := i) (by omega)
    have hrec := ih (i + 1) (drop_succ h)
    refine Ev.step (fun k => rfl) ?_
    simp only [lexis_Value.l0, if_pos (show (i : Int) < (s.size : Int) by omega), if_pos (show 0 ≤ (i : Int) by omega), bt_nat h, hw]
    by_cases hv : ((c.toNat < 32 ∧ c.toNat ≠ 9) ∨ c.toNat = 127)
    · have e : valOk c = false := by rw [valOk_nat]; exact decide_eq_false (fun h => h hv)
      rw [List.all_cons, e, Bool.false_and, Bool.false_and]
      repeat' (refine ev_ite ?_ ?_ <;> intro _)
      all_goals first | exact Ev.now _ | (exfalso; omega)
    · have e : valOk c = true := by rw [valOk_nat]; exact decide_eq_true hv
      rw [List.all_cons, e, Bool.true_and]
      repeat' (refine ev_ite ?_ ?_ <;> intro _)
      all_goals first | exact hrec | (exfalso; omega)
theorem ev_Value (s : ByteArray) (hs : s.size ≤ 4611686018427387904) : Ev (fun k => lexis_Value.f k s) (value s.data.toList) := by
  unfold lexis_Value.f value
  exact ev_Value_l0 s hs _ 0 rfl
theorem lLower (s : ByteArray) (hs : s.size ≤ 4611686018427387904) : lexis_Lower.f s = some (mkB (lower s.data.toList)) := by
  unfold lexis_Lower.f
  rw [if_pos hs]
  rfl
end Go.Proofs.YtccolnlfjbgnmaaGreatDoor.Px
