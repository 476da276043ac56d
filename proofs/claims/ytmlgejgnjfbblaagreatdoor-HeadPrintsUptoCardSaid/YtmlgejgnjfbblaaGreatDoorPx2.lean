/- Plain laws of package lexis and its reference, second part (values, small letters, the law LexisTells): own text of this session. -/
import Derived.Test.YtmlgejgnjfbblaaGreatDoorPx1
namespace Go.Proofs.YtmlgejgnjfbblaaGreatDoor.Px
open Go.RowKit Go.Proofs.YtmlgejgnjfbblaaGreatDoor.P Go.Proofs.YtmlgejgnjfbblaaGreatDoorW.PrintWords Go.Proofs.YtmlgejgnjfbblaaGreatDoorW.PrintLast Go.Proofs.Hr
set_option linter.unusedVariables false
set_option linter.unusedSimpArgs false
def valOk (c : UInt8) : Bool := !((c < 32 && c != 9) || c == 127)
def value (l : Bs) : Bool := l.all valOk && (trim l == l)
theorem beq_toList (s t : ByteArray) : (s.toList == t.toList) = (s.data.toList == t.data.toList) := by rw [tl, tl]
theorem ev_ite {α : Type} {p : Prop} [Decidable p] {f g : Nat → Option α} {r : α} (hf : p → Ev f r) (hg : ¬ p → Ev g r) : Ev (fun k => if p then f k else g k) r := by
  by_cases h : p
  · simp only [if_pos h]; exact hf h
  · simp only [if_neg h]; exact hg h
theorem valOk_nat (c : UInt8) : valOk c = decide (¬ ((c.toNat < 32 ∧ c.toNat ≠ 9) ∨ c.toNat = 127)) :=
  byte_of (fun c => valOk c = decide (¬ ((c.toNat < 32 ∧ c.toNat ≠ 9) ∨ c.toNat = 127))) (by decide +kernel) c
theorem ev_Value_l0 (s : ByteArray) (hs : s.size ≤ 4611686018427387904) (rest : Bs) : ∀ i : Nat, s.data.toList.drop i = rest → Ev (fun k => lexis_Value.l0 k s (s.size : Int) (i : Int)) (rest.all valOk && (trim s.data.toList == s.data.toList)) := by
  induction rest with
  | nil =>
    intro i h
    have h1 := drop_nil h
    rw [← sz] at h1
    refine Ev.step (fun k => rfl) ?_
    simp only [lexis_Value.l0, if_neg (show ¬ ((i : Int) < (s.size : Int)) by omega), lTrim s hs, Option.bind_some, beq_toList, mkB_data, List.all_nil, Bool.true_and]
    exact Ev.now _
  | cons c r ih =>
    intro i h
    have h1 := drop_lt h
    rw [← sz] at h1
    have hw := w64 (i := i) (by omega)
    have hrec := ih (i + 1) (drop_succ h)
    refine Ev.step (fun k => rfl) ?_
    simp only [lexis_Value.l0, if_pos (show (i : Int) < (s.size : Int) by omega), if_pos (show 0 ≤ (i : Int) by omega), bt_nat h, hw]
    by_cases hv : ((c.toNat < 32 ∧ c.toNat ≠ 9) ∨ c.toNat = 127)
    · have e : valOk c = false := by rw [valOk_nat]; exact decide_eq_false (fun h => h hv)
      rw [List.all_cons, e, Bool.false_and, Bool.false_and]
      repeat' (refine ev_ite ?_ ?_ <;> intro _)
      all_goals first | exact Ev.now _ | (exfalso; omega)
    · have e : valOk c = true := by rw [valOk_nat]; exact decide_eq_true hv
      rw [List.all_cons, e, Bool.true_and]
      repeat' (refine ev_ite ?_ ?_ <;> intro _)
      all_goals first | exact hrec | (exfalso; omega)
theorem ev_Value (s : ByteArray) (hs : s.size ≤ 4611686018427387904) : Ev (fun k => lexis_Value.f k s) (value s.data.toList) := by
  unfold lexis_Value.f value
  exact ev_Value_l0 s hs _ 0 rfl
def headOk (m : Bs) : Bool := match m with | [] => true | c :: _ => !isBlank c
theorem dw_fix (m : Bs) : (m.dropWhile isBlank == m) = headOk m := by
  cases m with
  | nil => rfl
  | cons c r =>
    rw [List.dropWhile_cons]
    unfold headOk
    cases hc : isBlank c with
    | true =>
      simp only [if_true, hc, Bool.not_true]
      rw [beq_eq_false_iff_ne]
      intro h
      have h2 := congrArg List.length h
      have := (List.dropWhile_sublist isBlank (l := r)).length_le
      simp only [List.length_cons] at h2
      omega
    | false => simp [hc]
theorem trim_fix (l : Bs) : (trim l == l) = (headOk l && headOk l.reverse) := by
  rw [← dw_fix, ← dw_fix, trim_eq]
  rw [Bool.eq_iff_iff]
  simp only [beq_iff_eq, Bool.and_eq_true]
  have hR : ∀ m : Bs, (trimR m).length ≤ m.length := by
    intro m; unfold trimR; rw [List.length_reverse]; exact Nat.le_trans (List.dropWhile_sublist _).length_le (by simp)
  constructor
  · intro h
    have h1 : (trimL (trimR l)).length ≤ (trimR l).length := (List.dropWhile_sublist _).length_le
    rw [h] at h1
    have h2 : l.reverse.dropWhile isBlank = l.reverse := by
      refine (List.dropWhile_sublist (l := l.reverse) isBlank).eq_of_length_le ?_
      unfold trimR at h1
      rw [List.length_reverse] at h1
      rw [List.length_reverse]
      exact h1
    have h3 : trimR l = l := by unfold trimR; rw [h2, List.reverse_reverse]
    rw [h3] at h
    exact ⟨h, h2⟩
  · rintro ⟨h1, h2⟩
    have h3 : trimR l = l := by unfold trimR; rw [h2, List.reverse_reverse]
    rw [h3]; exact h1
theorem ev_rValue_l0 (s : ByteArray) (hs : s.size ≤ 4611686018427387904) (rest : Bs) : ∀ i : Nat, s.data.toList.drop i = rest → Ev (fun k => headraceref05_Value.l0 k s (s.size : Int) (i : Int)) (rest.all valOk && (trim s.data.toList == s.data.toList)) := by
  induction rest with
  | nil =>
    intro i h
    have h1 := drop_nil h
    rw [← sz] at h1
    refine Ev.step (fun k => rfl) ?_
    simp only [headraceref05_Value.l0, if_neg (show ¬ ((i : Int) < (s.size : Int)) by omega)]
    rw [List.all_nil, Bool.true_and, trim_fix]
    have hsz := sz s
    cases hL : s.data.toList with
    | nil =>
      rw [hL] at hsz
      have h0 : s.size = 0 := hsz
      simp only [if_pos (show (s.size : Int) = 0 by omega)]
      exact Ev.now _
    | cons c r =>
      have hrv : ∃ d q, (c :: r).reverse = d :: q := by
        cases hq : (c :: r).reverse with
        | nil => simp at hq
        | cons d q => exact ⟨d, q, rfl⟩
      obtain ⟨d, q, hq⟩ := hrv
      have hL2 : s.data.toList = q.reverse ++ [d] := by rw [hL, ← List.reverse_reverse (c :: r), hq]; simp
      have hszn : s.size = q.length + 1 := by rw [hsz, hL2]; simp
      have hw : wrap64 ((s.size : Int) - 1) = ((q.length : Nat) : Int) := by rw [hszn]; unfold wrap64; omega
      have hb0 : bt s 0 = (c.toNat : Int) := bt_nat (i := 0) (r := r) (by rw [hL]; rfl)
      have hbl : bt s (q.length : Int) = (d.toNat : Int) := bt_nat (r := []) (by rw [hL2, List.drop_append_of_le_length (by simp), List.drop_of_length_le (by simp)]; rfl)
      simp only [if_neg (show ¬ (s.size : Int) = 0 by omega), if_pos (show 0 < (s.size : Int) by omega), hw, if_pos (show 0 ≤ (q.length : Int) by omega), if_pos (show (q.length : Int) < (s.size : Int) by omega), hb0, hbl, blank_f, Option.bind_some]
      rw [hq]
      show Ev _ (!isBlank c && !isBlank d)
      cases isBlank c with
      | true => simp only [if_true, Bool.not_true, Bool.false_and]; exact Ev.now _
      | false => simp only [Bool.false_eq_true, if_false, Bool.not_false, Bool.true_and]; exact Ev.now _
  | cons c r ih =>
    intro i h
    have h1 := drop_lt h
    rw [← sz] at h1
    have hw := w64 (i := i) (by omega)
    have hrec := ih (i + 1) (drop_succ h)
    refine Ev.step (fun k => rfl) ?_
    simp only [headraceref05_Value.l0, if_pos (show (i : Int) < (s.size : Int) by omega), if_pos (show 0 ≤ (i : Int) by omega), bt_nat h, hw]
    by_cases hv : ((c.toNat < 32 ∧ c.toNat ≠ 9) ∨ c.toNat = 127)
    · have e : valOk c = false := by rw [valOk_nat]; exact decide_eq_false (fun h => h hv)
      rw [List.all_cons, e, Bool.false_and, Bool.false_and]
      repeat' (refine ev_ite ?_ ?_ <;> intro _)
      all_goals first | exact Ev.now _ | (exfalso; omega)
    · have e : valOk c = true := by rw [valOk_nat]; exact decide_eq_true hv
      rw [List.all_cons, e, Bool.true_and]
      repeat' (refine ev_ite ?_ ?_ <;> intro _)
      all_goals first | exact hrec | (exfalso; omega)
theorem ev_rValue (s : ByteArray) (hs : s.size ≤ 4611686018427387904) : Ev (fun k => headraceref05_Value.f k s) (value s.data.toList) := by
  unfold headraceref05_Value.f value
  exact ev_rValue_l0 s hs _ 0 rfl
end Go.Proofs.YtmlgejgnjfbblaaGreatDoor.Px
