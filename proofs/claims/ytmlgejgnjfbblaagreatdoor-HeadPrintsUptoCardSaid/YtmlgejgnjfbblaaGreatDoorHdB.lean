/- Package head: are two heads the same; a head's text, plainly; own text of this session. -/
import Derived.Test.YtmlgejgnjfbblaaGreatDoorHdA
namespace Go.Proofs.YtmlgejgnjfbblaaGreatDoor.Hd
open Go.RowKit Go.Proofs.YtmlgejgnjfbblaaGreatDoorW.PrintWords Go.Proofs.YtmlgejgnjfbblaaGreatDoorW.PrintLast Chk Px Hr
set_option linter.unusedVariables false
set_option linter.unusedSimpArgs false
def eqFld (a b : Fld) : Bool := (a.f0.data.toList == b.f0.data.toList) && (a.f1.data.toList == b.f1.data.toList)
def fldsB : List Fld → List Fld → Bool
  | [], [] => true
  | a :: r, b :: s => eqFld a b && fldsB r s
  | _, _ => false
def sameB (a b : Head) : Bool := fldsB a.f6 b.f6 && (a.f0 == b.f0) && (a.f1.data.toList == b.f1.data.toList) && (a.f2.data.toList == b.f2.data.toList) && (a.f3 == b.f3) && (a.f4 == b.f4) && (a.f5.data.toList == b.f5.data.toList)
theorem ba_eq {a b : ByteArray} (h : a.data.toList = b.data.toList) : a = b := by rw [← mkB_of a, ← mkB_of b, h]
theorem eqFld_iff (a b : Fld) : eqFld a b = true ↔ a = b := by
  unfold eqFld
  rw [Bool.and_eq_true, beq_iff_eq, beq_iff_eq]
  constructor
  · rintro ⟨h0, h1⟩
    cases a; cases b
    simp only at h0 h1
    rw [ba_eq h0, ba_eq h1]
  · rintro rfl; exact ⟨rfl, rfl⟩
theorem fldsB_iff : ∀ (a b : List Fld), fldsB a b = true ↔ a = b
  | [], [] => by simp [fldsB]
  | [], _ :: _ => by simp [fldsB]
  | _ :: _, [] => by simp [fldsB]
  | x :: r, y :: s => by
    unfold fldsB
    rw [Bool.and_eq_true, eqFld_iff, fldsB_iff r s]
    constructor
    · rintro ⟨rfl, rfl⟩; rfl
    · intro h; injection h with h1 h2; exact ⟨h1, h2⟩
theorem sameB_iff (a b : Head) : sameB a b = true ↔ a = b := by
  unfold sameB
  simp only [Bool.and_eq_true, beq_iff_eq, fldsB_iff]
  constructor
  · rintro ⟨⟨⟨⟨⟨⟨h6, h0⟩, h1⟩, h2⟩, h3⟩, h4⟩, h5⟩
    cases a; cases b
    simp only at h0 h1 h2 h3 h4 h5 h6
    rw [h0, ba_eq h1, ba_eq h2, h3, h4, ba_eq h5, h6]
  · rintro rfl; exact ⟨⟨⟨⟨⟨⟨rfl, rfl⟩, rfl⟩, rfl⟩, rfl⟩, rfl⟩, rfl⟩
theorem fldsB_len : ∀ (a b : List Fld), ¬ a.length = b.length → fldsB a b = false := by
  intro a b h
  cases hb : fldsB a b with
  | false => rfl
  | true => exact absurd (by rw [(fldsB_iff a b).1 hb]) h
def tailB (a b : Head) : Bool := (a.f0 == b.f0) && (a.f1.data.toList == b.f1.data.toList) && (a.f2.data.toList == b.f2.data.toList) && (a.f3 == b.f3) && (a.f4 == b.f4) && (a.f5.data.toList == b.f5.data.toList)
theorem sameB_tail (a b : Head) : sameB a b = (fldsB a.f6 b.f6 && tailB a b) := by unfold sameB tailB; simp only [Bool.and_assoc]
theorem same_tail (a b : Head) : (if (a.f0 == b.f0) = true then (if a.f1.toList = b.f1.toList then (if a.f2.toList = b.f2.toList then (if a.f3 = b.f3 then (if a.f4 = b.f4 then (some (a.f5.toList == b.f5.toList)) else (some false)) else (some false)) else (some false)) else (some false)) else (some false)) = some (tailB a b) := by
  unfold tailB
  rw [tl, tl, tl, tl, tl, tl]
  by_cases h0 : (a.f0 == b.f0) = true
  · by_cases h1 : a.f1.data.toList = b.f1.data.toList
    · by_cases h2 : a.f2.data.toList = b.f2.data.toList
      · by_cases h3 : a.f3 = b.f3
        · by_cases h4 : a.f4 = b.f4
          · simp [h0, h1, h2, h3, h4]
          · simp [h0, h1, h2, h3, h4]
        · simp [h0, h1, h2, h3]
      · rw [if_pos h0, if_pos h1, if_neg h2, beq_eq_false_iff_ne.mpr h2]; simp
    · rw [if_pos h0, if_neg h1, beq_eq_false_iff_ne.mpr h1]; simp
  · simp [h0]
theorem ev_same_l0 (a b : Head) (hl : a.f6.length = b.f6.length) (hb : a.f6.length ≤ 4611686018427387904) (ra : List Fld) : ∀ (rb : List Fld) (i : Nat), a.f6.drop i = ra → b.f6.drop i = rb →
    Ev (fun k => P.head_same.l0 k a.f6 (a.f6.length : Int) (i : Int) a.f0 a.f1 a.f2 a.f3 a.f4 a.f5 a.f6 b.f0 b.f1 b.f2 b.f3 b.f4 b.f5 b.f6) (fldsB ra rb && tailB a b) := by
  induction ra with
  | nil =>
    intro rb i hi hj
    have h1 := drop_nil hi
    have : rb = [] := by rw [← hj, List.drop_eq_nil_iff]; omega
    subst this
    refine Ev.step (fun k => rfl) ?_
    simp only [P.head_same.l0, if_neg (show ¬ (i : Int) < (a.f6.length : Int) by omega), fldsB, Bool.true_and]
    rw [show (fun k : Nat => (if (a.f0 == b.f0) = true then (if a.f1.toList = b.f1.toList then (if a.f2.toList = b.f2.toList then (if a.f3 = b.f3 then (if a.f4 = b.f4 then (some (a.f5.toList == b.f5.toList)) else (some false)) else (some false)) else (some false)) else (some false)) else (some false))) = fun _ => some (tailB a b) from funext fun _ => same_tail a b]
    exact Ev.now _
  | cons x r ih =>
    intro rb i hi hj
    have hlt := drop_lt hi
    cases rb with
    | nil => have := drop_nil hj; omega
    | cons y s =>
      refine Ev.step (fun k => rfl) ?_
      simp only [P.head_same.l0, if_pos (show (i : Int) < (a.f6.length : Int) by omega), if_pos (show 0 ≤ (i : Int) by omega), if_pos (show (i : Int) < (b.f6.length : Int) by omega), rd_fld hi, rd_fld hj, w64 (show i < 9223372036854775807 by omega), tl]
      unfold fldsB
      by_cases he : eqFld x y = true
      · have hc : ¬ (!(x.f0.data.toList == y.f0.data.toList) || !(x.f1.data.toList == y.f1.data.toList)) = true := by
          unfold eqFld at he
          rw [Bool.and_eq_true] at he
          rw [he.1, he.2]; decide
        simp only [if_neg hc, he, Bool.true_and]
        exact ih s (i + 1) (drop_succ hi) (drop_succ hj)
      · have hf : eqFld x y = false := by simpa using he
        have hc : (!(x.f0.data.toList == y.f0.data.toList) || !(x.f1.data.toList == y.f1.data.toList)) = true := by
          rw [← Bool.not_and]
          show (!eqFld x y) = true
          rw [hf]; rfl
        simp only [if_pos hc, hf, Bool.false_and]
        exact Ev.now _
theorem same_calls (a b : Head) (A B : Option Addr) (c d : Nat) (w : World) (hb : a.f6.length ≤ 4611686018427387904) (h0 : Kd.C P.k45 w A a.f6.length a.f6) (hc : a.f6.length ≤ c) (h1 : Kd.C P.k45 w B b.f6.length b.f6) (hd : b.f6.length ≤ d) :
    Calls Tryz.prog 13 #[hdV a (.slice A a.f6.length c), hdV b (.slice B b.f6.length d)] w fun e w' => e = .returned (.bool (sameB a b)) ∧ Below w.heap.size w w' := by
  have hv : Ev (fun k => P.head_same.f k a.f0 a.f1 a.f2 a.f3 a.f4 a.f5 a.f6 b.f0 b.f1 b.f2 b.f3 b.f4 b.f5 b.f6) (sameB a b) := by
    unfold P.head_same.f
    rw [sameB_tail]
    by_cases hl : a.f6.length = b.f6.length
    · simp only [if_pos (show (a.f6.length : Int) = (b.f6.length : Int) by omega)]
      exact ev_same_l0 a b hl hb a.f6 b.f6 0 rfl rfl
    · simp only [if_neg (show ¬ (a.f6.length : Int) = (b.f6.length : Int) by omega), fldsB_len _ _ hl, Bool.false_and]
      exact Ev.now _
  obtain ⟨k, hk⟩ := hv.rounds
  exact P.head_same.calls k _ _ _ _ _ _ A c _ _ _ _ _ _ _ B d _ _ w h0 hc h1 hd hk
theorem ev_plainF_l0 (l : List Fld) (hl : l.length ≤ 4611686018427387904) (r : List Fld) : ∀ i : Nat, l.drop i = r → Ev (fun k => P.headraceplain_Fields.l0 k l l (l.length : Int) (i : Int)) true := by
  induction r with
  | nil =>
    intro i hi
    have := drop_nil hi
    refine Ev.step (fun k => rfl) ?_
    simp only [P.headraceplain_Fields.l0, if_neg (show ¬ (i : Int) < (l.length : Int) by omega)]
    exact Ev.now _
  | cons x r ih =>
    intro i hi
    have hlt := drop_lt hi
    refine Ev.step (fun k => rfl) ?_
    simp only [P.headraceplain_Fields.l0, if_pos (show (i : Int) < (l.length : Int) by omega), if_pos (show 0 ≤ (i : Int) by omega), rd_fld hi, w64 (show i < 9223372036854775807 by omega), beq_self_eq_true, Bool.not_true, Bool.or_self, Bool.false_eq_true, if_false]
    exact ih (i + 1) (drop_succ hi)
/-! ### a head's text -/
def crlf : Bs := [13, 10]
def firstT (h : Head) : Bs :=
  if h.f0 = true then h.f1.data.toList ++ [32] ++ h.f2.data.toList ++ [32] ++ ([72, 84, 84, 80, 47, 49, 46] ++ Lib.itoa h.f3) ++ crlf
  else ([72, 84, 84, 80, 47, 49, 46] ++ Lib.itoa h.f3) ++ [32] ++ Lib.itoa h.f4 ++ [32] ++ h.f5.data.toList ++ crlf
def fldT (f : Fld) : Bs := f.f0.data.toList ++ [58, 32] ++ f.f1.data.toList ++ crlf
def textS (h : Head) : Bs := firstT h ++ h.f6.flatMap fldT ++ crlf
/-- Print. -/
def printS (h : Head) : Bs × Int :=
  if h.f6.length > 100 then ([], 4)
  else if ¬ (parseS h.f0 (nOf (textS h))).2.2 = 0 ∨ ¬ (parseS h.f0 (nOf (textS h))).2.1 = ((textS h).length : Int) ∨ sameB (parseS h.f0 (nOf (textS h))).1 h = false then ([], 4)
  else (textS h, 0)
end Go.Proofs.YtmlgejgnjfbblaaGreatDoor.Hd
