/- Laid by a program of this session (hp.py) with the help of the kit's printer: functions as plain Lean functions, and that the machine's calls come to them. -/
import Derived.Test.YtmlgejgnjfbblaaGreatDoorSq
import Derived.Test.YtmlgejgnjfbblaaGreatDoorPZ
namespace Go.Proofs.YtmlgejgnjfbblaaGreatDoor.P
open Go.RowKit Go.Proofs.YtmlgejgnjfbblaaGreatDoorW.PrintWords Go.Proofs.YtmlgejgnjfbblaaGreatDoorW.PrintLast Go.Proofs.YtmlgejgnjfbblaaGreatDoorW.PrintMore
attribute [local go_sem] max2_int min2_int max_two min_two max_three min_three max_four min_four   -- for this text's walks alone
set_option linter.unusedVariables false
set_option linter.unusedSimpArgs false

/-! ### headraceref08_blank: function 66 -/
def headraceref08_blank.f (a0 : Int) : Option (Bool) := if a0 = 32 then (some true) else (some (a0 == 9))
set_option maxHeartbeats 8000000 in
set_option maxRecDepth 100000 in
theorem headraceref08_blank.calls (a0 : Int) (r : Bool) (w : World) (h : headraceref08_blank.f a0 = some r) :
  Calls Tryz.prog 66 #[.int .u8 a0] w fun e w' => e = .returned (.bool r) ∧ Drawn0 w w' := by
 have H : (if a0 = 32 then (some true) else (some (a0 == 9))) = some r := h
 clear h
 by_cases c2 : a0 = 32
 ·rw [if_pos c2] at H
  have c2b0 : (a0 == 32) = true := beq_iff_eq.mpr c2
  have c2b1 : (a0 != 32) = false := bne_eq_false_iff_eq.mpr c2
  clear c2
  obtain rfl := Option.some.inj H
  go_enter Tryz.func66, Tryz.ntmps66
  go_wp2
  go_ret
  exact ⟨by first | rfl | (simp; done) | (simp [*]; done) | (simp [bneNil, beqNil]; done), by repeat (first | exact Drawn0.refl _ | apply Drawn0.step)⟩
 ·rw [if_neg c2] at H
  have c2b0 : (a0 == 32) = false := beq_eq_false_iff_ne.mpr c2
  have c2b1 : (a0 != 32) = true := bne_iff_ne.mpr c2
  obtain rfl := Option.some.inj H
  go_enter Tryz.func66, Tryz.ntmps66
  go_wp2
  go_ret
  exact ⟨by first | rfl | (simp; done) | (simp [*]; done) | (simp [bneNil, beqNil]; done), by repeat (first | exact Drawn0.refl _ | apply Drawn0.step)⟩

/-! ### headraceref05_blank: function 83 -/
def headraceref05_blank.f (a0 : Int) : Option (Bool) := if a0 = 9 then (some true) else (some (a0 == 32))
set_option maxHeartbeats 8000000 in
set_option maxRecDepth 100000 in
theorem headraceref05_blank.calls (a0 : Int) (r : Bool) (w : World) (h : headraceref05_blank.f a0 = some r) :
  Calls Tryz.prog 83 #[.int .u8 a0] w fun e w' => e = .returned (.bool r) ∧ Drawn0 w w' := by
 have H : (if a0 = 9 then (some true) else (some (a0 == 32))) = some r := h
 clear h
 by_cases c2 : a0 = 9
 ·rw [if_pos c2] at H
  have c2b0 : (a0 == 9) = true := beq_iff_eq.mpr c2
  have c2b1 : (a0 != 9) = false := bne_eq_false_iff_eq.mpr c2
  clear c2
  obtain rfl := Option.some.inj H
  go_enter Tryz.func83, Tryz.ntmps83
  go_wp2
  go_ret
  exact ⟨by first | rfl | (simp; done) | (simp [*]; done) | (simp [bneNil, beqNil]; done), by repeat (first | exact Drawn0.refl _ | apply Drawn0.step)⟩
 ·rw [if_neg c2] at H
  have c2b0 : (a0 == 9) = false := beq_eq_false_iff_ne.mpr c2
  have c2b1 : (a0 != 9) = true := bne_iff_ne.mpr c2
  obtain rfl := Option.some.inj H
  go_enter Tryz.func83, Tryz.ntmps83
  go_wp2
  go_ret
  exact ⟨by first | rfl | (simp; done) | (simp [*]; done) | (simp [bneNil, beqNil]; done), by repeat (first | exact Drawn0.refl _ | apply Drawn0.step)⟩

/-! ### headraceref05_Trim: function 67 -/
mutual
def headraceref05_Trim.j1 : Nat → ByteArray → Option (ByteArray)
 | 0, _ => none
 | k + 1, x0 => headraceref05_Trim.l1 k x0
def headraceref05_Trim.l1 : Nat → ByteArray → Option (ByteArray)
 | 0, _ => none
 | k + 1, x0 => if (x0.size : Int) > 0 then (if 0 ≤ (wrap64 ((x0.size : Int) - 1)) then (if (wrap64 ((x0.size : Int) - 1)) < (x0.size : Int) then ((headraceref05_blank.f (bt x0 (wrap64 ((x0.size : Int) - 1)))).bind fun t134 => (if t134 = true then (if (wrap64 ((x0.size : Int) - 1)) ≤ (x0.size : Int) then (headraceref05_Trim.l1 k (x0.extract 0 ((wrap64 ((x0.size : Int) - 1)) : Int).toNat)) else (none)) else (some x0))) else (none)) else (none)) else (some x0)
def headraceref05_Trim.l0 : Nat → ByteArray → Option (ByteArray)
 | 0, _ => none
 | k + 1, x0 => if (x0.size : Int) > 0 then (if 0 < (x0.size : Int) then ((headraceref05_blank.f (bt x0 0)).bind fun t133 => (if t133 = true then (if 1 ≤ (x0.size : Int) then (headraceref05_Trim.l0 k (x0.extract 1 x0.size)) else (none)) else (headraceref05_Trim.j1 k x0))) else (none)) else (headraceref05_Trim.j1 k x0)
end
def headraceref05_Trim.f (k : Nat) (a0 : ByteArray) : Option (ByteArray) := headraceref05_Trim.l0 k a0
theorem headraceref05_Trim.mono_l : ∀ k, (∀ y0, LeO (headraceref05_Trim.j1 k y0) (headraceref05_Trim.j1 (k + 1) y0)) ∧ (∀ y0, LeO (headraceref05_Trim.l1 k y0) (headraceref05_Trim.l1 (k + 1) y0)) ∧ (∀ y0, LeO (headraceref05_Trim.l0 k y0) (headraceref05_Trim.l0 (k + 1) y0))
 | 0 => ⟨fun _ r h => by simp [headraceref05_Trim.j1] at h, fun _ r h => by simp [headraceref05_Trim.l1] at h, fun _ r h => by simp [headraceref05_Trim.l0] at h⟩
 | k + 1 => by
  obtain ⟨ih0, ih1, ih2⟩ := headraceref05_Trim.mono_l k
  refine ⟨?_, ?_, ?_⟩ <;> intros <;> (first | unfold headraceref05_Trim.j1 | unfold headraceref05_Trim.l1 | unfold headraceref05_Trim.l0) <;> repeat' first | with_reducible first | exact ih0 _ | exact ih1 _ | exact ih2 _ | exact LeO.refl _ | exact LeO.none _ | refine LeO.ite ?_ ?_ | refine LeO.bind ?_ (fun _ => ?_) | exact ih0 _ | exact ih1 _ | exact ih2 _ | exact LeO.none _ | refine LeO.ite ?_ ?_ | refine LeO.bind ?_ (fun _ => ?_)
theorem headraceref05_Trim.mono : ∀ a0 k, LeO (headraceref05_Trim.f k a0) (headraceref05_Trim.f (k + 1) a0) := by
 intro a0 k
 obtain ⟨ih0, ih1, ih2⟩ := headraceref05_Trim.mono_l k
 unfold headraceref05_Trim.f
 repeat' first | with_reducible first | exact ih0 _ | exact ih1 _ | exact ih2 _ | exact LeO.refl _ | exact LeO.none _ | refine LeO.ite ?_ ?_ | refine LeO.bind ?_ (fun _ => ?_) | exact ih0 _ | exact ih1 _ | exact ih2 _ | exact LeO.none _ | refine LeO.ite ?_ ?_ | refine LeO.bind ?_ (fun _ => ?_)
set_option maxHeartbeats 8000000 in
set_option maxRecDepth 100000 in
theorem headraceref05_Trim.calls (k : Nat) (a0 : ByteArray) (r : ByteArray) (w : World) (h : headraceref05_Trim.f k a0 = some r) :
  Calls Tryz.prog 67 #[.string a0] w fun e w' => e = .returned (.string r) ∧ Drawn0 w w' := by
 have H : (headraceref05_Trim.l0 k a0) = some r := h
 clear h
 have HC2 := Aside0.mk H
 clear H
 go_enter Tryz.func67, Tryz.ntmps67
 go_upto_block 0 with (fail)
 go_cut [0] (fun v0 wc => ∃ (kq : Nat) (x0_1 : ByteArray), v0 = .string x0_1 ∧ Aside0 (headraceref05_Trim.j1 kq x0_1 = some r) ∧ Aside0 (kq ≤ k) ∧ Drawn0 w wc)
 case first =>
  have H := HC2.out
  clear HC2
  have H' := Aside0.mk H
  clear H
  go_wp2
  go_loopg [0] k (fun kq v0 w' => ∃ (x0_1 : ByteArray), v0 = .string x0_1 ∧ Aside0 (headraceref05_Trim.l0 kq x0_1 = some r) ∧ Aside0 (kq ≤ k) ∧ Drawn0 w w')
  case atStart => exact ⟨(a0), (by first | rfl | (simp; done) | (simp [*]; done) | (simp [bneNil, beqNil]; done)), H', ⟨Nat.le_refl _⟩, by repeat (first | exact Drawn0.refl _ | apply Drawn0.step)⟩
  case round =>
   clear H'
   obtain ⟨x0_1, rfl, HA, HK1, ⟨m1, rfl⟩⟩ := hrel
   cases gk with
   | zero => exact absurd HA.out (by simp [headraceref05_Trim.l0])
   | succ k1 =>
    have H := HA.out
    clear HA
    simp only [headraceref05_Trim.l0] at H
    by_cases c3 : (x0_1.size : Int) > 0
    ·rw [if_pos c3] at H
     have c3b0 : decide (0 < (x0_1.size : Int)) = true := decide_eq_true c3
     have c3b1 : decide (0 < x0_1.size) = true := decide_eq_true (by omega)
     clear c3
     (first | rw [c3b0] | (simp only [i64_w, i32_w]; rw [c3b0]) | skip)
     by_cases c4 : 0 < (x0_1.size : Int)
     ·rw [if_pos c4] at H
      have c4b0 : decide (0 < (x0_1.size : Int)) = true := decide_eq_true c4
      have c4b1 : decide (0 < x0_1.size) = true := decide_eq_true (by omega)
      clear c4
      replace H := Option.bind_eq_some_iff.mp H
      obtain ⟨t133, A60, H⟩ := H
      have A6 := Aside0.mk A60
      clear A60
      by_cases c7 : t133 = true
      ·subst c7
       have H1 : (if 1 ≤ (x0_1.size : Int) then (headraceref05_Trim.l0 k1 (x0_1.extract 1 x0_1.size)) else (none)) = some r := by rw [if_pos rfl] at H; exact H
       clear H
       have H := H1
       clear H1
       by_cases c8 : 1 ≤ (x0_1.size : Int)
       ·rw [if_pos c8] at H
        have c8b0 := eq_true c8
        have c8b1 : decide (1 ≤ (x0_1.size : Int)) = true := decide_eq_true c8
        clear c8
        have H' := Aside0.mk H
        clear H
        have p5 : 0 ≤ (0 : Int) := (by omega)
        have q5 : 0 < x0_1.size := (by have : (0 : Int) < (x0_1.size : Int) := of_decide_eq_true bm; omega)
        have hx5 : ∀ h : 0 < x0_1.size, ((x0_1[0]'h).toNat : Int) = bt x0_1 0 := bt_at x0_1 0
        clear p5
        have qi5 : (0 < (x0_1.size : Int)) = True := eq_true (of_decide_eq_true bm)
        replace q5 := eq_true q5
        go_wp2_with (first | (go_at_call 83; (with_reducible refine (headraceref05_blank.calls (bt x0_1 0) true _ A6.out).mono ?_); rintro e w' ⟨rfl, ⟨nd, rfl⟩⟩))
        go_roundg k1
        case measure => have := HK1.out; omega
        case rel => exact ⟨(x0_1.extract 1 x0_1.size), (by first | rfl | (simp; done) | (simp [*]; done) | (simp [bneNil, beqNil]; done)), H', ⟨by have := HK1.out; omega⟩, by repeat (first | exact Drawn0.refl _ | apply Drawn0.step)⟩
       ·rw [if_neg c8] at H
        exact absurd H (by simp)
      ·replace c7 := Bool.eq_false_iff.mpr c7
       subst c7
       have H1 : (headraceref05_Trim.j1 k1 x0_1) = some r := by rw [if_neg (show ¬ (false = true) by decide)] at H; exact H
       clear H
       have H := H1
       clear H1
       have H' := Aside0.mk H
       clear H
       have p5 : 0 ≤ (0 : Int) := (by omega)
       have q5 : 0 < x0_1.size := (by have : (0 : Int) < (x0_1.size : Int) := of_decide_eq_true bm; omega)
       have hx5 : ∀ h : 0 < x0_1.size, ((x0_1[0]'h).toNat : Int) = bt x0_1 0 := bt_at x0_1 0
       clear p5
       have qi5 : (0 < (x0_1.size : Int)) = True := eq_true (of_decide_eq_true bm)
       replace q5 := eq_true q5
       go_wp2_with (first | (go_at_call 83; (with_reducible refine (headraceref05_blank.calls (bt x0_1 0) false _ A6.out).mono ?_); rintro e w' ⟨rfl, ⟨nd, rfl⟩⟩))
       go_meet
       case rel => exact ⟨_, (x0_1), (by first | rfl | (simp; done) | (simp [*]; done) | (simp [bneNil, beqNil]; done)), H', ⟨by have := HK1.out; first | omega | exact Nat.le_refl _⟩, by repeat (first | exact Drawn0.refl _ | apply Drawn0.step)⟩
     ·rw [if_neg c4] at H
      exact absurd H (by simp)
    ·rw [if_neg c3] at H
     have c3b0 : decide (0 < (x0_1.size : Int)) = false := decide_eq_false c3
     have c3b1 : decide (0 < x0_1.size) = false := decide_eq_false (by omega)
     clear c3
     (first | rw [c3b0] | (simp only [i64_w, i32_w]; rw [c3b0]) | skip)
     have H' := Aside0.mk H
     clear H
     go_wp2
     go_meet
     case rel => exact ⟨_, (x0_1), (by first | rfl | (simp; done) | (simp [*]; done) | (simp [bneNil, beqNil]; done)), H', ⟨by have := HK1.out; first | omega | exact Nat.le_refl _⟩, by repeat (first | exact Drawn0.refl _ | apply Drawn0.step)⟩
 case rest =>
  clear HC2
  try clear q5; try clear hx5; try clear qi5
  obtain ⟨kq, x0_1, rfl, HA, HJ1, ⟨mc1, rfl⟩⟩ := hcut
  cases kq with
  | zero => exact absurd HA.out (by simp [headraceref05_Trim.j1])
  | succ kj1 =>
   have H := HA.out
   clear HA
   simp only [headraceref05_Trim.j1] at H
   have H' := Aside0.mk H
   clear H
   go_wp2
   go_loopg [0] kj1 (fun kq v0 w' => ∃ (x0_2 : ByteArray), v0 = .string x0_2 ∧ Aside0 (headraceref05_Trim.l1 kq x0_2 = some r) ∧ Aside0 (kq ≤ kj1) ∧ Drawn0 w w')
   case atStart => exact ⟨(x0_1), (by first | rfl | (simp; done) | (simp [*]; done) | (simp [bneNil, beqNil]; done)), H', ⟨Nat.le_refl _⟩, by repeat (first | exact Drawn0.refl _ | apply Drawn0.step)⟩
   case round =>
    clear H'
    try clear q5; try clear hx5; try clear qi5
    obtain ⟨x0_2, rfl, HA, HK2, ⟨m2, rfl⟩⟩ := hrel
    cases gk with
    | zero => exact absurd HA.out (by simp [headraceref05_Trim.l1])
    | succ k2 =>
     have H := HA.out
     clear HA
     simp only [headraceref05_Trim.l1] at H
     by_cases c9 : (x0_2.size : Int) > 0
     ·rw [if_pos c9] at H
      have c9b0 : decide (0 < (x0_2.size : Int)) = true := decide_eq_true c9
      have c9b1 : decide (0 < x0_2.size) = true := decide_eq_true (by omega)
      clear c9
      obtain ⟨ji10, hji10⟩ : ∃ j_ : Int, (wrap64 ((x0_2.size : Int) - 1)) = j_ := ⟨_, rfl⟩
      replace H : (if 0 ≤ (ji10) then (if (ji10) < (x0_2.size : Int) then ((headraceref05_blank.f (bt x0_2 (ji10))).bind fun t134 => (if t134 = true then (if (ji10) ≤ (x0_2.size : Int) then (headraceref05_Trim.l1 k2 (x0_2.extract 0 ((ji10) : Int).toNat)) else (none)) else (some x0_2))) else (none)) else (none)) = some r := by first | (rw [hji10] at H; exact H) | (simp only [hji10] at H ⊢; exact H)
      have hji10w : (IntKind.i64.wrap ((x0_2.size : Int) - 1)) = ji10 := (i64_w _).trans hji10
      by_cases c11 : 0 ≤ (ji10)
      ·rw [if_pos c11] at H
       have c11b0 : decide (0 ≤ (ji10)) = true := decide_eq_true c11
       clear c11
       by_cases c12 : (ji10) < (x0_2.size : Int)
       ·rw [if_pos c12] at H
        have c12b0 : decide ((ji10) < (x0_2.size : Int)) = true := decide_eq_true c12
        clear c12
        replace H := Option.bind_eq_some_iff.mp H
        obtain ⟨t134, A140, H⟩ := H
        have A14 := Aside0.mk A140
        clear A140
        by_cases c15 : t134 = true
        ·subst c15
         have H1 : (if (ji10) ≤ (x0_2.size : Int) then (headraceref05_Trim.l1 k2 (x0_2.extract 0 ((ji10) : Int).toNat)) else (none)) = some r := by rw [if_pos rfl] at H; exact H
         clear H
         have H := H1
         clear H1
         have c16b0 := eq_true (of_decide_eq_true bm : 0 ≤ (ji10))
         by_cases c17 : (ji10) ≤ (x0_2.size : Int)
         ·rw [if_pos c17] at H
          have c17b0 := eq_true c17
          have c17b1 : decide ((ji10) ≤ (x0_2.size : Int)) = true := decide_eq_true c17
          clear c17
          have H' := Aside0.mk H
          clear H
          have p13 : 0 ≤ ((ji10) : Int) := of_decide_eq_true bm
          have q13 : (ji10) < (x0_2.size : Int) := of_decide_eq_true bm
          have hx13 := bt_at x0_2 (ji10)
          replace p13 := eq_true p13
          replace q13 := eq_true q13
          go_wp2_with (first | (go_at_call 83; (with_reducible refine (headraceref05_blank.calls (bt x0_2 (ji10)) true _ A14.out).mono ?_); rintro e w' ⟨rfl, ⟨nd, rfl⟩⟩))
          go_roundg k2
          case measure => have := HJ1.out; have := HK2.out; omega
          case rel => exact ⟨(x0_2.extract 0 ((ji10) : Int).toNat), (by first | rfl | (simp; done) | (simp only [← hji10] <;> (first | rfl | simp)) | (simp [*]; done)), H', ⟨by have := HJ1.out; have := HK2.out; omega⟩, by repeat (first | exact Drawn0.refl _ | apply Drawn0.step)⟩
         ·rw [if_neg c17] at H
          exact absurd H (by simp)
        ·replace c15 := Bool.eq_false_iff.mpr c15
         subst c15
         have H1 : (some x0_2) = some r := by rw [if_neg (show ¬ (false = true) by decide)] at H; exact H
         clear H
         have H := H1
         clear H1
         obtain rfl := Option.some.inj H
         have p13 : 0 ≤ ((ji10) : Int) := of_decide_eq_true bm
         have q13 : (ji10) < (x0_2.size : Int) := of_decide_eq_true bm
         have hx13 := bt_at x0_2 (ji10)
         replace p13 := eq_true p13
         replace q13 := eq_true q13
         go_wp2_with (first | (go_at_call 83; (with_reducible refine (headraceref05_blank.calls (bt x0_2 (ji10)) false _ A14.out).mono ?_); rintro e w' ⟨rfl, ⟨nd, rfl⟩⟩))
         go_ret
         exact ⟨by first | rfl | (simp; done) | (simp only [← hji10] <;> (first | rfl | simp)) | (simp [*]; done), by repeat (first | exact Drawn0.refl _ | apply Drawn0.step)⟩
       ·rw [if_neg c12] at H
        exact absurd H (by simp)
      ·rw [if_neg c11] at H
       exact absurd H (by simp)
     ·rw [if_neg c9] at H
      have c9b0 : decide (0 < (x0_2.size : Int)) = false := decide_eq_false c9
      have c9b1 : decide (0 < x0_2.size) = false := decide_eq_false (by omega)
      clear c9
      obtain rfl := Option.some.inj H
      go_wp2
      go_ret
      exact ⟨by first | rfl | (simp; done) | (simp [*]; done) | (simp [bneNil, beqNil]; done), by repeat (first | exact Drawn0.refl _ | apply Drawn0.step)⟩

/-! ### headraceref05_Value: function 68 -/
def headraceref05_Value.l0 : Nat → ByteArray → Int → Int → Option (Bool)
 | 0, _, _, _ => none
 | k + 1, x0, x3, x4 => if x4 < x3 then (if 0 ≤ x4 then (if x4 < (x0.size : Int) then (if (bt x0 x4) = 9 then (headraceref05_Value.l0 k x0 x3 (wrap64 (x4 + 1))) else (if (bt x0 x4) ≥ 32 then (if (bt x0 x4) ≤ 126 then (headraceref05_Value.l0 k x0 x3 (wrap64 (x4 + 1))) else (if ((bt x0 x4) ≥ 128) then (headraceref05_Value.l0 k x0 x3 (wrap64 (x4 + 1))) else (some false))) else (if ((bt x0 x4) ≥ 128) then (headraceref05_Value.l0 k x0 x3 (wrap64 (x4 + 1))) else (some false)))) else (none)) else (none)) else (if x3 = 0 then (some true) else (if 0 < (x0.size : Int) then ((headraceref05_blank.f (bt x0 0)).bind fun t135 => (if t135 = true then (some false) else (if 0 ≤ (wrap64 (x3 - 1)) then (if (wrap64 (x3 - 1)) < (x0.size : Int) then ((headraceref05_blank.f (bt x0 (wrap64 (x3 - 1)))).bind fun t136 => (some (!t136))) else (none)) else (none)))) else (none)))
def headraceref05_Value.f (k : Nat) (a0 : ByteArray) : Option (Bool) := headraceref05_Value.l0 k a0 (a0.size : Int) 0
theorem headraceref05_Value.mono_l : ∀ k, (∀ y0 y1 y2, LeO (headraceref05_Value.l0 k y0 y1 y2) (headraceref05_Value.l0 (k + 1) y0 y1 y2))
 | 0 => fun _ _ _ r h => by simp [headraceref05_Value.l0] at h
 | k + 1 => by
  have ih0 := headraceref05_Value.mono_l k
  ·intro y0 y1 y2
   unfold headraceref05_Value.l0
   repeat' first | with_reducible first | exact ih0 _ _ _ | exact LeO.refl _ | exact LeO.none _ | refine LeO.ite ?_ ?_ | refine LeO.bind ?_ (fun _ => ?_) | exact ih0 _ _ _ | exact LeO.none _ | refine LeO.ite ?_ ?_ | refine LeO.bind ?_ (fun _ => ?_)
theorem headraceref05_Value.mono : ∀ a0 k, LeO (headraceref05_Value.f k a0) (headraceref05_Value.f (k + 1) a0) := by
 intro a0 k
 have ih0 := headraceref05_Value.mono_l k
 unfold headraceref05_Value.f
 repeat' first | with_reducible first | exact ih0 _ _ _ | exact LeO.refl _ | exact LeO.none _ | refine LeO.ite ?_ ?_ | refine LeO.bind ?_ (fun _ => ?_) | exact ih0 _ _ _ | exact LeO.none _ | refine LeO.ite ?_ ?_ | refine LeO.bind ?_ (fun _ => ?_)
set_option maxHeartbeats 8000000 in
set_option maxRecDepth 100000 in
theorem headraceref05_Value.calls (k : Nat) (a0 : ByteArray) (r : Bool) (w : World) (h : headraceref05_Value.f k a0 = some r) :
  Calls Tryz.prog 68 #[.string a0] w fun e w' => e = .returned (.bool r) ∧ Drawn0 w w' := by
 have H : (headraceref05_Value.l0 k a0 (a0.size : Int) 0) = some r := h
 clear h
 have H' := Aside0.mk H
 clear H
 go_enter Tryz.func68, Tryz.ntmps68
 go_wp2
 go_loopg [4] k (fun kq v4 w' => ∃ (x4_1 : Int), v4 = .int .i64 x4_1 ∧ Aside0 (headraceref05_Value.l0 kq a0 (a0.size : Int) x4_1 = some r) ∧ Aside0 (kq ≤ k) ∧ Drawn0 w w')
 case atStart => exact ⟨(0), (by first | rfl | (simp; done) | (simp [*]; done) | (simp [bneNil, beqNil]; done)), H', ⟨Nat.le_refl _⟩, by repeat (first | exact Drawn0.refl _ | apply Drawn0.step)⟩
 case round =>
  clear H'
  obtain ⟨x4_1, rfl, HA, HK1, ⟨m1, rfl⟩⟩ := hrel
  cases gk with
  | zero => exact absurd HA.out (by simp [headraceref05_Value.l0])
  | succ k1 =>
   have H := HA.out
   clear HA
   simp only [headraceref05_Value.l0] at H
   by_cases c2 : x4_1 < (a0.size : Int)
   ·rw [if_pos c2] at H
    have c2b0 : decide (x4_1 < (a0.size : Int)) = true := decide_eq_true c2
    clear c2
    by_cases c3 : 0 ≤ x4_1
    ·rw [if_pos c3] at H
     have c3b0 : decide (0 ≤ x4_1) = true := decide_eq_true c3
     clear c3
     by_cases c4 : x4_1 < (a0.size : Int)
     ·rw [if_pos c4] at H
      have c4b0 : decide (x4_1 < (a0.size : Int)) = true := decide_eq_true c4
      clear c4
      by_cases c6 : (bt a0 x4_1) = 9
      ·rw [if_pos c6] at H
       have c6b0 : ((bt a0 x4_1) == 9) = true := beq_iff_eq.mpr c6
       have c6b1 : ((bt a0 x4_1) != 9) = false := bne_eq_false_iff_eq.mpr c6
       clear c6
       have H' := Aside0.mk H
       clear H
       have p5 : 0 ≤ (x4_1 : Int) := of_decide_eq_true bm
       have q5 : x4_1 < (a0.size : Int) := of_decide_eq_true bm
       have hx5 := bt_at a0 x4_1
       replace p5 := eq_true p5
       replace q5 := eq_true q5
       go_wp2
       go_roundg k1
       case measure => have := HK1.out; omega
       case rel => exact ⟨(wrap64 (x4_1 + 1)), (by first | rfl | (simp; done) | (simp [*]; done) | (simp [bneNil, beqNil]; done)), H', ⟨by have := HK1.out; omega⟩, by repeat (first | exact Drawn0.refl _ | apply Drawn0.step)⟩
      ·rw [if_neg c6] at H
       have c6b0 : ((bt a0 x4_1) == 9) = false := beq_eq_false_iff_ne.mpr c6
       have c6b1 : ((bt a0 x4_1) != 9) = true := bne_iff_ne.mpr c6
       by_cases c7 : (bt a0 x4_1) ≥ 32
       ·rw [if_pos c7] at H
        have c7b0 : decide (32 ≤ (bt a0 x4_1)) = true := decide_eq_true c7
        clear c7
        by_cases c8 : (bt a0 x4_1) ≤ 126
        ·rw [if_pos c8] at H
         have c8b0 : decide ((bt a0 x4_1) ≤ 126) = true := decide_eq_true c8
         clear c8
         have H' := Aside0.mk H
         clear H
         have p5 : 0 ≤ (x4_1 : Int) := of_decide_eq_true bm
         have q5 : x4_1 < (a0.size : Int) := of_decide_eq_true bm
         have hx5 := bt_at a0 x4_1
         replace p5 := eq_true p5
         replace q5 := eq_true q5
         go_wp2
         go_roundg k1
         case measure => have := HK1.out; omega
         case rel => exact ⟨(wrap64 (x4_1 + 1)), (by first | rfl | (simp; done) | (simp [*]; done) | (simp [bneNil, beqNil]; done)), H', ⟨by have := HK1.out; omega⟩, by repeat (first | exact Drawn0.refl _ | apply Drawn0.step)⟩
        ·rw [if_neg c8] at H
         have c8b0 : decide ((bt a0 x4_1) ≤ 126) = false := decide_eq_false c8
         clear c8
         by_cases c9 : ((bt a0 x4_1) ≥ 128)
         ·rw [if_pos c9] at H
          have c9b0 : decide (128 ≤ (bt a0 x4_1)) = true := decide_eq_true c9
          clear c9
          have H' := Aside0.mk H
          clear H
          have p5 : 0 ≤ (x4_1 : Int) := of_decide_eq_true bm
          have q5 : x4_1 < (a0.size : Int) := of_decide_eq_true bm
          have hx5 := bt_at a0 x4_1
          replace p5 := eq_true p5
          replace q5 := eq_true q5
          go_wp2
          go_roundg k1
          case measure => have := HK1.out; omega
          case rel => exact ⟨(wrap64 (x4_1 + 1)), (by first | rfl | (simp; done) | (simp [*]; done) | (simp [bneNil, beqNil]; done)), H', ⟨by have := HK1.out; omega⟩, by repeat (first | exact Drawn0.refl _ | apply Drawn0.step)⟩
         ·rw [if_neg c9] at H
          have c9b0 : decide (128 ≤ (bt a0 x4_1)) = false := decide_eq_false c9
          clear c9
          obtain rfl := Option.some.inj H
          have p5 : 0 ≤ (x4_1 : Int) := of_decide_eq_true bm
          have q5 : x4_1 < (a0.size : Int) := of_decide_eq_true bm
          have hx5 := bt_at a0 x4_1
          replace p5 := eq_true p5
          replace q5 := eq_true q5
          go_wp2
          go_ret
          exact ⟨by first | rfl | (simp; done) | (simp [*]; done) | (simp [bneNil, beqNil]; done), by repeat (first | exact Drawn0.refl _ | apply Drawn0.step)⟩
       ·rw [if_neg c7] at H
        have c7b0 : decide (32 ≤ (bt a0 x4_1)) = false := decide_eq_false c7
        clear c7
        by_cases c10 : ((bt a0 x4_1) ≥ 128)
        ·rw [if_pos c10] at H
         have c10b0 : decide (128 ≤ (bt a0 x4_1)) = true := decide_eq_true c10
         clear c10
         have H' := Aside0.mk H
         clear H
         have p5 : 0 ≤ (x4_1 : Int) := of_decide_eq_true bm
         have q5 : x4_1 < (a0.size : Int) := of_decide_eq_true bm
         have hx5 := bt_at a0 x4_1
         replace p5 := eq_true p5
         replace q5 := eq_true q5
         go_wp2
         go_roundg k1
         case measure => have := HK1.out; omega
         case rel => exact ⟨(wrap64 (x4_1 + 1)), (by first | rfl | (simp; done) | (simp [*]; done) | (simp [bneNil, beqNil]; done)), H', ⟨by have := HK1.out; omega⟩, by repeat (first | exact Drawn0.refl _ | apply Drawn0.step)⟩
        ·rw [if_neg c10] at H
         have c10b0 : decide (128 ≤ (bt a0 x4_1)) = false := decide_eq_false c10
         clear c10
         obtain rfl := Option.some.inj H
         have p5 : 0 ≤ (x4_1 : Int) := of_decide_eq_true bm
         have q5 : x4_1 < (a0.size : Int) := of_decide_eq_true bm
         have hx5 := bt_at a0 x4_1
         replace p5 := eq_true p5
         replace q5 := eq_true q5
         go_wp2
         go_ret
         exact ⟨by first | rfl | (simp; done) | (simp [*]; done) | (simp [bneNil, beqNil]; done), by repeat (first | exact Drawn0.refl _ | apply Drawn0.step)⟩
     ·rw [if_neg c4] at H
      exact absurd H (by simp)
    ·rw [if_neg c3] at H
     exact absurd H (by simp)
   ·rw [if_neg c2] at H
    have c2b0 : decide (x4_1 < (a0.size : Int)) = false := decide_eq_false c2
    clear c2
    by_cases c11 : (a0.size : Int) = 0
    ·rw [if_pos c11] at H
     have c11b0 : ((a0.size : Int) == 0) = true := beq_iff_eq.mpr c11
     have c11b1 : ((a0.size : Int) != 0) = false := bne_eq_false_iff_eq.mpr c11
     clear c11
     obtain rfl := Option.some.inj H
     go_wp2
     go_ret
     exact ⟨by first | rfl | (simp; done) | (simp [*]; done) | (simp [bneNil, beqNil]; done), by repeat (first | exact Drawn0.refl _ | apply Drawn0.step)⟩
    ·rw [if_neg c11] at H
     have c11b0 : ((a0.size : Int) == 0) = false := beq_eq_false_iff_ne.mpr c11
     have c11b1 : ((a0.size : Int) != 0) = true := bne_iff_ne.mpr c11
     by_cases c12 : 0 < (a0.size : Int)
     ·rw [if_pos c12] at H
      have c12b0 : decide (0 < (a0.size : Int)) = true := decide_eq_true c12
      have c12b1 : decide (0 < a0.size) = true := decide_eq_true (by omega)
      clear c12
      replace H := Option.bind_eq_some_iff.mp H
      obtain ⟨t135, A140, H⟩ := H
      have A14 := Aside0.mk A140
      clear A140
      by_cases c15 : t135 = true
      ·subst c15
       have H1 : (some false) = some r := by rw [if_pos rfl] at H; exact H
       clear H
       have H := H1
       clear H1
       obtain rfl := Option.some.inj H
       have p13 : 0 ≤ (0 : Int) := (by omega)
       have q13 : 0 < a0.size := (by have : (0 : Int) < (a0.size : Int) := of_decide_eq_true bm; omega)
       have hx13 : ∀ h : 0 < a0.size, ((a0[0]'h).toNat : Int) = bt a0 0 := bt_at a0 0
       clear p13
       have qi13 : (0 < (a0.size : Int)) = True := eq_true (of_decide_eq_true bm)
       replace q13 := eq_true q13
       go_wp2_with (first | (go_at_call 83; (with_reducible refine (headraceref05_blank.calls (bt a0 0) true _ A14.out).mono ?_); rintro e w' ⟨rfl, ⟨nd, rfl⟩⟩))
       go_ret
       exact ⟨by first | rfl | (simp; done) | (simp [*]; done) | (simp [bneNil, beqNil]; done), by repeat (first | exact Drawn0.refl _ | apply Drawn0.step)⟩
      ·replace c15 := Bool.eq_false_iff.mpr c15
       subst c15
       have H1 : (if 0 ≤ (wrap64 ((a0.size : Int) - 1)) then (if (wrap64 ((a0.size : Int) - 1)) < (a0.size : Int) then ((headraceref05_blank.f (bt a0 (wrap64 ((a0.size : Int) - 1)))).bind fun t136 => (some (!t136))) else (none)) else (none)) = some r := by rw [if_neg (show ¬ (false = true) by decide)] at H; exact H
       clear H
       have H := H1
       clear H1
       obtain ⟨ji16, hji16⟩ : ∃ j_ : Int, (wrap64 ((a0.size : Int) - 1)) = j_ := ⟨_, rfl⟩
       replace H : (if 0 ≤ (ji16) then (if (ji16) < (a0.size : Int) then ((headraceref05_blank.f (bt a0 (ji16))).bind fun t136 => (some (!t136))) else (none)) else (none)) = some r := by first | (rw [hji16] at H; exact H) | (simp only [hji16] at H ⊢; exact H)
       (try rw [hji16] at A14)
       have hji16w : (IntKind.i64.wrap ((a0.size : Int) - 1)) = ji16 := (i64_w _).trans hji16
       by_cases c17 : 0 ≤ (ji16)
       ·rw [if_pos c17] at H
        have c17b0 : decide (0 ≤ (ji16)) = true := decide_eq_true c17
        clear c17
        by_cases c18 : (ji16) < (a0.size : Int)
        ·rw [if_pos c18] at H
         have c18b0 : decide ((ji16) < (a0.size : Int)) = true := decide_eq_true c18
         clear c18
         replace H := Option.bind_eq_some_iff.mp H
         obtain ⟨t136, A200, H⟩ := H
         have A20 := Aside0.mk A200
         clear A200
         obtain rfl := Option.some.inj H
         have p13 : 0 ≤ (0 : Int) := (by omega)
         have q13 : 0 < a0.size := (by have : (0 : Int) < (a0.size : Int) := of_decide_eq_true bm; omega)
         have hx13 : ∀ h : 0 < a0.size, ((a0[0]'h).toNat : Int) = bt a0 0 := bt_at a0 0
         clear p13
         have qi13 : (0 < (a0.size : Int)) = True := eq_true (of_decide_eq_true bm)
         replace q13 := eq_true q13
         go_wp2_with (first | (go_at_call 83; (with_reducible refine (headraceref05_blank.calls (bt a0 0) false _ A14.out).mono ?_); rintro e w' ⟨rfl, ⟨nd, rfl⟩⟩; have p19 : 0 ≤ ((ji16) : Int) := of_decide_eq_true bm; have q19 : (ji16) < (a0.size : Int) := of_decide_eq_true bm; have hx19 := bt_at a0 (ji16); replace p19 := eq_true p19; replace q19 := eq_true q19) | (go_at_call 83; (with_reducible refine (headraceref05_blank.calls (bt a0 (ji16)) t136 _ A20.out).mono ?_); rintro e w' ⟨rfl, ⟨nd, rfl⟩⟩))
         go_ret
         exact ⟨by first | rfl | (simp; done) | (simp only [← hji16] <;> (first | rfl | simp)) | (simp [*]; done), by repeat (first | exact Drawn0.refl _ | apply Drawn0.step)⟩
        ·rw [if_neg c18] at H
         exact absurd H (by simp)
       ·rw [if_neg c17] at H
        exact absurd H (by simp)
     ·rw [if_neg c12] at H
      exact absurd H (by simp)

end Go.Proofs.YtmlgejgnjfbblaaGreatDoor.P
/- Laid by a program of this session (hp.py) with the help of the kit's printer: functions as plain Lean functions, and that the machine's calls come to them. -/
namespace Go.Proofs.YtmlgejgnjfbblaaGreatDoor.P
open Go.RowKit Go.Proofs.YtmlgejgnjfbblaaGreatDoorW.PrintWords Go.Proofs.YtmlgejgnjfbblaaGreatDoorW.PrintLast Go.Proofs.YtmlgejgnjfbblaaGreatDoorW.PrintMore
attribute [local go_sem] max2_int min2_int max_two min_two max_three min_three max_four min_four   -- for this text's walks alone
set_option linter.unusedVariables false
set_option linter.unusedSimpArgs false

/-! ### headraceref08_field: function 45 -/
def headraceref08_field.j0 : Nat → ByteArray → ByteArray → Bool → Option (ByteArray × ByteArray × Int)
 | 0, _, _, _ => none
 | k + 1, x4, x5, x29 => if x29 = true then (some ((⟨#[]⟩ : ByteArray), (⟨#[]⟩ : ByteArray), 83)) else ((headraceref05_Token.f k x4).bind fun t143 => (if t143 = true then ((headraceref05_Trim.f k x5).bind fun t144 => ((headraceref05_Value.f k t144).bind fun t145 => (if t145 = true then (some (x4, t144, 0)) else (some ((⟨#[]⟩ : ByteArray), (⟨#[]⟩ : ByteArray), 71))))) else (some ((⟨#[]⟩ : ByteArray), (⟨#[]⟩ : ByteArray), 70))))
def headraceref08_field.f (k : Nat) (a0 : ByteArray) : Option (ByteArray × ByteArray × Int) := if 0 < (a0.size : Int) then ((headraceref08_blank.f (bt a0 0)).bind fun t138 => (if t138 = true then (some ((⟨#[]⟩ : ByteArray), (⟨#[]⟩ : ByteArray), 82)) else ((headraceref08_cut.f k a0 58).bind fun bt139 => (if bt139.2.2 = true then (if bt139.1.toList = ([] : List UInt8) then (headraceref08_field.j0 k bt139.1 bt139.2.1 false) else (if 0 ≤ (wrap64 ((bt139.1.size : Int) - 1)) then (if (wrap64 ((bt139.1.size : Int) - 1)) < (bt139.1.size : Int) then ((headraceref08_blank.f (bt bt139.1 (wrap64 ((bt139.1.size : Int) - 1)))).bind fun t142 => (headraceref08_field.j0 k bt139.1 bt139.2.1 t142)) else (none)) else (none))) else (some ((⟨#[]⟩ : ByteArray), (⟨#[]⟩ : ByteArray), 84)))))) else (none)
theorem headraceref08_field.mono_l : ∀ k, (∀ y0 y1 y2, LeO (headraceref08_field.j0 k y0 y1 y2) (headraceref08_field.j0 (k + 1) y0 y1 y2))
 | 0 => fun _ _ _ r h => by simp [headraceref08_field.j0] at h
 | k + 1 => by
  have ih0 := headraceref08_field.mono_l k
  ·intro y0 y1 y2
   unfold headraceref08_field.j0
   repeat' first | with_reducible first | exact ih0 _ _ _ | exact headraceref05_Token.mono _ _ | exact headraceref05_Trim.mono _ _ | exact headraceref05_Value.mono _ _ | exact headraceref08_cut.mono _ _ _ | exact LeO.refl _ | exact LeO.none _ | refine LeO.ite ?_ ?_ | refine LeO.bind ?_ (fun _ => ?_) | exact ih0 _ _ _ | exact headraceref05_Token.mono _ _ | exact headraceref05_Trim.mono _ _ | exact headraceref05_Value.mono _ _ | exact headraceref08_cut.mono _ _ _ | exact LeO.none _ | refine LeO.ite ?_ ?_ | refine LeO.bind ?_ (fun _ => ?_)
theorem headraceref08_field.mono : ∀ a0 k, LeO (headraceref08_field.f k a0) (headraceref08_field.f (k + 1) a0) := by
 intro a0 k
 have ih0 := headraceref08_field.mono_l k
 unfold headraceref08_field.f
 repeat' first | with_reducible first | exact ih0 _ _ _ | exact headraceref05_Token.mono _ _ | exact headraceref05_Trim.mono _ _ | exact headraceref05_Value.mono _ _ | exact headraceref08_cut.mono _ _ _ | exact LeO.refl _ | exact LeO.none _ | refine LeO.ite ?_ ?_ | refine LeO.bind ?_ (fun _ => ?_) | exact ih0 _ _ _ | exact headraceref05_Token.mono _ _ | exact headraceref05_Trim.mono _ _ | exact headraceref05_Value.mono _ _ | exact headraceref08_cut.mono _ _ _ | exact LeO.none _ | refine LeO.ite ?_ ?_ | refine LeO.bind ?_ (fun _ => ?_)
set_option maxHeartbeats 8000000 in
set_option maxRecDepth 100000 in
theorem headraceref08_field.calls (k : Nat) (a0 : ByteArray) (r1 : ByteArray) (r2 : ByteArray) (r3 : Int) (w : World) (h : headraceref08_field.f k a0 = some (r1, r2, r3)) :
  Calls Tryz.prog 45 #[.string a0] w fun e w' => e = .returned (.tuple #[.agg #[.string r1, .string r2], .int .i64 r3]) ∧ Below w.heap.size w w' := by
 have hu45 := Tryz.underlying45
 have HB := Aside0.mk (Below.refl w.heap.size w)
 have H : (if 0 < (a0.size : Int) then ((headraceref08_blank.f (bt a0 0)).bind fun t138 => (if t138 = true then (some ((⟨#[]⟩ : ByteArray), (⟨#[]⟩ : ByteArray), 82)) else ((headraceref08_cut.f k a0 58).bind fun bt139 => (if bt139.2.2 = true then (if bt139.1.toList = ([] : List UInt8) then (headraceref08_field.j0 k bt139.1 bt139.2.1 false) else (if 0 ≤ (wrap64 ((bt139.1.size : Int) - 1)) then (if (wrap64 ((bt139.1.size : Int) - 1)) < (bt139.1.size : Int) then ((headraceref08_blank.f (bt bt139.1 (wrap64 ((bt139.1.size : Int) - 1)))).bind fun t142 => (headraceref08_field.j0 k bt139.1 bt139.2.1 t142)) else (none)) else (none))) else (some ((⟨#[]⟩ : ByteArray), (⟨#[]⟩ : ByteArray), 84)))))) else (none)) = some (r1, r2, r3) := h
 clear h
 by_cases c2 : 0 < (a0.size : Int)
 ·rw [if_pos c2] at H
  have c2b0 : decide (0 < (a0.size : Int)) = true := decide_eq_true c2
  have c2b1 : decide (0 < a0.size) = true := decide_eq_true (by omega)
  clear c2
  replace H := Option.bind_eq_some_iff.mp H
  obtain ⟨t138, A40, H⟩ := H
  have A4 := Aside0.mk A40
  clear A40
  by_cases c5 : t138 = true
  ·subst c5
   have H1 : (some ((⟨#[]⟩ : ByteArray), (⟨#[]⟩ : ByteArray), 82)) = some (r1, r2, r3) := by rw [if_pos rfl] at H; exact H
   clear H
   have H := H1
   clear H1
   simp only [Option.some.injEq, Prod.mk.injEq] at H
   obtain ⟨rfl, rfl, rfl⟩ := H
   go_enter Tryz.func45, Tryz.ntmps45
   go_wp2_with (first | (refine bx 2 #[.string (⟨#[]⟩ : ByteArray), .string (⟨#[]⟩ : ByteArray)] 45 ?_; intro gb137 hg w6 hbox hb; have BK137 := Aside0.mk (hbox); have GW137 := bG HB hg; have GE137 := bG HB hg; replace HB := bS HB hb; clear hb hbox hg; have p3 : 0 ≤ (0 : Int) := (by omega); have q3 : 0 < a0.size := (by have : (0 : Int) < (a0.size : Int) := of_decide_eq_true bm; omega); have hx3 : ∀ h : 0 < a0.size, ((a0[0]'h).toNat : Int) = bt a0 0 := bt_at a0 0; clear p3; have qi3 : (0 < (a0.size : Int)) = True := eq_true (of_decide_eq_true bm); replace q3 := eq_true q3) | (refine gl 66 9 Tryz.func66 #[.int .u8 (bt a0 0)] ?_; (with_reducible refine (headraceref08_blank.calls (bt a0 0) true _ A4.out).mono ?_); rintro e w' ⟨rfl, ⟨nd, rfl⟩⟩; refine ⟨_, rfl, ?_⟩; (try (rw [drewN_self w6]; generalize hq_ : World.drewN w6 _ = w6; have n0_ : Aside0 (w6.heap[gb137]? = some (.cells #[.string (⟨#[]⟩ : ByteArray), .string (⟨#[]⟩ : ByteArray)] 45 (0, 0))) := ⟨by rw [← hq_]; exact (bk BK137)⟩; have n1_ : Aside0 (Below w.heap.size w w6) := ⟨by rw [← hq_]; exact (bw HB)⟩; clear BK137 HB hq_; have BK137 := n0_; have HB := n1_; clear n0_ n1_)); have zhcz7_0 := bz2 BK137))
   refine bodyPost_ret (results_ct rfl _ _ gb137 45 #[.string (⟨#[]⟩ : ByteArray), .string (⟨#[]⟩ : ByteArray)] (0, 0) _ rfl bq Tryz.underlying45 rfl (by kernel_rfl)) rfl ?_
   exact ⟨by first | rfl | (simp [errW_none, errW_some] <;> rfl) | (simp [*, errW_none, errW_some] <;> rfl) | (simp [bneNil, beqNil]; done), bw HB⟩
  ·replace c5 := Bool.eq_false_iff.mpr c5
   subst c5
   have H1 : ((headraceref08_cut.f k a0 58).bind fun bt139 => (if bt139.2.2 = true then (if bt139.1.toList = ([] : List UInt8) then (headraceref08_field.j0 k bt139.1 bt139.2.1 false) else (if 0 ≤ (wrap64 ((bt139.1.size : Int) - 1)) then (if (wrap64 ((bt139.1.size : Int) - 1)) < (bt139.1.size : Int) then ((headraceref08_blank.f (bt bt139.1 (wrap64 ((bt139.1.size : Int) - 1)))).bind fun t142 => (headraceref08_field.j0 k bt139.1 bt139.2.1 t142)) else (none)) else (none))) else (some ((⟨#[]⟩ : ByteArray), (⟨#[]⟩ : ByteArray), 84)))) = some (r1, r2, r3) := by rw [if_neg (show ¬ (false = true) by decide)] at H; exact H
   clear H
   have H := H1
   clear H1
   replace H := Option.bind_eq_some_iff.mp H
   obtain ⟨⟨t139, t140, t141⟩, A80, H⟩ := H
   replace H : (if t141 = true then (if t139.toList = ([] : List UInt8) then (headraceref08_field.j0 k t139 t140 false) else (if 0 ≤ (wrap64 ((t139.size : Int) - 1)) then (if (wrap64 ((t139.size : Int) - 1)) < (t139.size : Int) then ((headraceref08_blank.f (bt t139 (wrap64 ((t139.size : Int) - 1)))).bind fun t142 => (headraceref08_field.j0 k t139 t140 t142)) else (none)) else (none))) else (some ((⟨#[]⟩ : ByteArray), (⟨#[]⟩ : ByteArray), 84))) = some (r1, r2, r3) := H
   have A8 := Aside0.mk A80
   clear A80
   by_cases c9 : t141 = true
   ·subst c9
    have H1 : (if t139.toList = ([] : List UInt8) then (headraceref08_field.j0 k t139 t140 false) else (if 0 ≤ (wrap64 ((t139.size : Int) - 1)) then (if (wrap64 ((t139.size : Int) - 1)) < (t139.size : Int) then ((headraceref08_blank.f (bt t139 (wrap64 ((t139.size : Int) - 1)))).bind fun t142 => (headraceref08_field.j0 k t139 t140 t142)) else (none)) else (none))) = some (r1, r2, r3) := by rw [if_pos rfl] at H; exact H
    clear H
    have H := H1
    clear H1
    have HC10 := Aside0.mk H
    clear H
    go_enter Tryz.func45, Tryz.ntmps45
    go_upto_region 6 with (first | (refine bx 2 #[.string (⟨#[]⟩ : ByteArray), .string (⟨#[]⟩ : ByteArray)] 45 ?_; intro gb137 hg w11 hbox hb; have BK137 := Aside0.mk (hbox); have GW137 := bG HB hg; have GE137 := bG HB hg; replace HB := bS HB hb; clear hb hbox hg; have p3 : 0 ≤ (0 : Int) := (by omega); have q3 : 0 < a0.size := (by have : (0 : Int) < (a0.size : Int) := of_decide_eq_true bm; omega); have hx3 : ∀ h : 0 < a0.size, ((a0[0]'h).toNat : Int) = bt a0 0 := bt_at a0 0; clear p3; have qi3 : (0 < (a0.size : Int)) = True := eq_true (of_decide_eq_true bm); replace q3 := eq_true q3) | (refine gl 66 9 Tryz.func66 #[.int .u8 (bt a0 0)] ?_; (with_reducible refine (headraceref08_blank.calls (bt a0 0) false _ A4.out).mono ?_); rintro e w' ⟨rfl, ⟨nd, rfl⟩⟩; refine ⟨_, rfl, ?_⟩) | (refine gl 62 13 Tryz.func62 #[.string a0, .int .u8 58] ?_; (with_reducible refine (headraceref08_cut.calls k a0 58 t139 t140 true _ A8.out).mono ?_); rintro e w' ⟨rfl, ⟨nd, rfl⟩⟩; refine ⟨_, rfl, ?_⟩))
    (try simp only [Act.put, List.setIfInBounds_toArray, List.set_cons_zero, List.set_cons_succ])
    go_cut [29] (fun v29 wc => ∃ (kq : Nat) (x29_9 : Bool), v29 = .bool x29_9 ∧ Aside0 (headraceref08_field.j0 kq t139 t140 x29_9 = some (r1, r2, r3)) ∧ Aside0 (kq ≤ k) ∧ Aside0 (wc.heap[gb137]? = some (.cells #[.string (⟨#[]⟩ : ByteArray), .string (⟨#[]⟩ : ByteArray)] 45 (0, 0))) ∧ Aside0 (Below w.heap.size w wc))
    case first =>
     have H := HC10.out
     clear HC10
     by_cases c12 : t139.toList = ([] : List UInt8)
     ·rw [if_pos c12] at H
      have c12b0 : (t139.toList == ([] : List UInt8)) = true := beq_iff_eq.mpr c12
      have c12b1 : (t139.toList != ([] : List UInt8)) = false := bne_eq_false_iff_eq.mpr c12
      clear c12
      (first | rw [c12b0] | (simp only [i64_w, i32_w]; rw [c12b0]) | skip)
      have H' := Aside0.mk H
      clear H
      go_wp2
      go_meet
      case rel => exact ⟨_, (false), (by first | rfl | (simp; done) | (simp [*]; done) | (simp [bneNil, beqNil]; done)), H', ⟨by first | omega | exact Nat.le_refl _⟩, ⟨bk BK137⟩, ⟨bw HB⟩⟩
     ·rw [if_neg c12] at H
      have c12b0 : (t139.toList == ([] : List UInt8)) = false := beq_eq_false_iff_ne.mpr c12
      have c12b1 : (t139.toList != ([] : List UInt8)) = true := bne_iff_ne.mpr c12
      (first | rw [c12b0] | (simp only [i64_w, i32_w]; rw [c12b0]) | skip)
      obtain ⟨ji13, hji13⟩ : ∃ j_ : Int, (wrap64 ((t139.size : Int) - 1)) = j_ := ⟨_, rfl⟩
      replace H : (if 0 ≤ (ji13) then (if (ji13) < (t139.size : Int) then ((headraceref08_blank.f (bt t139 (ji13))).bind fun t142 => (headraceref08_field.j0 k t139 t140 t142)) else (none)) else (none)) = some (r1, r2, r3) := by first | (rw [hji13] at H; exact H) | (simp only [hji13] at H ⊢; exact H)
      have hji13w : (IntKind.i64.wrap ((t139.size : Int) - 1)) = ji13 := (i64_w _).trans hji13
      by_cases c14 : 0 ≤ (ji13)
      ·rw [if_pos c14] at H
       have c14b0 : decide (0 ≤ (ji13)) = true := decide_eq_true c14
       clear c14
       by_cases c15 : (ji13) < (t139.size : Int)
       ·rw [if_pos c15] at H
        have c15b0 : decide ((ji13) < (t139.size : Int)) = true := decide_eq_true c15
        clear c15
        replace H := Option.bind_eq_some_iff.mp H
        obtain ⟨t142, A170, H⟩ := H
        have A17 := Aside0.mk A170
        clear A170
        have H' := Aside0.mk H
        clear H
        have p16 : 0 ≤ ((ji13) : Int) := of_decide_eq_true bm
        have q16 : (ji13) < (t139.size : Int) := of_decide_eq_true bm
        have hx16 := bt_at t139 (ji13)
        replace p16 := eq_true p16
        replace q16 := eq_true q16
        go_wp2_with (first | (go_at_call 66; (with_reducible refine (headraceref08_blank.calls (bt t139 (ji13)) t142 _ A17.out).mono ?_); rintro e w' ⟨rfl, ⟨nd, rfl⟩⟩))
        go_meet
        case rel => exact ⟨_, (t142), (by first | rfl | (simp; done) | (simp [*]; done) | (simp [bneNil, beqNil]; done)), H', ⟨by first | omega | exact Nat.le_refl _⟩, ⟨bk BK137⟩, ⟨bw HB⟩⟩
       ·rw [if_neg c15] at H
        exact absurd H (by simp)
      ·rw [if_neg c14] at H
       exact absurd H (by simp)
    case rest =>
     clear HC10
     try clear q1; try clear hx1; try clear c2; try clear c2b0; try clear c2b1; try clear p3; try clear q3; try clear hx3; try clear qi3; try clear c5; try clear c9; try clear q16; try clear hx16; try clear zhcz7_0
     obtain ⟨kq, x29_9, rfl, HA, HJ9, BK137, HB⟩ := hcut
     cases kq with
     | zero => exact absurd HA.out (by simp [headraceref08_field.j0])
     | succ kj9 =>
      have H := HA.out
      clear HA
      simp only [headraceref08_field.j0] at H
      by_cases c18 : x29_9 = true
      ·subst c18
       have H1 : (some ((⟨#[]⟩ : ByteArray), (⟨#[]⟩ : ByteArray), 83)) = some (r1, r2, r3) := by rw [if_pos rfl] at H; exact H
       clear H
       have H := H1
       clear H1
       simp only [Option.some.injEq, Prod.mk.injEq] at H
       obtain ⟨rfl, rfl, rfl⟩ := H
       have zhcz19_0 := bz2 BK137
       go_wp2
       refine bodyPost_ret (results_ct rfl _ _ gb137 45 #[.string (⟨#[]⟩ : ByteArray), .string (⟨#[]⟩ : ByteArray)] (0, 0) _ rfl bq Tryz.underlying45 rfl (by kernel_rfl)) rfl ?_
       exact ⟨by first | rfl | (simp [errW_none, errW_some] <;> rfl) | (simp [*, errW_none, errW_some] <;> rfl) | (simp [bneNil, beqNil]; done), bw HB⟩
      ·replace c18 := Bool.eq_false_iff.mpr c18
       subst c18
       have H1 : ((headraceref05_Token.f kj9 t139).bind fun t143 => (if t143 = true then ((headraceref05_Trim.f kj9 t140).bind fun t144 => ((headraceref05_Value.f kj9 t144).bind fun t145 => (if t145 = true then (some (t139, t144, 0)) else (some ((⟨#[]⟩ : ByteArray), (⟨#[]⟩ : ByteArray), 71))))) else (some ((⟨#[]⟩ : ByteArray), (⟨#[]⟩ : ByteArray), 70)))) = some (r1, r2, r3) := by rw [if_neg (show ¬ (false = true) by decide)] at H; exact H
       clear H
       have H := H1
       clear H1
       replace H := Option.bind_eq_some_iff.mp H
       obtain ⟨t143, A200, H⟩ := H
       have A20 := Aside0.mk A200
       clear A200
       by_cases c21 : t143 = true
       ·subst c21
        have H1 : ((headraceref05_Trim.f kj9 t140).bind fun t144 => ((headraceref05_Value.f kj9 t144).bind fun t145 => (if t145 = true then (some (t139, t144, 0)) else (some ((⟨#[]⟩ : ByteArray), (⟨#[]⟩ : ByteArray), 71))))) = some (r1, r2, r3) := by rw [if_pos rfl] at H; exact H
        clear H
        have H := H1
        clear H1
        replace H := Option.bind_eq_some_iff.mp H
        obtain ⟨t144, A220, H⟩ := H
        have A22 := Aside0.mk A220
        clear A220
        replace H := Option.bind_eq_some_iff.mp H
        obtain ⟨t145, A230, H⟩ := H
        have A23 := Aside0.mk A230
        clear A230
        by_cases c24 : t145 = true
        ·subst c24
         have H1 : (some (t139, t144, 0)) = some (r1, r2, r3) := by rw [if_pos rfl] at H; exact H
         clear H
         have H := H1
         clear H1
         simp only [Option.some.injEq, Prod.mk.injEq] at H
         obtain ⟨rfl, rfl, rfl⟩ := H
         go_wp2_with (first | (refine gl 63 32 Tryz.func63 #[.string t139] ?_; (with_reducible refine (headraceref05_Token.calls kj9 t139 true _ A20.out).mono ?_); rintro e w25 ⟨rfl, hb⟩; refine ⟨_, rfl, ?_⟩; replace BK137 := bB BK137 hb; replace HB := bS HB hb; (try clear hb); (try clear hb2); (try clear hk); (try clear hi)) | (refine gl 67 36 Tryz.func67 #[.string t140] ?_; (with_reducible refine (headraceref05_Trim.calls kj9 t140 t144 _ A22.out).mono ?_); rintro e w' ⟨rfl, ⟨nd, rfl⟩⟩; refine ⟨_, rfl, ?_⟩; (try (rw [drewN_self w25]; generalize hq_ : World.drewN w25 _ = w25; have n0_ : Aside0 (w25.heap[gb137]? = some (.cells #[.string (⟨#[]⟩ : ByteArray), .string (⟨#[]⟩ : ByteArray)] 45 (0, 0))) := ⟨by rw [← hq_]; exact (bk BK137)⟩; have n1_ : Aside0 (Below w.heap.size w w25) := ⟨by rw [← hq_]; exact (bw HB)⟩; clear BK137 HB hq_; have BK137 := n0_; have HB := n1_; clear n0_ n1_))) | (refine gl 68 38 Tryz.func68 #[.string t144] ?_; (with_reducible refine (headraceref05_Value.calls kj9 t144 true _ A23.out).mono ?_); rintro e w' ⟨rfl, ⟨nd, rfl⟩⟩; refine ⟨_, rfl, ?_⟩; (try (rw [drewN_self w25]; generalize hq_ : World.drewN w25 _ = w25; have n0_ : Aside0 (w25.heap[gb137]? = some (.cells #[.string (⟨#[]⟩ : ByteArray), .string (⟨#[]⟩ : ByteArray)] 45 (0, 0))) := ⟨by rw [← hq_]; exact (bk BK137)⟩; have n1_ : Aside0 (Below w.heap.size w w25) := ⟨by rw [← hq_]; exact (bw HB)⟩; clear BK137 HB hq_; have BK137 := n0_; have HB := n1_; clear n0_ n1_)); have zhcz26_0 := bz2 BK137))
         refine bodyPost_ret (results_ct rfl _ _ gb137 45 #[.string t139, .string t144] (0, 0) _ rfl bq Tryz.underlying45 rfl (by kernel_rfl)) rfl ?_
         exact ⟨by first | rfl | (simp [errW_none, errW_some] <;> rfl) | (simp [*, errW_none, errW_some] <;> rfl) | (simp [bneNil, beqNil]; done), bw HB⟩
        ·replace c24 := Bool.eq_false_iff.mpr c24
         subst c24
         have H1 : (some ((⟨#[]⟩ : ByteArray), (⟨#[]⟩ : ByteArray), 71)) = some (r1, r2, r3) := by rw [if_neg (show ¬ (false = true) by decide)] at H; exact H
         clear H
         have H := H1
         clear H1
         simp only [Option.some.injEq, Prod.mk.injEq] at H
         obtain ⟨rfl, rfl, rfl⟩ := H
         go_wp2_with (first | (refine gl 63 32 Tryz.func63 #[.string t139] ?_; (with_reducible refine (headraceref05_Token.calls kj9 t139 true _ A20.out).mono ?_); rintro e w27 ⟨rfl, hb⟩; refine ⟨_, rfl, ?_⟩; replace BK137 := bB BK137 hb; replace HB := bS HB hb; (try clear hb); (try clear hb2); (try clear hk); (try clear hi)) | (refine gl 67 36 Tryz.func67 #[.string t140] ?_; (with_reducible refine (headraceref05_Trim.calls kj9 t140 t144 _ A22.out).mono ?_); rintro e w' ⟨rfl, ⟨nd, rfl⟩⟩; refine ⟨_, rfl, ?_⟩; (try (rw [drewN_self w27]; generalize hq_ : World.drewN w27 _ = w27; have n0_ : Aside0 (w27.heap[gb137]? = some (.cells #[.string (⟨#[]⟩ : ByteArray), .string (⟨#[]⟩ : ByteArray)] 45 (0, 0))) := ⟨by rw [← hq_]; exact (bk BK137)⟩; have n1_ : Aside0 (Below w.heap.size w w27) := ⟨by rw [← hq_]; exact (bw HB)⟩; clear BK137 HB hq_; have BK137 := n0_; have HB := n1_; clear n0_ n1_))) | (refine gl 68 38 Tryz.func68 #[.string t144] ?_; (with_reducible refine (headraceref05_Value.calls kj9 t144 false _ A23.out).mono ?_); rintro e w' ⟨rfl, ⟨nd, rfl⟩⟩; refine ⟨_, rfl, ?_⟩; (try (rw [drewN_self w27]; generalize hq_ : World.drewN w27 _ = w27; have n0_ : Aside0 (w27.heap[gb137]? = some (.cells #[.string (⟨#[]⟩ : ByteArray), .string (⟨#[]⟩ : ByteArray)] 45 (0, 0))) := ⟨by rw [← hq_]; exact (bk BK137)⟩; have n1_ : Aside0 (Below w.heap.size w w27) := ⟨by rw [← hq_]; exact (bw HB)⟩; clear BK137 HB hq_; have BK137 := n0_; have HB := n1_; clear n0_ n1_)); have zhcz28_0 := bz2 BK137))
         refine bodyPost_ret (results_ct rfl _ _ gb137 45 #[.string (⟨#[]⟩ : ByteArray), .string (⟨#[]⟩ : ByteArray)] (0, 0) _ rfl bq Tryz.underlying45 rfl (by kernel_rfl)) rfl ?_
         exact ⟨by first | rfl | (simp [errW_none, errW_some] <;> rfl) | (simp [*, errW_none, errW_some] <;> rfl) | (simp [bneNil, beqNil]; done), bw HB⟩
       ·replace c21 := Bool.eq_false_iff.mpr c21
        subst c21
        have H1 : (some ((⟨#[]⟩ : ByteArray), (⟨#[]⟩ : ByteArray), 70)) = some (r1, r2, r3) := by rw [if_neg (show ¬ (false = true) by decide)] at H; exact H
        clear H
        have H := H1
        clear H1
        simp only [Option.some.injEq, Prod.mk.injEq] at H
        obtain ⟨rfl, rfl, rfl⟩ := H
        go_wp2_with (first | (refine gl 63 32 Tryz.func63 #[.string t139] ?_; (with_reducible refine (headraceref05_Token.calls kj9 t139 false _ A20.out).mono ?_); rintro e w29 ⟨rfl, hb⟩; refine ⟨_, rfl, ?_⟩; replace BK137 := bB BK137 hb; replace HB := bS HB hb; (try clear hb); (try clear hb2); (try clear hk); (try clear hi); have zhcz30_0 := bz2 BK137))
        refine bodyPost_ret (results_ct rfl _ _ gb137 45 #[.string (⟨#[]⟩ : ByteArray), .string (⟨#[]⟩ : ByteArray)] (0, 0) _ rfl bq Tryz.underlying45 rfl (by kernel_rfl)) rfl ?_
        exact ⟨by first | rfl | (simp [errW_none, errW_some] <;> rfl) | (simp [*, errW_none, errW_some] <;> rfl) | (simp [bneNil, beqNil]; done), bw HB⟩
   ·replace c9 := Bool.eq_false_iff.mpr c9
    subst c9
    have H1 : (some ((⟨#[]⟩ : ByteArray), (⟨#[]⟩ : ByteArray), 84)) = some (r1, r2, r3) := by rw [if_neg (show ¬ (false = true) by decide)] at H; exact H
    clear H
    have H := H1
    clear H1
    simp only [Option.some.injEq, Prod.mk.injEq] at H
    obtain ⟨rfl, rfl, rfl⟩ := H
    go_enter Tryz.func45, Tryz.ntmps45
    go_wp2_with (first | (refine bx 2 #[.string (⟨#[]⟩ : ByteArray), .string (⟨#[]⟩ : ByteArray)] 45 ?_; intro gb137 hg w31 hbox hb; have BK137 := Aside0.mk (hbox); have GW137 := bG HB hg; have GE137 := bG HB hg; replace HB := bS HB hb; clear hb hbox hg; have p3 : 0 ≤ (0 : Int) := (by omega); have q3 : 0 < a0.size := (by have : (0 : Int) < (a0.size : Int) := of_decide_eq_true bm; omega); have hx3 : ∀ h : 0 < a0.size, ((a0[0]'h).toNat : Int) = bt a0 0 := bt_at a0 0; clear p3; have qi3 : (0 < (a0.size : Int)) = True := eq_true (of_decide_eq_true bm); replace q3 := eq_true q3) | (refine gl 66 9 Tryz.func66 #[.int .u8 (bt a0 0)] ?_; (with_reducible refine (headraceref08_blank.calls (bt a0 0) false _ A4.out).mono ?_); rintro e w' ⟨rfl, ⟨nd, rfl⟩⟩; refine ⟨_, rfl, ?_⟩; (try (rw [drewN_self w31]; generalize hq_ : World.drewN w31 _ = w31; have n0_ : Aside0 (w31.heap[gb137]? = some (.cells #[.string (⟨#[]⟩ : ByteArray), .string (⟨#[]⟩ : ByteArray)] 45 (0, 0))) := ⟨by rw [← hq_]; exact (bk BK137)⟩; have n1_ : Aside0 (Below w.heap.size w w31) := ⟨by rw [← hq_]; exact (bw HB)⟩; clear BK137 HB hq_; have BK137 := n0_; have HB := n1_; clear n0_ n1_))) | (refine gl 62 13 Tryz.func62 #[.string a0, .int .u8 58] ?_; (with_reducible refine (headraceref08_cut.calls k a0 58 t139 t140 false _ A8.out).mono ?_); rintro e w' ⟨rfl, ⟨nd, rfl⟩⟩; refine ⟨_, rfl, ?_⟩; (try (rw [drewN_self w31]; generalize hq_ : World.drewN w31 _ = w31; have n0_ : Aside0 (w31.heap[gb137]? = some (.cells #[.string (⟨#[]⟩ : ByteArray), .string (⟨#[]⟩ : ByteArray)] 45 (0, 0))) := ⟨by rw [← hq_]; exact (bk BK137)⟩; have n1_ : Aside0 (Below w.heap.size w w31) := ⟨by rw [← hq_]; exact (bw HB)⟩; clear BK137 HB hq_; have BK137 := n0_; have HB := n1_; clear n0_ n1_)); have zhcz32_0 := bz2 BK137))
    refine bodyPost_ret (results_ct rfl _ _ gb137 45 #[.string (⟨#[]⟩ : ByteArray), .string (⟨#[]⟩ : ByteArray)] (0, 0) _ rfl bq Tryz.underlying45 rfl (by kernel_rfl)) rfl ?_
    exact ⟨by first | rfl | (simp [errW_none, errW_some] <;> rfl) | (simp [*, errW_none, errW_some] <;> rfl) | (simp [bneNil, beqNil]; done), bw HB⟩
 ·rw [if_neg c2] at H
  exact absurd H (by simp)

-- NOT PRINTED: function 29 (headraceref08_line)

end Go.Proofs.YtmlgejgnjfbblaaGreatDoor.P
/- Laid by a program of this session (hp.py) with the help of the kit's printer: functions as plain Lean functions, and that the machine's calls come to them. -/
namespace Go.Proofs.YtmlgejgnjfbblaaGreatDoor.P
open Go.RowKit Go.Proofs.YtmlgejgnjfbblaaGreatDoorW.PrintWords Go.Proofs.YtmlgejgnjfbblaaGreatDoorW.PrintLast Go.Proofs.YtmlgejgnjfbblaaGreatDoorW.PrintMore
attribute [local go_sem] max2_int min2_int max_two min_two max_three min_three max_four min_four   -- for this text's walks alone
set_option linter.unusedVariables false
set_option linter.unusedSimpArgs false

attribute [local go_sem high] eqA45
/-! ### headraceref08_Same: function 15 -/
mutual
def headraceref08_Same.j0 : Nat → Bool → Bool → ByteArray → ByteArray → Int → Int → ByteArray → List (S45) → Bool → ByteArray → ByteArray → Int → Int → ByteArray → List (S45) → Option (Bool)
 | 0, _, _, _, _, _, _, _, _, _, _, _, _, _, _, _ => none
 | k + 1, x54, x186000, x186001, x186002, x186003, x186004, x186005, x186006, x187000, x187001, x187002, x187003, x187004, x187005, x187006 => if x54 = true then (some false) else (headraceref08_Same.l0 k (x186006.length : Int) 0 x186000 x186001 x186002 x186003 x186004 x186005 x186006 x187000 x187001 x187002 x187003 x187004 x187005 x187006)
def headraceref08_Same.l0 : Nat → Int → Int → Bool → ByteArray → ByteArray → Int → Int → ByteArray → List (S45) → Bool → ByteArray → ByteArray → Int → Int → ByteArray → List (S45) → Option (Bool)
 | 0, _, _, _, _, _, _, _, _, _, _, _, _, _, _, _, _ => none
 | k + 1, x57, x58, x186000, x186001, x186002, x186003, x186004, x186005, x186006, x187000, x187001, x187002, x187003, x187004, x187005, x187006 => if x58 < x57 then (if 0 ≤ x58 then (if x58 < (x186006.length : Int) then (if x58 < (x187006.length : Int) then (if (!((((rd_T45 x186006 x58).f0).toList) == (((rd_T45 x187006 x58).f0).toList)) || (!((((rd_T45 x186006 x58).f1).toList) == (((rd_T45 x187006 x58).f1).toList)))) = true then (some false) else (headraceref08_Same.l0 k x57 (wrap64 (x58 + 1)) x186000 x186001 x186002 x186003 x186004 x186005 x186006 x187000 x187001 x187002 x187003 x187004 x187005 x187006)) else (none)) else (none)) else (none)) else (some true)
end
def headraceref08_Same.f (k : Nat) (a0_0 : Bool) (a0_1 : ByteArray) (a0_2 : ByteArray) (a0_3 : Int) (a0_4 : Int) (a0_5 : ByteArray) (l0_6 : List (S45)) (a1_0 : Bool) (a1_1 : ByteArray) (a1_2 : ByteArray) (a1_3 : Int) (a1_4 : Int) (a1_5 : ByteArray) (l1_6 : List (S45)) : Option (Bool) := if (a0_0 != a1_0) = true then (headraceref08_Same.j0 k true a0_0 a0_1 a0_2 a0_3 a0_4 a0_5 l0_6 a1_0 a1_1 a1_2 a1_3 a1_4 a1_5 l1_6) else (if a0_1.toList = a1_1.toList then (if a0_2.toList = a1_2.toList then (if a0_3 = a1_3 then (if a0_4 = a1_4 then (if a0_5.toList = a1_5.toList then (headraceref08_Same.j0 k ((l0_6.length : Int) != (l1_6.length : Int)) a0_0 a0_1 a0_2 a0_3 a0_4 a0_5 l0_6 a1_0 a1_1 a1_2 a1_3 a1_4 a1_5 l1_6) else (headraceref08_Same.j0 k true a0_0 a0_1 a0_2 a0_3 a0_4 a0_5 l0_6 a1_0 a1_1 a1_2 a1_3 a1_4 a1_5 l1_6)) else (headraceref08_Same.j0 k true a0_0 a0_1 a0_2 a0_3 a0_4 a0_5 l0_6 a1_0 a1_1 a1_2 a1_3 a1_4 a1_5 l1_6)) else (headraceref08_Same.j0 k true a0_0 a0_1 a0_2 a0_3 a0_4 a0_5 l0_6 a1_0 a1_1 a1_2 a1_3 a1_4 a1_5 l1_6)) else (headraceref08_Same.j0 k true a0_0 a0_1 a0_2 a0_3 a0_4 a0_5 l0_6 a1_0 a1_1 a1_2 a1_3 a1_4 a1_5 l1_6)) else (headraceref08_Same.j0 k true a0_0 a0_1 a0_2 a0_3 a0_4 a0_5 l0_6 a1_0 a1_1 a1_2 a1_3 a1_4 a1_5 l1_6))
theorem headraceref08_Same.mono_l : ∀ k, (∀ y0 y1 y2 y3 y4 y5 y6 y7 y8 y9 y10 y11 y12 y13 y14, LeO (headraceref08_Same.j0 k y0 y1 y2 y3 y4 y5 y6 y7 y8 y9 y10 y11 y12 y13 y14) (headraceref08_Same.j0 (k + 1) y0 y1 y2 y3 y4 y5 y6 y7 y8 y9 y10 y11 y12 y13 y14)) ∧ (∀ y0 y1 y2 y3 y4 y5 y6 y7 y8 y9 y10 y11 y12 y13 y14 y15, LeO (headraceref08_Same.l0 k y0 y1 y2 y3 y4 y5 y6 y7 y8 y9 y10 y11 y12 y13 y14 y15) (headraceref08_Same.l0 (k + 1) y0 y1 y2 y3 y4 y5 y6 y7 y8 y9 y10 y11 y12 y13 y14 y15))
 | 0 => ⟨fun _ _ _ _ _ _ _ _ _ _ _ _ _ _ _ r h => by simp [headraceref08_Same.j0] at h, fun _ _ _ _ _ _ _ _ _ _ _ _ _ _ _ _ r h => by simp [headraceref08_Same.l0] at h⟩
 | k + 1 => by
  obtain ⟨ih0, ih1⟩ := headraceref08_Same.mono_l k
  refine ⟨?_, ?_⟩ <;> intros <;> (first | unfold headraceref08_Same.j0 | unfold headraceref08_Same.l0) <;> repeat' first | with_reducible first | exact ih0 _ _ _ _ _ _ _ _ _ _ _ _ _ _ _ | exact ih1 _ _ _ _ _ _ _ _ _ _ _ _ _ _ _ _ | exact LeO.refl _ | exact LeO.none _ | refine LeO.ite ?_ ?_ | refine LeO.bind ?_ (fun _ => ?_) | exact ih0 _ _ _ _ _ _ _ _ _ _ _ _ _ _ _ | exact ih1 _ _ _ _ _ _ _ _ _ _ _ _ _ _ _ _ | exact LeO.none _ | refine LeO.ite ?_ ?_ | refine LeO.bind ?_ (fun _ => ?_)
theorem headraceref08_Same.mono : ∀ a0 a1 a2 a3 a4 a5 a6 a7 a8 a9 a10 a11 a12 a13 k, LeO (headraceref08_Same.f k a0 a1 a2 a3 a4 a5 a6 a7 a8 a9 a10 a11 a12 a13) (headraceref08_Same.f (k + 1) a0 a1 a2 a3 a4 a5 a6 a7 a8 a9 a10 a11 a12 a13) := by
 intro a0 a1 a2 a3 a4 a5 a6 a7 a8 a9 a10 a11 a12 a13 k
 obtain ⟨ih0, ih1⟩ := headraceref08_Same.mono_l k
 unfold headraceref08_Same.f
 repeat' first | with_reducible first | exact ih0 _ _ _ _ _ _ _ _ _ _ _ _ _ _ _ | exact ih1 _ _ _ _ _ _ _ _ _ _ _ _ _ _ _ _ | exact LeO.refl _ | exact LeO.none _ | refine LeO.ite ?_ ?_ | refine LeO.bind ?_ (fun _ => ?_) | exact ih0 _ _ _ _ _ _ _ _ _ _ _ _ _ _ _ | exact ih1 _ _ _ _ _ _ _ _ _ _ _ _ _ _ _ _ | exact LeO.none _ | refine LeO.ite ?_ ?_ | refine LeO.bind ?_ (fun _ => ?_)
set_option maxHeartbeats 8000000 in
set_option maxRecDepth 100000 in
theorem headraceref08_Same.calls (k : Nat) (a0_0 : Bool) (a0_1 : ByteArray) (a0_2 : ByteArray) (a0_3 : Int) (a0_4 : Int) (a0_5 : ByteArray) (A0_6 : Option Addr) (c0_6 : Nat) (l0_6 : List (S45)) (a1_0 : Bool) (a1_1 : ByteArray) (a1_2 : ByteArray) (a1_3 : Int) (a1_4 : Int) (a1_5 : ByteArray) (A1_6 : Option Addr) (c1_6 : Nat) (l1_6 : List (S45)) (r : Bool) (w : World) (hr0_6 : Kd.C k45 w A0_6 l0_6.length l0_6) (hc0_6 : l0_6.length ≤ c0_6) (hr1_6 : Kd.C k45 w A1_6 l1_6.length l1_6) (hc1_6 : l1_6.length ≤ c1_6) (h : headraceref08_Same.f k a0_0 a0_1 a0_2 a0_3 a0_4 a0_5 l0_6 a1_0 a1_1 a1_2 a1_3 a1_4 a1_5 l1_6 = some r) :
  Calls Tryz.prog 15 #[.agg #[.bool a0_0, .string a0_1, .string a0_2, .int .i64 a0_3, .int .i64 a0_4, .string a0_5, .slice A0_6 l0_6.length c0_6], .agg #[.bool a1_0, .string a1_1, .string a1_2, .int .i64 a1_3, .int .i64 a1_4, .string a1_5, .slice A1_6 l1_6.length c1_6]] w fun e w' => e = .returned (.bool r) ∧ Below w.heap.size w w' := by
 have hu24 := Tryz.underlying24
 have hu45 := Tryz.underlying45
 have HR0_6 := Aside0.mk hr0_6
 have HC0_6 := Aside0.mk hc0_6
 clear hr0_6 hc0_6
 have HR1_6 := Aside0.mk hr1_6
 have HC1_6 := Aside0.mk hc1_6
 clear hr1_6 hc1_6
 have HB := Aside0.mk (Below.refl w.heap.size w)
 have H : (if (a0_0 != a1_0) = true then (headraceref08_Same.j0 k true a0_0 a0_1 a0_2 a0_3 a0_4 a0_5 l0_6 a1_0 a1_1 a1_2 a1_3 a1_4 a1_5 l1_6) else (if a0_1.toList = a1_1.toList then (if a0_2.toList = a1_2.toList then (if a0_3 = a1_3 then (if a0_4 = a1_4 then (if a0_5.toList = a1_5.toList then (headraceref08_Same.j0 k ((l0_6.length : Int) != (l1_6.length : Int)) a0_0 a0_1 a0_2 a0_3 a0_4 a0_5 l0_6 a1_0 a1_1 a1_2 a1_3 a1_4 a1_5 l1_6) else (headraceref08_Same.j0 k true a0_0 a0_1 a0_2 a0_3 a0_4 a0_5 l0_6 a1_0 a1_1 a1_2 a1_3 a1_4 a1_5 l1_6)) else (headraceref08_Same.j0 k true a0_0 a0_1 a0_2 a0_3 a0_4 a0_5 l0_6 a1_0 a1_1 a1_2 a1_3 a1_4 a1_5 l1_6)) else (headraceref08_Same.j0 k true a0_0 a0_1 a0_2 a0_3 a0_4 a0_5 l0_6 a1_0 a1_1 a1_2 a1_3 a1_4 a1_5 l1_6)) else (headraceref08_Same.j0 k true a0_0 a0_1 a0_2 a0_3 a0_4 a0_5 l0_6 a1_0 a1_1 a1_2 a1_3 a1_4 a1_5 l1_6)) else (headraceref08_Same.j0 k true a0_0 a0_1 a0_2 a0_3 a0_4 a0_5 l0_6 a1_0 a1_1 a1_2 a1_3 a1_4 a1_5 l1_6))) = some r := h
 clear h
 have HC3 := Aside0.mk H
 clear H
 go_enter Tryz.func15, Tryz.ntmps15
 go_upto_region 1 with (first | (refine bx 2 #[.bool a0_0, .string a0_1, .string a0_2, .int .i64 a0_3, .int .i64 a0_4, .string a0_5, .slice A0_6 l0_6.length c0_6] 24 ?_; intro gb185 hg w4 hbox hb; have BK185 := Aside0.mk (hbox); have GW185 := bG HB hg; have GE185 := bG HB hg; replace HB := bS HB hb; clear hb hbox hg) | (refine bx 3 #[.bool a1_0, .string a1_1, .string a1_2, .int .i64 a1_3, .int .i64 a1_4, .string a1_5, .slice A1_6 l1_6.length c1_6] 24 ?_; intro gb186 hg w5 hbox hb; have BK186 := Aside0.mk (hbox); have GW186 := bG HB hg; have GE186 := bG HB hg; have NB185_186 := bN BK185 hg; have NB186_185 := bM BK185 hg; replace BK185 := bB BK185 hb; replace HB := bS HB hb; clear hb hbox hg))
 repeat (go_quiet (first | (refine bx 2 #[.bool a0_0, .string a0_1, .string a0_2, .int .i64 a0_3, .int .i64 a0_4, .string a0_5, .slice A0_6 l0_6.length c0_6] 24 ?_; intro gb185 hg w4 hbox hb; have BK185 := Aside0.mk (hbox); have GW185 := bG HB hg; have GE185 := bG HB hg; replace HB := bS HB hb; clear hb hbox hg) | (refine bx 3 #[.bool a1_0, .string a1_1, .string a1_2, .int .i64 a1_3, .int .i64 a1_4, .string a1_5, .slice A1_6 l1_6.length c1_6] 24 ?_; intro gb186 hg w5 hbox hb; have BK186 := Aside0.mk (hbox); have GW186 := bG HB hg; have GE186 := bG HB hg; have NB185_186 := bN BK185 hg; have NB186_185 := bM BK185 hg; replace BK185 := bB BK185 hb; replace HB := bS HB hb; clear hb hbox hg)); go_upto_region 1 with (first | (refine bx 2 #[.bool a0_0, .string a0_1, .string a0_2, .int .i64 a0_3, .int .i64 a0_4, .string a0_5, .slice A0_6 l0_6.length c0_6] 24 ?_; intro gb185 hg w4 hbox hb; have BK185 := Aside0.mk (hbox); have GW185 := bG HB hg; have GE185 := bG HB hg; replace HB := bS HB hb; clear hb hbox hg) | (refine bx 3 #[.bool a1_0, .string a1_1, .string a1_2, .int .i64 a1_3, .int .i64 a1_4, .string a1_5, .slice A1_6 l1_6.length c1_6] 24 ?_; intro gb186 hg w5 hbox hb; have BK186 := Aside0.mk (hbox); have GW186 := bG HB hg; have GE186 := bG HB hg; have NB185_186 := bN BK185 hg; have NB186_185 := bM BK185 hg; replace BK185 := bB BK185 hb; replace HB := bS HB hb; clear hb hbox hg)))
 (try simp only [Act.put, List.setIfInBounds_toArray, List.set_cons_zero, List.set_cons_succ])
 go_cut [54] (fun v54 wc => ∃ (kq : Nat) (x54_2 : Bool), v54 = .bool x54_2 ∧ Aside0 (headraceref08_Same.j0 kq x54_2 a0_0 a0_1 a0_2 a0_3 a0_4 a0_5 l0_6 a1_0 a1_1 a1_2 a1_3 a1_4 a1_5 l1_6 = some r) ∧ Aside0 (kq ≤ k) ∧ Aside0 (wc.heap[gb185]? = some (.cells #[.bool a0_0, .string a0_1, .string a0_2, .int .i64 a0_3, .int .i64 a0_4, .string a0_5, (.slice A0_6 l0_6.length c0_6)] 24 (0, 0))) ∧ Aside0 (wc.heap[gb186]? = some (.cells #[.bool a1_0, .string a1_1, .string a1_2, .int .i64 a1_3, .int .i64 a1_4, .string a1_5, (.slice A1_6 l1_6.length c1_6)] 24 (0, 0))) ∧ Aside0 (Below w.heap.size w wc))
 case first =>
  have H := HC3.out
  clear HC3
  by_cases c6 : (a0_0 != a1_0) = true
  ·rw [if_pos c6] at H
   have c6b0 : (a0_0 != a1_0) = true := c6
   (try (have c6b1 : decide (a0_0 = a1_0) = false := by simpa using c6))
   (try (have c6b2 : (a0_0 == a1_0) = false := by simpa using c6))
   (try (have c6b3 : ¬ (a0_0 = a1_0) := by simpa using c6))
   clear c6
   (first | rw [c6b0] | (simp only [i64_w, i32_w]; rw [c6b0]) | skip)
   have H' := Aside0.mk H
   clear H
   have hnb7 := NB185_186.out
   have hnc7 := NB186_185.out
   have zhcz8_0 := bz7 BK185
   have zhcz9_0 := bz7 BK186
   go_wp2
   repeat (go_quiet (fail); try go_wp2)
   go_meet
   case rel => exact ⟨_, (true), (by first | rfl | (simp; done) | (simp [*]; done) | (simp [bneNil, beqNil]; done)), H', ⟨by first | omega | exact Nat.le_refl _⟩, ⟨bk BK185⟩, ⟨bk BK186⟩, ⟨bw HB⟩⟩
  ·rw [if_neg c6] at H
   have c6b0 : (a0_0 != a1_0) = false := by simpa using c6
   (try (have c6b1 : decide (a0_0 = a1_0) = true := by simpa using c6))
   (try (have c6b2 : (a0_0 == a1_0) = true := by simpa using c6))
   clear c6
   (first | rw [c6b0] | (simp only [i64_w, i32_w]; rw [c6b0]) | skip)
   by_cases c10 : a0_1.toList = a1_1.toList
   ·rw [if_pos c10] at H
    have c10b0 : (a0_1.toList == a1_1.toList) = true := beq_iff_eq.mpr c10
    have c10b1 : (a0_1.toList != a1_1.toList) = false := bne_eq_false_iff_eq.mpr c10
    clear c10
    by_cases c11 : a0_2.toList = a1_2.toList
    ·rw [if_pos c11] at H
     have c11b0 : (a0_2.toList == a1_2.toList) = true := beq_iff_eq.mpr c11
     have c11b1 : (a0_2.toList != a1_2.toList) = false := bne_eq_false_iff_eq.mpr c11
     clear c11
     by_cases c12 : a0_3 = a1_3
     ·rw [if_pos c12] at H
      have c12b0 : (a0_3 == a1_3) = true := beq_iff_eq.mpr c12
      have c12b1 : (a0_3 != a1_3) = false := bne_eq_false_iff_eq.mpr c12
      clear c12
      by_cases c13 : a0_4 = a1_4
      ·rw [if_pos c13] at H
       have c13b0 : (a0_4 == a1_4) = true := beq_iff_eq.mpr c13
       have c13b1 : (a0_4 != a1_4) = false := bne_eq_false_iff_eq.mpr c13
       clear c13
       by_cases c14 : a0_5.toList = a1_5.toList
       ·rw [if_pos c14] at H
        have c14b0 : (a0_5.toList == a1_5.toList) = true := beq_iff_eq.mpr c14
        have c14b1 : (a0_5.toList != a1_5.toList) = false := bne_eq_false_iff_eq.mpr c14
        clear c14
        have H' := Aside0.mk H
        clear H
        have hnb15 := NB185_186.out
        have hnc15 := NB186_185.out
        have zhcz16_0 := bz7 BK185
        have zhcz17_0 := bz7 BK186
        go_wp2
        repeat (go_quiet (fail); try go_wp2)
        go_meet
        case rel => exact ⟨_, (((l0_6.length : Int) != (l1_6.length : Int))), (by first | rfl | (simp; done) | (simp [*]; done) | (simp [bneNil, beqNil]; done)), H', ⟨by first | omega | exact Nat.le_refl _⟩, ⟨bk BK185⟩, ⟨bk BK186⟩, ⟨bw HB⟩⟩
       ·rw [if_neg c14] at H
        have c14b0 : (a0_5.toList == a1_5.toList) = false := beq_eq_false_iff_ne.mpr c14
        have c14b1 : (a0_5.toList != a1_5.toList) = true := bne_iff_ne.mpr c14
        have H' := Aside0.mk H
        clear H
        have hnb18 := NB185_186.out
        have hnc18 := NB186_185.out
        have zhcz19_0 := bz7 BK185
        have zhcz20_0 := bz7 BK186
        go_wp2
        repeat (go_quiet (fail); try go_wp2)
        go_meet
        case rel => exact ⟨_, (true), (by first | rfl | (simp; done) | (simp [*]; done) | (simp [bneNil, beqNil]; done)), H', ⟨by first | omega | exact Nat.le_refl _⟩, ⟨bk BK185⟩, ⟨bk BK186⟩, ⟨bw HB⟩⟩
      ·rw [if_neg c13] at H
       have c13b0 : (a0_4 == a1_4) = false := beq_eq_false_iff_ne.mpr c13
       have c13b1 : (a0_4 != a1_4) = true := bne_iff_ne.mpr c13
       have H' := Aside0.mk H
       clear H
       have hnb21 := NB185_186.out
       have hnc21 := NB186_185.out
       have zhcz22_0 := bz7 BK185
       have zhcz23_0 := bz7 BK186
       go_wp2
       repeat (go_quiet (fail); try go_wp2)
       go_meet
       case rel => exact ⟨_, (true), (by first | rfl | (simp; done) | (simp [*]; done) | (simp [bneNil, beqNil]; done)), H', ⟨by first | omega | exact Nat.le_refl _⟩, ⟨bk BK185⟩, ⟨bk BK186⟩, ⟨bw HB⟩⟩
     ·rw [if_neg c12] at H
      have c12b0 : (a0_3 == a1_3) = false := beq_eq_false_iff_ne.mpr c12
      have c12b1 : (a0_3 != a1_3) = true := bne_iff_ne.mpr c12
      have H' := Aside0.mk H
      clear H
      have hnb24 := NB185_186.out
      have hnc24 := NB186_185.out
      have zhcz25_0 := bz7 BK185
      have zhcz26_0 := bz7 BK186
      go_wp2
      repeat (go_quiet (fail); try go_wp2)
      go_meet
      case rel => exact ⟨_, (true), (by first | rfl | (simp; done) | (simp [*]; done) | (simp [bneNil, beqNil]; done)), H', ⟨by first | omega | exact Nat.le_refl _⟩, ⟨bk BK185⟩, ⟨bk BK186⟩, ⟨bw HB⟩⟩
    ·rw [if_neg c11] at H
     have c11b0 : (a0_2.toList == a1_2.toList) = false := beq_eq_false_iff_ne.mpr c11
     have c11b1 : (a0_2.toList != a1_2.toList) = true := bne_iff_ne.mpr c11
     have H' := Aside0.mk H
     clear H
     have hnb27 := NB185_186.out
     have hnc27 := NB186_185.out
     have zhcz28_0 := bz7 BK185
     have zhcz29_0 := bz7 BK186
     go_wp2
     repeat (go_quiet (fail); try go_wp2)
     go_meet
     case rel => exact ⟨_, (true), (by first | rfl | (simp; done) | (simp [*]; done) | (simp [bneNil, beqNil]; done)), H', ⟨by first | omega | exact Nat.le_refl _⟩, ⟨bk BK185⟩, ⟨bk BK186⟩, ⟨bw HB⟩⟩
   ·rw [if_neg c10] at H
    have c10b0 : (a0_1.toList == a1_1.toList) = false := beq_eq_false_iff_ne.mpr c10
    have c10b1 : (a0_1.toList != a1_1.toList) = true := bne_iff_ne.mpr c10
    have H' := Aside0.mk H
    clear H
    have hnb30 := NB185_186.out
    have hnc30 := NB186_185.out
    have zhcz31_0 := bz7 BK185
    have zhcz32_0 := bz7 BK186
    go_wp2
    repeat (go_quiet (fail); try go_wp2)
    go_meet
    case rel => exact ⟨_, (true), (by first | rfl | (simp; done) | (simp [*]; done) | (simp [bneNil, beqNil]; done)), H', ⟨by first | omega | exact Nat.le_refl _⟩, ⟨bk BK185⟩, ⟨bk BK186⟩, ⟨bw HB⟩⟩
 case rest =>
  clear HC3
  try clear zhcz16_0; try clear zhcz17_0; try clear zhcz19_0; try clear zhcz20_0; try clear zhcz22_0; try clear zhcz23_0; try clear zhcz25_0; try clear zhcz26_0; try clear zhcz28_0; try clear zhcz29_0; try clear zhcz31_0; try clear zhcz32_0; try clear zhcz8_0; try clear zhcz9_0
  obtain ⟨kq, x54_2, rfl, HA, HJ2, BK185, BK186, HB⟩ := hcut
  cases kq with
  | zero => exact absurd HA.out (by simp [headraceref08_Same.j0])
  | succ kj2 =>
   have H := HA.out
   clear HA
   simp only [headraceref08_Same.j0] at H
   by_cases c33 : x54_2 = true
   ·subst c33
    have H1 : (some false) = some r := by rw [if_pos rfl] at H; exact H
    clear H
    have H := H1
    clear H1
    obtain rfl := Option.some.inj H
    go_wp2
    repeat (go_quiet (fail); try go_wp2)
    go_ret
    exact ⟨by first | rfl | (simp [errW_none, errW_some] <;> rfl) | (simp [*, errW_none, errW_some] <;> rfl) | (simp [bneNil, beqNil]; done), bw HB⟩
   ·replace c33 := Bool.eq_false_iff.mpr c33
    subst c33
    have H1 : (headraceref08_Same.l0 kj2 (l0_6.length : Int) 0 a0_0 a0_1 a0_2 a0_3 a0_4 a0_5 l0_6 a1_0 a1_1 a1_2 a1_3 a1_4 a1_5 l1_6) = some r := by rw [if_neg (show ¬ (false = true) by decide)] at H; exact H
    clear H
    have H := H1
    clear H1
    have H' := Aside0.mk H
    clear H
    have hnb34 := NB185_186.out
    have hnc34 := NB186_185.out
    have zhcz35_0 := bz7 BK185
    go_wp2
    repeat (go_quiet (fail); try go_wp2)
    go_loopg [58] kj2 (fun kq v58 w' => ∃ (x58_2 : Int), v58 = .int .i64 x58_2 ∧ Aside0 (headraceref08_Same.l0 kq (l0_6.length : Int) x58_2 a0_0 a0_1 a0_2 a0_3 a0_4 a0_5 l0_6 a1_0 a1_1 a1_2 a1_3 a1_4 a1_5 l1_6 = some r) ∧ Aside0 (kq ≤ kj2) ∧ Aside0 (w'.heap[gb185]? = some (.cells #[.bool a0_0, .string a0_1, .string a0_2, .int .i64 a0_3, .int .i64 a0_4, .string a0_5, (.slice A0_6 l0_6.length c0_6)] 24 (0, 0))) ∧ Aside0 (w'.heap[gb186]? = some (.cells #[.bool a1_0, .string a1_1, .string a1_2, .int .i64 a1_3, .int .i64 a1_4, .string a1_5, (.slice A1_6 l1_6.length c1_6)] 24 (0, 0))) ∧ Aside0 (Below w.heap.size w w'))
    case atStart => exact ⟨(0), (by first | rfl | (simp; done) | (simp [*]; done) | (simp [bneNil, beqNil]; done)), H', ⟨Nat.le_refl _⟩, ⟨bk BK185⟩, ⟨bk BK186⟩, ⟨bw HB⟩⟩
    case round =>
     clear H'
     try clear c33; try clear zhcz16_0; try clear zhcz17_0; try clear zhcz19_0; try clear zhcz20_0; try clear zhcz22_0; try clear zhcz23_0; try clear zhcz25_0; try clear zhcz26_0; try clear zhcz28_0; try clear zhcz29_0; try clear zhcz31_0; try clear zhcz32_0; try clear zhcz35_0; try clear zhcz8_0; try clear zhcz9_0
     obtain ⟨x58_2, rfl, HA, HK2, BK185, BK186, HB⟩ := hrel
     cases gk with
     | zero => exact absurd HA.out (by simp [headraceref08_Same.l0])
     | succ k2 =>
      have H := HA.out
      clear HA
      simp only [headraceref08_Same.l0] at H
      by_cases c36 : x58_2 < (l0_6.length : Int)
      ·rw [if_pos c36] at H
       have c36b0 : decide (x58_2 < (l0_6.length : Int)) = true := decide_eq_true c36
       clear c36
       by_cases c37 : 0 ≤ x58_2
       ·rw [if_pos c37] at H
        have c37b0 : decide (0 ≤ x58_2) = true := decide_eq_true c37
        clear c37
        by_cases c38 : x58_2 < (l0_6.length : Int)
        ·rw [if_pos c38] at H
         have c38b0 : decide (x58_2 < (l0_6.length : Int)) = true := decide_eq_true c38
         clear c38
         by_cases c39 : x58_2 < (l1_6.length : Int)
         ·rw [if_pos c39] at H
          have c39b0 : decide (x58_2 < (l1_6.length : Int)) = true := decide_eq_true c39
          clear c39
          by_cases c40 : (!((((rd_T45 l0_6 x58_2).f0).toList) == (((rd_T45 l1_6 x58_2).f0).toList)) || (!((((rd_T45 l0_6 x58_2).f1).toList) == (((rd_T45 l1_6 x58_2).f1).toList)))) = true
          ·rw [if_pos c40] at H
           have c40b0 : (!((((rd_T45 l0_6 x58_2).f0).toList) == (((rd_T45 l1_6 x58_2).f0).toList)) || (!((((rd_T45 l0_6 x58_2).f1).toList) == (((rd_T45 l1_6 x58_2).f1).toList)))) = true := c40
           clear c40
           obtain rfl := Option.some.inj H
           have hnb41 := NB185_186.out
           have hnc41 := NB186_185.out
           have zhcz42_0 := bz7 BK185
           have p187 : 0 ≤ (x58_2 : Int) := of_decide_eq_true bm
           have q187 : x58_2 < (l0_6.length : Int) := of_decide_eq_true bm
           obtain ⟨ad187, e187, hx187_0, hx187_1⟩ := at_T45 HR0_6.out x58_2 p187 q187
           cases e187
           replace hx187_0 := (HB.out.cell (World.block_lt_of_cell? w _ hx187_0)).trans hx187_0
           replace hx187_1 := (HB.out.cell (World.block_lt_of_cell? w _ hx187_1)).trans hx187_1
           replace p187 := eq_true p187
           replace q187 := eq_true q187
           have zhcz43_0 := bz7 BK186
           have p188 : 0 ≤ (x58_2 : Int) := of_decide_eq_true bm
           have q188 : x58_2 < (l1_6.length : Int) := of_decide_eq_true bm
           obtain ⟨ad188, e188, hx188_0, hx188_1⟩ := at_T45 HR1_6.out x58_2 p188 q188
           cases e188
           replace hx188_0 := (HB.out.cell (World.block_lt_of_cell? w _ hx188_0)).trans hx188_0
           replace hx188_1 := (HB.out.cell (World.block_lt_of_cell? w _ hx188_1)).trans hx188_1
           replace p188 := eq_true p188
           replace q188 := eq_true q188
           go_wp2
           repeat (go_quiet (fail); try go_wp2)
           go_ret
           exact ⟨by first | rfl | (simp [errW_none, errW_some] <;> rfl) | (simp [*, errW_none, errW_some] <;> rfl) | (simp [bneNil, beqNil]; done), bw HB⟩
          ·rw [if_neg c40] at H
           have c40b0 : (!((((rd_T45 l0_6 x58_2).f0).toList) == (((rd_T45 l1_6 x58_2).f0).toList)) || (!((((rd_T45 l0_6 x58_2).f1).toList) == (((rd_T45 l1_6 x58_2).f1).toList)))) = false := by simpa using c40
           clear c40
           have H' := Aside0.mk H
           clear H
           have hnb44 := NB185_186.out
           have hnc44 := NB186_185.out
           have zhcz45_0 := bz7 BK185
           have p187 : 0 ≤ (x58_2 : Int) := of_decide_eq_true bm
           have q187 : x58_2 < (l0_6.length : Int) := of_decide_eq_true bm
           obtain ⟨ad187, e187, hx187_0, hx187_1⟩ := at_T45 HR0_6.out x58_2 p187 q187
           cases e187
           replace hx187_0 := (HB.out.cell (World.block_lt_of_cell? w _ hx187_0)).trans hx187_0
           replace hx187_1 := (HB.out.cell (World.block_lt_of_cell? w _ hx187_1)).trans hx187_1
           replace p187 := eq_true p187
           replace q187 := eq_true q187
           have zhcz46_0 := bz7 BK186
           have p188 : 0 ≤ (x58_2 : Int) := of_decide_eq_true bm
           have q188 : x58_2 < (l1_6.length : Int) := of_decide_eq_true bm
           obtain ⟨ad188, e188, hx188_0, hx188_1⟩ := at_T45 HR1_6.out x58_2 p188 q188
           cases e188
           replace hx188_0 := (HB.out.cell (World.block_lt_of_cell? w _ hx188_0)).trans hx188_0
           replace hx188_1 := (HB.out.cell (World.block_lt_of_cell? w _ hx188_1)).trans hx188_1
           replace p188 := eq_true p188
           replace q188 := eq_true q188
           go_wp2
           repeat (go_quiet (fail); try go_wp2)
           go_roundg k2
           case measure => have := HJ2.out; have := HK2.out; omega
           case rel => exact ⟨(wrap64 (x58_2 + 1)), (by first | rfl | (simp; done) | (simp [*]; done) | (simp [bneNil, beqNil]; done)), H', ⟨by have := HJ2.out; have := HK2.out; omega⟩, ⟨bk BK185⟩, ⟨bk BK186⟩, ⟨bw HB⟩⟩
         ·rw [if_neg c39] at H
          exact absurd H (by simp)
        ·rw [if_neg c38] at H
         exact absurd H (by simp)
       ·rw [if_neg c37] at H
        exact absurd H (by simp)
      ·rw [if_neg c36] at H
       have c36b0 : decide (x58_2 < (l0_6.length : Int)) = false := decide_eq_false c36
       clear c36
       obtain rfl := Option.some.inj H
       go_wp2
       repeat (go_quiet (fail); try go_wp2)
       go_ret
       exact ⟨by first | rfl | (simp [errW_none, errW_some] <;> rfl) | (simp [*, errW_none, errW_some] <;> rfl) | (simp [bneNil, beqNil]; done), bw HB⟩

end Go.Proofs.YtmlgejgnjfbblaaGreatDoor.P
/- Laid by a program of this session (hp.py) with the help of the kit's printer: functions as plain Lean functions, and that the machine's calls come to them. -/
namespace Go.Proofs.YtmlgejgnjfbblaaGreatDoor.P
open Go.RowKit Go.Proofs.YtmlgejgnjfbblaaGreatDoorW.PrintWords Go.Proofs.YtmlgejgnjfbblaaGreatDoorW.PrintLast Go.Proofs.YtmlgejgnjfbblaaGreatDoorW.PrintMore
attribute [local go_sem] max2_int min2_int max_two min_two max_three min_three max_four min_four   -- for this text's walks alone
set_option linter.unusedVariables false
set_option linter.unusedSimpArgs false

attribute [local go_sem high] eqA45
/-! ### head_visible: function 38 -/
def head_visible.l0 : Nat → ByteArray → Int → Int → Option (Bool)
 | 0, _, _, _ => none
 | k + 1, x0, x5, x6 => if x6 < x5 then (if 0 ≤ x6 then (if x6 < (x0.size : Int) then (if (bt x0 x6) < 33 then (some false) else (if (bt x0 x6) > 126 then (some false) else (head_visible.l0 k x0 x5 (wrap64 (x6 + 1))))) else (none)) else (none)) else (some (x0.toList != ([] : List UInt8)))
def head_visible.f (k : Nat) (a0 : ByteArray) : Option (Bool) := head_visible.l0 k a0 (a0.size : Int) 0
theorem head_visible.mono_l : ∀ k, (∀ y0 y1 y2, LeO (head_visible.l0 k y0 y1 y2) (head_visible.l0 (k + 1) y0 y1 y2))
 | 0 => fun _ _ _ r h => by simp [head_visible.l0] at h
 | k + 1 => by
  have ih0 := head_visible.mono_l k
  ·intro y0 y1 y2
   unfold head_visible.l0
   repeat' first | with_reducible first | exact ih0 _ _ _ | exact LeO.refl _ | exact LeO.none _ | refine LeO.ite ?_ ?_ | refine LeO.bind ?_ (fun _ => ?_) | exact ih0 _ _ _ | exact LeO.none _ | refine LeO.ite ?_ ?_ | refine LeO.bind ?_ (fun _ => ?_)
theorem head_visible.mono : ∀ a0 k, LeO (head_visible.f k a0) (head_visible.f (k + 1) a0) := by
 intro a0 k
 have ih0 := head_visible.mono_l k
 unfold head_visible.f
 repeat' first | with_reducible first | exact ih0 _ _ _ | exact LeO.refl _ | exact LeO.none _ | refine LeO.ite ?_ ?_ | refine LeO.bind ?_ (fun _ => ?_) | exact ih0 _ _ _ | exact LeO.none _ | refine LeO.ite ?_ ?_ | refine LeO.bind ?_ (fun _ => ?_)
set_option maxHeartbeats 8000000 in
set_option maxRecDepth 100000 in
theorem head_visible.calls (k : Nat) (a0 : ByteArray) (r : Bool) (w : World) (h : head_visible.f k a0 = some r) :
  Calls Tryz.prog 38 #[.string a0] w fun e w' => e = .returned (.bool r) ∧ Drawn0 w w' := by
 have H : (head_visible.l0 k a0 (a0.size : Int) 0) = some r := h
 clear h
 have H' := Aside0.mk H
 clear H
 go_enter Tryz.func38, Tryz.ntmps38
 go_wp2
 go_loopg [6] k (fun kq v6 w' => ∃ (x6_1 : Int), v6 = .int .i64 x6_1 ∧ Aside0 (head_visible.l0 kq a0 (a0.size : Int) x6_1 = some r) ∧ Aside0 (kq ≤ k) ∧ Drawn0 w w')
 case atStart => exact ⟨(0), (by first | rfl | (simp; done) | (simp [*]; done) | (simp [bneNil, beqNil]; done)), H', ⟨Nat.le_refl _⟩, by repeat (first | exact Drawn0.refl _ | apply Drawn0.step)⟩
 case round =>
  clear H'
  obtain ⟨x6_1, rfl, HA, HK1, ⟨m1, rfl⟩⟩ := hrel
  cases gk with
  | zero => exact absurd HA.out (by simp [head_visible.l0])
  | succ k1 =>
   have H := HA.out
   clear HA
   simp only [head_visible.l0] at H
   by_cases c2 : x6_1 < (a0.size : Int)
   ·rw [if_pos c2] at H
    have c2b0 : decide (x6_1 < (a0.size : Int)) = true := decide_eq_true c2
    clear c2
    by_cases c3 : 0 ≤ x6_1
    ·rw [if_pos c3] at H
     have c3b0 : decide (0 ≤ x6_1) = true := decide_eq_true c3
     clear c3
     by_cases c4 : x6_1 < (a0.size : Int)
     ·rw [if_pos c4] at H
      have c4b0 : decide (x6_1 < (a0.size : Int)) = true := decide_eq_true c4
      clear c4
      by_cases c6 : (bt a0 x6_1) < 33
      ·rw [if_pos c6] at H
       have c6b0 : decide ((bt a0 x6_1) < 33) = true := decide_eq_true c6
       clear c6
       obtain rfl := Option.some.inj H
       have p5 : 0 ≤ (x6_1 : Int) := of_decide_eq_true bm
       have q5 : x6_1 < (a0.size : Int) := of_decide_eq_true bm
       have hx5 := bt_at a0 x6_1
       replace p5 := eq_true p5
       replace q5 := eq_true q5
       go_wp2
       go_ret
       exact ⟨by first | rfl | (simp; done) | (simp [*]; done) | (simp [bneNil, beqNil]; done), by repeat (first | exact Drawn0.refl _ | apply Drawn0.step)⟩
      ·rw [if_neg c6] at H
       have c6b0 : decide ((bt a0 x6_1) < 33) = false := decide_eq_false c6
       clear c6
       by_cases c8 : (bt a0 x6_1) > 126
       ·rw [if_pos c8] at H
        have c8b0 : decide (126 < (bt a0 x6_1)) = true := decide_eq_true c8
        clear c8
        obtain rfl := Option.some.inj H
        have p5 : 0 ≤ (x6_1 : Int) := of_decide_eq_true bm
        have q5 : x6_1 < (a0.size : Int) := of_decide_eq_true bm
        have hx5 := bt_at a0 x6_1
        replace p5 := eq_true p5
        replace q5 := eq_true q5
        have p7 : 0 ≤ (x6_1 : Int) := of_decide_eq_true bm
        have q7 : x6_1 < (a0.size : Int) := of_decide_eq_true bm
        have hx7 := bt_at a0 x6_1
        replace p7 := eq_true p7
        replace q7 := eq_true q7
        go_wp2
        go_ret
        exact ⟨by first | rfl | (simp; done) | (simp [*]; done) | (simp [bneNil, beqNil]; done), by repeat (first | exact Drawn0.refl _ | apply Drawn0.step)⟩
       ·rw [if_neg c8] at H
        have c8b0 : decide (126 < (bt a0 x6_1)) = false := decide_eq_false c8
        clear c8
        have H' := Aside0.mk H
        clear H
        have p5 : 0 ≤ (x6_1 : Int) := of_decide_eq_true bm
        have q5 : x6_1 < (a0.size : Int) := of_decide_eq_true bm
        have hx5 := bt_at a0 x6_1
        replace p5 := eq_true p5
        replace q5 := eq_true q5
        have p7 : 0 ≤ (x6_1 : Int) := of_decide_eq_true bm
        have q7 : x6_1 < (a0.size : Int) := of_decide_eq_true bm
        have hx7 := bt_at a0 x6_1
        replace p7 := eq_true p7
        replace q7 := eq_true q7
        go_wp2
        go_roundg k1
        case measure => have := HK1.out; omega
        case rel => exact ⟨(wrap64 (x6_1 + 1)), (by first | rfl | (simp; done) | (simp [*]; done) | (simp [bneNil, beqNil]; done)), H', ⟨by have := HK1.out; omega⟩, by repeat (first | exact Drawn0.refl _ | apply Drawn0.step)⟩
     ·rw [if_neg c4] at H
      exact absurd H (by simp)
    ·rw [if_neg c3] at H
     exact absurd H (by simp)
   ·rw [if_neg c2] at H
    have c2b0 : decide (x6_1 < (a0.size : Int)) = false := decide_eq_false c2
    clear c2
    obtain rfl := Option.some.inj H
    go_wp2
    go_ret
    exact ⟨by first | rfl | (simp; done) | (simp [*]; done) | (simp [bneNil, beqNil]; done), by repeat (first | exact Drawn0.refl _ | apply Drawn0.step)⟩

/-- THE ONE PURE STATEMENT of head_visible: yours. -/
def head_visible.Pure : Prop := ∀ (a0 : ByteArray), a0.size ≤ 140737488351232 → ∃ k, head_visible.f k a0 = some true
theorem head_visible.walk (P : head_visible.Pure) (a0 : ByteArray) (w : World) (w0 : a0.size ≤ 140737488351232) :
  Calls Tryz.prog 38 #[.string a0] w fun e w' => e = .returned (.bool true) ∧ Below w.heap.size w w' := by
 obtain ⟨k, h⟩ := P a0 w0
 refine (head_visible.calls k a0 true w h).mono ?_
 rintro e w' ⟨rfl, hd⟩
 exact ⟨rfl, hd.below⟩

/-! ### head_blank: function 51 -/
def head_blank.f (a0 : Int) : Option (Bool) := if a0 = 32 then (some true) else (some (a0 == 9))
set_option maxHeartbeats 8000000 in
set_option maxRecDepth 100000 in
theorem head_blank.calls (a0 : Int) (r : Bool) (w : World) (h : head_blank.f a0 = some r) :
  Calls Tryz.prog 51 #[.int .u8 a0] w fun e w' => e = .returned (.bool r) ∧ Drawn0 w w' := by
 have H : (if a0 = 32 then (some true) else (some (a0 == 9))) = some r := h
 clear h
 by_cases c2 : a0 = 32
 ·rw [if_pos c2] at H
  have c2b0 : (a0 == 32) = true := beq_iff_eq.mpr c2
  have c2b1 : (a0 != 32) = false := bne_eq_false_iff_eq.mpr c2
  clear c2
  obtain rfl := Option.some.inj H
  go_enter Tryz.func51, Tryz.ntmps51
  go_wp2
  go_ret
  exact ⟨by first | rfl | (simp; done) | (simp [*]; done) | (simp [bneNil, beqNil]; done), by repeat (first | exact Drawn0.refl _ | apply Drawn0.step)⟩
 ·rw [if_neg c2] at H
  have c2b0 : (a0 == 32) = false := beq_eq_false_iff_ne.mpr c2
  have c2b1 : (a0 != 32) = true := bne_iff_ne.mpr c2
  obtain rfl := Option.some.inj H
  go_enter Tryz.func51, Tryz.ntmps51
  go_wp2
  go_ret
  exact ⟨by first | rfl | (simp; done) | (simp [*]; done) | (simp [bneNil, beqNil]; done), by repeat (first | exact Drawn0.refl _ | apply Drawn0.step)⟩

/-- THE ONE PURE STATEMENT of head_blank: yours. -/
def head_blank.Pure : Prop := ∀ (a0 : Int), (Lit.int .u8 a0).wf = true → head_blank.f a0 = some true
theorem head_blank.walk (P : head_blank.Pure) (a0 : Int) (w : World) (w0 : (Lit.int .u8 a0).wf = true) :
  Calls Tryz.prog 51 #[.int .u8 a0] w fun e w' => e = .returned (.bool true) ∧ Below w.heap.size w w' := by
 have h := P a0 w0
 refine (head_blank.calls a0 true w h).mono ?_
 rintro e w' ⟨rfl, hd⟩
 exact ⟨rfl, hd.below⟩

/-! ### head_same: function 13 -/
def head_same.l0 : Nat → List (S45) → Int → Int → Bool → ByteArray → ByteArray → Int → Int → ByteArray → List (S45) → Bool → ByteArray → ByteArray → Int → Int → ByteArray → List (S45) → Option (Bool)
 | 0, _, _, _, _, _, _, _, _, _, _, _, _, _, _, _, _, _ => none
 | k + 1, x15, x16, x17, x190000, x190001, x190002, x190003, x190004, x190005, x190006, x191000, x191001, x191002, x191003, x191004, x191005, x191006 => if x17 < x16 then (if 0 ≤ x17 then (if x17 < (x15.length : Int) then (if x17 < (x191006.length : Int) then (if (!((((rd_T45 x15 x17).f0).toList) == (((rd_T45 x191006 x17).f0).toList)) || (!((((rd_T45 x15 x17).f1).toList) == (((rd_T45 x191006 x17).f1).toList)))) = true then (some false) else (head_same.l0 k x15 x16 (wrap64 (x17 + 1)) x190000 x190001 x190002 x190003 x190004 x190005 x190006 x191000 x191001 x191002 x191003 x191004 x191005 x191006)) else (none)) else (none)) else (none)) else (if (x190000 == x191000) = true then (if x190001.toList = x191001.toList then (if x190002.toList = x191002.toList then (if x190003 = x191003 then (if x190004 = x191004 then (some (x190005.toList == x191005.toList)) else (some false)) else (some false)) else (some false)) else (some false)) else (some false))
def head_same.f (k : Nat) (a0_0 : Bool) (a0_1 : ByteArray) (a0_2 : ByteArray) (a0_3 : Int) (a0_4 : Int) (a0_5 : ByteArray) (l0_6 : List (S45)) (a1_0 : Bool) (a1_1 : ByteArray) (a1_2 : ByteArray) (a1_3 : Int) (a1_4 : Int) (a1_5 : ByteArray) (l1_6 : List (S45)) : Option (Bool) := if (l0_6.length : Int) = (l1_6.length : Int) then (head_same.l0 k l0_6 (l0_6.length : Int) 0 a0_0 a0_1 a0_2 a0_3 a0_4 a0_5 l0_6 a1_0 a1_1 a1_2 a1_3 a1_4 a1_5 l1_6) else (some false)
theorem head_same.mono_l : ∀ k, (∀ y0 y1 y2 y3 y4 y5 y6 y7 y8 y9 y10 y11 y12 y13 y14 y15 y16, LeO (head_same.l0 k y0 y1 y2 y3 y4 y5 y6 y7 y8 y9 y10 y11 y12 y13 y14 y15 y16) (head_same.l0 (k + 1) y0 y1 y2 y3 y4 y5 y6 y7 y8 y9 y10 y11 y12 y13 y14 y15 y16))
 | 0 => fun _ _ _ _ _ _ _ _ _ _ _ _ _ _ _ _ _ r h => by simp [head_same.l0] at h
 | k + 1 => by
  have ih0 := head_same.mono_l k
  ·intro y0 y1 y2 y3 y4 y5 y6 y7 y8 y9 y10 y11 y12 y13 y14 y15 y16
   unfold head_same.l0
   repeat' first | with_reducible first | exact ih0 _ _ _ _ _ _ _ _ _ _ _ _ _ _ _ _ _ | exact LeO.refl _ | exact LeO.none _ | refine LeO.ite ?_ ?_ | refine LeO.bind ?_ (fun _ => ?_) | exact ih0 _ _ _ _ _ _ _ _ _ _ _ _ _ _ _ _ _ | exact LeO.none _ | refine LeO.ite ?_ ?_ | refine LeO.bind ?_ (fun _ => ?_)
theorem head_same.mono : ∀ a0 a1 a2 a3 a4 a5 a6 a7 a8 a9 a10 a11 a12 a13 k, LeO (head_same.f k a0 a1 a2 a3 a4 a5 a6 a7 a8 a9 a10 a11 a12 a13) (head_same.f (k + 1) a0 a1 a2 a3 a4 a5 a6 a7 a8 a9 a10 a11 a12 a13) := by
 intro a0 a1 a2 a3 a4 a5 a6 a7 a8 a9 a10 a11 a12 a13 k
 have ih0 := head_same.mono_l k
 unfold head_same.f
 repeat' first | with_reducible first | exact ih0 _ _ _ _ _ _ _ _ _ _ _ _ _ _ _ _ _ | exact LeO.refl _ | exact LeO.none _ | refine LeO.ite ?_ ?_ | refine LeO.bind ?_ (fun _ => ?_) | exact ih0 _ _ _ _ _ _ _ _ _ _ _ _ _ _ _ _ _ | exact LeO.none _ | refine LeO.ite ?_ ?_ | refine LeO.bind ?_ (fun _ => ?_)
set_option maxHeartbeats 8000000 in
set_option maxRecDepth 100000 in
theorem head_same.calls (k : Nat) (a0_0 : Bool) (a0_1 : ByteArray) (a0_2 : ByteArray) (a0_3 : Int) (a0_4 : Int) (a0_5 : ByteArray) (A0_6 : Option Addr) (c0_6 : Nat) (l0_6 : List (S45)) (a1_0 : Bool) (a1_1 : ByteArray) (a1_2 : ByteArray) (a1_3 : Int) (a1_4 : Int) (a1_5 : ByteArray) (A1_6 : Option Addr) (c1_6 : Nat) (l1_6 : List (S45)) (r : Bool) (w : World) (hr0_6 : Kd.C k45 w A0_6 l0_6.length l0_6) (hc0_6 : l0_6.length ≤ c0_6) (hr1_6 : Kd.C k45 w A1_6 l1_6.length l1_6) (hc1_6 : l1_6.length ≤ c1_6) (h : head_same.f k a0_0 a0_1 a0_2 a0_3 a0_4 a0_5 l0_6 a1_0 a1_1 a1_2 a1_3 a1_4 a1_5 l1_6 = some r) :
  Calls Tryz.prog 13 #[.agg #[.bool a0_0, .string a0_1, .string a0_2, .int .i64 a0_3, .int .i64 a0_4, .string a0_5, .slice A0_6 l0_6.length c0_6], .agg #[.bool a1_0, .string a1_1, .string a1_2, .int .i64 a1_3, .int .i64 a1_4, .string a1_5, .slice A1_6 l1_6.length c1_6]] w fun e w' => e = .returned (.bool r) ∧ Below w.heap.size w w' := by
 have hu24 := Tryz.underlying24
 have hu45 := Tryz.underlying45
 have HR0_6 := Aside0.mk hr0_6
 have HC0_6 := Aside0.mk hc0_6
 clear hr0_6 hc0_6
 have HR1_6 := Aside0.mk hr1_6
 have HC1_6 := Aside0.mk hc1_6
 clear hr1_6 hc1_6
 have HB := Aside0.mk (Below.refl w.heap.size w)
 have H : (if (l0_6.length : Int) = (l1_6.length : Int) then (head_same.l0 k l0_6 (l0_6.length : Int) 0 a0_0 a0_1 a0_2 a0_3 a0_4 a0_5 l0_6 a1_0 a1_1 a1_2 a1_3 a1_4 a1_5 l1_6) else (some false)) = some r := h
 clear h
 by_cases c3 : (l0_6.length : Int) = (l1_6.length : Int)
 ·rw [if_pos c3] at H
  have c3b0 : ((l0_6.length : Int) == (l1_6.length : Int)) = true := beq_iff_eq.mpr c3
  have c3b1 : ((l0_6.length : Int) != (l1_6.length : Int)) = false := bne_eq_false_iff_eq.mpr c3
  have c3b2 : (l0_6.length == l1_6.length) = true := by first | simpa using c3 | (simp at c3 ⊢; omega)
  clear c3
  have H' := Aside0.mk H
  clear H
  go_enter Tryz.func13, Tryz.ntmps13
  go_wp2_with (first | (refine bx 2 #[.bool a0_0, .string a0_1, .string a0_2, .int .i64 a0_3, .int .i64 a0_4, .string a0_5, .slice A0_6 l0_6.length c0_6] 24 ?_; intro gb189 hg w4 hbox hb; have BK189 := Aside0.mk (hbox); have GW189 := bG HB hg; have GE189 := bG HB hg; replace HB := bS HB hb; clear hb hbox hg) | (refine bx 3 #[.bool a1_0, .string a1_1, .string a1_2, .int .i64 a1_3, .int .i64 a1_4, .string a1_5, .slice A1_6 l1_6.length c1_6] 24 ?_; intro gb190 hg w5 hbox hb; have BK190 := Aside0.mk (hbox); have GW190 := bG HB hg; have GE190 := bG HB hg; have NB189_190 := bN BK189 hg; have NB190_189 := bM BK189 hg; replace BK189 := bB BK189 hb; replace HB := bS HB hb; clear hb hbox hg; have hnb6 := NB189_190.out; have hnc6 := NB190_189.out; have zhcz7_0 := bz7 BK189; have zhcz8_0 := bz7 BK190))
  repeat (go_quiet (first | (refine bx 2 #[.bool a0_0, .string a0_1, .string a0_2, .int .i64 a0_3, .int .i64 a0_4, .string a0_5, .slice A0_6 l0_6.length c0_6] 24 ?_; intro gb189 hg w4 hbox hb; have BK189 := Aside0.mk (hbox); have GW189 := bG HB hg; have GE189 := bG HB hg; replace HB := bS HB hb; clear hb hbox hg) | (refine bx 3 #[.bool a1_0, .string a1_1, .string a1_2, .int .i64 a1_3, .int .i64 a1_4, .string a1_5, .slice A1_6 l1_6.length c1_6] 24 ?_; intro gb190 hg w5 hbox hb; have BK190 := Aside0.mk (hbox); have GW190 := bG HB hg; have GE190 := bG HB hg; have NB189_190 := bN BK189 hg; have NB190_189 := bM BK189 hg; replace BK189 := bB BK189 hb; replace HB := bS HB hb; clear hb hbox hg; have hnb6 := NB189_190.out; have hnc6 := NB190_189.out; have zhcz7_0 := bz7 BK189; have zhcz8_0 := bz7 BK190)); try go_wp2_with (first | (refine bx 2 #[.bool a0_0, .string a0_1, .string a0_2, .int .i64 a0_3, .int .i64 a0_4, .string a0_5, .slice A0_6 l0_6.length c0_6] 24 ?_; intro gb189 hg w4 hbox hb; have BK189 := Aside0.mk (hbox); have GW189 := bG HB hg; have GE189 := bG HB hg; replace HB := bS HB hb; clear hb hbox hg) | (refine bx 3 #[.bool a1_0, .string a1_1, .string a1_2, .int .i64 a1_3, .int .i64 a1_4, .string a1_5, .slice A1_6 l1_6.length c1_6] 24 ?_; intro gb190 hg w5 hbox hb; have BK190 := Aside0.mk (hbox); have GW190 := bG HB hg; have GE190 := bG HB hg; have NB189_190 := bN BK189 hg; have NB190_189 := bM BK189 hg; replace BK189 := bB BK189 hb; replace HB := bS HB hb; clear hb hbox hg; have hnb6 := NB189_190.out; have hnc6 := NB190_189.out; have zhcz7_0 := bz7 BK189; have zhcz8_0 := bz7 BK190)))
  go_loopg [17] k (fun kq v17 w' => ∃ (x17_1 : Int), v17 = .int .i64 x17_1 ∧ Aside0 (head_same.l0 kq l0_6 (l0_6.length : Int) x17_1 a0_0 a0_1 a0_2 a0_3 a0_4 a0_5 l0_6 a1_0 a1_1 a1_2 a1_3 a1_4 a1_5 l1_6 = some r) ∧ Aside0 (kq ≤ k) ∧ Aside0 (w'.heap[gb189]? = some (.cells #[.bool a0_0, .string a0_1, .string a0_2, .int .i64 a0_3, .int .i64 a0_4, .string a0_5, (.slice A0_6 l0_6.length c0_6)] 24 (0, 0))) ∧ Aside0 (w'.heap[gb190]? = some (.cells #[.bool a1_0, .string a1_1, .string a1_2, .int .i64 a1_3, .int .i64 a1_4, .string a1_5, (.slice A1_6 l1_6.length c1_6)] 24 (0, 0))) ∧ Aside0 (Below w.heap.size w w'))
  case atStart => exact ⟨(0), (by first | rfl | (simp; done) | (simp [*]; done) | (simp [bneNil, beqNil]; done)), H', ⟨Nat.le_refl _⟩, ⟨bk BK189⟩, ⟨bk BK190⟩, ⟨bw HB⟩⟩
  case round =>
   clear H'
   try clear c3; try clear c3b0; try clear c3b1; try clear c3b2; try clear zhcz7_0; try clear zhcz8_0
   obtain ⟨x17_1, rfl, HA, HK1, BK189, BK190, HB⟩ := hrel
   cases gk with
   | zero => exact absurd HA.out (by simp [head_same.l0])
   | succ k1 =>
    have H := HA.out
    clear HA
    simp only [head_same.l0] at H
    by_cases c9 : x17_1 < (l0_6.length : Int)
    ·rw [if_pos c9] at H
     have c9b0 : decide (x17_1 < (l0_6.length : Int)) = true := decide_eq_true c9
     clear c9
     by_cases c10 : 0 ≤ x17_1
     ·rw [if_pos c10] at H
      have c10b0 : decide (0 ≤ x17_1) = true := decide_eq_true c10
      clear c10
      by_cases c11 : x17_1 < (l0_6.length : Int)
      ·rw [if_pos c11] at H
       have c11b0 : decide (x17_1 < (l0_6.length : Int)) = true := decide_eq_true c11
       clear c11
       by_cases c12 : x17_1 < (l1_6.length : Int)
       ·rw [if_pos c12] at H
        have c12b0 : decide (x17_1 < (l1_6.length : Int)) = true := decide_eq_true c12
        clear c12
        by_cases c13 : (!((((rd_T45 l0_6 x17_1).f0).toList) == (((rd_T45 l1_6 x17_1).f0).toList)) || (!((((rd_T45 l0_6 x17_1).f1).toList) == (((rd_T45 l1_6 x17_1).f1).toList)))) = true
        ·rw [if_pos c13] at H
         have c13b0 : (!((((rd_T45 l0_6 x17_1).f0).toList) == (((rd_T45 l1_6 x17_1).f0).toList)) || (!((((rd_T45 l0_6 x17_1).f1).toList) == (((rd_T45 l1_6 x17_1).f1).toList)))) = true := c13
         clear c13
         obtain rfl := Option.some.inj H
         have p191 : 0 ≤ (x17_1 : Int) := of_decide_eq_true bm
         have q191 : x17_1 < (l0_6.length : Int) := of_decide_eq_true bm
         obtain ⟨ad191, e191, hx191_0, hx191_1⟩ := at_T45 HR0_6.out x17_1 p191 q191
         cases e191
         replace hx191_0 := (HB.out.cell (World.block_lt_of_cell? w _ hx191_0)).trans hx191_0
         replace hx191_1 := (HB.out.cell (World.block_lt_of_cell? w _ hx191_1)).trans hx191_1
         replace p191 := eq_true p191
         replace q191 := eq_true q191
         go_wp2_with (first | (refine bx 6 #[.string (⟨#[]⟩ : ByteArray), .string (⟨#[]⟩ : ByteArray)] 45 ?_; intro gb192 hg w14 hbox hb; have BK192 := Aside0.mk (hbox); have GW192 := bG HB hg; have GE192 := bG HB hg; have NB189_192 := bN BK189 hg; have NB192_189 := bM BK189 hg; have NB190_192 := bN BK190 hg; have NB192_190 := bM BK190 hg; replace BK189 := bB BK189 hb; replace BK190 := bB BK190 hb; replace HB := bS HB hb; clear hb hbox hg; have hnb15 := NB192_189.out; have hnc15 := NB189_192.out; have hnb16 := NB192_190.out; have hnc16 := NB190_192.out; have zhcz17_0 := bz2 BK192; have hnb18 := NB190_189.out; have hnc18 := NB189_190.out; have zhcz19_0 := bz7 BK190; have p193 : 0 ≤ (x17_1 : Int) := of_decide_eq_true bm; have q193 : x17_1 < (l1_6.length : Int) := of_decide_eq_true bm; obtain ⟨ad193, e193, hx193_0, hx193_1⟩ := at_T45 HR1_6.out x17_1 p193 q193; cases e193; have hn193_0 : ad193.block ≠ gb192 := Nat.ne_of_lt (Nat.lt_of_lt_of_le (by have := World.block_lt_of_cell? _ _ hx193_0; first | rwa [add_block] at this | exact this) GW192.out); have hn193_1 : ad193.block ≠ gb192 := Nat.ne_of_lt (Nat.lt_of_lt_of_le (by have := World.block_lt_of_cell? _ _ hx193_0; first | rwa [add_block] at this | exact this) GW192.out); replace hx193_0 := (HB.out.cell (World.block_lt_of_cell? w _ hx193_0)).trans hx193_0; replace hx193_1 := (HB.out.cell (World.block_lt_of_cell? w _ hx193_1)).trans hx193_1; replace hx193_0 := (cell_far (p := ⟨gb192, 0, none⟩) (by first | (rw [add_block]; exact hn193_0) | (show (Addr.add _ _).block ≠ _; rw [add_block]; exact hn193_0) | exact hn193_0) (.string ((rd_T45 l0_6 x17_1).f0))).trans hx193_0; replace hx193_1 := (cell_far (p := ⟨gb192, 0, none⟩) (by first | (rw [add_block]; exact hn193_0) | (show (Addr.add _ _).block ≠ _; rw [add_block]; exact hn193_0) | exact hn193_0) (.string ((rd_T45 l0_6 x17_1).f0))).trans hx193_1; replace hx193_0 := (cell_far (p := ⟨gb192, 1, none⟩) (by first | (rw [add_block]; exact hn193_1) | (show (Addr.add _ _).block ≠ _; rw [add_block]; exact hn193_1) | exact hn193_1) (.string ((rd_T45 l0_6 x17_1).f1))).trans hx193_0; replace hx193_1 := (cell_far (p := ⟨gb192, 1, none⟩) (by first | (rw [add_block]; exact hn193_1) | (show (Addr.add _ _).block ≠ _; rw [add_block]; exact hn193_1) | exact hn193_1) (.string ((rd_T45 l0_6 x17_1).f1))).trans hx193_1; (try have hy193_0 := fun (n_ : Nat) => (show ((((w14.drewN n_).setCell ⟨gb192, 0, none⟩ (.string ((rd_T45 l0_6 x17_1).f0))).setCell ⟨gb192, 1, none⟩ (.string ((rd_T45 l0_6 x17_1).f1)))).cell? _ = some _ from hx193_0)); (try have hy193_1 := fun (n_ : Nat) => (show ((((w14.drewN n_).setCell ⟨gb192, 0, none⟩ (.string ((rd_T45 l0_6 x17_1).f0))).setCell ⟨gb192, 1, none⟩ (.string ((rd_T45 l0_6 x17_1).f1)))).cell? _ = some _ from hx193_1)); clear hn193_0; clear hn193_1; replace p193 := eq_true p193; replace q193 := eq_true q193))
         repeat (go_quiet (first | (refine bx 6 #[.string (⟨#[]⟩ : ByteArray), .string (⟨#[]⟩ : ByteArray)] 45 ?_; intro gb192 hg w14 hbox hb; have BK192 := Aside0.mk (hbox); have GW192 := bG HB hg; have GE192 := bG HB hg; have NB189_192 := bN BK189 hg; have NB192_189 := bM BK189 hg; have NB190_192 := bN BK190 hg; have NB192_190 := bM BK190 hg; replace BK189 := bB BK189 hb; replace BK190 := bB BK190 hb; replace HB := bS HB hb; clear hb hbox hg; have hnb15 := NB192_189.out; have hnc15 := NB189_192.out; have hnb16 := NB192_190.out; have hnc16 := NB190_192.out; have zhcz17_0 := bz2 BK192; have hnb18 := NB190_189.out; have hnc18 := NB189_190.out; have zhcz19_0 := bz7 BK190; have p193 : 0 ≤ (x17_1 : Int) := of_decide_eq_true bm; have q193 : x17_1 < (l1_6.length : Int) := of_decide_eq_true bm; obtain ⟨ad193, e193, hx193_0, hx193_1⟩ := at_T45 HR1_6.out x17_1 p193 q193; cases e193; have hn193_0 : ad193.block ≠ gb192 := Nat.ne_of_lt (Nat.lt_of_lt_of_le (by have := World.block_lt_of_cell? _ _ hx193_0; first | rwa [add_block] at this | exact this) GW192.out); have hn193_1 : ad193.block ≠ gb192 := Nat.ne_of_lt (Nat.lt_of_lt_of_le (by have := World.block_lt_of_cell? _ _ hx193_0; first | rwa [add_block] at this | exact this) GW192.out); replace hx193_0 := (HB.out.cell (World.block_lt_of_cell? w _ hx193_0)).trans hx193_0; replace hx193_1 := (HB.out.cell (World.block_lt_of_cell? w _ hx193_1)).trans hx193_1; replace hx193_0 := (cell_far (p := ⟨gb192, 0, none⟩) (by first | (rw [add_block]; exact hn193_0) | (show (Addr.add _ _).block ≠ _; rw [add_block]; exact hn193_0) | exact hn193_0) (.string ((rd_T45 l0_6 x17_1).f0))).trans hx193_0; replace hx193_1 := (cell_far (p := ⟨gb192, 0, none⟩) (by first | (rw [add_block]; exact hn193_0) | (show (Addr.add _ _).block ≠ _; rw [add_block]; exact hn193_0) | exact hn193_0) (.string ((rd_T45 l0_6 x17_1).f0))).trans hx193_1; replace hx193_0 := (cell_far (p := ⟨gb192, 1, none⟩) (by first | (rw [add_block]; exact hn193_1) | (show (Addr.add _ _).block ≠ _; rw [add_block]; exact hn193_1) | exact hn193_1) (.string ((rd_T45 l0_6 x17_1).f1))).trans hx193_0; replace hx193_1 := (cell_far (p := ⟨gb192, 1, none⟩) (by first | (rw [add_block]; exact hn193_1) | (show (Addr.add _ _).block ≠ _; rw [add_block]; exact hn193_1) | exact hn193_1) (.string ((rd_T45 l0_6 x17_1).f1))).trans hx193_1; (try have hy193_0 := fun (n_ : Nat) => (show ((((w14.drewN n_).setCell ⟨gb192, 0, none⟩ (.string ((rd_T45 l0_6 x17_1).f0))).setCell ⟨gb192, 1, none⟩ (.string ((rd_T45 l0_6 x17_1).f1)))).cell? _ = some _ from hx193_0)); (try have hy193_1 := fun (n_ : Nat) => (show ((((w14.drewN n_).setCell ⟨gb192, 0, none⟩ (.string ((rd_T45 l0_6 x17_1).f0))).setCell ⟨gb192, 1, none⟩ (.string ((rd_T45 l0_6 x17_1).f1)))).cell? _ = some _ from hx193_1)); clear hn193_0; clear hn193_1; replace p193 := eq_true p193; replace q193 := eq_true q193)); try go_wp2_with (first | (refine bx 6 #[.string (⟨#[]⟩ : ByteArray), .string (⟨#[]⟩ : ByteArray)] 45 ?_; intro gb192 hg w14 hbox hb; have BK192 := Aside0.mk (hbox); have GW192 := bG HB hg; have GE192 := bG HB hg; have NB189_192 := bN BK189 hg; have NB192_189 := bM BK189 hg; have NB190_192 := bN BK190 hg; have NB192_190 := bM BK190 hg; replace BK189 := bB BK189 hb; replace BK190 := bB BK190 hb; replace HB := bS HB hb; clear hb hbox hg; have hnb15 := NB192_189.out; have hnc15 := NB189_192.out; have hnb16 := NB192_190.out; have hnc16 := NB190_192.out; have zhcz17_0 := bz2 BK192; have hnb18 := NB190_189.out; have hnc18 := NB189_190.out; have zhcz19_0 := bz7 BK190; have p193 : 0 ≤ (x17_1 : Int) := of_decide_eq_true bm; have q193 : x17_1 < (l1_6.length : Int) := of_decide_eq_true bm; obtain ⟨ad193, e193, hx193_0, hx193_1⟩ := at_T45 HR1_6.out x17_1 p193 q193; cases e193; have hn193_0 : ad193.block ≠ gb192 := Nat.ne_of_lt (Nat.lt_of_lt_of_le (by have := World.block_lt_of_cell? _ _ hx193_0; first | rwa [add_block] at this | exact this) GW192.out); have hn193_1 : ad193.block ≠ gb192 := Nat.ne_of_lt (Nat.lt_of_lt_of_le (by have := World.block_lt_of_cell? _ _ hx193_0; first | rwa [add_block] at this | exact this) GW192.out); replace hx193_0 := (HB.out.cell (World.block_lt_of_cell? w _ hx193_0)).trans hx193_0; replace hx193_1 := (HB.out.cell (World.block_lt_of_cell? w _ hx193_1)).trans hx193_1; replace hx193_0 := (cell_far (p := ⟨gb192, 0, none⟩) (by first | (rw [add_block]; exact hn193_0) | (show (Addr.add _ _).block ≠ _; rw [add_block]; exact hn193_0) | exact hn193_0) (.string ((rd_T45 l0_6 x17_1).f0))).trans hx193_0; replace hx193_1 := (cell_far (p := ⟨gb192, 0, none⟩) (by first | (rw [add_block]; exact hn193_0) | (show (Addr.add _ _).block ≠ _; rw [add_block]; exact hn193_0) | exact hn193_0) (.string ((rd_T45 l0_6 x17_1).f0))).trans hx193_1; replace hx193_0 := (cell_far (p := ⟨gb192, 1, none⟩) (by first | (rw [add_block]; exact hn193_1) | (show (Addr.add _ _).block ≠ _; rw [add_block]; exact hn193_1) | exact hn193_1) (.string ((rd_T45 l0_6 x17_1).f1))).trans hx193_0; replace hx193_1 := (cell_far (p := ⟨gb192, 1, none⟩) (by first | (rw [add_block]; exact hn193_1) | (show (Addr.add _ _).block ≠ _; rw [add_block]; exact hn193_1) | exact hn193_1) (.string ((rd_T45 l0_6 x17_1).f1))).trans hx193_1; (try have hy193_0 := fun (n_ : Nat) => (show ((((w14.drewN n_).setCell ⟨gb192, 0, none⟩ (.string ((rd_T45 l0_6 x17_1).f0))).setCell ⟨gb192, 1, none⟩ (.string ((rd_T45 l0_6 x17_1).f1)))).cell? _ = some _ from hx193_0)); (try have hy193_1 := fun (n_ : Nat) => (show ((((w14.drewN n_).setCell ⟨gb192, 0, none⟩ (.string ((rd_T45 l0_6 x17_1).f0))).setCell ⟨gb192, 1, none⟩ (.string ((rd_T45 l0_6 x17_1).f1)))).cell? _ = some _ from hx193_1)); clear hn193_0; clear hn193_1; replace p193 := eq_true p193; replace q193 := eq_true q193)))
         go_ret
         exact ⟨by first | rfl | (simp [errW_none, errW_some] <;> rfl) | (simp [*, errW_none, errW_some] <;> rfl) | (simp [bneNil, beqNil]; done), bw HB⟩
        ·rw [if_neg c13] at H
         have c13b0 : (!((((rd_T45 l0_6 x17_1).f0).toList) == (((rd_T45 l1_6 x17_1).f0).toList)) || (!((((rd_T45 l0_6 x17_1).f1).toList) == (((rd_T45 l1_6 x17_1).f1).toList)))) = false := by simpa using c13
         clear c13
         have H' := Aside0.mk H
         clear H
         have p191 : 0 ≤ (x17_1 : Int) := of_decide_eq_true bm
         have q191 : x17_1 < (l0_6.length : Int) := of_decide_eq_true bm
         obtain ⟨ad191, e191, hx191_0, hx191_1⟩ := at_T45 HR0_6.out x17_1 p191 q191
         cases e191
         replace hx191_0 := (HB.out.cell (World.block_lt_of_cell? w _ hx191_0)).trans hx191_0
         replace hx191_1 := (HB.out.cell (World.block_lt_of_cell? w _ hx191_1)).trans hx191_1
         replace p191 := eq_true p191
         replace q191 := eq_true q191
         go_wp2_with (first | (refine bx 6 #[.string (⟨#[]⟩ : ByteArray), .string (⟨#[]⟩ : ByteArray)] 45 ?_; intro gb192 hg w20 hbox hb; have BK192 := Aside0.mk (hbox); have GW192 := bG HB hg; have GE192 := bG HB hg; have NB189_192 := bN BK189 hg; have NB192_189 := bM BK189 hg; have NB190_192 := bN BK190 hg; have NB192_190 := bM BK190 hg; replace BK189 := bB BK189 hb; replace BK190 := bB BK190 hb; replace HB := bS HB hb; clear hb hbox hg; have hnb21 := NB192_189.out; have hnc21 := NB189_192.out; have hnb22 := NB192_190.out; have hnc22 := NB190_192.out; have zhcz23_0 := bz2 BK192; have hnb24 := NB190_189.out; have hnc24 := NB189_190.out; have zhcz25_0 := bz7 BK190; have p193 : 0 ≤ (x17_1 : Int) := of_decide_eq_true bm; have q193 : x17_1 < (l1_6.length : Int) := of_decide_eq_true bm; obtain ⟨ad193, e193, hx193_0, hx193_1⟩ := at_T45 HR1_6.out x17_1 p193 q193; cases e193; have hn193_0 : ad193.block ≠ gb192 := Nat.ne_of_lt (Nat.lt_of_lt_of_le (by have := World.block_lt_of_cell? _ _ hx193_0; first | rwa [add_block] at this | exact this) GW192.out); have hn193_1 : ad193.block ≠ gb192 := Nat.ne_of_lt (Nat.lt_of_lt_of_le (by have := World.block_lt_of_cell? _ _ hx193_0; first | rwa [add_block] at this | exact this) GW192.out); replace hx193_0 := (HB.out.cell (World.block_lt_of_cell? w _ hx193_0)).trans hx193_0; replace hx193_1 := (HB.out.cell (World.block_lt_of_cell? w _ hx193_1)).trans hx193_1; replace hx193_0 := (cell_far (p := ⟨gb192, 0, none⟩) (by first | (rw [add_block]; exact hn193_0) | (show (Addr.add _ _).block ≠ _; rw [add_block]; exact hn193_0) | exact hn193_0) (.string ((rd_T45 l0_6 x17_1).f0))).trans hx193_0; replace hx193_1 := (cell_far (p := ⟨gb192, 0, none⟩) (by first | (rw [add_block]; exact hn193_0) | (show (Addr.add _ _).block ≠ _; rw [add_block]; exact hn193_0) | exact hn193_0) (.string ((rd_T45 l0_6 x17_1).f0))).trans hx193_1; replace hx193_0 := (cell_far (p := ⟨gb192, 1, none⟩) (by first | (rw [add_block]; exact hn193_1) | (show (Addr.add _ _).block ≠ _; rw [add_block]; exact hn193_1) | exact hn193_1) (.string ((rd_T45 l0_6 x17_1).f1))).trans hx193_0; replace hx193_1 := (cell_far (p := ⟨gb192, 1, none⟩) (by first | (rw [add_block]; exact hn193_1) | (show (Addr.add _ _).block ≠ _; rw [add_block]; exact hn193_1) | exact hn193_1) (.string ((rd_T45 l0_6 x17_1).f1))).trans hx193_1; (try have hy193_0 := fun (n_ : Nat) => (show ((((w20.drewN n_).setCell ⟨gb192, 0, none⟩ (.string ((rd_T45 l0_6 x17_1).f0))).setCell ⟨gb192, 1, none⟩ (.string ((rd_T45 l0_6 x17_1).f1)))).cell? _ = some _ from hx193_0)); (try have hy193_1 := fun (n_ : Nat) => (show ((((w20.drewN n_).setCell ⟨gb192, 0, none⟩ (.string ((rd_T45 l0_6 x17_1).f0))).setCell ⟨gb192, 1, none⟩ (.string ((rd_T45 l0_6 x17_1).f1)))).cell? _ = some _ from hx193_1)); clear hn193_0; clear hn193_1; replace p193 := eq_true p193; replace q193 := eq_true q193))
         repeat (go_quiet (first | (refine bx 6 #[.string (⟨#[]⟩ : ByteArray), .string (⟨#[]⟩ : ByteArray)] 45 ?_; intro gb192 hg w20 hbox hb; have BK192 := Aside0.mk (hbox); have GW192 := bG HB hg; have GE192 := bG HB hg; have NB189_192 := bN BK189 hg; have NB192_189 := bM BK189 hg; have NB190_192 := bN BK190 hg; have NB192_190 := bM BK190 hg; replace BK189 := bB BK189 hb; replace BK190 := bB BK190 hb; replace HB := bS HB hb; clear hb hbox hg; have hnb21 := NB192_189.out; have hnc21 := NB189_192.out; have hnb22 := NB192_190.out; have hnc22 := NB190_192.out; have zhcz23_0 := bz2 BK192; have hnb24 := NB190_189.out; have hnc24 := NB189_190.out; have zhcz25_0 := bz7 BK190; have p193 : 0 ≤ (x17_1 : Int) := of_decide_eq_true bm; have q193 : x17_1 < (l1_6.length : Int) := of_decide_eq_true bm; obtain ⟨ad193, e193, hx193_0, hx193_1⟩ := at_T45 HR1_6.out x17_1 p193 q193; cases e193; have hn193_0 : ad193.block ≠ gb192 := Nat.ne_of_lt (Nat.lt_of_lt_of_le (by have := World.block_lt_of_cell? _ _ hx193_0; first | rwa [add_block] at this | exact this) GW192.out); have hn193_1 : ad193.block ≠ gb192 := Nat.ne_of_lt (Nat.lt_of_lt_of_le (by have := World.block_lt_of_cell? _ _ hx193_0; first | rwa [add_block] at this | exact this) GW192.out); replace hx193_0 := (HB.out.cell (World.block_lt_of_cell? w _ hx193_0)).trans hx193_0; replace hx193_1 := (HB.out.cell (World.block_lt_of_cell? w _ hx193_1)).trans hx193_1; replace hx193_0 := (cell_far (p := ⟨gb192, 0, none⟩) (by first | (rw [add_block]; exact hn193_0) | (show (Addr.add _ _).block ≠ _; rw [add_block]; exact hn193_0) | exact hn193_0) (.string ((rd_T45 l0_6 x17_1).f0))).trans hx193_0; replace hx193_1 := (cell_far (p := ⟨gb192, 0, none⟩) (by first | (rw [add_block]; exact hn193_0) | (show (Addr.add _ _).block ≠ _; rw [add_block]; exact hn193_0) | exact hn193_0) (.string ((rd_T45 l0_6 x17_1).f0))).trans hx193_1; replace hx193_0 := (cell_far (p := ⟨gb192, 1, none⟩) (by first | (rw [add_block]; exact hn193_1) | (show (Addr.add _ _).block ≠ _; rw [add_block]; exact hn193_1) | exact hn193_1) (.string ((rd_T45 l0_6 x17_1).f1))).trans hx193_0; replace hx193_1 := (cell_far (p := ⟨gb192, 1, none⟩) (by first | (rw [add_block]; exact hn193_1) | (show (Addr.add _ _).block ≠ _; rw [add_block]; exact hn193_1) | exact hn193_1) (.string ((rd_T45 l0_6 x17_1).f1))).trans hx193_1; (try have hy193_0 := fun (n_ : Nat) => (show ((((w20.drewN n_).setCell ⟨gb192, 0, none⟩ (.string ((rd_T45 l0_6 x17_1).f0))).setCell ⟨gb192, 1, none⟩ (.string ((rd_T45 l0_6 x17_1).f1)))).cell? _ = some _ from hx193_0)); (try have hy193_1 := fun (n_ : Nat) => (show ((((w20.drewN n_).setCell ⟨gb192, 0, none⟩ (.string ((rd_T45 l0_6 x17_1).f0))).setCell ⟨gb192, 1, none⟩ (.string ((rd_T45 l0_6 x17_1).f1)))).cell? _ = some _ from hx193_1)); clear hn193_0; clear hn193_1; replace p193 := eq_true p193; replace q193 := eq_true q193)); try go_wp2_with (first | (refine bx 6 #[.string (⟨#[]⟩ : ByteArray), .string (⟨#[]⟩ : ByteArray)] 45 ?_; intro gb192 hg w20 hbox hb; have BK192 := Aside0.mk (hbox); have GW192 := bG HB hg; have GE192 := bG HB hg; have NB189_192 := bN BK189 hg; have NB192_189 := bM BK189 hg; have NB190_192 := bN BK190 hg; have NB192_190 := bM BK190 hg; replace BK189 := bB BK189 hb; replace BK190 := bB BK190 hb; replace HB := bS HB hb; clear hb hbox hg; have hnb21 := NB192_189.out; have hnc21 := NB189_192.out; have hnb22 := NB192_190.out; have hnc22 := NB190_192.out; have zhcz23_0 := bz2 BK192; have hnb24 := NB190_189.out; have hnc24 := NB189_190.out; have zhcz25_0 := bz7 BK190; have p193 : 0 ≤ (x17_1 : Int) := of_decide_eq_true bm; have q193 : x17_1 < (l1_6.length : Int) := of_decide_eq_true bm; obtain ⟨ad193, e193, hx193_0, hx193_1⟩ := at_T45 HR1_6.out x17_1 p193 q193; cases e193; have hn193_0 : ad193.block ≠ gb192 := Nat.ne_of_lt (Nat.lt_of_lt_of_le (by have := World.block_lt_of_cell? _ _ hx193_0; first | rwa [add_block] at this | exact this) GW192.out); have hn193_1 : ad193.block ≠ gb192 := Nat.ne_of_lt (Nat.lt_of_lt_of_le (by have := World.block_lt_of_cell? _ _ hx193_0; first | rwa [add_block] at this | exact this) GW192.out); replace hx193_0 := (HB.out.cell (World.block_lt_of_cell? w _ hx193_0)).trans hx193_0; replace hx193_1 := (HB.out.cell (World.block_lt_of_cell? w _ hx193_1)).trans hx193_1; replace hx193_0 := (cell_far (p := ⟨gb192, 0, none⟩) (by first | (rw [add_block]; exact hn193_0) | (show (Addr.add _ _).block ≠ _; rw [add_block]; exact hn193_0) | exact hn193_0) (.string ((rd_T45 l0_6 x17_1).f0))).trans hx193_0; replace hx193_1 := (cell_far (p := ⟨gb192, 0, none⟩) (by first | (rw [add_block]; exact hn193_0) | (show (Addr.add _ _).block ≠ _; rw [add_block]; exact hn193_0) | exact hn193_0) (.string ((rd_T45 l0_6 x17_1).f0))).trans hx193_1; replace hx193_0 := (cell_far (p := ⟨gb192, 1, none⟩) (by first | (rw [add_block]; exact hn193_1) | (show (Addr.add _ _).block ≠ _; rw [add_block]; exact hn193_1) | exact hn193_1) (.string ((rd_T45 l0_6 x17_1).f1))).trans hx193_0; replace hx193_1 := (cell_far (p := ⟨gb192, 1, none⟩) (by first | (rw [add_block]; exact hn193_1) | (show (Addr.add _ _).block ≠ _; rw [add_block]; exact hn193_1) | exact hn193_1) (.string ((rd_T45 l0_6 x17_1).f1))).trans hx193_1; (try have hy193_0 := fun (n_ : Nat) => (show ((((w20.drewN n_).setCell ⟨gb192, 0, none⟩ (.string ((rd_T45 l0_6 x17_1).f0))).setCell ⟨gb192, 1, none⟩ (.string ((rd_T45 l0_6 x17_1).f1)))).cell? _ = some _ from hx193_0)); (try have hy193_1 := fun (n_ : Nat) => (show ((((w20.drewN n_).setCell ⟨gb192, 0, none⟩ (.string ((rd_T45 l0_6 x17_1).f0))).setCell ⟨gb192, 1, none⟩ (.string ((rd_T45 l0_6 x17_1).f1)))).cell? _ = some _ from hx193_1)); clear hn193_0; clear hn193_1; replace p193 := eq_true p193; replace q193 := eq_true q193)))
         go_roundg k1
         case measure => have := HK1.out; omega
         case rel => exact ⟨(wrap64 (x17_1 + 1)), (by first | rfl | (simp; done) | (simp [*]; done) | (simp [bneNil, beqNil]; done)), H', ⟨by have := HK1.out; omega⟩, ⟨bq⟩, ⟨bq⟩, ⟨bw HB⟩⟩
       ·rw [if_neg c12] at H
        exact absurd H (by simp)
      ·rw [if_neg c11] at H
       exact absurd H (by simp)
     ·rw [if_neg c10] at H
      exact absurd H (by simp)
    ·rw [if_neg c9] at H
     have c9b0 : decide (x17_1 < (l0_6.length : Int)) = false := decide_eq_false c9
     clear c9
     by_cases c26 : (a0_0 == a1_0) = true
     ·rw [if_pos c26] at H
      have c26b0 : (a0_0 == a1_0) = true := c26
      (try (have c26b1 : decide (a0_0 = a1_0) = true := by simpa using c26))
      (try (have c26b2 : (a0_0 == a1_0) = true := by simpa using c26))
      clear c26
      by_cases c27 : a0_1.toList = a1_1.toList
      ·rw [if_pos c27] at H
       have c27b0 : (a0_1.toList == a1_1.toList) = true := beq_iff_eq.mpr c27
       have c27b1 : (a0_1.toList != a1_1.toList) = false := bne_eq_false_iff_eq.mpr c27
       clear c27
       by_cases c28 : a0_2.toList = a1_2.toList
       ·rw [if_pos c28] at H
        have c28b0 : (a0_2.toList == a1_2.toList) = true := beq_iff_eq.mpr c28
        have c28b1 : (a0_2.toList != a1_2.toList) = false := bne_eq_false_iff_eq.mpr c28
        clear c28
        by_cases c29 : a0_3 = a1_3
        ·rw [if_pos c29] at H
         have c29b0 : (a0_3 == a1_3) = true := beq_iff_eq.mpr c29
         have c29b1 : (a0_3 != a1_3) = false := bne_eq_false_iff_eq.mpr c29
         clear c29
         by_cases c30 : a0_4 = a1_4
         ·rw [if_pos c30] at H
          have c30b0 : (a0_4 == a1_4) = true := beq_iff_eq.mpr c30
          have c30b1 : (a0_4 != a1_4) = false := bne_eq_false_iff_eq.mpr c30
          clear c30
          obtain rfl := Option.some.inj H
          have hnb31 := NB189_190.out
          have hnc31 := NB190_189.out
          have zhcz32_0 := bz7 BK189
          have zhcz33_0 := bz7 BK190
          go_wp2
          repeat (go_quiet (fail); try go_wp2)
          go_ret
          exact ⟨by first | rfl | (simp [errW_none, errW_some] <;> rfl) | (simp [*, errW_none, errW_some] <;> rfl) | (simp [bneNil, beqNil]; done), bw HB⟩
         ·rw [if_neg c30] at H
          have c30b0 : (a0_4 == a1_4) = false := beq_eq_false_iff_ne.mpr c30
          have c30b1 : (a0_4 != a1_4) = true := bne_iff_ne.mpr c30
          obtain rfl := Option.some.inj H
          have hnb34 := NB189_190.out
          have hnc34 := NB190_189.out
          have zhcz35_0 := bz7 BK189
          have zhcz36_0 := bz7 BK190
          go_wp2
          repeat (go_quiet (fail); try go_wp2)
          go_ret
          exact ⟨by first | rfl | (simp [errW_none, errW_some] <;> rfl) | (simp [*, errW_none, errW_some] <;> rfl) | (simp [bneNil, beqNil]; done), bw HB⟩
        ·rw [if_neg c29] at H
         have c29b0 : (a0_3 == a1_3) = false := beq_eq_false_iff_ne.mpr c29
         have c29b1 : (a0_3 != a1_3) = true := bne_iff_ne.mpr c29
         obtain rfl := Option.some.inj H
         have hnb37 := NB189_190.out
         have hnc37 := NB190_189.out
         have zhcz38_0 := bz7 BK189
         have zhcz39_0 := bz7 BK190
         go_wp2
         repeat (go_quiet (fail); try go_wp2)
         go_ret
         exact ⟨by first | rfl | (simp [errW_none, errW_some] <;> rfl) | (simp [*, errW_none, errW_some] <;> rfl) | (simp [bneNil, beqNil]; done), bw HB⟩
       ·rw [if_neg c28] at H
        have c28b0 : (a0_2.toList == a1_2.toList) = false := beq_eq_false_iff_ne.mpr c28
        have c28b1 : (a0_2.toList != a1_2.toList) = true := bne_iff_ne.mpr c28
        obtain rfl := Option.some.inj H
        have hnb40 := NB189_190.out
        have hnc40 := NB190_189.out
        have zhcz41_0 := bz7 BK189
        have zhcz42_0 := bz7 BK190
        go_wp2
        repeat (go_quiet (fail); try go_wp2)
        go_ret
        exact ⟨by first | rfl | (simp [errW_none, errW_some] <;> rfl) | (simp [*, errW_none, errW_some] <;> rfl) | (simp [bneNil, beqNil]; done), bw HB⟩
      ·rw [if_neg c27] at H
       have c27b0 : (a0_1.toList == a1_1.toList) = false := beq_eq_false_iff_ne.mpr c27
       have c27b1 : (a0_1.toList != a1_1.toList) = true := bne_iff_ne.mpr c27
       obtain rfl := Option.some.inj H
       have hnb43 := NB189_190.out
       have hnc43 := NB190_189.out
       have zhcz44_0 := bz7 BK189
       have zhcz45_0 := bz7 BK190
       go_wp2
       repeat (go_quiet (fail); try go_wp2)
       go_ret
       exact ⟨by first | rfl | (simp [errW_none, errW_some] <;> rfl) | (simp [*, errW_none, errW_some] <;> rfl) | (simp [bneNil, beqNil]; done), bw HB⟩
     ·rw [if_neg c26] at H
      have c26b0 : (a0_0 == a1_0) = false := by simpa using c26
      (try (have c26b1 : decide (a0_0 = a1_0) = false := by simpa using c26))
      (try (have c26b2 : (a0_0 == a1_0) = false := by simpa using c26))
      (try (have c26b3 : ¬ (a0_0 = a1_0) := by simpa using c26))
      clear c26
      obtain rfl := Option.some.inj H
      have hnb46 := NB189_190.out
      have hnc46 := NB190_189.out
      have zhcz47_0 := bz7 BK189
      have zhcz48_0 := bz7 BK190
      go_wp2
      repeat (go_quiet (fail); try go_wp2)
      go_ret
      exact ⟨by first | rfl | (simp [errW_none, errW_some] <;> rfl) | (simp [*, errW_none, errW_some] <;> rfl) | (simp [bneNil, beqNil]; done), bw HB⟩
 ·rw [if_neg c3] at H
  have c3b0 : ((l0_6.length : Int) == (l1_6.length : Int)) = false := beq_eq_false_iff_ne.mpr c3
  have c3b1 : ((l0_6.length : Int) != (l1_6.length : Int)) = true := bne_iff_ne.mpr c3
  have c3b2 : (l0_6.length == l1_6.length) = false := by first | simpa using c3 | (simp at c3 ⊢; omega)
  obtain rfl := Option.some.inj H
  go_enter Tryz.func13, Tryz.ntmps13
  go_wp2_with (first | (refine bx 2 #[.bool a0_0, .string a0_1, .string a0_2, .int .i64 a0_3, .int .i64 a0_4, .string a0_5, .slice A0_6 l0_6.length c0_6] 24 ?_; intro gb189 hg w49 hbox hb; have BK189 := Aside0.mk (hbox); have GW189 := bG HB hg; have GE189 := bG HB hg; replace HB := bS HB hb; clear hb hbox hg) | (refine bx 3 #[.bool a1_0, .string a1_1, .string a1_2, .int .i64 a1_3, .int .i64 a1_4, .string a1_5, .slice A1_6 l1_6.length c1_6] 24 ?_; intro gb190 hg w50 hbox hb; have BK190 := Aside0.mk (hbox); have GW190 := bG HB hg; have GE190 := bG HB hg; have NB189_190 := bN BK189 hg; have NB190_189 := bM BK189 hg; replace BK189 := bB BK189 hb; replace HB := bS HB hb; clear hb hbox hg; have hnb51 := NB189_190.out; have hnc51 := NB190_189.out; have zhcz52_0 := bz7 BK189; have zhcz53_0 := bz7 BK190))
  repeat (go_quiet (first | (refine bx 2 #[.bool a0_0, .string a0_1, .string a0_2, .int .i64 a0_3, .int .i64 a0_4, .string a0_5, .slice A0_6 l0_6.length c0_6] 24 ?_; intro gb189 hg w49 hbox hb; have BK189 := Aside0.mk (hbox); have GW189 := bG HB hg; have GE189 := bG HB hg; replace HB := bS HB hb; clear hb hbox hg) | (refine bx 3 #[.bool a1_0, .string a1_1, .string a1_2, .int .i64 a1_3, .int .i64 a1_4, .string a1_5, .slice A1_6 l1_6.length c1_6] 24 ?_; intro gb190 hg w50 hbox hb; have BK190 := Aside0.mk (hbox); have GW190 := bG HB hg; have GE190 := bG HB hg; have NB189_190 := bN BK189 hg; have NB190_189 := bM BK189 hg; replace BK189 := bB BK189 hb; replace HB := bS HB hb; clear hb hbox hg; have hnb51 := NB189_190.out; have hnc51 := NB190_189.out; have zhcz52_0 := bz7 BK189; have zhcz53_0 := bz7 BK190)); try go_wp2_with (first | (refine bx 2 #[.bool a0_0, .string a0_1, .string a0_2, .int .i64 a0_3, .int .i64 a0_4, .string a0_5, .slice A0_6 l0_6.length c0_6] 24 ?_; intro gb189 hg w49 hbox hb; have BK189 := Aside0.mk (hbox); have GW189 := bG HB hg; have GE189 := bG HB hg; replace HB := bS HB hb; clear hb hbox hg) | (refine bx 3 #[.bool a1_0, .string a1_1, .string a1_2, .int .i64 a1_3, .int .i64 a1_4, .string a1_5, .slice A1_6 l1_6.length c1_6] 24 ?_; intro gb190 hg w50 hbox hb; have BK190 := Aside0.mk (hbox); have GW190 := bG HB hg; have GE190 := bG HB hg; have NB189_190 := bN BK189 hg; have NB190_189 := bM BK189 hg; replace BK189 := bB BK189 hb; replace HB := bS HB hb; clear hb hbox hg; have hnb51 := NB189_190.out; have hnc51 := NB190_189.out; have zhcz52_0 := bz7 BK189; have zhcz53_0 := bz7 BK190)))
  go_ret
  exact ⟨by first | rfl | (simp [errW_none, errW_some] <;> rfl) | (simp [*, errW_none, errW_some] <;> rfl) | (simp [bneNil, beqNil]; done), bw HB⟩

end Go.Proofs.YtmlgejgnjfbblaaGreatDoor.P
