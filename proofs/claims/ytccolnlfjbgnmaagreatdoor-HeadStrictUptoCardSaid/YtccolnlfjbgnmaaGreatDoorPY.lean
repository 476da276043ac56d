/- Laid by a program of this session (hp.py) with the help of the kit's printer: functions as plain Lean functions, and that the machine's calls come to them. -/
import Derived.Test.YtccolnlfjbgnmaaGreatDoorPZ
namespace Go.Proofs.YtccolnlfjbgnmaaGreatDoor.P
open Go.RowKit Go.Proofs.YtccolnlfjbgnmaaGreatDoorW.PrintWords Go.Proofs.YtccolnlfjbgnmaaGreatDoorW.PrintLast Go.Proofs.YtccolnlfjbgnmaaGreatDoorW.PrintMore
attribute [local go_sem] max2_int min2_int max_two min_two max_three min_three max_four min_four   -- for this text's walks alone
set_option linter.unusedVariables false
set_option linter.unusedSimpArgs false

end Go.Proofs.YtccolnlfjbgnmaaGreatDoor.P
/- Laid by a program of this session (hp.py) with the help of the kit's printer: functions as plain Lean functions, and that the machine's calls come to them. -/
namespace Go.Proofs.YtccolnlfjbgnmaaGreatDoor.P
open Go.RowKit Go.Proofs.YtccolnlfjbgnmaaGreatDoorW.PrintWords Go.Proofs.YtccolnlfjbgnmaaGreatDoorW.PrintLast Go.Proofs.YtccolnlfjbgnmaaGreatDoorW.PrintMore
attribute [local go_sem] max2_int min2_int max_two min_two max_three min_three max_four min_four   -- for this text's walks alone
set_option linter.unusedVariables false
set_option linter.unusedSimpArgs false

end Go.Proofs.YtccolnlfjbgnmaaGreatDoor.P
/- Laid by a program of this session (hp.py) with the help of the kit's printer: functions as plain Lean functions, and that the machine's calls come to them. -/
namespace Go.Proofs.YtccolnlfjbgnmaaGreatDoor.P
open Go.RowKit Go.Proofs.YtccolnlfjbgnmaaGreatDoorW.PrintWords Go.Proofs.YtccolnlfjbgnmaaGreatDoorW.PrintLast Go.Proofs.YtccolnlfjbgnmaaGreatDoorW.PrintMore
attribute [local go_sem] max2_int min2_int max_two min_two max_three min_three max_four min_four   -- for this text's walks alone
set_option linter.unusedVariables false
set_option linter.unusedSimpArgs false

end Go.Proofs.YtccolnlfjbgnmaaGreatDoor.P
/- Laid by a program of this session (hp.py) with the help of the kit's printer: functions as plain Lean functions, and that the machine's calls come to them. -/
namespace Go.Proofs.YtccolnlfjbgnmaaGreatDoor.P
open Go.RowKit Go.Proofs.YtccolnlfjbgnmaaGreatDoorW.PrintWords Go.Proofs.YtccolnlfjbgnmaaGreatDoorW.PrintLast Go.Proofs.YtccolnlfjbgnmaaGreatDoorW.PrintMore
attribute [local go_sem] max2_int min2_int max_two min_two max_three min_three max_four min_four   -- for this text's walks alone
set_option linter.unusedVariables false
set_option linter.unusedSimpArgs false

end Go.Proofs.YtccolnlfjbgnmaaGreatDoor.P
/- Laid by a program of this session (hp.py) with the help of the kit's printer: functions as plain Lean functions, and that the machine's calls come to them. -/
namespace Go.Proofs.YtccolnlfjbgnmaaGreatDoor.P
open Go.RowKit Go.Proofs.YtccolnlfjbgnmaaGreatDoorW.PrintWords Go.Proofs.YtccolnlfjbgnmaaGreatDoorW.PrintLast Go.Proofs.YtccolnlfjbgnmaaGreatDoorW.PrintMore
attribute [local go_sem] max2_int min2_int max_two min_two max_three min_three max_four min_four   -- for this text's walks alone
set_option linter.unusedVariables false
set_option linter.unusedSimpArgs false

end Go.Proofs.YtccolnlfjbgnmaaGreatDoor.P
/- Laid by a program of this session (hp.py) with the help of the kit's printer: functions as plain Lean functions, and that the machine's calls come to them. -/
namespace Go.Proofs.YtccolnlfjbgnmaaGreatDoor.P
open Go.RowKit Go.Proofs.YtccolnlfjbgnmaaGreatDoorW.PrintWords Go.Proofs.YtccolnlfjbgnmaaGreatDoorW.PrintLast Go.Proofs.YtccolnlfjbgnmaaGreatDoorW.PrintMore
attribute [local go_sem] max2_int min2_int max_two min_two max_three min_three max_four min_four   -- for this text's walks alone
set_option linter.unusedVariables false
set_option linter.unusedSimpArgs false

end Go.Proofs.YtccolnlfjbgnmaaGreatDoor.P
/- Laid by a program of this session (hp.py) with the help of the kit's printer: functions as plain Lean functions, and that the machine's calls come to them. -/
namespace Go.Proofs.YtccolnlfjbgnmaaGreatDoor.P
open Go.RowKit Go.Proofs.YtccolnlfjbgnmaaGreatDoorW.PrintWords Go.Proofs.YtccolnlfjbgnmaaGreatDoorW.PrintLast Go.Proofs.YtccolnlfjbgnmaaGreatDoorW.PrintMore
attribute [local go_sem] max2_int min2_int max_two min_two max_three min_three max_four min_four   -- for this text's walks alone
set_option linter.unusedVariables false
set_option linter.unusedSimpArgs false

end Go.Proofs.YtccolnlfjbgnmaaGreatDoor.P
/- Laid by a program of this session (hp.py) with the help of the kit's printer: functions as plain Lean functions, and that the machine's calls come to them. -/
namespace Go.Proofs.YtccolnlfjbgnmaaGreatDoor.P
open Go.RowKit Go.Proofs.YtccolnlfjbgnmaaGreatDoorW.PrintWords Go.Proofs.YtccolnlfjbgnmaaGreatDoorW.PrintLast Go.Proofs.YtccolnlfjbgnmaaGreatDoorW.PrintMore
attribute [local go_sem] max2_int min2_int max_two min_two max_three min_three max_four min_four   -- for this text's walks alone
set_option linter.unusedVariables false
set_option linter.unusedSimpArgs false

attribute [local go_sem high] eqA37
end Go.Proofs.YtccolnlfjbgnmaaGreatDoor.P
/- Laid by a program of this session (hp.py) with the help of the kit's printer: functions as plain Lean functions, and that the machine's calls come to them. -/
namespace Go.Proofs.YtccolnlfjbgnmaaGreatDoor.P
open Go.RowKit Go.Proofs.YtccolnlfjbgnmaaGreatDoorW.PrintWords Go.Proofs.YtccolnlfjbgnmaaGreatDoorW.PrintLast Go.Proofs.YtccolnlfjbgnmaaGreatDoorW.PrintMore
attribute [local go_sem] max2_int min2_int max_two min_two max_three min_three max_four min_four   -- for this text's walks alone
set_option linter.unusedVariables false
set_option linter.unusedSimpArgs false

attribute [local go_sem high] eqA37
/-! ### head_visible: function 89 -/
def head_visible.l0 : Nat → ByteArray → Int → Int → Option (Bool)
  | 0, _, _, _ => none
  | k + 1, x0, x5, x6 => if x6 < x5 then (if 0 ≤ x6 then (if x6 < (x0.size : Int) then (if (bt x0 x6) < 33 then (some false) else (if (bt x0 x6) > 126 then (some false) else (head_visible.l0 k x0 x5 (wrap64 (x6 + 1))))) else (none)) else (none)) else (some (x0.toList != ([] : List UInt8)))
def head_visible.f (k : Nat) (a0 : ByteArray) : Option (Bool) := head_visible.l0 k a0 (a0.size : Int) 0
theorem head_visible.mono_l : ∀ k, (∀ y0 y1 y2, LeO (head_visible.l0 k y0 y1 y2) (head_visible.l0 (k + 1) y0 y1 y2))
  | 0 => fun _ _ _ r h => by simp [head_visible.l0] at h
  | k + 1 => by
    have ih0 := head_visible.mono_l k
    · intro y0 y1 y2
      unfold head_visible.l0
      repeat' first
      | (with_reducible exact ih0 _ _ _)
      | (with_reducible exact LeO.refl _)
      | (with_reducible exact LeO.none _)
      | (with_reducible refine LeO.ite ?_ ?_)
      | (with_reducible refine LeO.bind ?_ (fun _ => ?_))
      | exact ih0 _ _ _
      | exact LeO.none _
      | refine LeO.ite ?_ ?_
      | refine LeO.bind ?_ (fun _ => ?_)
theorem head_visible.mono : ∀ a0 k, LeO (head_visible.f k a0) (head_visible.f (k + 1) a0) := by
  intro a0 k
  have ih0 := head_visible.mono_l k
  unfold head_visible.f
  repeat' first
      | (with_reducible exact ih0 _ _ _)
      | (with_reducible exact LeO.refl _)
      | (with_reducible exact LeO.none _)
      | (with_reducible refine LeO.ite ?_ ?_)
      | (with_reducible refine LeO.bind ?_ (fun _ => ?_))
      | exact ih0 _ _ _
      | exact LeO.none _
      | refine LeO.ite ?_ ?_
      | refine LeO.bind ?_ (fun _ => ?_)
set_option maxHeartbeats 8000000 in
set_option maxRecDepth 100000 in
theorem head_visible.calls (k : Nat) (a0 : ByteArray) (r : Bool) (w : World) (h : head_visible.f k a0 = some r) :
    Calls Tryz.prog 89 #[.string a0] w fun e w' => e = .returned (.bool r) ∧ Drawn0 w w' := by
  have H : (head_visible.l0 k a0 (a0.size : Int) 0) = some r := h
  clear h
  have H' := Aside0.mk H
  clear H
  go_enter Tryz.func89, Tryz.ntmps89
  go_wp2
  go_loopg [6] k (fun kq v6 w' => ∃ (x6_1 : Int), v6 = .int .i64 x6_1 ∧ Aside0 (head_visible.l0 kq a0 (a0.size : Int) x6_1 = some r) ∧ Aside0 (kq ≤ k) ∧ Drawn0 w w')
  case atStart => exact ⟨(0), (by first | rfl | (simp; done) | (simp [*]; done) | (simp [bneNil, beqNil]; done)), H', ⟨Nat.le_refl _⟩, by repeat (first | exact Drawn0.refl _ | apply Drawn0.step)⟩
  case round =>
    clear H'
    obtain ⟨x6_1, rfl, HA, HK1, ⟨m1, rfl⟩⟩ := hrel
    cases gk with
    | zero => exact absurd HA.out (by simp [head_visible.l0])
    | succ k1 =>
      have H := HA.out
      clear HA
      simp only [head_visible.l0] at H
      by_cases c2 : x6_1 < (a0.size : Int)
      · rw [if_pos c2] at H
        have c2b0 : decide (x6_1 < (a0.size : Int)) = true := decide_eq_true c2
        clear c2
        by_cases c3 : 0 ≤ x6_1
        · rw [if_pos c3] at H
          have c3b0 : decide (0 ≤ x6_1) = true := decide_eq_true c3
          clear c3
          by_cases c4 : x6_1 < (a0.size : Int)
          · rw [if_pos c4] at H
            have c4b0 : decide (x6_1 < (a0.size : Int)) = true := decide_eq_true c4
            clear c4
            by_cases c6 : (bt a0 x6_1) < 33
            · rw [if_pos c6] at H
              have c6b0 : decide ((bt a0 x6_1) < 33) = true := decide_eq_true c6
              clear c6
              obtain rfl := Option.some.inj H
              have p5 : 0 ≤ (x6_1 : Int) := of_decide_eq_true (by first | (with_reducible assumption) | assumption)
              have q5 : x6_1 < (a0.size : Int) := of_decide_eq_true (by first | (with_reducible assumption) | assumption)
              have hx5 := bt_at a0 x6_1
              replace p5 := eq_true p5
              replace q5 := eq_true q5
              go_wp2
              go_ret
              exact ⟨by first | rfl | (simp; done) | (simp [*]; done) | (simp [bneNil, beqNil]; done), by repeat (first | exact Drawn0.refl _ | apply Drawn0.step)⟩
            · rw [if_neg c6] at H
              have c6b0 : decide ((bt a0 x6_1) < 33) = false := decide_eq_false c6
              clear c6
              by_cases c8 : (bt a0 x6_1) > 126
              · rw [if_pos c8] at H
                have c8b0 : decide (126 < (bt a0 x6_1)) = true := decide_eq_true c8
                clear c8
                obtain rfl := Option.some.inj H
                have p5 : 0 ≤ (x6_1 : Int) := of_decide_eq_true (by first | (with_reducible assumption) | assumption)
                have q5 : x6_1 < (a0.size : Int) := of_decide_eq_true (by first | (with_reducible assumption) | assumption)
                have hx5 := bt_at a0 x6_1
                replace p5 := eq_true p5
                replace q5 := eq_true q5
                have p7 : 0 ≤ (x6_1 : Int) := of_decide_eq_true (by first | (with_reducible assumption) | assumption)
                have q7 : x6_1 < (a0.size : Int) := of_decide_eq_true (by first | (with_reducible assumption) | assumption)
                have hx7 := bt_at a0 x6_1
                replace p7 := eq_true p7
                replace q7 := eq_true q7
                go_wp2
                go_ret
                exact ⟨by first | rfl | (simp; done) | (simp [*]; done) | (simp [bneNil, beqNil]; done), by repeat (first | exact Drawn0.refl _ | apply Drawn0.step)⟩
              · rw [if_neg c8] at H
                have c8b0 : decide (126 < (bt a0 x6_1)) = false := decide_eq_false c8
                clear c8
                have H' := Aside0.mk H
                clear H
                have p5 : 0 ≤ (x6_1 : Int) := of_decide_eq_true (by first | (with_reducible assumption) | assumption)
                have q5 : x6_1 < (a0.size : Int) := of_decide_eq_true (by first | (with_reducible assumption) | assumption)
                have hx5 := bt_at a0 x6_1
                replace p5 := eq_true p5
                replace q5 := eq_true q5
                have p7 : 0 ≤ (x6_1 : Int) := of_decide_eq_true (by first | (with_reducible assumption) | assumption)
                have q7 : x6_1 < (a0.size : Int) := of_decide_eq_true (by first | (with_reducible assumption) | assumption)
                have hx7 := bt_at a0 x6_1
                replace p7 := eq_true p7
                replace q7 := eq_true q7
                go_wp2
                go_roundg k1
                case measure => have := HK1.out; omega
                case rel => exact ⟨(wrap64 (x6_1 + 1)), (by first | rfl | (simp; done) | (simp [*]; done) | (simp [bneNil, beqNil]; done)), H', ⟨by have := HK1.out; omega⟩, by repeat (first | exact Drawn0.refl _ | apply Drawn0.step)⟩
          · rw [if_neg c4] at H
            exact absurd H (by simp)
        · rw [if_neg c3] at H
          exact absurd H (by simp)
      · rw [if_neg c2] at H
        have c2b0 : decide (x6_1 < (a0.size : Int)) = false := decide_eq_false c2
        clear c2
        obtain rfl := Option.some.inj H
        go_wp2
        go_ret
        exact ⟨by first | rfl | (simp; done) | (simp [*]; done) | (simp [bneNil, beqNil]; done), by repeat (first | exact Drawn0.refl _ | apply Drawn0.step)⟩

/-- THE ONE PURE STATEMENT of head_visible: yours. -/
def head_visible.Pure : Prop := ∀ (a0 : ByteArray), a0.size ≤ 140737488351232 → ∃ k, head_visible.f k a0 = some true
theorem head_visible.walk (P : head_visible.Pure) (a0 : ByteArray) (w : World) (w0 : a0.size ≤ 140737488351232) :
    Calls Tryz.prog 89 #[.string a0] w fun e w' => e = .returned (.bool true) ∧ Below w.heap.size w w' := by
  obtain ⟨k, h⟩ := P a0 w0
  refine (head_visible.calls k a0 true w h).mono ?_
  rintro e w' ⟨rfl, hd⟩
  exact ⟨rfl, hd.below⟩

/-! ### head_blank: function 120 -/
def head_blank.f (a0 : Int) : Option (Bool) := if a0 = 32 then (some true) else (some (a0 == 9))
set_option maxHeartbeats 8000000 in
set_option maxRecDepth 100000 in
theorem head_blank.calls (a0 : Int) (r : Bool) (w : World) (h : head_blank.f a0 = some r) :
    Calls Tryz.prog 120 #[.int .u8 a0] w fun e w' => e = .returned (.bool r) ∧ Drawn0 w w' := by
  have H : (if a0 = 32 then (some true) else (some (a0 == 9))) = some r := h
  clear h
  by_cases c2 : a0 = 32
  · rw [if_pos c2] at H
    have c2b0 : (a0 == 32) = true := beq_iff_eq.mpr c2
    have c2b1 : (a0 != 32) = false := bne_eq_false_iff_eq.mpr c2
    clear c2
    obtain rfl := Option.some.inj H
    go_enter Tryz.func120, Tryz.ntmps120
    go_wp2
    go_ret
    exact ⟨by first | rfl | (simp; done) | (simp [*]; done) | (simp [bneNil, beqNil]; done), by repeat (first | exact Drawn0.refl _ | apply Drawn0.step)⟩
  · rw [if_neg c2] at H
    have c2b0 : (a0 == 32) = false := beq_eq_false_iff_ne.mpr c2
    have c2b1 : (a0 != 32) = true := bne_iff_ne.mpr c2
    obtain rfl := Option.some.inj H
    go_enter Tryz.func120, Tryz.ntmps120
    go_wp2
    go_ret
    exact ⟨by first | rfl | (simp; done) | (simp [*]; done) | (simp [bneNil, beqNil]; done), by repeat (first | exact Drawn0.refl _ | apply Drawn0.step)⟩

/-- THE ONE PURE STATEMENT of head_blank: yours. -/
def head_blank.Pure : Prop := ∀ (a0 : Int), (Lit.int .u8 a0).wf = true → head_blank.f a0 = some true
theorem head_blank.walk (P : head_blank.Pure) (a0 : Int) (w : World) (w0 : (Lit.int .u8 a0).wf = true) :
    Calls Tryz.prog 120 #[.int .u8 a0] w fun e w' => e = .returned (.bool true) ∧ Below w.heap.size w w' := by
  have h := P a0 w0
  refine (head_blank.calls a0 true w h).mono ?_
  rintro e w' ⟨rfl, hd⟩
  exact ⟨rfl, hd.below⟩

/-! ### head_same: function 47 -/
def head_same.l0 : Nat → List (S37) → Int → Int → Bool → ByteArray → ByteArray → Int → Int → ByteArray → List (S37) → Bool → ByteArray → ByteArray → Int → Int → ByteArray → List (S37) → Option (Bool)
  | 0, _, _, _, _, _, _, _, _, _, _, _, _, _, _, _, _, _ => none
  | k + 1, x15, x16, x17, x350000, x350001, x350002, x350003, x350004, x350005, x350006, x351000, x351001, x351002, x351003, x351004, x351005, x351006 => if x17 < x16 then (if 0 ≤ x17 then (if x17 < (x15.length : Int) then (if x17 < (x351006.length : Int) then (if (!((((rd_T37 x15 x17).f0).toList) == (((rd_T37 x351006 x17).f0).toList)) || (!((((rd_T37 x15 x17).f1).toList) == (((rd_T37 x351006 x17).f1).toList)))) = true then (some false) else (head_same.l0 k x15 x16 (wrap64 (x17 + 1)) x350000 x350001 x350002 x350003 x350004 x350005 x350006 x351000 x351001 x351002 x351003 x351004 x351005 x351006)) else (none)) else (none)) else (none)) else (if (x350000 == x351000) = true then (if x350001.toList = x351001.toList then (if x350002.toList = x351002.toList then (if x350003 = x351003 then (if x350004 = x351004 then (some (x350005.toList == x351005.toList)) else (some false)) else (some false)) else (some false)) else (some false)) else (some false))
def head_same.f (k : Nat) (a0_0 : Bool) (a0_1 : ByteArray) (a0_2 : ByteArray) (a0_3 : Int) (a0_4 : Int) (a0_5 : ByteArray) (l0_6 : List (S37)) (a1_0 : Bool) (a1_1 : ByteArray) (a1_2 : ByteArray) (a1_3 : Int) (a1_4 : Int) (a1_5 : ByteArray) (l1_6 : List (S37)) : Option (Bool) := if (l0_6.length : Int) = (l1_6.length : Int) then (head_same.l0 k l0_6 (l0_6.length : Int) 0 a0_0 a0_1 a0_2 a0_3 a0_4 a0_5 l0_6 a1_0 a1_1 a1_2 a1_3 a1_4 a1_5 l1_6) else (some false)
theorem head_same.mono_l : ∀ k, (∀ y0 y1 y2 y3 y4 y5 y6 y7 y8 y9 y10 y11 y12 y13 y14 y15 y16, LeO (head_same.l0 k y0 y1 y2 y3 y4 y5 y6 y7 y8 y9 y10 y11 y12 y13 y14 y15 y16) (head_same.l0 (k + 1) y0 y1 y2 y3 y4 y5 y6 y7 y8 y9 y10 y11 y12 y13 y14 y15 y16))
  | 0 => fun _ _ _ _ _ _ _ _ _ _ _ _ _ _ _ _ _ r h => by simp [head_same.l0] at h
  | k + 1 => by
    have ih0 := head_same.mono_l k
    · intro y0 y1 y2 y3 y4 y5 y6 y7 y8 y9 y10 y11 y12 y13 y14 y15 y16
      unfold head_same.l0
      repeat' first
      | (with_reducible exact ih0 _ _ _ _ _ _ _ _ _ _ _ _ _ _ _ _ _)
      | (with_reducible exact LeO.refl _)
      | (with_reducible exact LeO.none _)
      | (with_reducible refine LeO.ite ?_ ?_)
      | (with_reducible refine LeO.bind ?_ (fun _ => ?_))
      | exact ih0 _ _ _ _ _ _ _ _ _ _ _ _ _ _ _ _ _
      | exact LeO.none _
      | refine LeO.ite ?_ ?_
      | refine LeO.bind ?_ (fun _ => ?_)
theorem head_same.mono : ∀ a0 a1 a2 a3 a4 a5 a6 a7 a8 a9 a10 a11 a12 a13 k, LeO (head_same.f k a0 a1 a2 a3 a4 a5 a6 a7 a8 a9 a10 a11 a12 a13) (head_same.f (k + 1) a0 a1 a2 a3 a4 a5 a6 a7 a8 a9 a10 a11 a12 a13) := by
  intro a0 a1 a2 a3 a4 a5 a6 a7 a8 a9 a10 a11 a12 a13 k
  have ih0 := head_same.mono_l k
  unfold head_same.f
  repeat' first
      | (with_reducible exact ih0 _ _ _ _ _ _ _ _ _ _ _ _ _ _ _ _ _)
      | (with_reducible exact LeO.refl _)
      | (with_reducible exact LeO.none _)
      | (with_reducible refine LeO.ite ?_ ?_)
      | (with_reducible refine LeO.bind ?_ (fun _ => ?_))
      | exact ih0 _ _ _ _ _ _ _ _ _ _ _ _ _ _ _ _ _
      | exact LeO.none _
      | refine LeO.ite ?_ ?_
      | refine LeO.bind ?_ (fun _ => ?_)
set_option maxHeartbeats 8000000 in
set_option maxRecDepth 100000 in
theorem head_same.calls (k : Nat) (a0_0 : Bool) (a0_1 : ByteArray) (a0_2 : ByteArray) (a0_3 : Int) (a0_4 : Int) (a0_5 : ByteArray) (A0_6 : Option Addr) (c0_6 : Nat) (l0_6 : List (S37)) (a1_0 : Bool) (a1_1 : ByteArray) (a1_2 : ByteArray) (a1_3 : Int) (a1_4 : Int) (a1_5 : ByteArray) (A1_6 : Option Addr) (c1_6 : Nat) (l1_6 : List (S37)) (r : Bool) (w : World) (hr0_6 : Kd.C k37 w A0_6 l0_6.length l0_6) (hc0_6 : l0_6.length ≤ c0_6) (hr1_6 : Kd.C k37 w A1_6 l1_6.length l1_6) (hc1_6 : l1_6.length ≤ c1_6) (h : head_same.f k a0_0 a0_1 a0_2 a0_3 a0_4 a0_5 l0_6 a1_0 a1_1 a1_2 a1_3 a1_4 a1_5 l1_6 = some r) :
    Calls Tryz.prog 47 #[.agg #[.bool a0_0, .string a0_1, .string a0_2, .int .i64 a0_3, .int .i64 a0_4, .string a0_5, .slice A0_6 l0_6.length c0_6], .agg #[.bool a1_0, .string a1_1, .string a1_2, .int .i64 a1_3, .int .i64 a1_4, .string a1_5, .slice A1_6 l1_6.length c1_6]] w fun e w' => e = .returned (.bool r) ∧ Below w.heap.size w w' := by
  have hu24 := Tryz.underlying24
  have hu37 := Tryz.underlying37
  have HR0_6 := Aside0.mk hr0_6
  have HC0_6 := Aside0.mk hc0_6
  clear hr0_6 hc0_6
  have HR1_6 := Aside0.mk hr1_6
  have HC1_6 := Aside0.mk hc1_6
  clear hr1_6 hc1_6
  have HB := Aside0.mk (Below.refl w.heap.size w)
  have H : (if (l0_6.length : Int) = (l1_6.length : Int) then (head_same.l0 k l0_6 (l0_6.length : Int) 0 a0_0 a0_1 a0_2 a0_3 a0_4 a0_5 l0_6 a1_0 a1_1 a1_2 a1_3 a1_4 a1_5 l1_6) else (some false)) = some r := h
  clear h
  by_cases c3 : (l0_6.length : Int) = (l1_6.length : Int)
  · rw [if_pos c3] at H
    have c3b0 : ((l0_6.length : Int) == (l1_6.length : Int)) = true := beq_iff_eq.mpr c3
    have c3b1 : ((l0_6.length : Int) != (l1_6.length : Int)) = false := bne_eq_false_iff_eq.mpr c3
    have c3b2 : (l0_6.length == l1_6.length) = true := by first | simpa using c3 | (simp at c3 ⊢; omega)
    clear c3
    have H' := Aside0.mk H
    clear H
    go_enter Tryz.func47, Tryz.ntmps47
    go_wp2_with (first | ((with_reducible refine gate_dst (N := 2) rfl ?_); refine box_event ?hg (N := 2) ?hd (cs := #[.bool a0_0, .string a0_1, .string a0_2, .int .i64 a0_3, .int .i64 a0_4, .string a0_5, .slice A0_6 l0_6.length c0_6]) (t := 24) ?hr ?_; (case hd => rfl); (case hg => rfl); (case hr => first | (go_simp; done) | (go_simp; rfl)); intro gb349 hg w4 hbox hb; have n0_ := Aside0.mk (below_step (by repeat (first | (with_reducible first | exact HB.out | apply below_alloc | apply pw_below_drewN | apply below_drew1) | exact HB.out)) hb); have n1_ := Aside0.mk (hbox); have n2_ := Aside0.mk ((by rw [hg]; exact (below_size (by repeat (first | (with_reducible first | exact HB.out | apply below_alloc | apply pw_below_drewN | apply below_drew1) | exact HB.out))) : w.heap.size ≤ gb349)); have n3_ := Aside0.mk ((by rw [hg]; exact (below_size (by repeat (first | (with_reducible first | exact HB.out | apply below_alloc | apply pw_below_drewN | apply below_drew1) | exact HB.out))) : w.heap.size ≤ gb349)); clear HB; have HB := n0_; have BK349 := n1_; have GW349 := n2_; have GE349 := n3_; clear n0_ n1_ n2_ n3_; clear hb hbox hg) | ((with_reducible refine gate_dst (N := 3) rfl ?_); refine box_event ?hg (N := 3) ?hd (cs := #[.bool a1_0, .string a1_1, .string a1_2, .int .i64 a1_3, .int .i64 a1_4, .string a1_5, .slice A1_6 l1_6.length c1_6]) (t := 24) ?hr ?_; (case hd => rfl); (case hg => rfl); (case hr => first | (go_simp; done) | (go_simp; rfl)); intro gb350 hg w5 hbox hb; have n0_ := Aside0.mk (blk_below (g := gb349) (o := .cells #[.bool a0_0, .string a0_1, .string a0_2, .int .i64 a0_3, .int .i64 a0_4, .string a0_5, .slice A0_6 l0_6.length c0_6] 24 (0, 0)) (by (with_reducible repeat (first | refine blk_drewN ?_ _ | refine blk_drew ?_ | refine blk_alloc ?_ _)); exact BK349.out) hb); have n1_ := Aside0.mk (below_step (by repeat (first | (with_reducible first | exact HB.out | apply below_alloc | apply pw_below_drewN | apply below_drew1 | refine below_set ?_ GE349.out) | exact HB.out)) hb); have n2_ := Aside0.mk (hbox); have n3_ := Aside0.mk ((by rw [hg]; exact (below_size (by repeat (first | (with_reducible first | exact HB.out | apply below_alloc | apply pw_below_drewN | apply below_drew1 | refine below_set ?_ GE349.out) | exact HB.out))) : w.heap.size ≤ gb350)); have n4_ := Aside0.mk ((by rw [hg]; exact (below_size (by repeat (first | (with_reducible first | exact HB.out | apply below_alloc | apply pw_below_drewN | apply below_drew1 | refine below_set ?_ GE349.out) | exact HB.out))) : w.heap.size ≤ gb350)); have n5_ := Aside0.mk ((by rw [hg]; exact Nat.ne_of_lt (blk_lt (g := gb349) (o := .cells #[.bool a0_0, .string a0_1, .string a0_2, .int .i64 a0_3, .int .i64 a0_4, .string a0_5, .slice A0_6 l0_6.length c0_6] 24 (0, 0)) (by (with_reducible repeat (first | refine blk_drewN ?_ _ | refine blk_drew ?_ | refine blk_alloc ?_ _)); exact BK349.out)) : gb349 ≠ gb350)); have n6_ := Aside0.mk ((by rw [hg]; exact Nat.ne_of_gt (blk_lt (g := gb349) (o := .cells #[.bool a0_0, .string a0_1, .string a0_2, .int .i64 a0_3, .int .i64 a0_4, .string a0_5, .slice A0_6 l0_6.length c0_6] 24 (0, 0)) (by (with_reducible repeat (first | refine blk_drewN ?_ _ | refine blk_drew ?_ | refine blk_alloc ?_ _)); exact BK349.out)) : gb350 ≠ gb349)); clear BK349; clear HB; have BK349 := n0_; have HB := n1_; have BK350 := n2_; have GW350 := n3_; have GE350 := n4_; have NB349_350 := n5_; have NB350_349 := n6_; clear n0_ n1_ n2_ n3_ n4_ n5_ n6_; clear hb hbox hg; have hnb6 := NB349_350.out; have hnc6 := NB350_349.out; have hcz7_0 : w5.cell? ⟨gb349, 0, none⟩ = some (.bool a0_0) := (blk_cell BK349.out 0).trans rfl; have hcz7_1 : w5.cell? ⟨gb349, 1, none⟩ = some (.string a0_1) := (blk_cell BK349.out 1).trans rfl; have hcz7_2 : w5.cell? ⟨gb349, 2, none⟩ = some (.string a0_2) := (blk_cell BK349.out 2).trans rfl; have hcz7_3 : w5.cell? ⟨gb349, 3, none⟩ = some (.int .i64 a0_3) := (blk_cell BK349.out 3).trans rfl; have hcz7_4 : w5.cell? ⟨gb349, 4, none⟩ = some (.int .i64 a0_4) := (blk_cell BK349.out 4).trans rfl; have hcz7_5 : w5.cell? ⟨gb349, 5, none⟩ = some (.string a0_5) := (blk_cell BK349.out 5).trans rfl; have hcz7_6 : w5.cell? ⟨gb349, 6, none⟩ = some (.slice A0_6 l0_6.length c0_6) := (blk_cell BK349.out 6).trans rfl; have hfz7_0 := blk_frozen BK349.out 0; have hfz7_1 := blk_frozen BK349.out 1; have hfz7_2 := blk_frozen BK349.out 2; have hfz7_3 := blk_frozen BK349.out 3; have hfz7_4 := blk_frozen BK349.out 4; have hfz7_5 := blk_frozen BK349.out 5; have hfz7_6 := blk_frozen BK349.out 6; have hcz8_0 : w5.cell? ⟨gb350, 0, none⟩ = some (.bool a1_0) := (blk_cell BK350.out 0).trans rfl; have hcz8_1 : w5.cell? ⟨gb350, 1, none⟩ = some (.string a1_1) := (blk_cell BK350.out 1).trans rfl; have hcz8_2 : w5.cell? ⟨gb350, 2, none⟩ = some (.string a1_2) := (blk_cell BK350.out 2).trans rfl; have hcz8_3 : w5.cell? ⟨gb350, 3, none⟩ = some (.int .i64 a1_3) := (blk_cell BK350.out 3).trans rfl; have hcz8_4 : w5.cell? ⟨gb350, 4, none⟩ = some (.int .i64 a1_4) := (blk_cell BK350.out 4).trans rfl; have hcz8_5 : w5.cell? ⟨gb350, 5, none⟩ = some (.string a1_5) := (blk_cell BK350.out 5).trans rfl; have hcz8_6 : w5.cell? ⟨gb350, 6, none⟩ = some (.slice A1_6 l1_6.length c1_6) := (blk_cell BK350.out 6).trans rfl; have hfz8_0 := blk_frozen BK350.out 0; have hfz8_1 := blk_frozen BK350.out 1; have hfz8_2 := blk_frozen BK350.out 2; have hfz8_3 := blk_frozen BK350.out 3; have hfz8_4 := blk_frozen BK350.out 4; have hfz8_5 := blk_frozen BK350.out 5; have hfz8_6 := blk_frozen BK350.out 6))
    repeat (go_quiet (first | ((with_reducible refine gate_dst (N := 2) rfl ?_); refine box_event ?hg (N := 2) ?hd (cs := #[.bool a0_0, .string a0_1, .string a0_2, .int .i64 a0_3, .int .i64 a0_4, .string a0_5, .slice A0_6 l0_6.length c0_6]) (t := 24) ?hr ?_; (case hd => rfl); (case hg => rfl); (case hr => first | (go_simp; done) | (go_simp; rfl)); intro gb349 hg w4 hbox hb; have n0_ := Aside0.mk (below_step (by repeat (first | (with_reducible first | exact HB.out | apply below_alloc | apply pw_below_drewN | apply below_drew1) | exact HB.out)) hb); have n1_ := Aside0.mk (hbox); have n2_ := Aside0.mk ((by rw [hg]; exact (below_size (by repeat (first | (with_reducible first | exact HB.out | apply below_alloc | apply pw_below_drewN | apply below_drew1) | exact HB.out))) : w.heap.size ≤ gb349)); have n3_ := Aside0.mk ((by rw [hg]; exact (below_size (by repeat (first | (with_reducible first | exact HB.out | apply below_alloc | apply pw_below_drewN | apply below_drew1) | exact HB.out))) : w.heap.size ≤ gb349)); clear HB; have HB := n0_; have BK349 := n1_; have GW349 := n2_; have GE349 := n3_; clear n0_ n1_ n2_ n3_; clear hb hbox hg) | ((with_reducible refine gate_dst (N := 3) rfl ?_); refine box_event ?hg (N := 3) ?hd (cs := #[.bool a1_0, .string a1_1, .string a1_2, .int .i64 a1_3, .int .i64 a1_4, .string a1_5, .slice A1_6 l1_6.length c1_6]) (t := 24) ?hr ?_; (case hd => rfl); (case hg => rfl); (case hr => first | (go_simp; done) | (go_simp; rfl)); intro gb350 hg w5 hbox hb; have n0_ := Aside0.mk (blk_below (g := gb349) (o := .cells #[.bool a0_0, .string a0_1, .string a0_2, .int .i64 a0_3, .int .i64 a0_4, .string a0_5, .slice A0_6 l0_6.length c0_6] 24 (0, 0)) (by (with_reducible repeat (first | refine blk_drewN ?_ _ | refine blk_drew ?_ | refine blk_alloc ?_ _)); exact BK349.out) hb); have n1_ := Aside0.mk (below_step (by repeat (first | (with_reducible first | exact HB.out | apply below_alloc | apply pw_below_drewN | apply below_drew1 | refine below_set ?_ GE349.out) | exact HB.out)) hb); have n2_ := Aside0.mk (hbox); have n3_ := Aside0.mk ((by rw [hg]; exact (below_size (by repeat (first | (with_reducible first | exact HB.out | apply below_alloc | apply pw_below_drewN | apply below_drew1 | refine below_set ?_ GE349.out) | exact HB.out))) : w.heap.size ≤ gb350)); have n4_ := Aside0.mk ((by rw [hg]; exact (below_size (by repeat (first | (with_reducible first | exact HB.out | apply below_alloc | apply pw_below_drewN | apply below_drew1 | refine below_set ?_ GE349.out) | exact HB.out))) : w.heap.size ≤ gb350)); have n5_ := Aside0.mk ((by rw [hg]; exact Nat.ne_of_lt (blk_lt (g := gb349) (o := .cells #[.bool a0_0, .string a0_1, .string a0_2, .int .i64 a0_3, .int .i64 a0_4, .string a0_5, .slice A0_6 l0_6.length c0_6] 24 (0, 0)) (by (with_reducible repeat (first | refine blk_drewN ?_ _ | refine blk_drew ?_ | refine blk_alloc ?_ _)); exact BK349.out)) : gb349 ≠ gb350)); have n6_ := Aside0.mk ((by rw [hg]; exact Nat.ne_of_gt (blk_lt (g := gb349) (o := .cells #[.bool a0_0, .string a0_1, .string a0_2, .int .i64 a0_3, .int .i64 a0_4, .string a0_5, .slice A0_6 l0_6.length c0_6] 24 (0, 0)) (by (with_reducible repeat (first | refine blk_drewN ?_ _ | refine blk_drew ?_ | refine blk_alloc ?_ _)); exact BK349.out)) : gb350 ≠ gb349)); clear BK349; clear HB; have BK349 := n0_; have HB := n1_; have BK350 := n2_; have GW350 := n3_; have GE350 := n4_; have NB349_350 := n5_; have NB350_349 := n6_; clear n0_ n1_ n2_ n3_ n4_ n5_ n6_; clear hb hbox hg; have hnb6 := NB349_350.out; have hnc6 := NB350_349.out; have hcz7_0 : w5.cell? ⟨gb349, 0, none⟩ = some (.bool a0_0) := (blk_cell BK349.out 0).trans rfl; have hcz7_1 : w5.cell? ⟨gb349, 1, none⟩ = some (.string a0_1) := (blk_cell BK349.out 1).trans rfl; have hcz7_2 : w5.cell? ⟨gb349, 2, none⟩ = some (.string a0_2) := (blk_cell BK349.out 2).trans rfl; have hcz7_3 : w5.cell? ⟨gb349, 3, none⟩ = some (.int .i64 a0_3) := (blk_cell BK349.out 3).trans rfl; have hcz7_4 : w5.cell? ⟨gb349, 4, none⟩ = some (.int .i64 a0_4) := (blk_cell BK349.out 4).trans rfl; have hcz7_5 : w5.cell? ⟨gb349, 5, none⟩ = some (.string a0_5) := (blk_cell BK349.out 5).trans rfl; have hcz7_6 : w5.cell? ⟨gb349, 6, none⟩ = some (.slice A0_6 l0_6.length c0_6) := (blk_cell BK349.out 6).trans rfl; have hfz7_0 := blk_frozen BK349.out 0; have hfz7_1 := blk_frozen BK349.out 1; have hfz7_2 := blk_frozen BK349.out 2; have hfz7_3 := blk_frozen BK349.out 3; have hfz7_4 := blk_frozen BK349.out 4; have hfz7_5 := blk_frozen BK349.out 5; have hfz7_6 := blk_frozen BK349.out 6; have hcz8_0 : w5.cell? ⟨gb350, 0, none⟩ = some (.bool a1_0) := (blk_cell BK350.out 0).trans rfl; have hcz8_1 : w5.cell? ⟨gb350, 1, none⟩ = some (.string a1_1) := (blk_cell BK350.out 1).trans rfl; have hcz8_2 : w5.cell? ⟨gb350, 2, none⟩ = some (.string a1_2) := (blk_cell BK350.out 2).trans rfl; have hcz8_3 : w5.cell? ⟨gb350, 3, none⟩ = some (.int .i64 a1_3) := (blk_cell BK350.out 3).trans rfl; have hcz8_4 : w5.cell? ⟨gb350, 4, none⟩ = some (.int .i64 a1_4) := (blk_cell BK350.out 4).trans rfl; have hcz8_5 : w5.cell? ⟨gb350, 5, none⟩ = some (.string a1_5) := (blk_cell BK350.out 5).trans rfl; have hcz8_6 : w5.cell? ⟨gb350, 6, none⟩ = some (.slice A1_6 l1_6.length c1_6) := (blk_cell BK350.out 6).trans rfl; have hfz8_0 := blk_frozen BK350.out 0; have hfz8_1 := blk_frozen BK350.out 1; have hfz8_2 := blk_frozen BK350.out 2; have hfz8_3 := blk_frozen BK350.out 3; have hfz8_4 := blk_frozen BK350.out 4; have hfz8_5 := blk_frozen BK350.out 5; have hfz8_6 := blk_frozen BK350.out 6)); try go_wp2_with (first | ((with_reducible refine gate_dst (N := 2) rfl ?_); refine box_event ?hg (N := 2) ?hd (cs := #[.bool a0_0, .string a0_1, .string a0_2, .int .i64 a0_3, .int .i64 a0_4, .string a0_5, .slice A0_6 l0_6.length c0_6]) (t := 24) ?hr ?_; (case hd => rfl); (case hg => rfl); (case hr => first | (go_simp; done) | (go_simp; rfl)); intro gb349 hg w4 hbox hb; have n0_ := Aside0.mk (below_step (by repeat (first | (with_reducible first | exact HB.out | apply below_alloc | apply pw_below_drewN | apply below_drew1) | exact HB.out)) hb); have n1_ := Aside0.mk (hbox); have n2_ := Aside0.mk ((by rw [hg]; exact (below_size (by repeat (first | (with_reducible first | exact HB.out | apply below_alloc | apply pw_below_drewN | apply below_drew1) | exact HB.out))) : w.heap.size ≤ gb349)); have n3_ := Aside0.mk ((by rw [hg]; exact (below_size (by repeat (first | (with_reducible first | exact HB.out | apply below_alloc | apply pw_below_drewN | apply below_drew1) | exact HB.out))) : w.heap.size ≤ gb349)); clear HB; have HB := n0_; have BK349 := n1_; have GW349 := n2_; have GE349 := n3_; clear n0_ n1_ n2_ n3_; clear hb hbox hg) | ((with_reducible refine gate_dst (N := 3) rfl ?_); refine box_event ?hg (N := 3) ?hd (cs := #[.bool a1_0, .string a1_1, .string a1_2, .int .i64 a1_3, .int .i64 a1_4, .string a1_5, .slice A1_6 l1_6.length c1_6]) (t := 24) ?hr ?_; (case hd => rfl); (case hg => rfl); (case hr => first | (go_simp; done) | (go_simp; rfl)); intro gb350 hg w5 hbox hb; have n0_ := Aside0.mk (blk_below (g := gb349) (o := .cells #[.bool a0_0, .string a0_1, .string a0_2, .int .i64 a0_3, .int .i64 a0_4, .string a0_5, .slice A0_6 l0_6.length c0_6] 24 (0, 0)) (by (with_reducible repeat (first | refine blk_drewN ?_ _ | refine blk_drew ?_ | refine blk_alloc ?_ _)); exact BK349.out) hb); have n1_ := Aside0.mk (below_step (by repeat (first | (with_reducible first | exact HB.out | apply below_alloc | apply pw_below_drewN | apply below_drew1 | refine below_set ?_ GE349.out) | exact HB.out)) hb); have n2_ := Aside0.mk (hbox); have n3_ := Aside0.mk ((by rw [hg]; exact (below_size (by repeat (first | (with_reducible first | exact HB.out | apply below_alloc | apply pw_below_drewN | apply below_drew1 | refine below_set ?_ GE349.out) | exact HB.out))) : w.heap.size ≤ gb350)); have n4_ := Aside0.mk ((by rw [hg]; exact (below_size (by repeat (first | (with_reducible first | exact HB.out | apply below_alloc | apply pw_below_drewN | apply below_drew1 | refine below_set ?_ GE349.out) | exact HB.out))) : w.heap.size ≤ gb350)); have n5_ := Aside0.mk ((by rw [hg]; exact Nat.ne_of_lt (blk_lt (g := gb349) (o := .cells #[.bool a0_0, .string a0_1, .string a0_2, .int .i64 a0_3, .int .i64 a0_4, .string a0_5, .slice A0_6 l0_6.length c0_6] 24 (0, 0)) (by (with_reducible repeat (first | refine blk_drewN ?_ _ | refine blk_drew ?_ | refine blk_alloc ?_ _)); exact BK349.out)) : gb349 ≠ gb350)); have n6_ := Aside0.mk ((by rw [hg]; exact Nat.ne_of_gt (blk_lt (g := gb349) (o := .cells #[.bool a0_0, .string a0_1, .string a0_2, .int .i64 a0_3, .int .i64 a0_4, .string a0_5, .slice A0_6 l0_6.length c0_6] 24 (0, 0)) (by (with_reducible repeat (first | refine blk_drewN ?_ _ | refine blk_drew ?_ | refine blk_alloc ?_ _)); exact BK349.out)) : gb350 ≠ gb349)); clear BK349; clear HB; have BK349 := n0_; have HB := n1_; have BK350 := n2_; have GW350 := n3_; have GE350 := n4_; have NB349_350 := n5_; have NB350_349 := n6_; clear n0_ n1_ n2_ n3_ n4_ n5_ n6_; clear hb hbox hg; have hnb6 := NB349_350.out; have hnc6 := NB350_349.out; have hcz7_0 : w5.cell? ⟨gb349, 0, none⟩ = some (.bool a0_0) := (blk_cell BK349.out 0).trans rfl; have hcz7_1 : w5.cell? ⟨gb349, 1, none⟩ = some (.string a0_1) := (blk_cell BK349.out 1).trans rfl; have hcz7_2 : w5.cell? ⟨gb349, 2, none⟩ = some (.string a0_2) := (blk_cell BK349.out 2).trans rfl; have hcz7_3 : w5.cell? ⟨gb349, 3, none⟩ = some (.int .i64 a0_3) := (blk_cell BK349.out 3).trans rfl; have hcz7_4 : w5.cell? ⟨gb349, 4, none⟩ = some (.int .i64 a0_4) := (blk_cell BK349.out 4).trans rfl; have hcz7_5 : w5.cell? ⟨gb349, 5, none⟩ = some (.string a0_5) := (blk_cell BK349.out 5).trans rfl; have hcz7_6 : w5.cell? ⟨gb349, 6, none⟩ = some (.slice A0_6 l0_6.length c0_6) := (blk_cell BK349.out 6).trans rfl; have hfz7_0 := blk_frozen BK349.out 0; have hfz7_1 := blk_frozen BK349.out 1; have hfz7_2 := blk_frozen BK349.out 2; have hfz7_3 := blk_frozen BK349.out 3; have hfz7_4 := blk_frozen BK349.out 4; have hfz7_5 := blk_frozen BK349.out 5; have hfz7_6 := blk_frozen BK349.out 6; have hcz8_0 : w5.cell? ⟨gb350, 0, none⟩ = some (.bool a1_0) := (blk_cell BK350.out 0).trans rfl; have hcz8_1 : w5.cell? ⟨gb350, 1, none⟩ = some (.string a1_1) := (blk_cell BK350.out 1).trans rfl; have hcz8_2 : w5.cell? ⟨gb350, 2, none⟩ = some (.string a1_2) := (blk_cell BK350.out 2).trans rfl; have hcz8_3 : w5.cell? ⟨gb350, 3, none⟩ = some (.int .i64 a1_3) := (blk_cell BK350.out 3).trans rfl; have hcz8_4 : w5.cell? ⟨gb350, 4, none⟩ = some (.int .i64 a1_4) := (blk_cell BK350.out 4).trans rfl; have hcz8_5 : w5.cell? ⟨gb350, 5, none⟩ = some (.string a1_5) := (blk_cell BK350.out 5).trans rfl; have hcz8_6 : w5.cell? ⟨gb350, 6, none⟩ = some (.slice A1_6 l1_6.length c1_6) := (blk_cell BK350.out 6).trans rfl; have hfz8_0 := blk_frozen BK350.out 0; have hfz8_1 := blk_frozen BK350.out 1; have hfz8_2 := blk_frozen BK350.out 2; have hfz8_3 := blk_frozen BK350.out 3; have hfz8_4 := blk_frozen BK350.out 4; have hfz8_5 := blk_frozen BK350.out 5; have hfz8_6 := blk_frozen BK350.out 6)))
    go_loopg [17] k (fun kq v17 w' => ∃ (x17_1 : Int), v17 = .int .i64 x17_1 ∧ Aside0 (head_same.l0 kq l0_6 (l0_6.length : Int) x17_1 a0_0 a0_1 a0_2 a0_3 a0_4 a0_5 l0_6 a1_0 a1_1 a1_2 a1_3 a1_4 a1_5 l1_6 = some r) ∧ Aside0 (kq ≤ k) ∧ Aside0 (w'.heap[gb349]? = some (.cells #[.bool a0_0, .string a0_1, .string a0_2, .int .i64 a0_3, .int .i64 a0_4, .string a0_5, (.slice A0_6 l0_6.length c0_6)] 24 (0, 0))) ∧ Aside0 (w'.heap[gb350]? = some (.cells #[.bool a1_0, .string a1_1, .string a1_2, .int .i64 a1_3, .int .i64 a1_4, .string a1_5, (.slice A1_6 l1_6.length c1_6)] 24 (0, 0))) ∧ Aside0 (Below w.heap.size w w'))
    case atStart => exact ⟨(0), (by first | rfl | (simp; done) | (simp [*]; done) | (simp [bneNil, beqNil]; done)), H', ⟨Nat.le_refl _⟩, ⟨by (with_reducible repeat (first | refine blk_drewN ?_ _ | refine blk_drew ?_ | refine blk_alloc ?_ _)); exact BK349.out⟩, ⟨by (with_reducible repeat (first | refine blk_drewN ?_ _ | refine blk_drew ?_ | refine blk_alloc ?_ _)); exact BK350.out⟩, ⟨by repeat (first | (with_reducible first | exact HB.out | apply below_alloc | apply pw_below_drewN | apply below_drew1 | refine below_set ?_ GE349.out | refine below_set ?_ GE350.out) | exact HB.out)⟩⟩
    case round =>
      clear H'
      try clear c1
      try clear p2
      try clear c3
      try clear c3b0
      try clear c3b1
      try clear c3b2
      try clear c4
      try clear c6
      try clear hcz7_0
      try clear hcz7_1
      try clear hcz7_2
      try clear hcz7_3
      try clear hcz7_4
      try clear hcz7_5
      try clear hcz7_6
      try clear hcz8_0
      try clear hcz8_1
      try clear hcz8_2
      try clear hcz8_3
      try clear hcz8_4
      try clear hcz8_5
      try clear hcz8_6
      try clear hfz7_0
      try clear hfz7_1
      try clear hfz7_2
      try clear hfz7_3
      try clear hfz7_4
      try clear hfz7_5
      try clear hfz7_6
      try clear hfz8_0
      try clear hfz8_1
      try clear hfz8_2
      try clear hfz8_3
      try clear hfz8_4
      try clear hfz8_5
      try clear hfz8_6
      obtain ⟨x17_1, rfl, HA, HK1, BK349, BK350, HB⟩ := hrel
      cases gk with
      | zero => exact absurd HA.out (by simp [head_same.l0])
      | succ k1 =>
        have H := HA.out
        clear HA
        simp only [head_same.l0] at H
        by_cases c9 : x17_1 < (l0_6.length : Int)
        · rw [if_pos c9] at H
          have c9b0 : decide (x17_1 < (l0_6.length : Int)) = true := decide_eq_true c9
          clear c9
          by_cases c10 : 0 ≤ x17_1
          · rw [if_pos c10] at H
            have c10b0 : decide (0 ≤ x17_1) = true := decide_eq_true c10
            clear c10
            by_cases c11 : x17_1 < (l0_6.length : Int)
            · rw [if_pos c11] at H
              have c11b0 : decide (x17_1 < (l0_6.length : Int)) = true := decide_eq_true c11
              clear c11
              by_cases c12 : x17_1 < (l1_6.length : Int)
              · rw [if_pos c12] at H
                have c12b0 : decide (x17_1 < (l1_6.length : Int)) = true := decide_eq_true c12
                clear c12
                by_cases c13 : (!((((rd_T37 l0_6 x17_1).f0).toList) == (((rd_T37 l1_6 x17_1).f0).toList)) || (!((((rd_T37 l0_6 x17_1).f1).toList) == (((rd_T37 l1_6 x17_1).f1).toList)))) = true
                · rw [if_pos c13] at H
                  have c13b0 : (!((((rd_T37 l0_6 x17_1).f0).toList) == (((rd_T37 l1_6 x17_1).f0).toList)) || (!((((rd_T37 l0_6 x17_1).f1).toList) == (((rd_T37 l1_6 x17_1).f1).toList)))) = true := c13
                  clear c13
                  obtain rfl := Option.some.inj H
                  have p351 : 0 ≤ (x17_1 : Int) := of_decide_eq_true (by first | (with_reducible assumption) | assumption)
                  have q351 : x17_1 < (l0_6.length : Int) := of_decide_eq_true (by first | (with_reducible assumption) | assumption)
                  obtain ⟨ad351, e351, hx351_0, hx351_1⟩ := at_T37 HR0_6.out x17_1 p351 q351
                  cases e351
                  replace hx351_0 := (HB.out.cell (World.block_lt_of_cell? w _ hx351_0)).trans hx351_0
                  replace hx351_1 := (HB.out.cell (World.block_lt_of_cell? w _ hx351_1)).trans hx351_1
                  replace p351 := eq_true p351
                  replace q351 := eq_true q351
                  go_wp2_with (first | ((with_reducible refine gate_dst (N := 6) rfl ?_); refine box_event ?hg (N := 6) ?hd (cs := #[.string (⟨#[]⟩ : ByteArray), .string (⟨#[]⟩ : ByteArray)]) (t := 37) ?hr ?_; (case hd => rfl); (case hg => rfl); (case hr => first | (go_simp; done) | (go_simp; rfl)); intro gb352 hg w14 hbox hb; have n0_ := Aside0.mk (blk_below (g := gb349) (o := .cells #[.bool a0_0, .string a0_1, .string a0_2, .int .i64 a0_3, .int .i64 a0_4, .string a0_5, .slice (some ad351) l0_6.length c0_6] 24 (0, 0)) (by (with_reducible repeat (first | refine blk_drewN ?_ _ | refine blk_drew ?_ | refine blk_alloc ?_ _)); exact BK349.out) hb); have n1_ := Aside0.mk (blk_below (g := gb350) (o := .cells #[.bool a1_0, .string a1_1, .string a1_2, .int .i64 a1_3, .int .i64 a1_4, .string a1_5, .slice A1_6 l1_6.length c1_6] 24 (0, 0)) (by (with_reducible repeat (first | refine blk_drewN ?_ _ | refine blk_drew ?_ | refine blk_alloc ?_ _)); exact BK350.out) hb); have n2_ := Aside0.mk (below_step (by repeat (first | (with_reducible first | exact HB.out | apply below_alloc | apply pw_below_drewN | apply below_drew1 | refine below_set ?_ GE349.out | refine below_set ?_ GE350.out) | exact HB.out)) hb); have n3_ := Aside0.mk (hbox); have n4_ := Aside0.mk ((by rw [hg]; exact (below_size (by repeat (first | (with_reducible first | exact HB.out | apply below_alloc | apply pw_below_drewN | apply below_drew1 | refine below_set ?_ GE349.out | refine below_set ?_ GE350.out) | exact HB.out))) : w.heap.size ≤ gb352)); have n5_ := Aside0.mk ((by rw [hg]; exact (below_size (by repeat (first | (with_reducible first | exact HB.out | apply below_alloc | apply pw_below_drewN | apply below_drew1 | refine below_set ?_ GE349.out | refine below_set ?_ GE350.out) | exact HB.out))) : w.heap.size ≤ gb352)); have n6_ := Aside0.mk ((by rw [hg]; exact Nat.ne_of_lt (blk_lt (g := gb349) (o := .cells #[.bool a0_0, .string a0_1, .string a0_2, .int .i64 a0_3, .int .i64 a0_4, .string a0_5, .slice (some ad351) l0_6.length c0_6] 24 (0, 0)) (by (with_reducible repeat (first | refine blk_drewN ?_ _ | refine blk_drew ?_ | refine blk_alloc ?_ _)); exact BK349.out)) : gb349 ≠ gb352)); have n7_ := Aside0.mk ((by rw [hg]; exact Nat.ne_of_gt (blk_lt (g := gb349) (o := .cells #[.bool a0_0, .string a0_1, .string a0_2, .int .i64 a0_3, .int .i64 a0_4, .string a0_5, .slice (some ad351) l0_6.length c0_6] 24 (0, 0)) (by (with_reducible repeat (first | refine blk_drewN ?_ _ | refine blk_drew ?_ | refine blk_alloc ?_ _)); exact BK349.out)) : gb352 ≠ gb349)); have n8_ := Aside0.mk ((by rw [hg]; exact Nat.ne_of_lt (blk_lt (g := gb350) (o := .cells #[.bool a1_0, .string a1_1, .string a1_2, .int .i64 a1_3, .int .i64 a1_4, .string a1_5, .slice A1_6 l1_6.length c1_6] 24 (0, 0)) (by (with_reducible repeat (first | refine blk_drewN ?_ _ | refine blk_drew ?_ | refine blk_alloc ?_ _)); exact BK350.out)) : gb350 ≠ gb352)); have n9_ := Aside0.mk ((by rw [hg]; exact Nat.ne_of_gt (blk_lt (g := gb350) (o := .cells #[.bool a1_0, .string a1_1, .string a1_2, .int .i64 a1_3, .int .i64 a1_4, .string a1_5, .slice A1_6 l1_6.length c1_6] 24 (0, 0)) (by (with_reducible repeat (first | refine blk_drewN ?_ _ | refine blk_drew ?_ | refine blk_alloc ?_ _)); exact BK350.out)) : gb352 ≠ gb350)); clear BK349; clear BK350; clear HB; have BK349 := n0_; have BK350 := n1_; have HB := n2_; have BK352 := n3_; have GW352 := n4_; have GE352 := n5_; have NB349_352 := n6_; have NB352_349 := n7_; have NB350_352 := n8_; have NB352_350 := n9_; clear n0_ n1_ n2_ n3_ n4_ n5_ n6_ n7_ n8_ n9_; clear hb hbox hg; have hnb15 := NB352_349.out; have hnc15 := NB349_352.out; have hnb16 := NB352_350.out; have hnc16 := NB350_352.out; have hcz17_0 : w14.cell? ⟨gb352, 0, none⟩ = some (.string (⟨#[]⟩ : ByteArray)) := (blk_cell BK352.out 0).trans rfl; have hcz17_1 : w14.cell? ⟨gb352, 1, none⟩ = some (.string (⟨#[]⟩ : ByteArray)) := (blk_cell BK352.out 1).trans rfl; have hfz17_0 := blk_frozen BK352.out 0; have hfz17_1 := blk_frozen BK352.out 1; have hnb18 := NB350_349.out; have hnc18 := NB349_350.out; have hcz19_0 : w14.cell? ⟨gb350, 0, none⟩ = some (.bool a1_0) := (blk_cell BK350.out 0).trans rfl; have hcz19_1 : w14.cell? ⟨gb350, 1, none⟩ = some (.string a1_1) := (blk_cell BK350.out 1).trans rfl; have hcz19_2 : w14.cell? ⟨gb350, 2, none⟩ = some (.string a1_2) := (blk_cell BK350.out 2).trans rfl; have hcz19_3 : w14.cell? ⟨gb350, 3, none⟩ = some (.int .i64 a1_3) := (blk_cell BK350.out 3).trans rfl; have hcz19_4 : w14.cell? ⟨gb350, 4, none⟩ = some (.int .i64 a1_4) := (blk_cell BK350.out 4).trans rfl; have hcz19_5 : w14.cell? ⟨gb350, 5, none⟩ = some (.string a1_5) := (blk_cell BK350.out 5).trans rfl; have hcz19_6 : w14.cell? ⟨gb350, 6, none⟩ = some (.slice A1_6 l1_6.length c1_6) := (blk_cell BK350.out 6).trans rfl; have hfz19_0 := blk_frozen BK350.out 0; have hfz19_1 := blk_frozen BK350.out 1; have hfz19_2 := blk_frozen BK350.out 2; have hfz19_3 := blk_frozen BK350.out 3; have hfz19_4 := blk_frozen BK350.out 4; have hfz19_5 := blk_frozen BK350.out 5; have hfz19_6 := blk_frozen BK350.out 6; have p353 : 0 ≤ (x17_1 : Int) := of_decide_eq_true (by first | (with_reducible assumption) | assumption); have q353 : x17_1 < (l1_6.length : Int) := of_decide_eq_true (by first | (with_reducible assumption) | assumption); obtain ⟨ad353, e353, hx353_0, hx353_1⟩ := at_T37 HR1_6.out x17_1 p353 q353; cases e353; have hn353_0 : ad353.block ≠ gb352 := Nat.ne_of_lt (Nat.lt_of_lt_of_le (by have := World.block_lt_of_cell? _ _ hx353_0; first | rwa [add_block] at this | exact this) GW352.out); have hn353_1 : ad353.block ≠ gb352 := Nat.ne_of_lt (Nat.lt_of_lt_of_le (by have := World.block_lt_of_cell? _ _ hx353_0; first | rwa [add_block] at this | exact this) GW352.out); replace hx353_0 := (HB.out.cell (World.block_lt_of_cell? w _ hx353_0)).trans hx353_0; replace hx353_1 := (HB.out.cell (World.block_lt_of_cell? w _ hx353_1)).trans hx353_1; replace hx353_0 := (cell_far (p := ⟨gb352, 0, none⟩) (by first | (rw [add_block]; exact hn353_0) | (show (Addr.add _ _).block ≠ _; rw [add_block]; exact hn353_0) | exact hn353_0) (.string ((rd_T37 l0_6 x17_1).f0))).trans hx353_0; replace hx353_1 := (cell_far (p := ⟨gb352, 0, none⟩) (by first | (rw [add_block]; exact hn353_0) | (show (Addr.add _ _).block ≠ _; rw [add_block]; exact hn353_0) | exact hn353_0) (.string ((rd_T37 l0_6 x17_1).f0))).trans hx353_1; replace hx353_0 := (cell_far (p := ⟨gb352, 1, none⟩) (by first | (rw [add_block]; exact hn353_1) | (show (Addr.add _ _).block ≠ _; rw [add_block]; exact hn353_1) | exact hn353_1) (.string ((rd_T37 l0_6 x17_1).f1))).trans hx353_0; replace hx353_1 := (cell_far (p := ⟨gb352, 1, none⟩) (by first | (rw [add_block]; exact hn353_1) | (show (Addr.add _ _).block ≠ _; rw [add_block]; exact hn353_1) | exact hn353_1) (.string ((rd_T37 l0_6 x17_1).f1))).trans hx353_1; (try have hy353_0 := fun (n_ : Nat) => (show ((((w14.drewN n_).setCell ⟨gb352, 0, none⟩ (.string ((rd_T37 l0_6 x17_1).f0))).setCell ⟨gb352, 1, none⟩ (.string ((rd_T37 l0_6 x17_1).f1)))).cell? _ = some _ from hx353_0)); (try have hy353_1 := fun (n_ : Nat) => (show ((((w14.drewN n_).setCell ⟨gb352, 0, none⟩ (.string ((rd_T37 l0_6 x17_1).f0))).setCell ⟨gb352, 1, none⟩ (.string ((rd_T37 l0_6 x17_1).f1)))).cell? _ = some _ from hx353_1)); clear hn353_0; clear hn353_1; replace p353 := eq_true p353; replace q353 := eq_true q353))
                  repeat (go_quiet (first | ((with_reducible refine gate_dst (N := 6) rfl ?_); refine box_event ?hg (N := 6) ?hd (cs := #[.string (⟨#[]⟩ : ByteArray), .string (⟨#[]⟩ : ByteArray)]) (t := 37) ?hr ?_; (case hd => rfl); (case hg => rfl); (case hr => first | (go_simp; done) | (go_simp; rfl)); intro gb352 hg w14 hbox hb; have n0_ := Aside0.mk (blk_below (g := gb349) (o := .cells #[.bool a0_0, .string a0_1, .string a0_2, .int .i64 a0_3, .int .i64 a0_4, .string a0_5, .slice (some ad351) l0_6.length c0_6] 24 (0, 0)) (by (with_reducible repeat (first | refine blk_drewN ?_ _ | refine blk_drew ?_ | refine blk_alloc ?_ _)); exact BK349.out) hb); have n1_ := Aside0.mk (blk_below (g := gb350) (o := .cells #[.bool a1_0, .string a1_1, .string a1_2, .int .i64 a1_3, .int .i64 a1_4, .string a1_5, .slice A1_6 l1_6.length c1_6] 24 (0, 0)) (by (with_reducible repeat (first | refine blk_drewN ?_ _ | refine blk_drew ?_ | refine blk_alloc ?_ _)); exact BK350.out) hb); have n2_ := Aside0.mk (below_step (by repeat (first | (with_reducible first | exact HB.out | apply below_alloc | apply pw_below_drewN | apply below_drew1 | refine below_set ?_ GE349.out | refine below_set ?_ GE350.out) | exact HB.out)) hb); have n3_ := Aside0.mk (hbox); have n4_ := Aside0.mk ((by rw [hg]; exact (below_size (by repeat (first | (with_reducible first | exact HB.out | apply below_alloc | apply pw_below_drewN | apply below_drew1 | refine below_set ?_ GE349.out | refine below_set ?_ GE350.out) | exact HB.out))) : w.heap.size ≤ gb352)); have n5_ := Aside0.mk ((by rw [hg]; exact (below_size (by repeat (first | (with_reducible first | exact HB.out | apply below_alloc | apply pw_below_drewN | apply below_drew1 | refine below_set ?_ GE349.out | refine below_set ?_ GE350.out) | exact HB.out))) : w.heap.size ≤ gb352)); have n6_ := Aside0.mk ((by rw [hg]; exact Nat.ne_of_lt (blk_lt (g := gb349) (o := .cells #[.bool a0_0, .string a0_1, .string a0_2, .int .i64 a0_3, .int .i64 a0_4, .string a0_5, .slice (some ad351) l0_6.length c0_6] 24 (0, 0)) (by (with_reducible repeat (first | refine blk_drewN ?_ _ | refine blk_drew ?_ | refine blk_alloc ?_ _)); exact BK349.out)) : gb349 ≠ gb352)); have n7_ := Aside0.mk ((by rw [hg]; exact Nat.ne_of_gt (blk_lt (g := gb349) (o := .cells #[.bool a0_0, .string a0_1, .string a0_2, .int .i64 a0_3, .int .i64 a0_4, .string a0_5, .slice (some ad351) l0_6.length c0_6] 24 (0, 0)) (by (with_reducible repeat (first | refine blk_drewN ?_ _ | refine blk_drew ?_ | refine blk_alloc ?_ _)); exact BK349.out)) : gb352 ≠ gb349)); have n8_ := Aside0.mk ((by rw [hg]; exact Nat.ne_of_lt (blk_lt (g := gb350) (o := .cells #[.bool a1_0, .string a1_1, .string a1_2, .int .i64 a1_3, .int .i64 a1_4, .string a1_5, .slice A1_6 l1_6.length c1_6] 24 (0, 0)) (by (with_reducible repeat (first | refine blk_drewN ?_ _ | refine blk_drew ?_ | refine blk_alloc ?_ _)); exact BK350.out)) : gb350 ≠ gb352)); have n9_ := Aside0.mk ((by rw [hg]; exact Nat.ne_of_gt (blk_lt (g := gb350) (o := .cells #[.bool a1_0, .string a1_1, .string a1_2, .int .i64 a1_3, .int .i64 a1_4, .string a1_5, .slice A1_6 l1_6.length c1_6] 24 (0, 0)) (by (with_reducible repeat (first | refine blk_drewN ?_ _ | refine blk_drew ?_ | refine blk_alloc ?_ _)); exact BK350.out)) : gb352 ≠ gb350)); clear BK349; clear BK350; clear HB; have BK349 := n0_; have BK350 := n1_; have HB := n2_; have BK352 := n3_; have GW352 := n4_; have GE352 := n5_; have NB349_352 := n6_; have NB352_349 := n7_; have NB350_352 := n8_; have NB352_350 := n9_; clear n0_ n1_ n2_ n3_ n4_ n5_ n6_ n7_ n8_ n9_; clear hb hbox hg; have hnb15 := NB352_349.out; have hnc15 := NB349_352.out; have hnb16 := NB352_350.out; have hnc16 := NB350_352.out; have hcz17_0 : w14.cell? ⟨gb352, 0, none⟩ = some (.string (⟨#[]⟩ : ByteArray)) := (blk_cell BK352.out 0).trans rfl; have hcz17_1 : w14.cell? ⟨gb352, 1, none⟩ = some (.string (⟨#[]⟩ : ByteArray)) := (blk_cell BK352.out 1).trans rfl; have hfz17_0 := blk_frozen BK352.out 0; have hfz17_1 := blk_frozen BK352.out 1; have hnb18 := NB350_349.out; have hnc18 := NB349_350.out; have hcz19_0 : w14.cell? ⟨gb350, 0, none⟩ = some (.bool a1_0) := (blk_cell BK350.out 0).trans rfl; have hcz19_1 : w14.cell? ⟨gb350, 1, none⟩ = some (.string a1_1) := (blk_cell BK350.out 1).trans rfl; have hcz19_2 : w14.cell? ⟨gb350, 2, none⟩ = some (.string a1_2) := (blk_cell BK350.out 2).trans rfl; have hcz19_3 : w14.cell? ⟨gb350, 3, none⟩ = some (.int .i64 a1_3) := (blk_cell BK350.out 3).trans rfl; have hcz19_4 : w14.cell? ⟨gb350, 4, none⟩ = some (.int .i64 a1_4) := (blk_cell BK350.out 4).trans rfl; have hcz19_5 : w14.cell? ⟨gb350, 5, none⟩ = some (.string a1_5) := (blk_cell BK350.out 5).trans rfl; have hcz19_6 : w14.cell? ⟨gb350, 6, none⟩ = some (.slice A1_6 l1_6.length c1_6) := (blk_cell BK350.out 6).trans rfl; have hfz19_0 := blk_frozen BK350.out 0; have hfz19_1 := blk_frozen BK350.out 1; have hfz19_2 := blk_frozen BK350.out 2; have hfz19_3 := blk_frozen BK350.out 3; have hfz19_4 := blk_frozen BK350.out 4; have hfz19_5 := blk_frozen BK350.out 5; have hfz19_6 := blk_frozen BK350.out 6; have p353 : 0 ≤ (x17_1 : Int) := of_decide_eq_true (by first | (with_reducible assumption) | assumption); have q353 : x17_1 < (l1_6.length : Int) := of_decide_eq_true (by first | (with_reducible assumption) | assumption); obtain ⟨ad353, e353, hx353_0, hx353_1⟩ := at_T37 HR1_6.out x17_1 p353 q353; cases e353; have hn353_0 : ad353.block ≠ gb352 := Nat.ne_of_lt (Nat.lt_of_lt_of_le (by have := World.block_lt_of_cell? _ _ hx353_0; first | rwa [add_block] at this | exact this) GW352.out); have hn353_1 : ad353.block ≠ gb352 := Nat.ne_of_lt (Nat.lt_of_lt_of_le (by have := World.block_lt_of_cell? _ _ hx353_0; first | rwa [add_block] at this | exact this) GW352.out); replace hx353_0 := (HB.out.cell (World.block_lt_of_cell? w _ hx353_0)).trans hx353_0; replace hx353_1 := (HB.out.cell (World.block_lt_of_cell? w _ hx353_1)).trans hx353_1; replace hx353_0 := (cell_far (p := ⟨gb352, 0, none⟩) (by first | (rw [add_block]; exact hn353_0) | (show (Addr.add _ _).block ≠ _; rw [add_block]; exact hn353_0) | exact hn353_0) (.string ((rd_T37 l0_6 x17_1).f0))).trans hx353_0; replace hx353_1 := (cell_far (p := ⟨gb352, 0, none⟩) (by first | (rw [add_block]; exact hn353_0) | (show (Addr.add _ _).block ≠ _; rw [add_block]; exact hn353_0) | exact hn353_0) (.string ((rd_T37 l0_6 x17_1).f0))).trans hx353_1; replace hx353_0 := (cell_far (p := ⟨gb352, 1, none⟩) (by first | (rw [add_block]; exact hn353_1) | (show (Addr.add _ _).block ≠ _; rw [add_block]; exact hn353_1) | exact hn353_1) (.string ((rd_T37 l0_6 x17_1).f1))).trans hx353_0; replace hx353_1 := (cell_far (p := ⟨gb352, 1, none⟩) (by first | (rw [add_block]; exact hn353_1) | (show (Addr.add _ _).block ≠ _; rw [add_block]; exact hn353_1) | exact hn353_1) (.string ((rd_T37 l0_6 x17_1).f1))).trans hx353_1; (try have hy353_0 := fun (n_ : Nat) => (show ((((w14.drewN n_).setCell ⟨gb352, 0, none⟩ (.string ((rd_T37 l0_6 x17_1).f0))).setCell ⟨gb352, 1, none⟩ (.string ((rd_T37 l0_6 x17_1).f1)))).cell? _ = some _ from hx353_0)); (try have hy353_1 := fun (n_ : Nat) => (show ((((w14.drewN n_).setCell ⟨gb352, 0, none⟩ (.string ((rd_T37 l0_6 x17_1).f0))).setCell ⟨gb352, 1, none⟩ (.string ((rd_T37 l0_6 x17_1).f1)))).cell? _ = some _ from hx353_1)); clear hn353_0; clear hn353_1; replace p353 := eq_true p353; replace q353 := eq_true q353)); try go_wp2_with (first | ((with_reducible refine gate_dst (N := 6) rfl ?_); refine box_event ?hg (N := 6) ?hd (cs := #[.string (⟨#[]⟩ : ByteArray), .string (⟨#[]⟩ : ByteArray)]) (t := 37) ?hr ?_; (case hd => rfl); (case hg => rfl); (case hr => first | (go_simp; done) | (go_simp; rfl)); intro gb352 hg w14 hbox hb; have n0_ := Aside0.mk (blk_below (g := gb349) (o := .cells #[.bool a0_0, .string a0_1, .string a0_2, .int .i64 a0_3, .int .i64 a0_4, .string a0_5, .slice (some ad351) l0_6.length c0_6] 24 (0, 0)) (by (with_reducible repeat (first | refine blk_drewN ?_ _ | refine blk_drew ?_ | refine blk_alloc ?_ _)); exact BK349.out) hb); have n1_ := Aside0.mk (blk_below (g := gb350) (o := .cells #[.bool a1_0, .string a1_1, .string a1_2, .int .i64 a1_3, .int .i64 a1_4, .string a1_5, .slice A1_6 l1_6.length c1_6] 24 (0, 0)) (by (with_reducible repeat (first | refine blk_drewN ?_ _ | refine blk_drew ?_ | refine blk_alloc ?_ _)); exact BK350.out) hb); have n2_ := Aside0.mk (below_step (by repeat (first | (with_reducible first | exact HB.out | apply below_alloc | apply pw_below_drewN | apply below_drew1 | refine below_set ?_ GE349.out | refine below_set ?_ GE350.out) | exact HB.out)) hb); have n3_ := Aside0.mk (hbox); have n4_ := Aside0.mk ((by rw [hg]; exact (below_size (by repeat (first | (with_reducible first | exact HB.out | apply below_alloc | apply pw_below_drewN | apply below_drew1 | refine below_set ?_ GE349.out | refine below_set ?_ GE350.out) | exact HB.out))) : w.heap.size ≤ gb352)); have n5_ := Aside0.mk ((by rw [hg]; exact (below_size (by repeat (first | (with_reducible first | exact HB.out | apply below_alloc | apply pw_below_drewN | apply below_drew1 | refine below_set ?_ GE349.out | refine below_set ?_ GE350.out) | exact HB.out))) : w.heap.size ≤ gb352)); have n6_ := Aside0.mk ((by rw [hg]; exact Nat.ne_of_lt (blk_lt (g := gb349) (o := .cells #[.bool a0_0, .string a0_1, .string a0_2, .int .i64 a0_3, .int .i64 a0_4, .string a0_5, .slice (some ad351) l0_6.length c0_6] 24 (0, 0)) (by (with_reducible repeat (first | refine blk_drewN ?_ _ | refine blk_drew ?_ | refine blk_alloc ?_ _)); exact BK349.out)) : gb349 ≠ gb352)); have n7_ := Aside0.mk ((by rw [hg]; exact Nat.ne_of_gt (blk_lt (g := gb349) (o := .cells #[.bool a0_0, .string a0_1, .string a0_2, .int .i64 a0_3, .int .i64 a0_4, .string a0_5, .slice (some ad351) l0_6.length c0_6] 24 (0, 0)) (by (with_reducible repeat (first | refine blk_drewN ?_ _ | refine blk_drew ?_ | refine blk_alloc ?_ _)); exact BK349.out)) : gb352 ≠ gb349)); have n8_ := Aside0.mk ((by rw [hg]; exact Nat.ne_of_lt (blk_lt (g := gb350) (o := .cells #[.bool a1_0, .string a1_1, .string a1_2, .int .i64 a1_3, .int .i64 a1_4, .string a1_5, .slice A1_6 l1_6.length c1_6] 24 (0, 0)) (by (with_reducible repeat (first | refine blk_drewN ?_ _ | refine blk_drew ?_ | refine blk_alloc ?_ _)); exact BK350.out)) : gb350 ≠ gb352)); have n9_ := Aside0.mk ((by rw [hg]; exact Nat.ne_of_gt (blk_lt (g := gb350) (o := .cells #[.bool a1_0, .string a1_1, .string a1_2, .int .i64 a1_3, .int .i64 a1_4, .string a1_5, .slice A1_6 l1_6.length c1_6] 24 (0, 0)) (by (with_reducible repeat (first | refine blk_drewN ?_ _ | refine blk_drew ?_ | refine blk_alloc ?_ _)); exact BK350.out)) : gb352 ≠ gb350)); clear BK349; clear BK350; clear HB; have BK349 := n0_; have BK350 := n1_; have HB := n2_; have BK352 := n3_; have GW352 := n4_; have GE352 := n5_; have NB349_352 := n6_; have NB352_349 := n7_; have NB350_352 := n8_; have NB352_350 := n9_; clear n0_ n1_ n2_ n3_ n4_ n5_ n6_ n7_ n8_ n9_; clear hb hbox hg; have hnb15 := NB352_349.out; have hnc15 := NB349_352.out; have hnb16 := NB352_350.out; have hnc16 := NB350_352.out; have hcz17_0 : w14.cell? ⟨gb352, 0, none⟩ = some (.string (⟨#[]⟩ : ByteArray)) := (blk_cell BK352.out 0).trans rfl; have hcz17_1 : w14.cell? ⟨gb352, 1, none⟩ = some (.string (⟨#[]⟩ : ByteArray)) := (blk_cell BK352.out 1).trans rfl; have hfz17_0 := blk_frozen BK352.out 0; have hfz17_1 := blk_frozen BK352.out 1; have hnb18 := NB350_349.out; have hnc18 := NB349_350.out; have hcz19_0 : w14.cell? ⟨gb350, 0, none⟩ = some (.bool a1_0) := (blk_cell BK350.out 0).trans rfl; have hcz19_1 : w14.cell? ⟨gb350, 1, none⟩ = some (.string a1_1) := (blk_cell BK350.out 1).trans rfl; have hcz19_2 : w14.cell? ⟨gb350, 2, none⟩ = some (.string a1_2) := (blk_cell BK350.out 2).trans rfl; have hcz19_3 : w14.cell? ⟨gb350, 3, none⟩ = some (.int .i64 a1_3) := (blk_cell BK350.out 3).trans rfl; have hcz19_4 : w14.cell? ⟨gb350, 4, none⟩ = some (.int .i64 a1_4) := (blk_cell BK350.out 4).trans rfl; have hcz19_5 : w14.cell? ⟨gb350, 5, none⟩ = some (.string a1_5) := (blk_cell BK350.out 5).trans rfl; have hcz19_6 : w14.cell? ⟨gb350, 6, none⟩ = some (.slice A1_6 l1_6.length c1_6) := (blk_cell BK350.out 6).trans rfl; have hfz19_0 := blk_frozen BK350.out 0; have hfz19_1 := blk_frozen BK350.out 1; have hfz19_2 := blk_frozen BK350.out 2; have hfz19_3 := blk_frozen BK350.out 3; have hfz19_4 := blk_frozen BK350.out 4; have hfz19_5 := blk_frozen BK350.out 5; have hfz19_6 := blk_frozen BK350.out 6; have p353 : 0 ≤ (x17_1 : Int) := of_decide_eq_true (by first | (with_reducible assumption) | assumption); have q353 : x17_1 < (l1_6.length : Int) := of_decide_eq_true (by first | (with_reducible assumption) | assumption); obtain ⟨ad353, e353, hx353_0, hx353_1⟩ := at_T37 HR1_6.out x17_1 p353 q353; cases e353; have hn353_0 : ad353.block ≠ gb352 := Nat.ne_of_lt (Nat.lt_of_lt_of_le (by have := World.block_lt_of_cell? _ _ hx353_0; first | rwa [add_block] at this | exact this) GW352.out); have hn353_1 : ad353.block ≠ gb352 := Nat.ne_of_lt (Nat.lt_of_lt_of_le (by have := World.block_lt_of_cell? _ _ hx353_0; first | rwa [add_block] at this | exact this) GW352.out); replace hx353_0 := (HB.out.cell (World.block_lt_of_cell? w _ hx353_0)).trans hx353_0; replace hx353_1 := (HB.out.cell (World.block_lt_of_cell? w _ hx353_1)).trans hx353_1; replace hx353_0 := (cell_far (p := ⟨gb352, 0, none⟩) (by first | (rw [add_block]; exact hn353_0) | (show (Addr.add _ _).block ≠ _; rw [add_block]; exact hn353_0) | exact hn353_0) (.string ((rd_T37 l0_6 x17_1).f0))).trans hx353_0; replace hx353_1 := (cell_far (p := ⟨gb352, 0, none⟩) (by first | (rw [add_block]; exact hn353_0) | (show (Addr.add _ _).block ≠ _; rw [add_block]; exact hn353_0) | exact hn353_0) (.string ((rd_T37 l0_6 x17_1).f0))).trans hx353_1; replace hx353_0 := (cell_far (p := ⟨gb352, 1, none⟩) (by first | (rw [add_block]; exact hn353_1) | (show (Addr.add _ _).block ≠ _; rw [add_block]; exact hn353_1) | exact hn353_1) (.string ((rd_T37 l0_6 x17_1).f1))).trans hx353_0; replace hx353_1 := (cell_far (p := ⟨gb352, 1, none⟩) (by first | (rw [add_block]; exact hn353_1) | (show (Addr.add _ _).block ≠ _; rw [add_block]; exact hn353_1) | exact hn353_1) (.string ((rd_T37 l0_6 x17_1).f1))).trans hx353_1; (try have hy353_0 := fun (n_ : Nat) => (show ((((w14.drewN n_).setCell ⟨gb352, 0, none⟩ (.string ((rd_T37 l0_6 x17_1).f0))).setCell ⟨gb352, 1, none⟩ (.string ((rd_T37 l0_6 x17_1).f1)))).cell? _ = some _ from hx353_0)); (try have hy353_1 := fun (n_ : Nat) => (show ((((w14.drewN n_).setCell ⟨gb352, 0, none⟩ (.string ((rd_T37 l0_6 x17_1).f0))).setCell ⟨gb352, 1, none⟩ (.string ((rd_T37 l0_6 x17_1).f1)))).cell? _ = some _ from hx353_1)); clear hn353_0; clear hn353_1; replace p353 := eq_true p353; replace q353 := eq_true q353)))
                  go_ret
                  exact ⟨by first | rfl | (simp [errW_none, errW_some] <;> rfl) | (simp [*, errW_none, errW_some] <;> rfl) | (simp [bneNil, beqNil]; done), by repeat (first | (with_reducible first | exact HB.out | apply below_alloc | apply pw_below_drewN | apply below_drew1 | refine below_set ?_ GE349.out | refine below_set ?_ GE350.out | refine below_set ?_ GE352.out) | exact HB.out)⟩
                · rw [if_neg c13] at H
                  have c13b0 : (!((((rd_T37 l0_6 x17_1).f0).toList) == (((rd_T37 l1_6 x17_1).f0).toList)) || (!((((rd_T37 l0_6 x17_1).f1).toList) == (((rd_T37 l1_6 x17_1).f1).toList)))) = false := by simpa using c13
                  clear c13
                  have H' := Aside0.mk H
                  clear H
                  have p351 : 0 ≤ (x17_1 : Int) := of_decide_eq_true (by first | (with_reducible assumption) | assumption)
                  have q351 : x17_1 < (l0_6.length : Int) := of_decide_eq_true (by first | (with_reducible assumption) | assumption)
                  obtain ⟨ad351, e351, hx351_0, hx351_1⟩ := at_T37 HR0_6.out x17_1 p351 q351
                  cases e351
                  replace hx351_0 := (HB.out.cell (World.block_lt_of_cell? w _ hx351_0)).trans hx351_0
                  replace hx351_1 := (HB.out.cell (World.block_lt_of_cell? w _ hx351_1)).trans hx351_1
                  replace p351 := eq_true p351
                  replace q351 := eq_true q351
                  go_wp2_with (first | ((with_reducible refine gate_dst (N := 6) rfl ?_); refine box_event ?hg (N := 6) ?hd (cs := #[.string (⟨#[]⟩ : ByteArray), .string (⟨#[]⟩ : ByteArray)]) (t := 37) ?hr ?_; (case hd => rfl); (case hg => rfl); (case hr => first | (go_simp; done) | (go_simp; rfl)); intro gb352 hg w20 hbox hb; have n0_ := Aside0.mk (blk_below (g := gb349) (o := .cells #[.bool a0_0, .string a0_1, .string a0_2, .int .i64 a0_3, .int .i64 a0_4, .string a0_5, .slice (some ad351) l0_6.length c0_6] 24 (0, 0)) (by (with_reducible repeat (first | refine blk_drewN ?_ _ | refine blk_drew ?_ | refine blk_alloc ?_ _)); exact BK349.out) hb); have n1_ := Aside0.mk (blk_below (g := gb350) (o := .cells #[.bool a1_0, .string a1_1, .string a1_2, .int .i64 a1_3, .int .i64 a1_4, .string a1_5, .slice A1_6 l1_6.length c1_6] 24 (0, 0)) (by (with_reducible repeat (first | refine blk_drewN ?_ _ | refine blk_drew ?_ | refine blk_alloc ?_ _)); exact BK350.out) hb); have n2_ := Aside0.mk (below_step (by repeat (first | (with_reducible first | exact HB.out | apply below_alloc | apply pw_below_drewN | apply below_drew1 | refine below_set ?_ GE349.out | refine below_set ?_ GE350.out) | exact HB.out)) hb); have n3_ := Aside0.mk (hbox); have n4_ := Aside0.mk ((by rw [hg]; exact (below_size (by repeat (first | (with_reducible first | exact HB.out | apply below_alloc | apply pw_below_drewN | apply below_drew1 | refine below_set ?_ GE349.out | refine below_set ?_ GE350.out) | exact HB.out))) : w.heap.size ≤ gb352)); have n5_ := Aside0.mk ((by rw [hg]; exact (below_size (by repeat (first | (with_reducible first | exact HB.out | apply below_alloc | apply pw_below_drewN | apply below_drew1 | refine below_set ?_ GE349.out | refine below_set ?_ GE350.out) | exact HB.out))) : w.heap.size ≤ gb352)); have n6_ := Aside0.mk ((by rw [hg]; exact Nat.ne_of_lt (blk_lt (g := gb349) (o := .cells #[.bool a0_0, .string a0_1, .string a0_2, .int .i64 a0_3, .int .i64 a0_4, .string a0_5, .slice (some ad351) l0_6.length c0_6] 24 (0, 0)) (by (with_reducible repeat (first | refine blk_drewN ?_ _ | refine blk_drew ?_ | refine blk_alloc ?_ _)); exact BK349.out)) : gb349 ≠ gb352)); have n7_ := Aside0.mk ((by rw [hg]; exact Nat.ne_of_gt (blk_lt (g := gb349) (o := .cells #[.bool a0_0, .string a0_1, .string a0_2, .int .i64 a0_3, .int .i64 a0_4, .string a0_5, .slice (some ad351) l0_6.length c0_6] 24 (0, 0)) (by (with_reducible repeat (first | refine blk_drewN ?_ _ | refine blk_drew ?_ | refine blk_alloc ?_ _)); exact BK349.out)) : gb352 ≠ gb349)); have n8_ := Aside0.mk ((by rw [hg]; exact Nat.ne_of_lt (blk_lt (g := gb350) (o := .cells #[.bool a1_0, .string a1_1, .string a1_2, .int .i64 a1_3, .int .i64 a1_4, .string a1_5, .slice A1_6 l1_6.length c1_6] 24 (0, 0)) (by (with_reducible repeat (first | refine blk_drewN ?_ _ | refine blk_drew ?_ | refine blk_alloc ?_ _)); exact BK350.out)) : gb350 ≠ gb352)); have n9_ := Aside0.mk ((by rw [hg]; exact Nat.ne_of_gt (blk_lt (g := gb350) (o := .cells #[.bool a1_0, .string a1_1, .string a1_2, .int .i64 a1_3, .int .i64 a1_4, .string a1_5, .slice A1_6 l1_6.length c1_6] 24 (0, 0)) (by (with_reducible repeat (first | refine blk_drewN ?_ _ | refine blk_drew ?_ | refine blk_alloc ?_ _)); exact BK350.out)) : gb352 ≠ gb350)); clear BK349; clear BK350; clear HB; have BK349 := n0_; have BK350 := n1_; have HB := n2_; have BK352 := n3_; have GW352 := n4_; have GE352 := n5_; have NB349_352 := n6_; have NB352_349 := n7_; have NB350_352 := n8_; have NB352_350 := n9_; clear n0_ n1_ n2_ n3_ n4_ n5_ n6_ n7_ n8_ n9_; clear hb hbox hg; have hnb21 := NB352_349.out; have hnc21 := NB349_352.out; have hnb22 := NB352_350.out; have hnc22 := NB350_352.out; have hcz23_0 : w20.cell? ⟨gb352, 0, none⟩ = some (.string (⟨#[]⟩ : ByteArray)) := (blk_cell BK352.out 0).trans rfl; have hcz23_1 : w20.cell? ⟨gb352, 1, none⟩ = some (.string (⟨#[]⟩ : ByteArray)) := (blk_cell BK352.out 1).trans rfl; have hfz23_0 := blk_frozen BK352.out 0; have hfz23_1 := blk_frozen BK352.out 1; have hnb24 := NB350_349.out; have hnc24 := NB349_350.out; have hcz25_0 : w20.cell? ⟨gb350, 0, none⟩ = some (.bool a1_0) := (blk_cell BK350.out 0).trans rfl; have hcz25_1 : w20.cell? ⟨gb350, 1, none⟩ = some (.string a1_1) := (blk_cell BK350.out 1).trans rfl; have hcz25_2 : w20.cell? ⟨gb350, 2, none⟩ = some (.string a1_2) := (blk_cell BK350.out 2).trans rfl; have hcz25_3 : w20.cell? ⟨gb350, 3, none⟩ = some (.int .i64 a1_3) := (blk_cell BK350.out 3).trans rfl; have hcz25_4 : w20.cell? ⟨gb350, 4, none⟩ = some (.int .i64 a1_4) := (blk_cell BK350.out 4).trans rfl; have hcz25_5 : w20.cell? ⟨gb350, 5, none⟩ = some (.string a1_5) := (blk_cell BK350.out 5).trans rfl; have hcz25_6 : w20.cell? ⟨gb350, 6, none⟩ = some (.slice A1_6 l1_6.length c1_6) := (blk_cell BK350.out 6).trans rfl; have hfz25_0 := blk_frozen BK350.out 0; have hfz25_1 := blk_frozen BK350.out 1; have hfz25_2 := blk_frozen BK350.out 2; have hfz25_3 := blk_frozen BK350.out 3; have hfz25_4 := blk_frozen BK350.out 4; have hfz25_5 := blk_frozen BK350.out 5; have hfz25_6 := blk_frozen BK350.out 6; have p353 : 0 ≤ (x17_1 : Int) := of_decide_eq_true (by first | (with_reducible assumption) | assumption); have q353 : x17_1 < (l1_6.length : Int) := of_decide_eq_true (by first | (with_reducible assumption) | assumption); obtain ⟨ad353, e353, hx353_0, hx353_1⟩ := at_T37 HR1_6.out x17_1 p353 q353; cases e353; have hn353_0 : ad353.block ≠ gb352 := Nat.ne_of_lt (Nat.lt_of_lt_of_le (by have := World.block_lt_of_cell? _ _ hx353_0; first | rwa [add_block] at this | exact this) GW352.out); have hn353_1 : ad353.block ≠ gb352 := Nat.ne_of_lt (Nat.lt_of_lt_of_le (by have := World.block_lt_of_cell? _ _ hx353_0; first | rwa [add_block] at this | exact this) GW352.out); replace hx353_0 := (HB.out.cell (World.block_lt_of_cell? w _ hx353_0)).trans hx353_0; replace hx353_1 := (HB.out.cell (World.block_lt_of_cell? w _ hx353_1)).trans hx353_1; replace hx353_0 := (cell_far (p := ⟨gb352, 0, none⟩) (by first | (rw [add_block]; exact hn353_0) | (show (Addr.add _ _).block ≠ _; rw [add_block]; exact hn353_0) | exact hn353_0) (.string ((rd_T37 l0_6 x17_1).f0))).trans hx353_0; replace hx353_1 := (cell_far (p := ⟨gb352, 0, none⟩) (by first | (rw [add_block]; exact hn353_0) | (show (Addr.add _ _).block ≠ _; rw [add_block]; exact hn353_0) | exact hn353_0) (.string ((rd_T37 l0_6 x17_1).f0))).trans hx353_1; replace hx353_0 := (cell_far (p := ⟨gb352, 1, none⟩) (by first | (rw [add_block]; exact hn353_1) | (show (Addr.add _ _).block ≠ _; rw [add_block]; exact hn353_1) | exact hn353_1) (.string ((rd_T37 l0_6 x17_1).f1))).trans hx353_0; replace hx353_1 := (cell_far (p := ⟨gb352, 1, none⟩) (by first | (rw [add_block]; exact hn353_1) | (show (Addr.add _ _).block ≠ _; rw [add_block]; exact hn353_1) | exact hn353_1) (.string ((rd_T37 l0_6 x17_1).f1))).trans hx353_1; (try have hy353_0 := fun (n_ : Nat) => (show ((((w20.drewN n_).setCell ⟨gb352, 0, none⟩ (.string ((rd_T37 l0_6 x17_1).f0))).setCell ⟨gb352, 1, none⟩ (.string ((rd_T37 l0_6 x17_1).f1)))).cell? _ = some _ from hx353_0)); (try have hy353_1 := fun (n_ : Nat) => (show ((((w20.drewN n_).setCell ⟨gb352, 0, none⟩ (.string ((rd_T37 l0_6 x17_1).f0))).setCell ⟨gb352, 1, none⟩ (.string ((rd_T37 l0_6 x17_1).f1)))).cell? _ = some _ from hx353_1)); clear hn353_0; clear hn353_1; replace p353 := eq_true p353; replace q353 := eq_true q353))
                  repeat (go_quiet (first | ((with_reducible refine gate_dst (N := 6) rfl ?_); refine box_event ?hg (N := 6) ?hd (cs := #[.string (⟨#[]⟩ : ByteArray), .string (⟨#[]⟩ : ByteArray)]) (t := 37) ?hr ?_; (case hd => rfl); (case hg => rfl); (case hr => first | (go_simp; done) | (go_simp; rfl)); intro gb352 hg w20 hbox hb; have n0_ := Aside0.mk (blk_below (g := gb349) (o := .cells #[.bool a0_0, .string a0_1, .string a0_2, .int .i64 a0_3, .int .i64 a0_4, .string a0_5, .slice (some ad351) l0_6.length c0_6] 24 (0, 0)) (by (with_reducible repeat (first | refine blk_drewN ?_ _ | refine blk_drew ?_ | refine blk_alloc ?_ _)); exact BK349.out) hb); have n1_ := Aside0.mk (blk_below (g := gb350) (o := .cells #[.bool a1_0, .string a1_1, .string a1_2, .int .i64 a1_3, .int .i64 a1_4, .string a1_5, .slice A1_6 l1_6.length c1_6] 24 (0, 0)) (by (with_reducible repeat (first | refine blk_drewN ?_ _ | refine blk_drew ?_ | refine blk_alloc ?_ _)); exact BK350.out) hb); have n2_ := Aside0.mk (below_step (by repeat (first | (with_reducible first | exact HB.out | apply below_alloc | apply pw_below_drewN | apply below_drew1 | refine below_set ?_ GE349.out | refine below_set ?_ GE350.out) | exact HB.out)) hb); have n3_ := Aside0.mk (hbox); have n4_ := Aside0.mk ((by rw [hg]; exact (below_size (by repeat (first | (with_reducible first | exact HB.out | apply below_alloc | apply pw_below_drewN | apply below_drew1 | refine below_set ?_ GE349.out | refine below_set ?_ GE350.out) | exact HB.out))) : w.heap.size ≤ gb352)); have n5_ := Aside0.mk ((by rw [hg]; exact (below_size (by repeat (first | (with_reducible first | exact HB.out | apply below_alloc | apply pw_below_drewN | apply below_drew1 | refine below_set ?_ GE349.out | refine below_set ?_ GE350.out) | exact HB.out))) : w.heap.size ≤ gb352)); have n6_ := Aside0.mk ((by rw [hg]; exact Nat.ne_of_lt (blk_lt (g := gb349) (o := .cells #[.bool a0_0, .string a0_1, .string a0_2, .int .i64 a0_3, .int .i64 a0_4, .string a0_5, .slice (some ad351) l0_6.length c0_6] 24 (0, 0)) (by (with_reducible repeat (first | refine blk_drewN ?_ _ | refine blk_drew ?_ | refine blk_alloc ?_ _)); exact BK349.out)) : gb349 ≠ gb352)); have n7_ := Aside0.mk ((by rw [hg]; exact Nat.ne_of_gt (blk_lt (g := gb349) (o := .cells #[.bool a0_0, .string a0_1, .string a0_2, .int .i64 a0_3, .int .i64 a0_4, .string a0_5, .slice (some ad351) l0_6.length c0_6] 24 (0, 0)) (by (with_reducible repeat (first | refine blk_drewN ?_ _ | refine blk_drew ?_ | refine blk_alloc ?_ _)); exact BK349.out)) : gb352 ≠ gb349)); have n8_ := Aside0.mk ((by rw [hg]; exact Nat.ne_of_lt (blk_lt (g := gb350) (o := .cells #[.bool a1_0, .string a1_1, .string a1_2, .int .i64 a1_3, .int .i64 a1_4, .string a1_5, .slice A1_6 l1_6.length c1_6] 24 (0, 0)) (by (with_reducible repeat (first | refine blk_drewN ?_ _ | refine blk_drew ?_ | refine blk_alloc ?_ _)); exact BK350.out)) : gb350 ≠ gb352)); have n9_ := Aside0.mk ((by rw [hg]; exact Nat.ne_of_gt (blk_lt (g := gb350) (o := .cells #[.bool a1_0, .string a1_1, .string a1_2, .int .i64 a1_3, .int .i64 a1_4, .string a1_5, .slice A1_6 l1_6.length c1_6] 24 (0, 0)) (by (with_reducible repeat (first | refine blk_drewN ?_ _ | refine blk_drew ?_ | refine blk_alloc ?_ _)); exact BK350.out)) : gb352 ≠ gb350)); clear BK349; clear BK350; clear HB; have BK349 := n0_; have BK350 := n1_; have HB := n2_; have BK352 := n3_; have GW352 := n4_; have GE352 := n5_; have NB349_352 := n6_; have NB352_349 := n7_; have NB350_352 := n8_; have NB352_350 := n9_; clear n0_ n1_ n2_ n3_ n4_ n5_ n6_ n7_ n8_ n9_; clear hb hbox hg; have hnb21 := NB352_349.out; have hnc21 := NB349_352.out; have hnb22 := NB352_350.out; have hnc22 := NB350_352.out; have hcz23_0 : w20.cell? ⟨gb352, 0, none⟩ = some (.string (⟨#[]⟩ : ByteArray)) := (blk_cell BK352.out 0).trans rfl; have hcz23_1 : w20.cell? ⟨gb352, 1, none⟩ = some (.string (⟨#[]⟩ : ByteArray)) := (blk_cell BK352.out 1).trans rfl; have hfz23_0 := blk_frozen BK352.out 0; have hfz23_1 := blk_frozen BK352.out 1; have hnb24 := NB350_349.out; have hnc24 := NB349_350.out; have hcz25_0 : w20.cell? ⟨gb350, 0, none⟩ = some (.bool a1_0) := (blk_cell BK350.out 0).trans rfl; have hcz25_1 : w20.cell? ⟨gb350, 1, none⟩ = some (.string a1_1) := (blk_cell BK350.out 1).trans rfl; have hcz25_2 : w20.cell? ⟨gb350, 2, none⟩ = some (.string a1_2) := (blk_cell BK350.out 2).trans rfl; have hcz25_3 : w20.cell? ⟨gb350, 3, none⟩ = some (.int .i64 a1_3) := (blk_cell BK350.out 3).trans rfl; have hcz25_4 : w20.cell? ⟨gb350, 4, none⟩ = some (.int .i64 a1_4) := (blk_cell BK350.out 4).trans rfl; have hcz25_5 : w20.cell? ⟨gb350, 5, none⟩ = some (.string a1_5) := (blk_cell BK350.out 5).trans rfl; have hcz25_6 : w20.cell? ⟨gb350, 6, none⟩ = some (.slice A1_6 l1_6.length c1_6) := (blk_cell BK350.out 6).trans rfl; have hfz25_0 := blk_frozen BK350.out 0; have hfz25_1 := blk_frozen BK350.out 1; have hfz25_2 := blk_frozen BK350.out 2; have hfz25_3 := blk_frozen BK350.out 3; have hfz25_4 := blk_frozen BK350.out 4; have hfz25_5 := blk_frozen BK350.out 5; have hfz25_6 := blk_frozen BK350.out 6; have p353 : 0 ≤ (x17_1 : Int) := of_decide_eq_true (by first | (with_reducible assumption) | assumption); have q353 : x17_1 < (l1_6.length : Int) := of_decide_eq_true (by first | (with_reducible assumption) | assumption); obtain ⟨ad353, e353, hx353_0, hx353_1⟩ := at_T37 HR1_6.out x17_1 p353 q353; cases e353; have hn353_0 : ad353.block ≠ gb352 := Nat.ne_of_lt (Nat.lt_of_lt_of_le (by have := World.block_lt_of_cell? _ _ hx353_0; first | rwa [add_block] at this | exact this) GW352.out); have hn353_1 : ad353.block ≠ gb352 := Nat.ne_of_lt (Nat.lt_of_lt_of_le (by have := World.block_lt_of_cell? _ _ hx353_0; first | rwa [add_block] at this | exact this) GW352.out); replace hx353_0 := (HB.out.cell (World.block_lt_of_cell? w _ hx353_0)).trans hx353_0; replace hx353_1 := (HB.out.cell (World.block_lt_of_cell? w _ hx353_1)).trans hx353_1; replace hx353_0 := (cell_far (p := ⟨gb352, 0, none⟩) (by first | (rw [add_block]; exact hn353_0) | (show (Addr.add _ _).block ≠ _; rw [add_block]; exact hn353_0) | exact hn353_0) (.string ((rd_T37 l0_6 x17_1).f0))).trans hx353_0; replace hx353_1 := (cell_far (p := ⟨gb352, 0, none⟩) (by first | (rw [add_block]; exact hn353_0) | (show (Addr.add _ _).block ≠ _; rw [add_block]; exact hn353_0) | exact hn353_0) (.string ((rd_T37 l0_6 x17_1).f0))).trans hx353_1; replace hx353_0 := (cell_far (p := ⟨gb352, 1, none⟩) (by first | (rw [add_block]; exact hn353_1) | (show (Addr.add _ _).block ≠ _; rw [add_block]; exact hn353_1) | exact hn353_1) (.string ((rd_T37 l0_6 x17_1).f1))).trans hx353_0; replace hx353_1 := (cell_far (p := ⟨gb352, 1, none⟩) (by first | (rw [add_block]; exact hn353_1) | (show (Addr.add _ _).block ≠ _; rw [add_block]; exact hn353_1) | exact hn353_1) (.string ((rd_T37 l0_6 x17_1).f1))).trans hx353_1; (try have hy353_0 := fun (n_ : Nat) => (show ((((w20.drewN n_).setCell ⟨gb352, 0, none⟩ (.string ((rd_T37 l0_6 x17_1).f0))).setCell ⟨gb352, 1, none⟩ (.string ((rd_T37 l0_6 x17_1).f1)))).cell? _ = some _ from hx353_0)); (try have hy353_1 := fun (n_ : Nat) => (show ((((w20.drewN n_).setCell ⟨gb352, 0, none⟩ (.string ((rd_T37 l0_6 x17_1).f0))).setCell ⟨gb352, 1, none⟩ (.string ((rd_T37 l0_6 x17_1).f1)))).cell? _ = some _ from hx353_1)); clear hn353_0; clear hn353_1; replace p353 := eq_true p353; replace q353 := eq_true q353)); try go_wp2_with (first | ((with_reducible refine gate_dst (N := 6) rfl ?_); refine box_event ?hg (N := 6) ?hd (cs := #[.string (⟨#[]⟩ : ByteArray), .string (⟨#[]⟩ : ByteArray)]) (t := 37) ?hr ?_; (case hd => rfl); (case hg => rfl); (case hr => first | (go_simp; done) | (go_simp; rfl)); intro gb352 hg w20 hbox hb; have n0_ := Aside0.mk (blk_below (g := gb349) (o := .cells #[.bool a0_0, .string a0_1, .string a0_2, .int .i64 a0_3, .int .i64 a0_4, .string a0_5, .slice (some ad351) l0_6.length c0_6] 24 (0, 0)) (by (with_reducible repeat (first | refine blk_drewN ?_ _ | refine blk_drew ?_ | refine blk_alloc ?_ _)); exact BK349.out) hb); have n1_ := Aside0.mk (blk_below (g := gb350) (o := .cells #[.bool a1_0, .string a1_1, .string a1_2, .int .i64 a1_3, .int .i64 a1_4, .string a1_5, .slice A1_6 l1_6.length c1_6] 24 (0, 0)) (by (with_reducible repeat (first | refine blk_drewN ?_ _ | refine blk_drew ?_ | refine blk_alloc ?_ _)); exact BK350.out) hb); have n2_ := Aside0.mk (below_step (by repeat (first | (with_reducible first | exact HB.out | apply below_alloc | apply pw_below_drewN | apply below_drew1 | refine below_set ?_ GE349.out | refine below_set ?_ GE350.out) | exact HB.out)) hb); have n3_ := Aside0.mk (hbox); have n4_ := Aside0.mk ((by rw [hg]; exact (below_size (by repeat (first | (with_reducible first | exact HB.out | apply below_alloc | apply pw_below_drewN | apply below_drew1 | refine below_set ?_ GE349.out | refine below_set ?_ GE350.out) | exact HB.out))) : w.heap.size ≤ gb352)); have n5_ := Aside0.mk ((by rw [hg]; exact (below_size (by repeat (first | (with_reducible first | exact HB.out | apply below_alloc | apply pw_below_drewN | apply below_drew1 | refine below_set ?_ GE349.out | refine below_set ?_ GE350.out) | exact HB.out))) : w.heap.size ≤ gb352)); have n6_ := Aside0.mk ((by rw [hg]; exact Nat.ne_of_lt (blk_lt (g := gb349) (o := .cells #[.bool a0_0, .string a0_1, .string a0_2, .int .i64 a0_3, .int .i64 a0_4, .string a0_5, .slice (some ad351) l0_6.length c0_6] 24 (0, 0)) (by (with_reducible repeat (first | refine blk_drewN ?_ _ | refine blk_drew ?_ | refine blk_alloc ?_ _)); exact BK349.out)) : gb349 ≠ gb352)); have n7_ := Aside0.mk ((by rw [hg]; exact Nat.ne_of_gt (blk_lt (g := gb349) (o := .cells #[.bool a0_0, .string a0_1, .string a0_2, .int .i64 a0_3, .int .i64 a0_4, .string a0_5, .slice (some ad351) l0_6.length c0_6] 24 (0, 0)) (by (with_reducible repeat (first | refine blk_drewN ?_ _ | refine blk_drew ?_ | refine blk_alloc ?_ _)); exact BK349.out)) : gb352 ≠ gb349)); have n8_ := Aside0.mk ((by rw [hg]; exact Nat.ne_of_lt (blk_lt (g := gb350) (o := .cells #[.bool a1_0, .string a1_1, .string a1_2, .int .i64 a1_3, .int .i64 a1_4, .string a1_5, .slice A1_6 l1_6.length c1_6] 24 (0, 0)) (by (with_reducible repeat (first | refine blk_drewN ?_ _ | refine blk_drew ?_ | refine blk_alloc ?_ _)); exact BK350.out)) : gb350 ≠ gb352)); have n9_ := Aside0.mk ((by rw [hg]; exact Nat.ne_of_gt (blk_lt (g := gb350) (o := .cells #[.bool a1_0, .string a1_1, .string a1_2, .int .i64 a1_3, .int .i64 a1_4, .string a1_5, .slice A1_6 l1_6.length c1_6] 24 (0, 0)) (by (with_reducible repeat (first | refine blk_drewN ?_ _ | refine blk_drew ?_ | refine blk_alloc ?_ _)); exact BK350.out)) : gb352 ≠ gb350)); clear BK349; clear BK350; clear HB; have BK349 := n0_; have BK350 := n1_; have HB := n2_; have BK352 := n3_; have GW352 := n4_; have GE352 := n5_; have NB349_352 := n6_; have NB352_349 := n7_; have NB350_352 := n8_; have NB352_350 := n9_; clear n0_ n1_ n2_ n3_ n4_ n5_ n6_ n7_ n8_ n9_; clear hb hbox hg; have hnb21 := NB352_349.out; have hnc21 := NB349_352.out; have hnb22 := NB352_350.out; have hnc22 := NB350_352.out; have hcz23_0 : w20.cell? ⟨gb352, 0, none⟩ = some (.string (⟨#[]⟩ : ByteArray)) := (blk_cell BK352.out 0).trans rfl; have hcz23_1 : w20.cell? ⟨gb352, 1, none⟩ = some (.string (⟨#[]⟩ : ByteArray)) := (blk_cell BK352.out 1).trans rfl; have hfz23_0 := blk_frozen BK352.out 0; have hfz23_1 := blk_frozen BK352.out 1; have hnb24 := NB350_349.out; have hnc24 := NB349_350.out; have hcz25_0 : w20.cell? ⟨gb350, 0, none⟩ = some (.bool a1_0) := (blk_cell BK350.out 0).trans rfl; have hcz25_1 : w20.cell? ⟨gb350, 1, none⟩ = some (.string a1_1) := (blk_cell BK350.out 1).trans rfl; have hcz25_2 : w20.cell? ⟨gb350, 2, none⟩ = some (.string a1_2) := (blk_cell BK350.out 2).trans rfl; have hcz25_3 : w20.cell? ⟨gb350, 3, none⟩ = some (.int .i64 a1_3) := (blk_cell BK350.out 3).trans rfl; have hcz25_4 : w20.cell? ⟨gb350, 4, none⟩ = some (.int .i64 a1_4) := (blk_cell BK350.out 4).trans rfl; have hcz25_5 : w20.cell? ⟨gb350, 5, none⟩ = some (.string a1_5) := (blk_cell BK350.out 5).trans rfl; have hcz25_6 : w20.cell? ⟨gb350, 6, none⟩ = some (.slice A1_6 l1_6.length c1_6) := (blk_cell BK350.out 6).trans rfl; have hfz25_0 := blk_frozen BK350.out 0; have hfz25_1 := blk_frozen BK350.out 1; have hfz25_2 := blk_frozen BK350.out 2; have hfz25_3 := blk_frozen BK350.out 3; have hfz25_4 := blk_frozen BK350.out 4; have hfz25_5 := blk_frozen BK350.out 5; have hfz25_6 := blk_frozen BK350.out 6; have p353 : 0 ≤ (x17_1 : Int) := of_decide_eq_true (by first | (with_reducible assumption) | assumption); have q353 : x17_1 < (l1_6.length : Int) := of_decide_eq_true (by first | (with_reducible assumption) | assumption); obtain ⟨ad353, e353, hx353_0, hx353_1⟩ := at_T37 HR1_6.out x17_1 p353 q353; cases e353; have hn353_0 : ad353.block ≠ gb352 := Nat.ne_of_lt (Nat.lt_of_lt_of_le (by have := World.block_lt_of_cell? _ _ hx353_0; first | rwa [add_block] at this | exact this) GW352.out); have hn353_1 : ad353.block ≠ gb352 := Nat.ne_of_lt (Nat.lt_of_lt_of_le (by have := World.block_lt_of_cell? _ _ hx353_0; first | rwa [add_block] at this | exact this) GW352.out); replace hx353_0 := (HB.out.cell (World.block_lt_of_cell? w _ hx353_0)).trans hx353_0; replace hx353_1 := (HB.out.cell (World.block_lt_of_cell? w _ hx353_1)).trans hx353_1; replace hx353_0 := (cell_far (p := ⟨gb352, 0, none⟩) (by first | (rw [add_block]; exact hn353_0) | (show (Addr.add _ _).block ≠ _; rw [add_block]; exact hn353_0) | exact hn353_0) (.string ((rd_T37 l0_6 x17_1).f0))).trans hx353_0; replace hx353_1 := (cell_far (p := ⟨gb352, 0, none⟩) (by first | (rw [add_block]; exact hn353_0) | (show (Addr.add _ _).block ≠ _; rw [add_block]; exact hn353_0) | exact hn353_0) (.string ((rd_T37 l0_6 x17_1).f0))).trans hx353_1; replace hx353_0 := (cell_far (p := ⟨gb352, 1, none⟩) (by first | (rw [add_block]; exact hn353_1) | (show (Addr.add _ _).block ≠ _; rw [add_block]; exact hn353_1) | exact hn353_1) (.string ((rd_T37 l0_6 x17_1).f1))).trans hx353_0; replace hx353_1 := (cell_far (p := ⟨gb352, 1, none⟩) (by first | (rw [add_block]; exact hn353_1) | (show (Addr.add _ _).block ≠ _; rw [add_block]; exact hn353_1) | exact hn353_1) (.string ((rd_T37 l0_6 x17_1).f1))).trans hx353_1; (try have hy353_0 := fun (n_ : Nat) => (show ((((w20.drewN n_).setCell ⟨gb352, 0, none⟩ (.string ((rd_T37 l0_6 x17_1).f0))).setCell ⟨gb352, 1, none⟩ (.string ((rd_T37 l0_6 x17_1).f1)))).cell? _ = some _ from hx353_0)); (try have hy353_1 := fun (n_ : Nat) => (show ((((w20.drewN n_).setCell ⟨gb352, 0, none⟩ (.string ((rd_T37 l0_6 x17_1).f0))).setCell ⟨gb352, 1, none⟩ (.string ((rd_T37 l0_6 x17_1).f1)))).cell? _ = some _ from hx353_1)); clear hn353_0; clear hn353_1; replace p353 := eq_true p353; replace q353 := eq_true q353)))
                  go_roundg k1
                  case measure => have := HK1.out; omega
                  case rel => exact ⟨(wrap64 (x17_1 + 1)), (by first | rfl | (simp; done) | (simp [*]; done) | (simp [bneNil, beqNil]; done)), H', ⟨by have := HK1.out; omega⟩, ⟨by (with_reducible repeat (first | refine blk_drewN ?_ _ | refine blk_drew ?_ | refine blk_alloc ?_ _)); refine blk_far ?_ NB349_352.out _; (with_reducible repeat (first | refine blk_drewN ?_ _ | refine blk_drew ?_ | refine blk_alloc ?_ _)); refine blk_far ?_ NB349_352.out _; (with_reducible repeat (first | refine blk_drewN ?_ _ | refine blk_drew ?_ | refine blk_alloc ?_ _)); exact BK349.out⟩, ⟨by (with_reducible repeat (first | refine blk_drewN ?_ _ | refine blk_drew ?_ | refine blk_alloc ?_ _)); refine blk_far ?_ NB350_352.out _; (with_reducible repeat (first | refine blk_drewN ?_ _ | refine blk_drew ?_ | refine blk_alloc ?_ _)); refine blk_far ?_ NB350_352.out _; (with_reducible repeat (first | refine blk_drewN ?_ _ | refine blk_drew ?_ | refine blk_alloc ?_ _)); exact BK350.out⟩, ⟨by repeat (first | (with_reducible first | exact HB.out | apply below_alloc | apply pw_below_drewN | apply below_drew1 | refine below_set ?_ GE349.out | refine below_set ?_ GE350.out | refine below_set ?_ GE352.out) | exact HB.out)⟩⟩
              · rw [if_neg c12] at H
                exact absurd H (by simp)
            · rw [if_neg c11] at H
              exact absurd H (by simp)
          · rw [if_neg c10] at H
            exact absurd H (by simp)
        · rw [if_neg c9] at H
          have c9b0 : decide (x17_1 < (l0_6.length : Int)) = false := decide_eq_false c9
          clear c9
          by_cases c26 : (a0_0 == a1_0) = true
          · rw [if_pos c26] at H
            have c26b0 : (a0_0 == a1_0) = true := c26
            (try (have c26b1 : decide (a0_0 = a1_0) = true := by simpa using c26))
            (try (have c26b2 : (a0_0 == a1_0) = true := by simpa using c26))
            clear c26
            by_cases c27 : a0_1.toList = a1_1.toList
            · rw [if_pos c27] at H
              have c27b0 : (a0_1.toList == a1_1.toList) = true := beq_iff_eq.mpr c27
              have c27b1 : (a0_1.toList != a1_1.toList) = false := bne_eq_false_iff_eq.mpr c27
              clear c27
              by_cases c28 : a0_2.toList = a1_2.toList
              · rw [if_pos c28] at H
                have c28b0 : (a0_2.toList == a1_2.toList) = true := beq_iff_eq.mpr c28
                have c28b1 : (a0_2.toList != a1_2.toList) = false := bne_eq_false_iff_eq.mpr c28
                clear c28
                by_cases c29 : a0_3 = a1_3
                · rw [if_pos c29] at H
                  have c29b0 : (a0_3 == a1_3) = true := beq_iff_eq.mpr c29
                  have c29b1 : (a0_3 != a1_3) = false := bne_eq_false_iff_eq.mpr c29
                  clear c29
                  by_cases c30 : a0_4 = a1_4
                  · rw [if_pos c30] at H
                    have c30b0 : (a0_4 == a1_4) = true := beq_iff_eq.mpr c30
                    have c30b1 : (a0_4 != a1_4) = false := bne_eq_false_iff_eq.mpr c30
                    clear c30
                    obtain rfl := Option.some.inj H
                    have hnb31 := NB349_350.out
                    have hnc31 := NB350_349.out
                    have hcz32_0 : wr.cell? ⟨gb349, 0, none⟩ = some (.bool a0_0) := (blk_cell BK349.out 0).trans rfl
                    have hcz32_1 : wr.cell? ⟨gb349, 1, none⟩ = some (.string a0_1) := (blk_cell BK349.out 1).trans rfl
                    have hcz32_2 : wr.cell? ⟨gb349, 2, none⟩ = some (.string a0_2) := (blk_cell BK349.out 2).trans rfl
                    have hcz32_3 : wr.cell? ⟨gb349, 3, none⟩ = some (.int .i64 a0_3) := (blk_cell BK349.out 3).trans rfl
                    have hcz32_4 : wr.cell? ⟨gb349, 4, none⟩ = some (.int .i64 a0_4) := (blk_cell BK349.out 4).trans rfl
                    have hcz32_5 : wr.cell? ⟨gb349, 5, none⟩ = some (.string a0_5) := (blk_cell BK349.out 5).trans rfl
                    have hcz32_6 : wr.cell? ⟨gb349, 6, none⟩ = some (.slice A0_6 l0_6.length c0_6) := (blk_cell BK349.out 6).trans rfl
                    have hfz32_0 := blk_frozen BK349.out 0
                    have hfz32_1 := blk_frozen BK349.out 1
                    have hfz32_2 := blk_frozen BK349.out 2
                    have hfz32_3 := blk_frozen BK349.out 3
                    have hfz32_4 := blk_frozen BK349.out 4
                    have hfz32_5 := blk_frozen BK349.out 5
                    have hfz32_6 := blk_frozen BK349.out 6
                    have hcz33_0 : wr.cell? ⟨gb350, 0, none⟩ = some (.bool a1_0) := (blk_cell BK350.out 0).trans rfl
                    have hcz33_1 : wr.cell? ⟨gb350, 1, none⟩ = some (.string a1_1) := (blk_cell BK350.out 1).trans rfl
                    have hcz33_2 : wr.cell? ⟨gb350, 2, none⟩ = some (.string a1_2) := (blk_cell BK350.out 2).trans rfl
                    have hcz33_3 : wr.cell? ⟨gb350, 3, none⟩ = some (.int .i64 a1_3) := (blk_cell BK350.out 3).trans rfl
                    have hcz33_4 : wr.cell? ⟨gb350, 4, none⟩ = some (.int .i64 a1_4) := (blk_cell BK350.out 4).trans rfl
                    have hcz33_5 : wr.cell? ⟨gb350, 5, none⟩ = some (.string a1_5) := (blk_cell BK350.out 5).trans rfl
                    have hcz33_6 : wr.cell? ⟨gb350, 6, none⟩ = some (.slice A1_6 l1_6.length c1_6) := (blk_cell BK350.out 6).trans rfl
                    have hfz33_0 := blk_frozen BK350.out 0
                    have hfz33_1 := blk_frozen BK350.out 1
                    have hfz33_2 := blk_frozen BK350.out 2
                    have hfz33_3 := blk_frozen BK350.out 3
                    have hfz33_4 := blk_frozen BK350.out 4
                    have hfz33_5 := blk_frozen BK350.out 5
                    have hfz33_6 := blk_frozen BK350.out 6
                    go_wp2
                    repeat (go_quiet (fail); try go_wp2)
                    go_ret
                    exact ⟨by first | rfl | (simp [errW_none, errW_some] <;> rfl) | (simp [*, errW_none, errW_some] <;> rfl) | (simp [bneNil, beqNil]; done), by repeat (first | (with_reducible first | exact HB.out | apply below_alloc | apply pw_below_drewN | apply below_drew1 | refine below_set ?_ GE349.out | refine below_set ?_ GE350.out) | exact HB.out)⟩
                  · rw [if_neg c30] at H
                    have c30b0 : (a0_4 == a1_4) = false := beq_eq_false_iff_ne.mpr c30
                    have c30b1 : (a0_4 != a1_4) = true := bne_iff_ne.mpr c30
                    obtain rfl := Option.some.inj H
                    have hnb34 := NB349_350.out
                    have hnc34 := NB350_349.out
                    have hcz35_0 : wr.cell? ⟨gb349, 0, none⟩ = some (.bool a0_0) := (blk_cell BK349.out 0).trans rfl
                    have hcz35_1 : wr.cell? ⟨gb349, 1, none⟩ = some (.string a0_1) := (blk_cell BK349.out 1).trans rfl
                    have hcz35_2 : wr.cell? ⟨gb349, 2, none⟩ = some (.string a0_2) := (blk_cell BK349.out 2).trans rfl
                    have hcz35_3 : wr.cell? ⟨gb349, 3, none⟩ = some (.int .i64 a0_3) := (blk_cell BK349.out 3).trans rfl
                    have hcz35_4 : wr.cell? ⟨gb349, 4, none⟩ = some (.int .i64 a0_4) := (blk_cell BK349.out 4).trans rfl
                    have hcz35_5 : wr.cell? ⟨gb349, 5, none⟩ = some (.string a0_5) := (blk_cell BK349.out 5).trans rfl
                    have hcz35_6 : wr.cell? ⟨gb349, 6, none⟩ = some (.slice A0_6 l0_6.length c0_6) := (blk_cell BK349.out 6).trans rfl
                    have hfz35_0 := blk_frozen BK349.out 0
                    have hfz35_1 := blk_frozen BK349.out 1
                    have hfz35_2 := blk_frozen BK349.out 2
                    have hfz35_3 := blk_frozen BK349.out 3
                    have hfz35_4 := blk_frozen BK349.out 4
                    have hfz35_5 := blk_frozen BK349.out 5
                    have hfz35_6 := blk_frozen BK349.out 6
                    have hcz36_0 : wr.cell? ⟨gb350, 0, none⟩ = some (.bool a1_0) := (blk_cell BK350.out 0).trans rfl
                    have hcz36_1 : wr.cell? ⟨gb350, 1, none⟩ = some (.string a1_1) := (blk_cell BK350.out 1).trans rfl
                    have hcz36_2 : wr.cell? ⟨gb350, 2, none⟩ = some (.string a1_2) := (blk_cell BK350.out 2).trans rfl
                    have hcz36_3 : wr.cell? ⟨gb350, 3, none⟩ = some (.int .i64 a1_3) := (blk_cell BK350.out 3).trans rfl
                    have hcz36_4 : wr.cell? ⟨gb350, 4, none⟩ = some (.int .i64 a1_4) := (blk_cell BK350.out 4).trans rfl
                    have hcz36_5 : wr.cell? ⟨gb350, 5, none⟩ = some (.string a1_5) := (blk_cell BK350.out 5).trans rfl
                    have hcz36_6 : wr.cell? ⟨gb350, 6, none⟩ = some (.slice A1_6 l1_6.length c1_6) := (blk_cell BK350.out 6).trans rfl
                    have hfz36_0 := blk_frozen BK350.out 0
                    have hfz36_1 := blk_frozen BK350.out 1
                    have hfz36_2 := blk_frozen BK350.out 2
                    have hfz36_3 := blk_frozen BK350.out 3
                    have hfz36_4 := blk_frozen BK350.out 4
                    have hfz36_5 := blk_frozen BK350.out 5
                    have hfz36_6 := blk_frozen BK350.out 6
                    go_wp2
                    repeat (go_quiet (fail); try go_wp2)
                    go_ret
                    exact ⟨by first | rfl | (simp [errW_none, errW_some] <;> rfl) | (simp [*, errW_none, errW_some] <;> rfl) | (simp [bneNil, beqNil]; done), by repeat (first | (with_reducible first | exact HB.out | apply below_alloc | apply pw_below_drewN | apply below_drew1 | refine below_set ?_ GE349.out | refine below_set ?_ GE350.out) | exact HB.out)⟩
                · rw [if_neg c29] at H
                  have c29b0 : (a0_3 == a1_3) = false := beq_eq_false_iff_ne.mpr c29
                  have c29b1 : (a0_3 != a1_3) = true := bne_iff_ne.mpr c29
                  obtain rfl := Option.some.inj H
                  have hnb37 := NB349_350.out
                  have hnc37 := NB350_349.out
                  have hcz38_0 : wr.cell? ⟨gb349, 0, none⟩ = some (.bool a0_0) := (blk_cell BK349.out 0).trans rfl
                  have hcz38_1 : wr.cell? ⟨gb349, 1, none⟩ = some (.string a0_1) := (blk_cell BK349.out 1).trans rfl
                  have hcz38_2 : wr.cell? ⟨gb349, 2, none⟩ = some (.string a0_2) := (blk_cell BK349.out 2).trans rfl
                  have hcz38_3 : wr.cell? ⟨gb349, 3, none⟩ = some (.int .i64 a0_3) := (blk_cell BK349.out 3).trans rfl
                  have hcz38_4 : wr.cell? ⟨gb349, 4, none⟩ = some (.int .i64 a0_4) := (blk_cell BK349.out 4).trans rfl
                  have hcz38_5 : wr.cell? ⟨gb349, 5, none⟩ = some (.string a0_5) := (blk_cell BK349.out 5).trans rfl
                  have hcz38_6 : wr.cell? ⟨gb349, 6, none⟩ = some (.slice A0_6 l0_6.length c0_6) := (blk_cell BK349.out 6).trans rfl
                  have hfz38_0 := blk_frozen BK349.out 0
                  have hfz38_1 := blk_frozen BK349.out 1
                  have hfz38_2 := blk_frozen BK349.out 2
                  have hfz38_3 := blk_frozen BK349.out 3
                  have hfz38_4 := blk_frozen BK349.out 4
                  have hfz38_5 := blk_frozen BK349.out 5
                  have hfz38_6 := blk_frozen BK349.out 6
                  have hcz39_0 : wr.cell? ⟨gb350, 0, none⟩ = some (.bool a1_0) := (blk_cell BK350.out 0).trans rfl
                  have hcz39_1 : wr.cell? ⟨gb350, 1, none⟩ = some (.string a1_1) := (blk_cell BK350.out 1).trans rfl
                  have hcz39_2 : wr.cell? ⟨gb350, 2, none⟩ = some (.string a1_2) := (blk_cell BK350.out 2).trans rfl
                  have hcz39_3 : wr.cell? ⟨gb350, 3, none⟩ = some (.int .i64 a1_3) := (blk_cell BK350.out 3).trans rfl
                  have hcz39_4 : wr.cell? ⟨gb350, 4, none⟩ = some (.int .i64 a1_4) := (blk_cell BK350.out 4).trans rfl
                  have hcz39_5 : wr.cell? ⟨gb350, 5, none⟩ = some (.string a1_5) := (blk_cell BK350.out 5).trans rfl
                  have hcz39_6 : wr.cell? ⟨gb350, 6, none⟩ = some (.slice A1_6 l1_6.length c1_6) := (blk_cell BK350.out 6).trans rfl
                  have hfz39_0 := blk_frozen BK350.out 0
                  have hfz39_1 := blk_frozen BK350.out 1
                  have hfz39_2 := blk_frozen BK350.out 2
                  have hfz39_3 := blk_frozen BK350.out 3
                  have hfz39_4 := blk_frozen BK350.out 4
                  have hfz39_5 := blk_frozen BK350.out 5
                  have hfz39_6 := blk_frozen BK350.out 6
                  go_wp2
                  repeat (go_quiet (fail); try go_wp2)
                  go_ret
                  exact ⟨by first | rfl | (simp [errW_none, errW_some] <;> rfl) | (simp [*, errW_none, errW_some] <;> rfl) | (simp [bneNil, beqNil]; done), by repeat (first | (with_reducible first | exact HB.out | apply below_alloc | apply pw_below_drewN | apply below_drew1 | refine below_set ?_ GE349.out | refine below_set ?_ GE350.out) | exact HB.out)⟩
              · rw [if_neg c28] at H
                have c28b0 : (a0_2.toList == a1_2.toList) = false := beq_eq_false_iff_ne.mpr c28
                have c28b1 : (a0_2.toList != a1_2.toList) = true := bne_iff_ne.mpr c28
                obtain rfl := Option.some.inj H
                have hnb40 := NB349_350.out
                have hnc40 := NB350_349.out
                have hcz41_0 : wr.cell? ⟨gb349, 0, none⟩ = some (.bool a0_0) := (blk_cell BK349.out 0).trans rfl
                have hcz41_1 : wr.cell? ⟨gb349, 1, none⟩ = some (.string a0_1) := (blk_cell BK349.out 1).trans rfl
                have hcz41_2 : wr.cell? ⟨gb349, 2, none⟩ = some (.string a0_2) := (blk_cell BK349.out 2).trans rfl
                have hcz41_3 : wr.cell? ⟨gb349, 3, none⟩ = some (.int .i64 a0_3) := (blk_cell BK349.out 3).trans rfl
                have hcz41_4 : wr.cell? ⟨gb349, 4, none⟩ = some (.int .i64 a0_4) := (blk_cell BK349.out 4).trans rfl
                have hcz41_5 : wr.cell? ⟨gb349, 5, none⟩ = some (.string a0_5) := (blk_cell BK349.out 5).trans rfl
                have hcz41_6 : wr.cell? ⟨gb349, 6, none⟩ = some (.slice A0_6 l0_6.length c0_6) := (blk_cell BK349.out 6).trans rfl
                have hfz41_0 := blk_frozen BK349.out 0
                have hfz41_1 := blk_frozen BK349.out 1
                have hfz41_2 := blk_frozen BK349.out 2
                have hfz41_3 := blk_frozen BK349.out 3
                have hfz41_4 := blk_frozen BK349.out 4
                have hfz41_5 := blk_frozen BK349.out 5
                have hfz41_6 := blk_frozen BK349.out 6
                have hcz42_0 : wr.cell? ⟨gb350, 0, none⟩ = some (.bool a1_0) := (blk_cell BK350.out 0).trans rfl
                have hcz42_1 : wr.cell? ⟨gb350, 1, none⟩ = some (.string a1_1) := (blk_cell BK350.out 1).trans rfl
                have hcz42_2 : wr.cell? ⟨gb350, 2, none⟩ = some (.string a1_2) := (blk_cell BK350.out 2).trans rfl
                have hcz42_3 : wr.cell? ⟨gb350, 3, none⟩ = some (.int .i64 a1_3) := (blk_cell BK350.out 3).trans rfl
                have hcz42_4 : wr.cell? ⟨gb350, 4, none⟩ = some (.int .i64 a1_4) := (blk_cell BK350.out 4).trans rfl
                have hcz42_5 : wr.cell? ⟨gb350, 5, none⟩ = some (.string a1_5) := (blk_cell BK350.out 5).trans rfl
                have hcz42_6 : wr.cell? ⟨gb350, 6, none⟩ = some (.slice A1_6 l1_6.length c1_6) := (blk_cell BK350.out 6).trans rfl
                have hfz42_0 := blk_frozen BK350.out 0
                have hfz42_1 := blk_frozen BK350.out 1
                have hfz42_2 := blk_frozen BK350.out 2
                have hfz42_3 := blk_frozen BK350.out 3
                have hfz42_4 := blk_frozen BK350.out 4
                have hfz42_5 := blk_frozen BK350.out 5
                have hfz42_6 := blk_frozen BK350.out 6
                go_wp2
                repeat (go_quiet (fail); try go_wp2)
                go_ret
                exact ⟨by first | rfl | (simp [errW_none, errW_some] <;> rfl) | (simp [*, errW_none, errW_some] <;> rfl) | (simp [bneNil, beqNil]; done), by repeat (first | (with_reducible first | exact HB.out | apply below_alloc | apply pw_below_drewN | apply below_drew1 | refine below_set ?_ GE349.out | refine below_set ?_ GE350.out) | exact HB.out)⟩
            · rw [if_neg c27] at H
              have c27b0 : (a0_1.toList == a1_1.toList) = false := beq_eq_false_iff_ne.mpr c27
              have c27b1 : (a0_1.toList != a1_1.toList) = true := bne_iff_ne.mpr c27
              obtain rfl := Option.some.inj H
              have hnb43 := NB349_350.out
              have hnc43 := NB350_349.out
              have hcz44_0 : wr.cell? ⟨gb349, 0, none⟩ = some (.bool a0_0) := (blk_cell BK349.out 0).trans rfl
              have hcz44_1 : wr.cell? ⟨gb349, 1, none⟩ = some (.string a0_1) := (blk_cell BK349.out 1).trans rfl
              have hcz44_2 : wr.cell? ⟨gb349, 2, none⟩ = some (.string a0_2) := (blk_cell BK349.out 2).trans rfl
              have hcz44_3 : wr.cell? ⟨gb349, 3, none⟩ = some (.int .i64 a0_3) := (blk_cell BK349.out 3).trans rfl
              have hcz44_4 : wr.cell? ⟨gb349, 4, none⟩ = some (.int .i64 a0_4) := (blk_cell BK349.out 4).trans rfl
              have hcz44_5 : wr.cell? ⟨gb349, 5, none⟩ = some (.string a0_5) := (blk_cell BK349.out 5).trans rfl
              have hcz44_6 : wr.cell? ⟨gb349, 6, none⟩ = some (.slice A0_6 l0_6.length c0_6) := (blk_cell BK349.out 6).trans rfl
              have hfz44_0 := blk_frozen BK349.out 0
              have hfz44_1 := blk_frozen BK349.out 1
              have hfz44_2 := blk_frozen BK349.out 2
              have hfz44_3 := blk_frozen BK349.out 3
              have hfz44_4 := blk_frozen BK349.out 4
              have hfz44_5 := blk_frozen BK349.out 5
              have hfz44_6 := blk_frozen BK349.out 6
              have hcz45_0 : wr.cell? ⟨gb350, 0, none⟩ = some (.bool a1_0) := (blk_cell BK350.out 0).trans rfl
              have hcz45_1 : wr.cell? ⟨gb350, 1, none⟩ = some (.string a1_1) := (blk_cell BK350.out 1).trans rfl
              have hcz45_2 : wr.cell? ⟨gb350, 2, none⟩ = some (.string a1_2) := (blk_cell BK350.out 2).trans rfl
              have hcz45_3 : wr.cell? ⟨gb350, 3, none⟩ = some (.int .i64 a1_3) := (blk_cell BK350.out 3).trans rfl
              have hcz45_4 : wr.cell? ⟨gb350, 4, none⟩ = some (.int .i64 a1_4) := (blk_cell BK350.out 4).trans rfl
              have hcz45_5 : wr.cell? ⟨gb350, 5, none⟩ = some (.string a1_5) := (blk_cell BK350.out 5).trans rfl
              have hcz45_6 : wr.cell? ⟨gb350, 6, none⟩ = some (.slice A1_6 l1_6.length c1_6) := (blk_cell BK350.out 6).trans rfl
              have hfz45_0 := blk_frozen BK350.out 0
              have hfz45_1 := blk_frozen BK350.out 1
              have hfz45_2 := blk_frozen BK350.out 2
              have hfz45_3 := blk_frozen BK350.out 3
              have hfz45_4 := blk_frozen BK350.out 4
              have hfz45_5 := blk_frozen BK350.out 5
              have hfz45_6 := blk_frozen BK350.out 6
              go_wp2
              repeat (go_quiet (fail); try go_wp2)
              go_ret
              exact ⟨by first | rfl | (simp [errW_none, errW_some] <;> rfl) | (simp [*, errW_none, errW_some] <;> rfl) | (simp [bneNil, beqNil]; done), by repeat (first | (with_reducible first | exact HB.out | apply below_alloc | apply pw_below_drewN | apply below_drew1 | refine below_set ?_ GE349.out | refine below_set ?_ GE350.out) | exact HB.out)⟩
          · rw [if_neg c26] at H
            have c26b0 : (a0_0 == a1_0) = false := by simpa using c26
            (try (have c26b1 : decide (a0_0 = a1_0) = false := by simpa using c26))
            (try (have c26b2 : (a0_0 == a1_0) = false := by simpa using c26))
            (try (have c26b3 : ¬ (a0_0 = a1_0) := by simpa using c26))
            clear c26
            obtain rfl := Option.some.inj H
            have hnb46 := NB349_350.out
            have hnc46 := NB350_349.out
            have hcz47_0 : wr.cell? ⟨gb349, 0, none⟩ = some (.bool a0_0) := (blk_cell BK349.out 0).trans rfl
            have hcz47_1 : wr.cell? ⟨gb349, 1, none⟩ = some (.string a0_1) := (blk_cell BK349.out 1).trans rfl
            have hcz47_2 : wr.cell? ⟨gb349, 2, none⟩ = some (.string a0_2) := (blk_cell BK349.out 2).trans rfl
            have hcz47_3 : wr.cell? ⟨gb349, 3, none⟩ = some (.int .i64 a0_3) := (blk_cell BK349.out 3).trans rfl
            have hcz47_4 : wr.cell? ⟨gb349, 4, none⟩ = some (.int .i64 a0_4) := (blk_cell BK349.out 4).trans rfl
            have hcz47_5 : wr.cell? ⟨gb349, 5, none⟩ = some (.string a0_5) := (blk_cell BK349.out 5).trans rfl
            have hcz47_6 : wr.cell? ⟨gb349, 6, none⟩ = some (.slice A0_6 l0_6.length c0_6) := (blk_cell BK349.out 6).trans rfl
            have hfz47_0 := blk_frozen BK349.out 0
            have hfz47_1 := blk_frozen BK349.out 1
            have hfz47_2 := blk_frozen BK349.out 2
            have hfz47_3 := blk_frozen BK349.out 3
            have hfz47_4 := blk_frozen BK349.out 4
            have hfz47_5 := blk_frozen BK349.out 5
            have hfz47_6 := blk_frozen BK349.out 6
            have hcz48_0 : wr.cell? ⟨gb350, 0, none⟩ = some (.bool a1_0) := (blk_cell BK350.out 0).trans rfl
            have hcz48_1 : wr.cell? ⟨gb350, 1, none⟩ = some (.string a1_1) := (blk_cell BK350.out 1).trans rfl
            have hcz48_2 : wr.cell? ⟨gb350, 2, none⟩ = some (.string a1_2) := (blk_cell BK350.out 2).trans rfl
            have hcz48_3 : wr.cell? ⟨gb350, 3, none⟩ = some (.int .i64 a1_3) := (blk_cell BK350.out 3).trans rfl
            have hcz48_4 : wr.cell? ⟨gb350, 4, none⟩ = some (.int .i64 a1_4) := (blk_cell BK350.out 4).trans rfl
            have hcz48_5 : wr.cell? ⟨gb350, 5, none⟩ = some (.string a1_5) := (blk_cell BK350.out 5).trans rfl
            have hcz48_6 : wr.cell? ⟨gb350, 6, none⟩ = some (.slice A1_6 l1_6.length c1_6) := (blk_cell BK350.out 6).trans rfl
            have hfz48_0 := blk_frozen BK350.out 0
            have hfz48_1 := blk_frozen BK350.out 1
            have hfz48_2 := blk_frozen BK350.out 2
            have hfz48_3 := blk_frozen BK350.out 3
            have hfz48_4 := blk_frozen BK350.out 4
            have hfz48_5 := blk_frozen BK350.out 5
            have hfz48_6 := blk_frozen BK350.out 6
            go_wp2
            repeat (go_quiet (fail); try go_wp2)
            go_ret
            exact ⟨by first | rfl | (simp [errW_none, errW_some] <;> rfl) | (simp [*, errW_none, errW_some] <;> rfl) | (simp [bneNil, beqNil]; done), by repeat (first | (with_reducible first | exact HB.out | apply below_alloc | apply pw_below_drewN | apply below_drew1 | refine below_set ?_ GE349.out | refine below_set ?_ GE350.out) | exact HB.out)⟩
  · rw [if_neg c3] at H
    have c3b0 : ((l0_6.length : Int) == (l1_6.length : Int)) = false := beq_eq_false_iff_ne.mpr c3
    have c3b1 : ((l0_6.length : Int) != (l1_6.length : Int)) = true := bne_iff_ne.mpr c3
    have c3b2 : (l0_6.length == l1_6.length) = false := by first | simpa using c3 | (simp at c3 ⊢; omega)
    obtain rfl := Option.some.inj H
    go_enter Tryz.func47, Tryz.ntmps47
    go_wp2_with (first | ((with_reducible refine gate_dst (N := 2) rfl ?_); refine box_event ?hg (N := 2) ?hd (cs := #[.bool a0_0, .string a0_1, .string a0_2, .int .i64 a0_3, .int .i64 a0_4, .string a0_5, .slice A0_6 l0_6.length c0_6]) (t := 24) ?hr ?_; (case hd => rfl); (case hg => rfl); (case hr => first | (go_simp; done) | (go_simp; rfl)); intro gb349 hg w49 hbox hb; have n0_ := Aside0.mk (below_step (by repeat (first | (with_reducible first | exact HB.out | apply below_alloc | apply pw_below_drewN | apply below_drew1) | exact HB.out)) hb); have n1_ := Aside0.mk (hbox); have n2_ := Aside0.mk ((by rw [hg]; exact (below_size (by repeat (first | (with_reducible first | exact HB.out | apply below_alloc | apply pw_below_drewN | apply below_drew1) | exact HB.out))) : w.heap.size ≤ gb349)); have n3_ := Aside0.mk ((by rw [hg]; exact (below_size (by repeat (first | (with_reducible first | exact HB.out | apply below_alloc | apply pw_below_drewN | apply below_drew1) | exact HB.out))) : w.heap.size ≤ gb349)); clear HB; have HB := n0_; have BK349 := n1_; have GW349 := n2_; have GE349 := n3_; clear n0_ n1_ n2_ n3_; clear hb hbox hg) | ((with_reducible refine gate_dst (N := 3) rfl ?_); refine box_event ?hg (N := 3) ?hd (cs := #[.bool a1_0, .string a1_1, .string a1_2, .int .i64 a1_3, .int .i64 a1_4, .string a1_5, .slice A1_6 l1_6.length c1_6]) (t := 24) ?hr ?_; (case hd => rfl); (case hg => rfl); (case hr => first | (go_simp; done) | (go_simp; rfl)); intro gb350 hg w50 hbox hb; have n0_ := Aside0.mk (blk_below (g := gb349) (o := .cells #[.bool a0_0, .string a0_1, .string a0_2, .int .i64 a0_3, .int .i64 a0_4, .string a0_5, .slice A0_6 l0_6.length c0_6] 24 (0, 0)) (by (with_reducible repeat (first | refine blk_drewN ?_ _ | refine blk_drew ?_ | refine blk_alloc ?_ _)); exact BK349.out) hb); have n1_ := Aside0.mk (below_step (by repeat (first | (with_reducible first | exact HB.out | apply below_alloc | apply pw_below_drewN | apply below_drew1 | refine below_set ?_ GE349.out) | exact HB.out)) hb); have n2_ := Aside0.mk (hbox); have n3_ := Aside0.mk ((by rw [hg]; exact (below_size (by repeat (first | (with_reducible first | exact HB.out | apply below_alloc | apply pw_below_drewN | apply below_drew1 | refine below_set ?_ GE349.out) | exact HB.out))) : w.heap.size ≤ gb350)); have n4_ := Aside0.mk ((by rw [hg]; exact (below_size (by repeat (first | (with_reducible first | exact HB.out | apply below_alloc | apply pw_below_drewN | apply below_drew1 | refine below_set ?_ GE349.out) | exact HB.out))) : w.heap.size ≤ gb350)); have n5_ := Aside0.mk ((by rw [hg]; exact Nat.ne_of_lt (blk_lt (g := gb349) (o := .cells #[.bool a0_0, .string a0_1, .string a0_2, .int .i64 a0_3, .int .i64 a0_4, .string a0_5, .slice A0_6 l0_6.length c0_6] 24 (0, 0)) (by (with_reducible repeat (first | refine blk_drewN ?_ _ | refine blk_drew ?_ | refine blk_alloc ?_ _)); exact BK349.out)) : gb349 ≠ gb350)); have n6_ := Aside0.mk ((by rw [hg]; exact Nat.ne_of_gt (blk_lt (g := gb349) (o := .cells #[.bool a0_0, .string a0_1, .string a0_2, .int .i64 a0_3, .int .i64 a0_4, .string a0_5, .slice A0_6 l0_6.length c0_6] 24 (0, 0)) (by (with_reducible repeat (first | refine blk_drewN ?_ _ | refine blk_drew ?_ | refine blk_alloc ?_ _)); exact BK349.out)) : gb350 ≠ gb349)); clear BK349; clear HB; have BK349 := n0_; have HB := n1_; have BK350 := n2_; have GW350 := n3_; have GE350 := n4_; have NB349_350 := n5_; have NB350_349 := n6_; clear n0_ n1_ n2_ n3_ n4_ n5_ n6_; clear hb hbox hg; have hnb51 := NB349_350.out; have hnc51 := NB350_349.out; have hcz52_0 : w50.cell? ⟨gb349, 0, none⟩ = some (.bool a0_0) := (blk_cell BK349.out 0).trans rfl; have hcz52_1 : w50.cell? ⟨gb349, 1, none⟩ = some (.string a0_1) := (blk_cell BK349.out 1).trans rfl; have hcz52_2 : w50.cell? ⟨gb349, 2, none⟩ = some (.string a0_2) := (blk_cell BK349.out 2).trans rfl; have hcz52_3 : w50.cell? ⟨gb349, 3, none⟩ = some (.int .i64 a0_3) := (blk_cell BK349.out 3).trans rfl; have hcz52_4 : w50.cell? ⟨gb349, 4, none⟩ = some (.int .i64 a0_4) := (blk_cell BK349.out 4).trans rfl; have hcz52_5 : w50.cell? ⟨gb349, 5, none⟩ = some (.string a0_5) := (blk_cell BK349.out 5).trans rfl; have hcz52_6 : w50.cell? ⟨gb349, 6, none⟩ = some (.slice A0_6 l0_6.length c0_6) := (blk_cell BK349.out 6).trans rfl; have hfz52_0 := blk_frozen BK349.out 0; have hfz52_1 := blk_frozen BK349.out 1; have hfz52_2 := blk_frozen BK349.out 2; have hfz52_3 := blk_frozen BK349.out 3; have hfz52_4 := blk_frozen BK349.out 4; have hfz52_5 := blk_frozen BK349.out 5; have hfz52_6 := blk_frozen BK349.out 6; have hcz53_0 : w50.cell? ⟨gb350, 0, none⟩ = some (.bool a1_0) := (blk_cell BK350.out 0).trans rfl; have hcz53_1 : w50.cell? ⟨gb350, 1, none⟩ = some (.string a1_1) := (blk_cell BK350.out 1).trans rfl; have hcz53_2 : w50.cell? ⟨gb350, 2, none⟩ = some (.string a1_2) := (blk_cell BK350.out 2).trans rfl; have hcz53_3 : w50.cell? ⟨gb350, 3, none⟩ = some (.int .i64 a1_3) := (blk_cell BK350.out 3).trans rfl; have hcz53_4 : w50.cell? ⟨gb350, 4, none⟩ = some (.int .i64 a1_4) := (blk_cell BK350.out 4).trans rfl; have hcz53_5 : w50.cell? ⟨gb350, 5, none⟩ = some (.string a1_5) := (blk_cell BK350.out 5).trans rfl; have hcz53_6 : w50.cell? ⟨gb350, 6, none⟩ = some (.slice A1_6 l1_6.length c1_6) := (blk_cell BK350.out 6).trans rfl; have hfz53_0 := blk_frozen BK350.out 0; have hfz53_1 := blk_frozen BK350.out 1; have hfz53_2 := blk_frozen BK350.out 2; have hfz53_3 := blk_frozen BK350.out 3; have hfz53_4 := blk_frozen BK350.out 4; have hfz53_5 := blk_frozen BK350.out 5; have hfz53_6 := blk_frozen BK350.out 6))
    repeat (go_quiet (first | ((with_reducible refine gate_dst (N := 2) rfl ?_); refine box_event ?hg (N := 2) ?hd (cs := #[.bool a0_0, .string a0_1, .string a0_2, .int .i64 a0_3, .int .i64 a0_4, .string a0_5, .slice A0_6 l0_6.length c0_6]) (t := 24) ?hr ?_; (case hd => rfl); (case hg => rfl); (case hr => first | (go_simp; done) | (go_simp; rfl)); intro gb349 hg w49 hbox hb; have n0_ := Aside0.mk (below_step (by repeat (first | (with_reducible first | exact HB.out | apply below_alloc | apply pw_below_drewN | apply below_drew1) | exact HB.out)) hb); have n1_ := Aside0.mk (hbox); have n2_ := Aside0.mk ((by rw [hg]; exact (below_size (by repeat (first | (with_reducible first | exact HB.out | apply below_alloc | apply pw_below_drewN | apply below_drew1) | exact HB.out))) : w.heap.size ≤ gb349)); have n3_ := Aside0.mk ((by rw [hg]; exact (below_size (by repeat (first | (with_reducible first | exact HB.out | apply below_alloc | apply pw_below_drewN | apply below_drew1) | exact HB.out))) : w.heap.size ≤ gb349)); clear HB; have HB := n0_; have BK349 := n1_; have GW349 := n2_; have GE349 := n3_; clear n0_ n1_ n2_ n3_; clear hb hbox hg) | ((with_reducible refine gate_dst (N := 3) rfl ?_); refine box_event ?hg (N := 3) ?hd (cs := #[.bool a1_0, .string a1_1, .string a1_2, .int .i64 a1_3, .int .i64 a1_4, .string a1_5, .slice A1_6 l1_6.length c1_6]) (t := 24) ?hr ?_; (case hd => rfl); (case hg => rfl); (case hr => first | (go_simp; done) | (go_simp; rfl)); intro gb350 hg w50 hbox hb; have n0_ := Aside0.mk (blk_below (g := gb349) (o := .cells #[.bool a0_0, .string a0_1, .string a0_2, .int .i64 a0_3, .int .i64 a0_4, .string a0_5, .slice A0_6 l0_6.length c0_6] 24 (0, 0)) (by (with_reducible repeat (first | refine blk_drewN ?_ _ | refine blk_drew ?_ | refine blk_alloc ?_ _)); exact BK349.out) hb); have n1_ := Aside0.mk (below_step (by repeat (first | (with_reducible first | exact HB.out | apply below_alloc | apply pw_below_drewN | apply below_drew1 | refine below_set ?_ GE349.out) | exact HB.out)) hb); have n2_ := Aside0.mk (hbox); have n3_ := Aside0.mk ((by rw [hg]; exact (below_size (by repeat (first | (with_reducible first | exact HB.out | apply below_alloc | apply pw_below_drewN | apply below_drew1 | refine below_set ?_ GE349.out) | exact HB.out))) : w.heap.size ≤ gb350)); have n4_ := Aside0.mk ((by rw [hg]; exact (below_size (by repeat (first | (with_reducible first | exact HB.out | apply below_alloc | apply pw_below_drewN | apply below_drew1 | refine below_set ?_ GE349.out) | exact HB.out))) : w.heap.size ≤ gb350)); have n5_ := Aside0.mk ((by rw [hg]; exact Nat.ne_of_lt (blk_lt (g := gb349) (o := .cells #[.bool a0_0, .string a0_1, .string a0_2, .int .i64 a0_3, .int .i64 a0_4, .string a0_5, .slice A0_6 l0_6.length c0_6] 24 (0, 0)) (by (with_reducible repeat (first | refine blk_drewN ?_ _ | refine blk_drew ?_ | refine blk_alloc ?_ _)); exact BK349.out)) : gb349 ≠ gb350)); have n6_ := Aside0.mk ((by rw [hg]; exact Nat.ne_of_gt (blk_lt (g := gb349) (o := .cells #[.bool a0_0, .string a0_1, .string a0_2, .int .i64 a0_3, .int .i64 a0_4, .string a0_5, .slice A0_6 l0_6.length c0_6] 24 (0, 0)) (by (with_reducible repeat (first | refine blk_drewN ?_ _ | refine blk_drew ?_ | refine blk_alloc ?_ _)); exact BK349.out)) : gb350 ≠ gb349)); clear BK349; clear HB; have BK349 := n0_; have HB := n1_; have BK350 := n2_; have GW350 := n3_; have GE350 := n4_; have NB349_350 := n5_; have NB350_349 := n6_; clear n0_ n1_ n2_ n3_ n4_ n5_ n6_; clear hb hbox hg; have hnb51 := NB349_350.out; have hnc51 := NB350_349.out; have hcz52_0 : w50.cell? ⟨gb349, 0, none⟩ = some (.bool a0_0) := (blk_cell BK349.out 0).trans rfl; have hcz52_1 : w50.cell? ⟨gb349, 1, none⟩ = some (.string a0_1) := (blk_cell BK349.out 1).trans rfl; have hcz52_2 : w50.cell? ⟨gb349, 2, none⟩ = some (.string a0_2) := (blk_cell BK349.out 2).trans rfl; have hcz52_3 : w50.cell? ⟨gb349, 3, none⟩ = some (.int .i64 a0_3) := (blk_cell BK349.out 3).trans rfl; have hcz52_4 : w50.cell? ⟨gb349, 4, none⟩ = some (.int .i64 a0_4) := (blk_cell BK349.out 4).trans rfl; have hcz52_5 : w50.cell? ⟨gb349, 5, none⟩ = some (.string a0_5) := (blk_cell BK349.out 5).trans rfl; have hcz52_6 : w50.cell? ⟨gb349, 6, none⟩ = some (.slice A0_6 l0_6.length c0_6) := (blk_cell BK349.out 6).trans rfl; have hfz52_0 := blk_frozen BK349.out 0; have hfz52_1 := blk_frozen BK349.out 1; have hfz52_2 := blk_frozen BK349.out 2; have hfz52_3 := blk_frozen BK349.out 3; have hfz52_4 := blk_frozen BK349.out 4; have hfz52_5 := blk_frozen BK349.out 5; have hfz52_6 := blk_frozen BK349.out 6; have hcz53_0 : w50.cell? ⟨gb350, 0, none⟩ = some (.bool a1_0) := (blk_cell BK350.out 0).trans rfl; have hcz53_1 : w50.cell? ⟨gb350, 1, none⟩ = some (.string a1_1) := (blk_cell BK350.out 1).trans rfl; have hcz53_2 : w50.cell? ⟨gb350, 2, none⟩ = some (.string a1_2) := (blk_cell BK350.out 2).trans rfl; have hcz53_3 : w50.cell? ⟨gb350, 3, none⟩ = some (.int .i64 a1_3) := (blk_cell BK350.out 3).trans rfl; have hcz53_4 : w50.cell? ⟨gb350, 4, none⟩ = some (.int .i64 a1_4) := (blk_cell BK350.out 4).trans rfl; have hcz53_5 : w50.cell? ⟨gb350, 5, none⟩ = some (.string a1_5) := (blk_cell BK350.out 5).trans rfl; have hcz53_6 : w50.cell? ⟨gb350, 6, none⟩ = some (.slice A1_6 l1_6.length c1_6) := (blk_cell BK350.out 6).trans rfl; have hfz53_0 := blk_frozen BK350.out 0; have hfz53_1 := blk_frozen BK350.out 1; have hfz53_2 := blk_frozen BK350.out 2; have hfz53_3 := blk_frozen BK350.out 3; have hfz53_4 := blk_frozen BK350.out 4; have hfz53_5 := blk_frozen BK350.out 5; have hfz53_6 := blk_frozen BK350.out 6)); try go_wp2_with (first | ((with_reducible refine gate_dst (N := 2) rfl ?_); refine box_event ?hg (N := 2) ?hd (cs := #[.bool a0_0, .string a0_1, .string a0_2, .int .i64 a0_3, .int .i64 a0_4, .string a0_5, .slice A0_6 l0_6.length c0_6]) (t := 24) ?hr ?_; (case hd => rfl); (case hg => rfl); (case hr => first | (go_simp; done) | (go_simp; rfl)); intro gb349 hg w49 hbox hb; have n0_ := Aside0.mk (below_step (by repeat (first | (with_reducible first | exact HB.out | apply below_alloc | apply pw_below_drewN | apply below_drew1) | exact HB.out)) hb); have n1_ := Aside0.mk (hbox); have n2_ := Aside0.mk ((by rw [hg]; exact (below_size (by repeat (first | (with_reducible first | exact HB.out | apply below_alloc | apply pw_below_drewN | apply below_drew1) | exact HB.out))) : w.heap.size ≤ gb349)); have n3_ := Aside0.mk ((by rw [hg]; exact (below_size (by repeat (first | (with_reducible first | exact HB.out | apply below_alloc | apply pw_below_drewN | apply below_drew1) | exact HB.out))) : w.heap.size ≤ gb349)); clear HB; have HB := n0_; have BK349 := n1_; have GW349 := n2_; have GE349 := n3_; clear n0_ n1_ n2_ n3_; clear hb hbox hg) | ((with_reducible refine gate_dst (N := 3) rfl ?_); refine box_event ?hg (N := 3) ?hd (cs := #[.bool a1_0, .string a1_1, .string a1_2, .int .i64 a1_3, .int .i64 a1_4, .string a1_5, .slice A1_6 l1_6.length c1_6]) (t := 24) ?hr ?_; (case hd => rfl); (case hg => rfl); (case hr => first | (go_simp; done) | (go_simp; rfl)); intro gb350 hg w50 hbox hb; have n0_ := Aside0.mk (blk_below (g := gb349) (o := .cells #[.bool a0_0, .string a0_1, .string a0_2, .int .i64 a0_3, .int .i64 a0_4, .string a0_5, .slice A0_6 l0_6.length c0_6] 24 (0, 0)) (by (with_reducible repeat (first | refine blk_drewN ?_ _ | refine blk_drew ?_ | refine blk_alloc ?_ _)); exact BK349.out) hb); have n1_ := Aside0.mk (below_step (by repeat (first | (with_reducible first | exact HB.out | apply below_alloc | apply pw_below_drewN | apply below_drew1 | refine below_set ?_ GE349.out) | exact HB.out)) hb); have n2_ := Aside0.mk (hbox); have n3_ := Aside0.mk ((by rw [hg]; exact (below_size (by repeat (first | (with_reducible first | exact HB.out | apply below_alloc | apply pw_below_drewN | apply below_drew1 | refine below_set ?_ GE349.out) | exact HB.out))) : w.heap.size ≤ gb350)); have n4_ := Aside0.mk ((by rw [hg]; exact (below_size (by repeat (first | (with_reducible first | exact HB.out | apply below_alloc | apply pw_below_drewN | apply below_drew1 | refine below_set ?_ GE349.out) | exact HB.out))) : w.heap.size ≤ gb350)); have n5_ := Aside0.mk ((by rw [hg]; exact Nat.ne_of_lt (blk_lt (g := gb349) (o := .cells #[.bool a0_0, .string a0_1, .string a0_2, .int .i64 a0_3, .int .i64 a0_4, .string a0_5, .slice A0_6 l0_6.length c0_6] 24 (0, 0)) (by (with_reducible repeat (first | refine blk_drewN ?_ _ | refine blk_drew ?_ | refine blk_alloc ?_ _)); exact BK349.out)) : gb349 ≠ gb350)); have n6_ := Aside0.mk ((by rw [hg]; exact Nat.ne_of_gt (blk_lt (g := gb349) (o := .cells #[.bool a0_0, .string a0_1, .string a0_2, .int .i64 a0_3, .int .i64 a0_4, .string a0_5, .slice A0_6 l0_6.length c0_6] 24 (0, 0)) (by (with_reducible repeat (first | refine blk_drewN ?_ _ | refine blk_drew ?_ | refine blk_alloc ?_ _)); exact BK349.out)) : gb350 ≠ gb349)); clear BK349; clear HB; have BK349 := n0_; have HB := n1_; have BK350 := n2_; have GW350 := n3_; have GE350 := n4_; have NB349_350 := n5_; have NB350_349 := n6_; clear n0_ n1_ n2_ n3_ n4_ n5_ n6_; clear hb hbox hg; have hnb51 := NB349_350.out; have hnc51 := NB350_349.out; have hcz52_0 : w50.cell? ⟨gb349, 0, none⟩ = some (.bool a0_0) := (blk_cell BK349.out 0).trans rfl; have hcz52_1 : w50.cell? ⟨gb349, 1, none⟩ = some (.string a0_1) := (blk_cell BK349.out 1).trans rfl; have hcz52_2 : w50.cell? ⟨gb349, 2, none⟩ = some (.string a0_2) := (blk_cell BK349.out 2).trans rfl; have hcz52_3 : w50.cell? ⟨gb349, 3, none⟩ = some (.int .i64 a0_3) := (blk_cell BK349.out 3).trans rfl; have hcz52_4 : w50.cell? ⟨gb349, 4, none⟩ = some (.int .i64 a0_4) := (blk_cell BK349.out 4).trans rfl; have hcz52_5 : w50.cell? ⟨gb349, 5, none⟩ = some (.string a0_5) := (blk_cell BK349.out 5).trans rfl; have hcz52_6 : w50.cell? ⟨gb349, 6, none⟩ = some (.slice A0_6 l0_6.length c0_6) := (blk_cell BK349.out 6).trans rfl; have hfz52_0 := blk_frozen BK349.out 0; have hfz52_1 := blk_frozen BK349.out 1; have hfz52_2 := blk_frozen BK349.out 2; have hfz52_3 := blk_frozen BK349.out 3; have hfz52_4 := blk_frozen BK349.out 4; have hfz52_5 := blk_frozen BK349.out 5; have hfz52_6 := blk_frozen BK349.out 6; have hcz53_0 : w50.cell? ⟨gb350, 0, none⟩ = some (.bool a1_0) := (blk_cell BK350.out 0).trans rfl; have hcz53_1 : w50.cell? ⟨gb350, 1, none⟩ = some (.string a1_1) := (blk_cell BK350.out 1).trans rfl; have hcz53_2 : w50.cell? ⟨gb350, 2, none⟩ = some (.string a1_2) := (blk_cell BK350.out 2).trans rfl; have hcz53_3 : w50.cell? ⟨gb350, 3, none⟩ = some (.int .i64 a1_3) := (blk_cell BK350.out 3).trans rfl; have hcz53_4 : w50.cell? ⟨gb350, 4, none⟩ = some (.int .i64 a1_4) := (blk_cell BK350.out 4).trans rfl; have hcz53_5 : w50.cell? ⟨gb350, 5, none⟩ = some (.string a1_5) := (blk_cell BK350.out 5).trans rfl; have hcz53_6 : w50.cell? ⟨gb350, 6, none⟩ = some (.slice A1_6 l1_6.length c1_6) := (blk_cell BK350.out 6).trans rfl; have hfz53_0 := blk_frozen BK350.out 0; have hfz53_1 := blk_frozen BK350.out 1; have hfz53_2 := blk_frozen BK350.out 2; have hfz53_3 := blk_frozen BK350.out 3; have hfz53_4 := blk_frozen BK350.out 4; have hfz53_5 := blk_frozen BK350.out 5; have hfz53_6 := blk_frozen BK350.out 6)))
    go_ret
    exact ⟨by first | rfl | (simp [errW_none, errW_some] <;> rfl) | (simp [*, errW_none, errW_some] <;> rfl) | (simp [bneNil, beqNil]; done), by repeat (first | (with_reducible first | exact HB.out | apply below_alloc | apply pw_below_drewN | apply below_drew1 | refine below_set ?_ GE349.out | refine below_set ?_ GE350.out) | exact HB.out)⟩

end Go.Proofs.YtccolnlfjbgnmaaGreatDoor.P
