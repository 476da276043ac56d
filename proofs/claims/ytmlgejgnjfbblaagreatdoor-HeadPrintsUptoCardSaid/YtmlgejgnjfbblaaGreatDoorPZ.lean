/- Laid by a program of this session (hp.py) with the help of the kit's printer: functions as plain Lean functions, and that the machine's calls come to them. -/
import Derived.Test.YtmlgejgnjfbblaaGreatDoorProg
import Derived.Below
import Derived.Deep.Draws
import Derived.Deep.AppendLies
import Derived.Maps.AppendAt
import Derived.OwnWalk
import Derived.Laws.BytesArg
import Derived.Laws.MakeOwn
import Derived.Laws.OwnMore
import Derived.Deep.OwnRows
import Derived.Tactics
import Derived.Lib.ConvBytes
import Derived.Laws.Slices
import Derived.WalkKit
import Derived.KernelRfl
import Derived.RowKit3
import Derived.Deep.LoopGhost
import Derived.Deep.QuietTactic
import Derived.BigQuiet
import Derived.WideLaws
import Derived.Deep.DeepCutAuto
import Derived.Deep.CutBlock
import Derived.Deep.RegionHeld3
import Derived.Laws.Rows
import Derived.Lib.AppendStr
import Derived.ArgAppend
import Derived.Laws.IdiomCopy
import Derived.OrdersHeld
import Derived.Laws.BitsLemmas
import Derived.RowKit
import Derived.Test.YtmlgejgnjfbblaaGreatDoorInv
import Derived.Test.YtmlgejgnjfbblaaGreatDoorLexA
import Derived.Test.YtmlgejgnjfbblaaGreatDoorWWords
import Derived.Test.YtmlgejgnjfbblaaGreatDoorWLast
import Derived.Test.YtmlgejgnjfbblaaGreatDoorWMore
import Derived.Test.YtmlgejgnjfbblaaGreatDoorBytes
import Derived.Test.YtmlgejgnjfbblaaGreatDoorSq
namespace Go.Proofs.YtmlgejgnjfbblaaGreatDoor.P
open Go.RowKit Go.Proofs.YtmlgejgnjfbblaaGreatDoorW.PrintWords Go.Proofs.YtmlgejgnjfbblaaGreatDoorW.PrintLast Go.Proofs.YtmlgejgnjfbblaaGreatDoorW.PrintMore
attribute [local go_sem] max2_int min2_int max_two min_two max_three min_three max_four min_four   -- for this text's walks alone
set_option linter.unusedVariables false
set_option linter.unusedSimpArgs false



def errW : Option Int → Value
 | none => .nilIface
 | some c => .iface 0 (.int .i64 c)
theorem errW_none : errW none = .nilIface := rfl
theorem errW_some (c : Int) : errW (some c) = .iface 0 (.int .i64 c) := rfl

theorem info5 : (Tryz.prog.info? 5).map (fun i => (i.zero, i.size, i.bytes)) = some (some (.int .u8 0), 1, 1) := by kernel_rfl
-- the values' own types
/-! #### struct type 45 -/
structure S45 where
 f0 : ByteArray
 f1 : ByteArray
def z45 : S45 := ⟨(⟨#[]⟩ : ByteArray), (⟨#[]⟩ : ByteArray)⟩
def k45 : Kd S45 := Kd.iso (Kd.pair Kd.string Kd.string) (fun x : S45 => (x.f0, x.f1))
theorem k45_open {w : World} {x : S45} {cs : List Value} (h : k45.K w x cs) : cs = [.string x.f0, .string x.f1] := by
 obtain ⟨_, _, rfl, rfl, rfl⟩ := h
 exact rfl
theorem k45_openM {w : World} {base : Nat} {ok : Nat → Prop} {x : S45} {cs : List Value} (h : k45.M w base ok x cs) : cs = [.string x.f0, .string x.f1] := by
 obtain ⟨_, _, rfl, rfl, rfl⟩ := h
 exact rfl
theorem k45_mk (w : World) (x : S45)  : k45.K w x [.string x.f0, .string x.f1] := ⟨[.string x.f0], [.string x.f1], rfl, rfl, rfl⟩
theorem k45_mkM (w : World) (base : Nat) (ok : Nat → Prop) (x : S45)  : k45.M w base ok x [.string x.f0, .string x.f1] := ⟨[.string x.f0], [.string x.f1], rfl, rfl, rfl⟩
def rd_T45 (xs : List S45) (i : Int) : S45 := xs.getD i.toNat z45
theorem at_T45 {w : World} {A : Option Addr} {n : Nat} {xs : List S45} (h : Kd.C k45 w A n xs) (i : Int) (h0 : 0 ≤ i) (h1 : i < n) : ∃ ad , A = some ad ∧ w.cell? (ad.add (i.toNat * 2)) = some (.string (rd_T45 xs i).f0) ∧ w.cell? ⟨(ad.add (i.toNat * 2)).block, (ad.add (i.toNat * 2)).off + 1, none⟩ = some (.string (rd_T45 xs i).f1) := by
 obtain ⟨ad, c, e, _, hK, hc0⟩ := Kd.C_get h z45 i h0 h1
 have hc : ∀ j u, c[j]? = some u → w.cell? (ad.add (i.toNat * 2 + j)) = some u := hc0
 obtain rfl := k45_open hK
 exact ⟨ad, e, hc 0 _ rfl, by rw [← add_field _ _ 1 (by omega)]; exact hc 1 _ rfl⟩

end Go.Proofs.YtmlgejgnjfbblaaGreatDoor.P
/- Laid by a program of this session (hp.py) with the help of the kit's printer: functions as plain Lean functions, and that the machine's calls come to them. -/
namespace Go.Proofs.YtmlgejgnjfbblaaGreatDoor.P
open Go.RowKit Go.Proofs.YtmlgejgnjfbblaaGreatDoorW.PrintWords Go.Proofs.YtmlgejgnjfbblaaGreatDoorW.PrintLast Go.Proofs.YtmlgejgnjfbblaaGreatDoorW.PrintMore
attribute [local go_sem] max2_int min2_int max_two min_two max_three min_three max_four min_four   -- for this text's walks alone
set_option linter.unusedVariables false
set_option linter.unusedSimpArgs false

theorem eqA45 (d : Nat) (w : World) (x0 y0 : ByteArray) (x1 y1 : ByteArray) :
  (Op.equalIn (d + 2) 45 (.agg #[.string x0, .string x1]) (.agg #[.string y0, .string y1])).run Tryz.prog w = .ok (x0.toList == y0.toList && (x1.toList == y1.toList)) w := by
 refine eqA_of Tryz.underlying45 (by kernel_rfl) ?_
 refine eqf_cons (by rfl) (by go_simp; rfl) (by go_simp; rfl) (by go_simp) ?_
 exact eqf_last (by rfl) (by go_simp; rfl) (by go_simp; rfl) (by go_simp)
end Go.Proofs.YtmlgejgnjfbblaaGreatDoor.P
/- Laid by a program of this session (hp.py) with the help of the kit's printer: functions as plain Lean functions, and that the machine's calls come to them. -/
namespace Go.Proofs.YtmlgejgnjfbblaaGreatDoor.P
open Go.RowKit Go.Proofs.YtmlgejgnjfbblaaGreatDoorW.PrintWords Go.Proofs.YtmlgejgnjfbblaaGreatDoorW.PrintLast Go.Proofs.YtmlgejgnjfbblaaGreatDoorW.PrintMore
attribute [local go_sem] max2_int min2_int max_two min_two max_three min_three max_four min_four   -- for this text's walks alone
set_option linter.unusedVariables false
set_option linter.unusedSimpArgs false

attribute [local go_sem high] eqA45
/-! ### strings_Trim: function 72 -/
def strings_Trim.f (a0 : ByteArray) (a1 : ByteArray) : Option (ByteArray) := if a0.size ≤ 4611686018427387904 ∧ a1.data.toList = [32, 9] then some ⟨(Hr.trim a0.data.toList).toArray⟩ else none
theorem strings_Trim.calls (a0 : ByteArray) (a1 : ByteArray) (r : ByteArray) (w : World) (h : strings_Trim.f a0 a1 = some r) :
  Calls Tryz.prog 72 #[.string a0, .string a1] w fun e w' => e = .returned (.string r) ∧ Below w.heap.size w w' := by
 unfold strings_Trim.f at h
 split at h
 ·rename_i hs
  obtain rfl := Option.some.inj h
  obtain ⟨hs, ha⟩ := hs
  obtain rfl : a1 = ⟨#[32, 9]⟩ := by cases a1 with | mk d => cases d; simp at ha; subst ha; rfl
  exact Lex.trim_calls a0 w hs
 ·exact absurd h (by simp)

/-! ### lexis_Trim: function 47 -/
def lexis_Trim.f (a0 : ByteArray) : Option (ByteArray) := (strings_Trim.f a0 (⟨#[32, 9]⟩ : ByteArray)).bind fun t101 => (some t101)
set_option maxHeartbeats 8000000 in
set_option maxRecDepth 100000 in
theorem lexis_Trim.calls (a0 : ByteArray) (r : ByteArray) (w : World) (h : lexis_Trim.f a0 = some r) :
  Calls Tryz.prog 47 #[.string a0] w fun e w' => e = .returned (.string r) ∧ Below w.heap.size w w' := by
 have HB := Aside0.mk (Below.refl w.heap.size w)
 have H : ((strings_Trim.f a0 (⟨#[32, 9]⟩ : ByteArray)).bind fun t101 => (some t101)) = some r := h
 clear h
 replace H := Option.bind_eq_some_iff.mp H
 obtain ⟨t101, A20, H⟩ := H
 have A2 := Aside0.mk A20
 clear A20
 obtain rfl := Option.some.inj H
 go_enter Tryz.func47, Tryz.ntmps47
 go_wp2_with (first | (refine gl 72 4 Tryz.func72 #[.string a0, .string (⟨#[32, 9]⟩ : ByteArray)] ?_; (with_reducible refine (strings_Trim.calls a0 (⟨#[32, 9]⟩ : ByteArray) t101 _ A2.out).mono ?_); rintro e w3 ⟨rfl, hb⟩; refine ⟨_, rfl, ?_⟩; replace HB := bS HB hb; (try clear hb); (try clear hb2); (try clear hk); (try clear hi)))
 go_ret
 exact ⟨by first | rfl | (simp [errW_none, errW_some] <;> rfl) | (simp [*, errW_none, errW_some] <;> rfl) | (simp [bneNil, beqNil]; done), bw HB⟩

/-! ### lexis_Value: function 31 -/
def lexis_Value.l0 : Nat → ByteArray → Int → Int → Option (Bool)
 | 0, _, _, _ => none
 | k + 1, x0, x6, x7 => if x7 < x6 then (if 0 ≤ x7 then (if x7 < (x0.size : Int) then (if (bt x0 x7) < 32 then (if (bt x0 x7) = 9 then (if (bt x0 x7) = 127 then (some false) else (lexis_Value.l0 k x0 x6 (wrap64 (x7 + 1)))) else (some false)) else (if (bt x0 x7) = 127 then (some false) else (lexis_Value.l0 k x0 x6 (wrap64 (x7 + 1))))) else (none)) else (none)) else ((lexis_Trim.f x0).bind fun t102 => (some (t102.toList == x0.toList)))
def lexis_Value.f (k : Nat) (a0 : ByteArray) : Option (Bool) := lexis_Value.l0 k a0 (a0.size : Int) 0
theorem lexis_Value.mono_l : ∀ k, (∀ y0 y1 y2, LeO (lexis_Value.l0 k y0 y1 y2) (lexis_Value.l0 (k + 1) y0 y1 y2))
 | 0 => fun _ _ _ r h => by simp [lexis_Value.l0] at h
 | k + 1 => by
  have ih0 := lexis_Value.mono_l k
  ·intro y0 y1 y2
   unfold lexis_Value.l0
   repeat' first | with_reducible first | exact ih0 _ _ _ | exact LeO.refl _ | exact LeO.none _ | refine LeO.ite ?_ ?_ | refine LeO.bind ?_ (fun _ => ?_) | exact ih0 _ _ _ | exact LeO.none _ | refine LeO.ite ?_ ?_ | refine LeO.bind ?_ (fun _ => ?_)
theorem lexis_Value.mono : ∀ a0 k, LeO (lexis_Value.f k a0) (lexis_Value.f (k + 1) a0) := by
 intro a0 k
 have ih0 := lexis_Value.mono_l k
 unfold lexis_Value.f
 repeat' first | with_reducible first | exact ih0 _ _ _ | exact LeO.refl _ | exact LeO.none _ | refine LeO.ite ?_ ?_ | refine LeO.bind ?_ (fun _ => ?_) | exact ih0 _ _ _ | exact LeO.none _ | refine LeO.ite ?_ ?_ | refine LeO.bind ?_ (fun _ => ?_)
set_option maxHeartbeats 8000000 in
set_option maxRecDepth 100000 in
theorem lexis_Value.calls (k : Nat) (a0 : ByteArray) (r : Bool) (w : World) (h : lexis_Value.f k a0 = some r) :
  Calls Tryz.prog 31 #[.string a0] w fun e w' => e = .returned (.bool r) ∧ Below w.heap.size w w' := by
 have HB := Aside0.mk (Below.refl w.heap.size w)
 have H : (lexis_Value.l0 k a0 (a0.size : Int) 0) = some r := h
 clear h
 have H' := Aside0.mk H
 clear H
 go_enter Tryz.func31, Tryz.ntmps31
 go_wp2
 go_loopg [7] k (fun kq v7 w' => ∃ (x7_1 : Int), v7 = .int .i64 x7_1 ∧ Aside0 (lexis_Value.l0 kq a0 (a0.size : Int) x7_1 = some r) ∧ Aside0 (kq ≤ k) ∧ Aside0 (Below w.heap.size w w'))
 case atStart => exact ⟨(0), (by first | rfl | (simp; done) | (simp [*]; done) | (simp [bneNil, beqNil]; done)), H', ⟨Nat.le_refl _⟩, ⟨bw HB⟩⟩
 case round =>
  clear H'
  obtain ⟨x7_1, rfl, HA, HK1, HB⟩ := hrel
  cases gk with
  | zero => exact absurd HA.out (by simp [lexis_Value.l0])
  | succ k1 =>
   have H := HA.out
   clear HA
   simp only [lexis_Value.l0] at H
   by_cases c2 : x7_1 < (a0.size : Int)
   ·rw [if_pos c2] at H
    have c2b0 : decide (x7_1 < (a0.size : Int)) = true := decide_eq_true c2
    clear c2
    by_cases c3 : 0 ≤ x7_1
    ·rw [if_pos c3] at H
     have c3b0 : decide (0 ≤ x7_1) = true := decide_eq_true c3
     clear c3
     by_cases c4 : x7_1 < (a0.size : Int)
     ·rw [if_pos c4] at H
      have c4b0 : decide (x7_1 < (a0.size : Int)) = true := decide_eq_true c4
      clear c4
      by_cases c6 : (bt a0 x7_1) < 32
      ·rw [if_pos c6] at H
       have c6b0 : decide ((bt a0 x7_1) < 32) = true := decide_eq_true c6
       clear c6
       by_cases c7 : (bt a0 x7_1) = 9
       ·rw [if_pos c7] at H
        have c7b0 : ((bt a0 x7_1) == 9) = true := beq_iff_eq.mpr c7
        have c7b1 : ((bt a0 x7_1) != 9) = false := bne_eq_false_iff_eq.mpr c7
        clear c7
        by_cases c8 : (bt a0 x7_1) = 127
        ·rw [if_pos c8] at H
         have c8b0 : ((bt a0 x7_1) == 127) = true := beq_iff_eq.mpr c8
         have c8b1 : ((bt a0 x7_1) != 127) = false := bne_eq_false_iff_eq.mpr c8
         clear c8
         obtain rfl := Option.some.inj H
         have p5 : 0 ≤ (x7_1 : Int) := of_decide_eq_true bm
         have q5 : x7_1 < (a0.size : Int) := of_decide_eq_true bm
         have hx5 := bt_at a0 x7_1
         replace p5 := eq_true p5
         replace q5 := eq_true q5
         go_wp2
         go_ret
         exact ⟨by first | rfl | (simp [errW_none, errW_some] <;> rfl) | (simp [*, errW_none, errW_some] <;> rfl) | (simp [bneNil, beqNil]; done), bw HB⟩
        ·rw [if_neg c8] at H
         have c8b0 : ((bt a0 x7_1) == 127) = false := beq_eq_false_iff_ne.mpr c8
         have c8b1 : ((bt a0 x7_1) != 127) = true := bne_iff_ne.mpr c8
         have H' := Aside0.mk H
         clear H
         have p5 : 0 ≤ (x7_1 : Int) := of_decide_eq_true bm
         have q5 : x7_1 < (a0.size : Int) := of_decide_eq_true bm
         have hx5 := bt_at a0 x7_1
         replace p5 := eq_true p5
         replace q5 := eq_true q5
         go_wp2
         go_roundg k1
         case measure => have := HK1.out; omega
         case rel => exact ⟨(wrap64 (x7_1 + 1)), (by first | rfl | (simp; done) | (simp [*]; done) | (simp [bneNil, beqNil]; done)), H', ⟨by have := HK1.out; omega⟩, ⟨bw HB⟩⟩
       ·rw [if_neg c7] at H
        have c7b0 : ((bt a0 x7_1) == 9) = false := beq_eq_false_iff_ne.mpr c7
        have c7b1 : ((bt a0 x7_1) != 9) = true := bne_iff_ne.mpr c7
        obtain rfl := Option.some.inj H
        have p5 : 0 ≤ (x7_1 : Int) := of_decide_eq_true bm
        have q5 : x7_1 < (a0.size : Int) := of_decide_eq_true bm
        have hx5 := bt_at a0 x7_1
        replace p5 := eq_true p5
        replace q5 := eq_true q5
        go_wp2
        go_ret
        exact ⟨by first | rfl | (simp [errW_none, errW_some] <;> rfl) | (simp [*, errW_none, errW_some] <;> rfl) | (simp [bneNil, beqNil]; done), bw HB⟩
      ·rw [if_neg c6] at H
       have c6b0 : decide ((bt a0 x7_1) < 32) = false := decide_eq_false c6
       clear c6
       by_cases c9 : (bt a0 x7_1) = 127
       ·rw [if_pos c9] at H
        have c9b0 : ((bt a0 x7_1) == 127) = true := beq_iff_eq.mpr c9
        have c9b1 : ((bt a0 x7_1) != 127) = false := bne_eq_false_iff_eq.mpr c9
        clear c9
        obtain rfl := Option.some.inj H
        have p5 : 0 ≤ (x7_1 : Int) := of_decide_eq_true bm
        have q5 : x7_1 < (a0.size : Int) := of_decide_eq_true bm
        have hx5 := bt_at a0 x7_1
        replace p5 := eq_true p5
        replace q5 := eq_true q5
        go_wp2
        go_ret
        exact ⟨by first | rfl | (simp [errW_none, errW_some] <;> rfl) | (simp [*, errW_none, errW_some] <;> rfl) | (simp [bneNil, beqNil]; done), bw HB⟩
       ·rw [if_neg c9] at H
        have c9b0 : ((bt a0 x7_1) == 127) = false := beq_eq_false_iff_ne.mpr c9
        have c9b1 : ((bt a0 x7_1) != 127) = true := bne_iff_ne.mpr c9
        have H' := Aside0.mk H
        clear H
        have p5 : 0 ≤ (x7_1 : Int) := of_decide_eq_true bm
        have q5 : x7_1 < (a0.size : Int) := of_decide_eq_true bm
        have hx5 := bt_at a0 x7_1
        replace p5 := eq_true p5
        replace q5 := eq_true q5
        go_wp2
        go_roundg k1
        case measure => have := HK1.out; omega
        case rel => exact ⟨(wrap64 (x7_1 + 1)), (by first | rfl | (simp; done) | (simp [*]; done) | (simp [bneNil, beqNil]; done)), H', ⟨by have := HK1.out; omega⟩, ⟨bw HB⟩⟩
     ·rw [if_neg c4] at H
      exact absurd H (by simp)
    ·rw [if_neg c3] at H
     exact absurd H (by simp)
   ·rw [if_neg c2] at H
    have c2b0 : decide (x7_1 < (a0.size : Int)) = false := decide_eq_false c2
    clear c2
    replace H := Option.bind_eq_some_iff.mp H
    obtain ⟨t102, A100, H⟩ := H
    have A10 := Aside0.mk A100
    clear A100
    obtain rfl := Option.some.inj H
    go_wp2_with (first | (refine gl 47 25 Tryz.func47 #[.string a0] ?_; (with_reducible refine (lexis_Trim.calls a0 t102 _ A10.out).mono ?_); rintro e w11 ⟨rfl, hb⟩; refine ⟨_, rfl, ?_⟩; replace HB := bS HB hb; (try clear hb); (try clear hb2); (try clear hk); (try clear hi)))
    go_ret
    exact ⟨by first | rfl | (simp [errW_none, errW_some] <;> rfl) | (simp [*, errW_none, errW_some] <;> rfl) | (simp [bneNil, beqNil]; done), bw HB⟩

/-- THE ONE PURE STATEMENT of lexis_Value: yours. -/
def lexis_Value.Pure : Prop := ∀ (a0 : ByteArray), a0.size ≤ 140737488351232 → ∃ k, lexis_Value.f k a0 = some true
theorem lexis_Value.walk (P : lexis_Value.Pure) (a0 : ByteArray) (w : World) (w0 : a0.size ≤ 140737488351232) :
  Calls Tryz.prog 31 #[.string a0] w fun e w' => e = .returned (.bool true) ∧ Below w.heap.size w w' := by
 obtain ⟨k, h⟩ := P a0 w0
 refine (lexis_Value.calls k a0 true w h).mono ?_
 rintro e w' ⟨rfl, hd⟩
 exact ⟨rfl, hd⟩

/-! ### strings_IndexByte: function 75 -/
def strings_IndexByte.f (a0 : ByteArray) (a1 : Int) : Option (Int) := some (Lib.indexByte a0.data.toList a1.toNat.toUInt8)
theorem strings_IndexByte.calls (a0 : ByteArray) (a1 : Int) (r : Int) (w : World) (h : strings_IndexByte.f a0 a1 = some r) :
  Calls Tryz.prog 75 #[.string a0, .int .u8 a1] w fun e w' => e = .returned (.int .i64 r) ∧ Drawn0 w w' := by
 obtain rfl := Option.some.inj h
 exact (Tryz.strings_IndexByte a0 a1 w).mono fun e w' ⟨he, hw⟩ => ⟨he, hw ▸ Drawn0.refl w⟩

/-! ### lexis_tchar: function 52 -/
mutual
def lexis_tchar.j0 : Nat → Int → Bool → Option (Bool)
 | 0, _, _ => none
 | k + 1, x0, x3 => if x3 = true then (some true) else (if x0 ≥ 97 then (lexis_tchar.j1 k x0 (decide (x0 ≤ 122))) else (lexis_tchar.j1 k x0 false))
def lexis_tchar.j1 : Nat → Int → Bool → Option (Bool)
 | 0, _, _ => none
 | k + 1, x0, x10 => if x10 = true then (some true) else (if x0 ≥ 65 then (if x0 ≤ 90 then (some true) else ((strings_IndexByte.f (⟨#[33, 35, 36, 37, 38, 39, 42, 43, 45, 46, 94, 95, 96, 124, 126]⟩ : ByteArray) x0).bind fun t103 => (some (decide (t103 ≥ 0))))) else ((strings_IndexByte.f (⟨#[33, 35, 36, 37, 38, 39, 42, 43, 45, 46, 94, 95, 96, 124, 126]⟩ : ByteArray) x0).bind fun t104 => (some (decide (t104 ≥ 0)))))
end
def lexis_tchar.f (k : Nat) (a0 : Int) : Option (Bool) := if a0 ≥ 48 then (lexis_tchar.j0 k a0 (decide (a0 ≤ 57))) else (lexis_tchar.j0 k a0 false)
theorem lexis_tchar.mono_l : ∀ k, (∀ y0 y1, LeO (lexis_tchar.j0 k y0 y1) (lexis_tchar.j0 (k + 1) y0 y1)) ∧ (∀ y0 y1, LeO (lexis_tchar.j1 k y0 y1) (lexis_tchar.j1 (k + 1) y0 y1))
 | 0 => ⟨fun _ _ r h => by simp [lexis_tchar.j0] at h, fun _ _ r h => by simp [lexis_tchar.j1] at h⟩
 | k + 1 => by
  obtain ⟨ih0, ih1⟩ := lexis_tchar.mono_l k
  refine ⟨?_, ?_⟩ <;> intros <;> (first | unfold lexis_tchar.j0 | unfold lexis_tchar.j1) <;> repeat' first | with_reducible first | exact ih0 _ _ | exact ih1 _ _ | exact LeO.refl _ | exact LeO.none _ | refine LeO.ite ?_ ?_ | refine LeO.bind ?_ (fun _ => ?_) | exact ih0 _ _ | exact ih1 _ _ | exact LeO.none _ | refine LeO.ite ?_ ?_ | refine LeO.bind ?_ (fun _ => ?_)
theorem lexis_tchar.mono : ∀ a0 k, LeO (lexis_tchar.f k a0) (lexis_tchar.f (k + 1) a0) := by
 intro a0 k
 obtain ⟨ih0, ih1⟩ := lexis_tchar.mono_l k
 unfold lexis_tchar.f
 repeat' first | with_reducible first | exact ih0 _ _ | exact ih1 _ _ | exact LeO.refl _ | exact LeO.none _ | refine LeO.ite ?_ ?_ | refine LeO.bind ?_ (fun _ => ?_) | exact ih0 _ _ | exact ih1 _ _ | exact LeO.none _ | refine LeO.ite ?_ ?_ | refine LeO.bind ?_ (fun _ => ?_)
set_option maxHeartbeats 8000000 in
set_option maxRecDepth 100000 in
theorem lexis_tchar.calls (k : Nat) (a0 : Int) (r : Bool) (w : World) (h : lexis_tchar.f k a0 = some r) :
  Calls Tryz.prog 52 #[.int .u8 a0] w fun e w' => e = .returned (.bool r) ∧ Drawn0 w w' := by
 have H : (if a0 ≥ 48 then (lexis_tchar.j0 k a0 (decide (a0 ≤ 57))) else (lexis_tchar.j0 k a0 false)) = some r := h
 clear h
 have HC2 := Aside0.mk H
 clear H
 go_enter Tryz.func52, Tryz.ntmps52
 go_upto_region 1 with (fail)
 go_cut [3] (fun v3 wc => ∃ (kq : Nat) (x3_1 : Bool), v3 = .bool x3_1 ∧ Aside0 (lexis_tchar.j0 kq a0 x3_1 = some r) ∧ Aside0 (kq ≤ k) ∧ Drawn0 w wc)
 case first =>
  have H := HC2.out
  clear HC2
  by_cases c3 : a0 ≥ 48
  ·rw [if_pos c3] at H
   have c3b0 : decide (48 ≤ a0) = true := decide_eq_true c3
   clear c3
   (first | rw [c3b0] | (simp only [i64_w, i32_w]; rw [c3b0]) | skip)
   have H' := Aside0.mk H
   clear H
   go_wp2
   go_meet
   case rel => exact ⟨_, (decide (a0 ≤ 57)), (by first | rfl | (simp; done) | (simp [*]; done) | (simp [bneNil, beqNil]; done)), H', ⟨by first | omega | exact Nat.le_refl _⟩, by repeat (first | exact Drawn0.refl _ | apply Drawn0.step)⟩
  ·rw [if_neg c3] at H
   have c3b0 : decide (48 ≤ a0) = false := decide_eq_false c3
   clear c3
   (first | rw [c3b0] | (simp only [i64_w, i32_w]; rw [c3b0]) | skip)
   have H' := Aside0.mk H
   clear H
   go_wp2
   go_meet
   case rel => exact ⟨_, (false), (by first | rfl | (simp; done) | (simp [*]; done) | (simp [bneNil, beqNil]; done)), H', ⟨by first | omega | exact Nat.le_refl _⟩, by repeat (first | exact Drawn0.refl _ | apply Drawn0.step)⟩
 case rest =>
  clear HC2
  obtain ⟨kq, x3_1, rfl, HA, HJ1, ⟨mc1, rfl⟩⟩ := hcut
  cases kq with
  | zero => exact absurd HA.out (by simp [lexis_tchar.j0])
  | succ kj1 =>
   have H := HA.out
   clear HA
   simp only [lexis_tchar.j0] at H
   by_cases c4 : x3_1 = true
   ·subst c4
    have H1 : (some true) = some r := by rw [if_pos rfl] at H; exact H
    clear H
    have H := H1
    clear H1
    obtain rfl := Option.some.inj H
    go_wp2
    go_ret
    exact ⟨by first | rfl | (simp; done) | (simp [*]; done) | (simp [bneNil, beqNil]; done), by repeat (first | exact Drawn0.refl _ | apply Drawn0.step)⟩
   ·replace c4 := Bool.eq_false_iff.mpr c4
    subst c4
    have H1 : (if a0 ≥ 97 then (lexis_tchar.j1 kj1 a0 (decide (a0 ≤ 122))) else (lexis_tchar.j1 kj1 a0 false)) = some r := by rw [if_neg (show ¬ (false = true) by decide)] at H; exact H
    clear H
    have H := H1
    clear H1
    have HC5 := Aside0.mk H
    clear H
    go_upto_region 2 with (fail)
    go_cut [10] (fun v10 wc => ∃ (kq : Nat) (x10_4 : Bool), v10 = .bool x10_4 ∧ Aside0 (lexis_tchar.j1 kq a0 x10_4 = some r) ∧ Aside0 (kq ≤ kj1) ∧ Drawn0 w wc)
    case first =>
     have H := HC5.out
     clear HC5
     by_cases c6 : a0 ≥ 97
     ·rw [if_pos c6] at H
      have c6b0 : decide (97 ≤ a0) = true := decide_eq_true c6
      clear c6
      (first | rw [c6b0] | (simp only [i64_w, i32_w]; rw [c6b0]) | skip)
      have H' := Aside0.mk H
      clear H
      go_wp2
      go_meet
      case rel => exact ⟨_, (decide (a0 ≤ 122)), (by first | rfl | (simp; done) | (simp [*]; done) | (simp [bneNil, beqNil]; done)), H', ⟨by have := HJ1.out; first | omega | exact Nat.le_refl _⟩, by repeat (first | exact Drawn0.refl _ | apply Drawn0.step)⟩
     ·rw [if_neg c6] at H
      have c6b0 : decide (97 ≤ a0) = false := decide_eq_false c6
      clear c6
      (first | rw [c6b0] | (simp only [i64_w, i32_w]; rw [c6b0]) | skip)
      have H' := Aside0.mk H
      clear H
      go_wp2
      go_meet
      case rel => exact ⟨_, (false), (by first | rfl | (simp; done) | (simp [*]; done) | (simp [bneNil, beqNil]; done)), H', ⟨by have := HJ1.out; first | omega | exact Nat.le_refl _⟩, by repeat (first | exact Drawn0.refl _ | apply Drawn0.step)⟩
    case rest =>
     clear HC5
     try clear c4
     obtain ⟨kq, x10_4, rfl, HA, HJ4, ⟨mc4, rfl⟩⟩ := hcut
     cases kq with
     | zero => exact absurd HA.out (by simp [lexis_tchar.j1])
     | succ kj4 =>
      have H := HA.out
      clear HA
      simp only [lexis_tchar.j1] at H
      by_cases c7 : x10_4 = true
      ·subst c7
       have H1 : (some true) = some r := by rw [if_pos rfl] at H; exact H
       clear H
       have H := H1
       clear H1
       obtain rfl := Option.some.inj H
       go_wp2
       go_ret
       exact ⟨by first | rfl | (simp; done) | (simp [*]; done) | (simp [bneNil, beqNil]; done), by repeat (first | exact Drawn0.refl _ | apply Drawn0.step)⟩
      ·replace c7 := Bool.eq_false_iff.mpr c7
       subst c7
       have H1 : (if a0 ≥ 65 then (if a0 ≤ 90 then (some true) else ((strings_IndexByte.f (⟨#[33, 35, 36, 37, 38, 39, 42, 43, 45, 46, 94, 95, 96, 124, 126]⟩ : ByteArray) a0).bind fun t103 => (some (decide (t103 ≥ 0))))) else ((strings_IndexByte.f (⟨#[33, 35, 36, 37, 38, 39, 42, 43, 45, 46, 94, 95, 96, 124, 126]⟩ : ByteArray) a0).bind fun t104 => (some (decide (t104 ≥ 0))))) = some r := by rw [if_neg (show ¬ (false = true) by decide)] at H; exact H
       clear H
       have H := H1
       clear H1
       by_cases c8 : a0 ≥ 65
       ·rw [if_pos c8] at H
        have c8b0 : decide (65 ≤ a0) = true := decide_eq_true c8
        clear c8
        by_cases c9 : a0 ≤ 90
        ·rw [if_pos c9] at H
         have c9b0 : decide (a0 ≤ 90) = true := decide_eq_true c9
         clear c9
         obtain rfl := Option.some.inj H
         go_wp2
         go_ret
         exact ⟨by first | rfl | (simp; done) | (simp [*]; done) | (simp [bneNil, beqNil]; done), by repeat (first | exact Drawn0.refl _ | apply Drawn0.step)⟩
        ·rw [if_neg c9] at H
         have c9b0 : decide (a0 ≤ 90) = false := decide_eq_false c9
         clear c9
         replace H := Option.bind_eq_some_iff.mp H
         obtain ⟨t103, A100, H⟩ := H
         have A10 := Aside0.mk A100
         clear A100
         obtain rfl := Option.some.inj H
         go_wp2_with (first | (refine gl 75 24 Tryz.func75 #[.string (⟨#[33, 35, 36, 37, 38, 39, 42, 43, 45, 46, 94, 95, 96, 124, 126]⟩ : ByteArray), .int .u8 a0] ?_; (with_reducible refine (strings_IndexByte.calls (⟨#[33, 35, 36, 37, 38, 39, 42, 43, 45, 46, 94, 95, 96, 124, 126]⟩ : ByteArray) a0 t103 _ A10.out).mono ?_); rintro e w' ⟨rfl, ⟨nd, rfl⟩⟩; refine ⟨_, rfl, ?_⟩))
         go_ret
         exact ⟨by first | rfl | (simp; done) | (simp [*]; done) | (simp [bneNil, beqNil]; done), by repeat (first | exact Drawn0.refl _ | apply Drawn0.step)⟩
       ·rw [if_neg c8] at H
        have c8b0 : decide (65 ≤ a0) = false := decide_eq_false c8
        clear c8
        replace H := Option.bind_eq_some_iff.mp H
        obtain ⟨t104, A110, H⟩ := H
        have A11 := Aside0.mk A110
        clear A110
        obtain rfl := Option.some.inj H
        go_wp2_with (first | (refine gl 75 24 Tryz.func75 #[.string (⟨#[33, 35, 36, 37, 38, 39, 42, 43, 45, 46, 94, 95, 96, 124, 126]⟩ : ByteArray), .int .u8 a0] ?_; (with_reducible refine (strings_IndexByte.calls (⟨#[33, 35, 36, 37, 38, 39, 42, 43, 45, 46, 94, 95, 96, 124, 126]⟩ : ByteArray) a0 t104 _ A11.out).mono ?_); rintro e w' ⟨rfl, ⟨nd, rfl⟩⟩; refine ⟨_, rfl, ?_⟩))
        go_ret
        exact ⟨by first | rfl | (simp; done) | (simp [*]; done) | (simp [bneNil, beqNil]; done), by repeat (first | exact Drawn0.refl _ | apply Drawn0.step)⟩

/-! ### lexis_Token: function 37 -/
def lexis_Token.l0 : Nat → ByteArray → Int → Int → Option (Bool)
 | 0, _, _, _ => none
 | k + 1, x0, x5, x6 => if x6 < x5 then (if 0 ≤ x6 then (if x6 < (x0.size : Int) then ((lexis_tchar.f k (bt x0 x6)).bind fun t105 => (if t105 = true then (lexis_Token.l0 k x0 x5 (wrap64 (x6 + 1))) else (some false))) else (none)) else (none)) else (some (x0.toList != ([] : List UInt8)))
def lexis_Token.f (k : Nat) (a0 : ByteArray) : Option (Bool) := lexis_Token.l0 k a0 (a0.size : Int) 0
theorem lexis_Token.mono_l : ∀ k, (∀ y0 y1 y2, LeO (lexis_Token.l0 k y0 y1 y2) (lexis_Token.l0 (k + 1) y0 y1 y2))
 | 0 => fun _ _ _ r h => by simp [lexis_Token.l0] at h
 | k + 1 => by
  have ih0 := lexis_Token.mono_l k
  ·intro y0 y1 y2
   unfold lexis_Token.l0
   repeat' first | with_reducible first | exact ih0 _ _ _ | exact lexis_tchar.mono _ _ | exact LeO.refl _ | exact LeO.none _ | refine LeO.ite ?_ ?_ | refine LeO.bind ?_ (fun _ => ?_) | exact ih0 _ _ _ | exact lexis_tchar.mono _ _ | exact LeO.none _ | refine LeO.ite ?_ ?_ | refine LeO.bind ?_ (fun _ => ?_)
theorem lexis_Token.mono : ∀ a0 k, LeO (lexis_Token.f k a0) (lexis_Token.f (k + 1) a0) := by
 intro a0 k
 have ih0 := lexis_Token.mono_l k
 unfold lexis_Token.f
 repeat' first | with_reducible first | exact ih0 _ _ _ | exact lexis_tchar.mono _ _ | exact LeO.refl _ | exact LeO.none _ | refine LeO.ite ?_ ?_ | refine LeO.bind ?_ (fun _ => ?_) | exact ih0 _ _ _ | exact lexis_tchar.mono _ _ | exact LeO.none _ | refine LeO.ite ?_ ?_ | refine LeO.bind ?_ (fun _ => ?_)
set_option maxHeartbeats 8000000 in
set_option maxRecDepth 100000 in
theorem lexis_Token.calls (k : Nat) (a0 : ByteArray) (r : Bool) (w : World) (h : lexis_Token.f k a0 = some r) :
  Calls Tryz.prog 37 #[.string a0] w fun e w' => e = .returned (.bool r) ∧ Drawn0 w w' := by
 have H : (lexis_Token.l0 k a0 (a0.size : Int) 0) = some r := h
 clear h
 have H' := Aside0.mk H
 clear H
 go_enter Tryz.func37, Tryz.ntmps37
 go_wp2
 go_loopg [6] k (fun kq v6 w' => ∃ (x6_1 : Int), v6 = .int .i64 x6_1 ∧ Aside0 (lexis_Token.l0 kq a0 (a0.size : Int) x6_1 = some r) ∧ Aside0 (kq ≤ k) ∧ Drawn0 w w')
 case atStart => exact ⟨(0), (by first | rfl | (simp; done) | (simp [*]; done) | (simp [bneNil, beqNil]; done)), H', ⟨Nat.le_refl _⟩, by repeat (first | exact Drawn0.refl _ | apply Drawn0.step)⟩
 case round =>
  clear H'
  obtain ⟨x6_1, rfl, HA, HK1, ⟨m1, rfl⟩⟩ := hrel
  cases gk with
  | zero => exact absurd HA.out (by simp [lexis_Token.l0])
  | succ k1 =>
   have H := HA.out
   clear HA
   simp only [lexis_Token.l0] at H
   by_cases c2 : x6_1 < (a0.size : Int)
   ·rw [if_pos c2] at H
    have c2b0 : decide (x6_1 < (a0.size : Int)) = true := decide_eq_true c2
    clear c2
    by_cases c3 : 0 ≤ x6_1
    ·rw [if_pos c3] at H
     have c3b0 : decide (0 ≤ x6_1) = true := decide_eq_true c3
     clear c3
     by_cases c4 : x6_1 < (a0.size : Int)
     ·rw [if_pos c4] at H
      have c4b0 : decide (x6_1 < (a0.size : Int)) = true := decide_eq_true c4
      clear c4
      replace H := Option.bind_eq_some_iff.mp H
      obtain ⟨t105, A60, H⟩ := H
      have A6 := Aside0.mk A60
      clear A60
      by_cases c7 : t105 = true
      ·subst c7
       have H1 : (lexis_Token.l0 k1 a0 (a0.size : Int) (wrap64 (x6_1 + 1))) = some r := by rw [if_pos rfl] at H; exact H
       clear H
       have H := H1
       clear H1
       have H' := Aside0.mk H
       clear H
       have p5 : 0 ≤ (x6_1 : Int) := of_decide_eq_true bm
       have q5 : x6_1 < (a0.size : Int) := of_decide_eq_true bm
       have hx5 := bt_at a0 x6_1
       replace p5 := eq_true p5
       replace q5 := eq_true q5
       go_wp2_with (first | (refine gl 52 12 Tryz.func52 #[.int .u8 (bt a0 x6_1)] ?_; (with_reducible refine (lexis_tchar.calls k1 (bt a0 x6_1) true _ A6.out).mono ?_); rintro e w' ⟨rfl, ⟨nd, rfl⟩⟩; refine ⟨_, rfl, ?_⟩))
       go_roundg k1
       case measure => have := HK1.out; omega
       case rel => exact ⟨(wrap64 (x6_1 + 1)), (by first | rfl | (simp; done) | (simp [*]; done) | (simp [bneNil, beqNil]; done)), H', ⟨by have := HK1.out; omega⟩, by repeat (first | exact Drawn0.refl _ | apply Drawn0.step)⟩
      ·replace c7 := Bool.eq_false_iff.mpr c7
       subst c7
       have H1 : (some false) = some r := by rw [if_neg (show ¬ (false = true) by decide)] at H; exact H
       clear H
       have H := H1
       clear H1
       obtain rfl := Option.some.inj H
       have p5 : 0 ≤ (x6_1 : Int) := of_decide_eq_true bm
       have q5 : x6_1 < (a0.size : Int) := of_decide_eq_true bm
       have hx5 := bt_at a0 x6_1
       replace p5 := eq_true p5
       replace q5 := eq_true q5
       go_wp2_with (first | (refine gl 52 12 Tryz.func52 #[.int .u8 (bt a0 x6_1)] ?_; (with_reducible refine (lexis_tchar.calls k1 (bt a0 x6_1) false _ A6.out).mono ?_); rintro e w' ⟨rfl, ⟨nd, rfl⟩⟩; refine ⟨_, rfl, ?_⟩))
       go_ret
       exact ⟨by first | rfl | (simp; done) | (simp [*]; done) | (simp [bneNil, beqNil]; done), by repeat (first | exact Drawn0.refl _ | apply Drawn0.step)⟩
     ·rw [if_neg c4] at H
      exact absurd H (by simp)
    ·rw [if_neg c3] at H
     exact absurd H (by simp)
   ·rw [if_neg c2] at H
    have c2b0 : decide (x6_1 < (a0.size : Int)) = false := decide_eq_false c2
    clear c2
    obtain rfl := Option.some.inj H
    go_wp2
    go_ret
    exact ⟨by first | rfl | (simp; done) | (simp [*]; done) | (simp [bneNil, beqNil]; done), by repeat (first | exact Drawn0.refl _ | apply Drawn0.step)⟩

/-- THE ONE PURE STATEMENT of lexis_Token: yours. -/
def lexis_Token.Pure : Prop := ∀ (a0 : ByteArray), a0.size ≤ 140737488351232 → ∃ k, lexis_Token.f k a0 = some true
theorem lexis_Token.walk (P : lexis_Token.Pure) (a0 : ByteArray) (w : World) (w0 : a0.size ≤ 140737488351232) :
  Calls Tryz.prog 37 #[.string a0] w fun e w' => e = .returned (.bool true) ∧ Below w.heap.size w w' := by
 obtain ⟨k, h⟩ := P a0 w0
 refine (lexis_Token.calls k a0 true w h).mono ?_
 rintro e w' ⟨rfl, hd⟩
 exact ⟨rfl, hd.below⟩

/-! ### lexis_digits: function 48 -/
def lexis_digits.f (a0 : ByteArray) (a1 : Int) : Option (Int × Int) := if a0.size ≤ 281474976710656 ∧ (a1 = 10 ∨ a1 = 16) then some (Hr.digits a1.toNat a0.data.toList) else none
theorem lexis_digits.calls (a0 : ByteArray) (a1 : Int) (r1 : Int) (r2 : Int) (w : World) (h : lexis_digits.f a0 a1 = some (r1, r2)) (hG_ : GInv w) :
  Calls Tryz.prog 48 #[.string a0, .int .i64 a1] w fun e w' => e = .returned (.tuple #[.int .i64 r1, .int .i64 r2]) ∧ Below w.heap.size w w' := by
 unfold lexis_digits.f at h
 split at h
 ·rename_i hs
  exact Lex.digits_calls a0 a1 r1 r2 w hs.1 hs.2 (Option.some.inj h) hG_
 ·exact absurd h (by simp)

/-! ### lexis_Number: function 33 -/
def lexis_Number.f (a0 : ByteArray) : Option (Int × Int) := (lexis_digits.f a0 10).bind fun bt106 => (some (bt106.1, bt106.2))
set_option maxHeartbeats 8000000 in
set_option maxRecDepth 100000 in
theorem lexis_Number.calls (a0 : ByteArray) (r1 : Int) (r2 : Int) (w : World) (h : lexis_Number.f a0 = some (r1, r2)) (hG_ : GInv w) :
  Calls Tryz.prog 33 #[.string a0] w fun e w' => e = .returned (.tuple #[.int .i64 r1, .int .i64 r2]) ∧ Below w.heap.size w w' := by
 have HG_ := Aside0.mk hG_
 clear hG_
 have HB := Aside0.mk (Below.refl w.heap.size w)
 have H : ((lexis_digits.f a0 10).bind fun bt106 => (some (bt106.1, bt106.2))) = some (r1, r2) := h
 clear h
 replace H := Option.bind_eq_some_iff.mp H
 obtain ⟨⟨t106, t107⟩, A20, H⟩ := H
 replace H : (some (t106, t107)) = some (r1, r2) := H
 have A2 := Aside0.mk A20
 clear A20
 simp only [Option.some.injEq, Prod.mk.injEq] at H
 obtain ⟨rfl, rfl⟩ := H
 go_enter Tryz.func33, Tryz.ntmps33
 go_wp2_with (first | (refine gl 48 5 Tryz.func48 #[.string a0, .int .i64 10] ?_; (with_reducible refine (lexis_digits.calls a0 10 t106 t107 _ A2.out ?side1).mono ?_); (case side1 => exact GInv.below' HG_ (bw HB)); rintro e w3 ⟨rfl, hb⟩; refine ⟨_, rfl, ?_⟩; replace HB := bS HB hb; (try clear hb); (try clear hb2); (try clear hk); (try clear hi)))
 go_ret2
 exact ⟨by first | rfl | (simp [errW_none, errW_some] <;> rfl) | (simp [*, errW_none, errW_some] <;> rfl) | (simp [bneNil, beqNil]; done), bw HB⟩

/-! ### headraceplain_Fields: function 19 -/
def headraceplain_Fields.l0 : Nat → List (S45) → List (S45) → Int → Int → Option (Bool)
 | 0, _, _, _, _ => none
 | k + 1, x0, x1, x12, x13 => if x13 < x12 then (if 0 ≤ x13 then (if x13 < (x0.length : Int) then (if x13 < (x1.length : Int) then (if (!((((rd_T45 x0 x13).f0).toList) == (((rd_T45 x1 x13).f0).toList)) || (!((((rd_T45 x0 x13).f1).toList) == (((rd_T45 x1 x13).f1).toList)))) = true then (some false) else (headraceplain_Fields.l0 k x0 x1 x12 (wrap64 (x13 + 1)))) else (none)) else (none)) else (none)) else (some true)
def headraceplain_Fields.f (k : Nat) (l0 : List (S45)) (l1 : List (S45)) : Option (Bool) := if (l0.length : Int) = (l1.length : Int) then (headraceplain_Fields.l0 k l0 l1 (l0.length : Int) 0) else (some false)
theorem headraceplain_Fields.mono_l : ∀ k, (∀ y0 y1 y2 y3, LeO (headraceplain_Fields.l0 k y0 y1 y2 y3) (headraceplain_Fields.l0 (k + 1) y0 y1 y2 y3))
 | 0 => fun _ _ _ _ r h => by simp [headraceplain_Fields.l0] at h
 | k + 1 => by
  have ih0 := headraceplain_Fields.mono_l k
  ·intro y0 y1 y2 y3
   unfold headraceplain_Fields.l0
   repeat' first | with_reducible first | exact ih0 _ _ _ _ | exact LeO.refl _ | exact LeO.none _ | refine LeO.ite ?_ ?_ | refine LeO.bind ?_ (fun _ => ?_) | exact ih0 _ _ _ _ | exact LeO.none _ | refine LeO.ite ?_ ?_ | refine LeO.bind ?_ (fun _ => ?_)
theorem headraceplain_Fields.mono : ∀ a0 a1 k, LeO (headraceplain_Fields.f k a0 a1) (headraceplain_Fields.f (k + 1) a0 a1) := by
 intro a0 a1 k
 have ih0 := headraceplain_Fields.mono_l k
 unfold headraceplain_Fields.f
 repeat' first | with_reducible first | exact ih0 _ _ _ _ | exact LeO.refl _ | exact LeO.none _ | refine LeO.ite ?_ ?_ | refine LeO.bind ?_ (fun _ => ?_) | exact ih0 _ _ _ _ | exact LeO.none _ | refine LeO.ite ?_ ?_ | refine LeO.bind ?_ (fun _ => ?_)
set_option maxHeartbeats 8000000 in
set_option maxRecDepth 100000 in
theorem headraceplain_Fields.calls (k : Nat) (A0 : Option Addr) (c0 : Nat) (l0 : List (S45)) (A1 : Option Addr) (c1 : Nat) (l1 : List (S45)) (r : Bool) (w : World) (hr0 : Kd.C k45 w A0 l0.length l0) (hc0 : l0.length ≤ c0) (hr1 : Kd.C k45 w A1 l1.length l1) (hc1 : l1.length ≤ c1) (h : headraceplain_Fields.f k l0 l1 = some r) :
  Calls Tryz.prog 19 #[.slice A0 l0.length c0, .slice A1 l1.length c1] w fun e w' => e = .returned (.bool r) ∧ Drawn0 w w' := by
 have hu45 := Tryz.underlying45
 have HR0 := Aside0.mk hr0
 have HC0 := Aside0.mk hc0
 clear hr0 hc0
 have HR1 := Aside0.mk hr1
 have HC1 := Aside0.mk hc1
 clear hr1 hc1
 have H : (if (l0.length : Int) = (l1.length : Int) then (headraceplain_Fields.l0 k l0 l1 (l0.length : Int) 0) else (some false)) = some r := h
 clear h
 by_cases c3 : (l0.length : Int) = (l1.length : Int)
 ·rw [if_pos c3] at H
  have c3b0 : ((l0.length : Int) == (l1.length : Int)) = true := beq_iff_eq.mpr c3
  have c3b1 : ((l0.length : Int) != (l1.length : Int)) = false := bne_eq_false_iff_eq.mpr c3
  have c3b2 : (l0.length == l1.length) = true := by first | simpa using c3 | (simp at c3 ⊢; omega)
  clear c3
  have H' := Aside0.mk H
  clear H
  go_enter Tryz.func19, Tryz.ntmps19
  go_wp2
  repeat (go_quiet (fail); try go_wp2)
  go_loopg [13] k (fun kq v13 w' => ∃ (x13_1 : Int), v13 = .int .i64 x13_1 ∧ Aside0 (headraceplain_Fields.l0 kq l0 l1 (l0.length : Int) x13_1 = some r) ∧ Aside0 (kq ≤ k) ∧ Drawn0 w w')
  case atStart => exact ⟨(0), (by first | rfl | (simp; done) | (simp [*]; done) | (simp [bneNil, beqNil]; done)), H', ⟨Nat.le_refl _⟩, by repeat (first | exact Drawn0.refl _ | apply Drawn0.step)⟩
  case round =>
   clear H'
   try clear c1; try clear c3; try clear c3b0; try clear c3b1; try clear c3b2
   obtain ⟨x13_1, rfl, HA, HK1, ⟨m1, rfl⟩⟩ := hrel
   cases gk with
   | zero => exact absurd HA.out (by simp [headraceplain_Fields.l0])
   | succ k1 =>
    have H := HA.out
    clear HA
    simp only [headraceplain_Fields.l0] at H
    by_cases c4 : x13_1 < (l0.length : Int)
    ·rw [if_pos c4] at H
     have c4b0 : decide (x13_1 < (l0.length : Int)) = true := decide_eq_true c4
     clear c4
     by_cases c5 : 0 ≤ x13_1
     ·rw [if_pos c5] at H
      have c5b0 : decide (0 ≤ x13_1) = true := decide_eq_true c5
      clear c5
      by_cases c6 : x13_1 < (l0.length : Int)
      ·rw [if_pos c6] at H
       have c6b0 : decide (x13_1 < (l0.length : Int)) = true := decide_eq_true c6
       clear c6
       by_cases c7 : x13_1 < (l1.length : Int)
       ·rw [if_pos c7] at H
        have c7b0 : decide (x13_1 < (l1.length : Int)) = true := decide_eq_true c7
        clear c7
        by_cases c8 : (!((((rd_T45 l0 x13_1).f0).toList) == (((rd_T45 l1 x13_1).f0).toList)) || (!((((rd_T45 l0 x13_1).f1).toList) == (((rd_T45 l1 x13_1).f1).toList)))) = true
        ·rw [if_pos c8] at H
         have c8b0 : (!((((rd_T45 l0 x13_1).f0).toList) == (((rd_T45 l1 x13_1).f0).toList)) || (!((((rd_T45 l0 x13_1).f1).toList) == (((rd_T45 l1 x13_1).f1).toList)))) = true := c8
         clear c8
         obtain rfl := Option.some.inj H
         have p108 : 0 ≤ (x13_1 : Int) := of_decide_eq_true bm
         have q108 : x13_1 < (l0.length : Int) := of_decide_eq_true bm
         obtain ⟨ad108, e108, hx108_0, hx108_1⟩ := at_T45 HR0.out x13_1 p108 q108
         cases e108
         replace p108 := eq_true p108
         replace q108 := eq_true q108
         have p109 : 0 ≤ (x13_1 : Int) := of_decide_eq_true bm
         have q109 : x13_1 < (l1.length : Int) := of_decide_eq_true bm
         obtain ⟨ad109, e109, hx109_0, hx109_1⟩ := at_T45 HR1.out x13_1 p109 q109
         cases e109
         replace p109 := eq_true p109
         replace q109 := eq_true q109
         go_wp2
         repeat (go_quiet (fail); try go_wp2)
         go_ret
         exact ⟨by first | rfl | (simp; done) | (simp [*]; done) | (simp [bneNil, beqNil]; done), by repeat (first | exact Drawn0.refl _ | apply Drawn0.step)⟩
        ·rw [if_neg c8] at H
         have c8b0 : (!((((rd_T45 l0 x13_1).f0).toList) == (((rd_T45 l1 x13_1).f0).toList)) || (!((((rd_T45 l0 x13_1).f1).toList) == (((rd_T45 l1 x13_1).f1).toList)))) = false := by simpa using c8
         clear c8
         have H' := Aside0.mk H
         clear H
         have p108 : 0 ≤ (x13_1 : Int) := of_decide_eq_true bm
         have q108 : x13_1 < (l0.length : Int) := of_decide_eq_true bm
         obtain ⟨ad108, e108, hx108_0, hx108_1⟩ := at_T45 HR0.out x13_1 p108 q108
         cases e108
         replace p108 := eq_true p108
         replace q108 := eq_true q108
         have p109 : 0 ≤ (x13_1 : Int) := of_decide_eq_true bm
         have q109 : x13_1 < (l1.length : Int) := of_decide_eq_true bm
         obtain ⟨ad109, e109, hx109_0, hx109_1⟩ := at_T45 HR1.out x13_1 p109 q109
         cases e109
         replace p109 := eq_true p109
         replace q109 := eq_true q109
         go_wp2
         repeat (go_quiet (fail); try go_wp2)
         go_roundg k1
         case measure => have := HK1.out; omega
         case rel => exact ⟨(wrap64 (x13_1 + 1)), (by first | rfl | (simp; done) | (simp [*]; done) | (simp [bneNil, beqNil]; done)), H', ⟨by have := HK1.out; omega⟩, by repeat (first | exact Drawn0.refl _ | apply Drawn0.step)⟩
       ·rw [if_neg c7] at H
        exact absurd H (by simp)
      ·rw [if_neg c6] at H
       exact absurd H (by simp)
     ·rw [if_neg c5] at H
      exact absurd H (by simp)
    ·rw [if_neg c4] at H
     have c4b0 : decide (x13_1 < (l0.length : Int)) = false := decide_eq_false c4
     clear c4
     obtain rfl := Option.some.inj H
     go_wp2
     repeat (go_quiet (fail); try go_wp2)
     go_ret
     exact ⟨by first | rfl | (simp; done) | (simp [*]; done) | (simp [bneNil, beqNil]; done), by repeat (first | exact Drawn0.refl _ | apply Drawn0.step)⟩
 ·rw [if_neg c3] at H
  have c3b0 : ((l0.length : Int) == (l1.length : Int)) = false := beq_eq_false_iff_ne.mpr c3
  have c3b1 : ((l0.length : Int) != (l1.length : Int)) = true := bne_iff_ne.mpr c3
  have c3b2 : (l0.length == l1.length) = false := by first | simpa using c3 | (simp at c3 ⊢; omega)
  obtain rfl := Option.some.inj H
  go_enter Tryz.func19, Tryz.ntmps19
  go_wp2
  repeat (go_quiet (fail); try go_wp2)
  go_ret
  exact ⟨by first | rfl | (simp; done) | (simp [*]; done) | (simp [bneNil, beqNil]; done), by repeat (first | exact Drawn0.refl _ | apply Drawn0.step)⟩

/-! ### headraceplain_Head: function 8 -/
def headraceplain_Head.f (k : Nat) (a0_0 : Bool) (a0_1 : ByteArray) (a0_2 : ByteArray) (a0_3 : Int) (a0_4 : Int) (a0_5 : ByteArray) (l0_6 : List (S45)) (a1_0 : Bool) (a1_1 : ByteArray) (a1_2 : ByteArray) (a1_3 : Int) (a1_4 : Int) (a1_5 : ByteArray) (l1_6 : List (S45)) : Option (Bool) := if (a0_0 == a1_0) = true then (if a0_1.toList = a1_1.toList then (if a0_2.toList = a1_2.toList then (if a0_3 = a1_3 then (if a0_4 = a1_4 then (if a0_5.toList = a1_5.toList then ((headraceplain_Fields.f k l0_6 l1_6).bind fun t112 => (some t112)) else (some false)) else (some false)) else (some false)) else (some false)) else (some false)) else (some false)
theorem headraceplain_Head.mono : ∀ a0 a1 a2 a3 a4 a5 a6 a7 a8 a9 a10 a11 a12 a13 k, LeO (headraceplain_Head.f k a0 a1 a2 a3 a4 a5 a6 a7 a8 a9 a10 a11 a12 a13) (headraceplain_Head.f (k + 1) a0 a1 a2 a3 a4 a5 a6 a7 a8 a9 a10 a11 a12 a13) := by
 intro a0 a1 a2 a3 a4 a5 a6 a7 a8 a9 a10 a11 a12 a13 k
 unfold headraceplain_Head.f
 repeat' first | with_reducible first | exact headraceplain_Fields.mono _ _ _ | exact LeO.refl _ | exact LeO.none _ | refine LeO.ite ?_ ?_ | refine LeO.bind ?_ (fun _ => ?_) | exact headraceplain_Fields.mono _ _ _ | exact LeO.none _ | refine LeO.ite ?_ ?_ | refine LeO.bind ?_ (fun _ => ?_)
set_option maxHeartbeats 8000000 in
set_option maxRecDepth 100000 in
theorem headraceplain_Head.calls (k : Nat) (a0_0 : Bool) (a0_1 : ByteArray) (a0_2 : ByteArray) (a0_3 : Int) (a0_4 : Int) (a0_5 : ByteArray) (A0_6 : Option Addr) (c0_6 : Nat) (l0_6 : List (S45)) (a1_0 : Bool) (a1_1 : ByteArray) (a1_2 : ByteArray) (a1_3 : Int) (a1_4 : Int) (a1_5 : ByteArray) (A1_6 : Option Addr) (c1_6 : Nat) (l1_6 : List (S45)) (r : Bool) (w : World) (hr0_6 : Kd.C k45 w A0_6 l0_6.length l0_6) (hc0_6 : l0_6.length ≤ c0_6) (hr1_6 : Kd.C k45 w A1_6 l1_6.length l1_6) (hc1_6 : l1_6.length ≤ c1_6) (h : headraceplain_Head.f k a0_0 a0_1 a0_2 a0_3 a0_4 a0_5 l0_6 a1_0 a1_1 a1_2 a1_3 a1_4 a1_5 l1_6 = some r) :
  Calls Tryz.prog 8 #[.agg #[.bool a0_0, .string a0_1, .string a0_2, .int .i64 a0_3, .int .i64 a0_4, .string a0_5, .slice A0_6 l0_6.length c0_6], .agg #[.bool a1_0, .string a1_1, .string a1_2, .int .i64 a1_3, .int .i64 a1_4, .string a1_5, .slice A1_6 l1_6.length c1_6]] w fun e w' => e = .returned (.bool r) ∧ Below w.heap.size w w' := by
 have hu24 := Tryz.underlying24
 have HR0_6 := Aside0.mk hr0_6
 have HC0_6 := Aside0.mk hc0_6
 clear hr0_6 hc0_6
 have HR1_6 := Aside0.mk hr1_6
 have HC1_6 := Aside0.mk hc1_6
 clear hr1_6 hc1_6
 have HB := Aside0.mk (Below.refl w.heap.size w)
 have H : (if (a0_0 == a1_0) = true then (if a0_1.toList = a1_1.toList then (if a0_2.toList = a1_2.toList then (if a0_3 = a1_3 then (if a0_4 = a1_4 then (if a0_5.toList = a1_5.toList then ((headraceplain_Fields.f k l0_6 l1_6).bind fun t112 => (some t112)) else (some false)) else (some false)) else (some false)) else (some false)) else (some false)) else (some false)) = some r := h
 clear h
 by_cases c3 : (a0_0 == a1_0) = true
 ·rw [if_pos c3] at H
  have c3b0 : (a0_0 == a1_0) = true := c3
  (try (have c3b1 : decide (a0_0 = a1_0) = true := by simpa using c3))
  (try (have c3b2 : (a0_0 == a1_0) = true := by simpa using c3))
  clear c3
  by_cases c4 : a0_1.toList = a1_1.toList
  ·rw [if_pos c4] at H
   have c4b0 : (a0_1.toList == a1_1.toList) = true := beq_iff_eq.mpr c4
   have c4b1 : (a0_1.toList != a1_1.toList) = false := bne_eq_false_iff_eq.mpr c4
   clear c4
   by_cases c5 : a0_2.toList = a1_2.toList
   ·rw [if_pos c5] at H
    have c5b0 : (a0_2.toList == a1_2.toList) = true := beq_iff_eq.mpr c5
    have c5b1 : (a0_2.toList != a1_2.toList) = false := bne_eq_false_iff_eq.mpr c5
    clear c5
    by_cases c6 : a0_3 = a1_3
    ·rw [if_pos c6] at H
     have c6b0 : (a0_3 == a1_3) = true := beq_iff_eq.mpr c6
     have c6b1 : (a0_3 != a1_3) = false := bne_eq_false_iff_eq.mpr c6
     clear c6
     by_cases c7 : a0_4 = a1_4
     ·rw [if_pos c7] at H
      have c7b0 : (a0_4 == a1_4) = true := beq_iff_eq.mpr c7
      have c7b1 : (a0_4 != a1_4) = false := bne_eq_false_iff_eq.mpr c7
      clear c7
      by_cases c8 : a0_5.toList = a1_5.toList
      ·rw [if_pos c8] at H
       have c8b0 : (a0_5.toList == a1_5.toList) = true := beq_iff_eq.mpr c8
       have c8b1 : (a0_5.toList != a1_5.toList) = false := bne_eq_false_iff_eq.mpr c8
       clear c8
       replace H := Option.bind_eq_some_iff.mp H
       obtain ⟨t112, A90, H⟩ := H
       have A9 := Aside0.mk A90
       clear A90
       obtain rfl := Option.some.inj H
       go_enter Tryz.func8, Tryz.ntmps8
       go_wp2_with (first | (refine bx 2 #[.bool a0_0, .string a0_1, .string a0_2, .int .i64 a0_3, .int .i64 a0_4, .string a0_5, .slice A0_6 l0_6.length c0_6] 24 ?_; intro gb110 hg w10 hbox hb; have BK110 := Aside0.mk (hbox); have GW110 := bG HB hg; have GE110 := bG HB hg; replace HB := bS HB hb; clear hb hbox hg) | (refine bx 3 #[.bool a1_0, .string a1_1, .string a1_2, .int .i64 a1_3, .int .i64 a1_4, .string a1_5, .slice A1_6 l1_6.length c1_6] 24 ?_; intro gb111 hg w11 hbox hb; have BK111 := Aside0.mk (hbox); have GW111 := bG HB hg; have GE111 := bG HB hg; have NB110_111 := bN BK110 hg; have NB111_110 := bM BK110 hg; replace BK110 := bB BK110 hb; replace HB := bS HB hb; clear hb hbox hg; have hnb12 := NB110_111.out; have hnc12 := NB111_110.out; have zhcz13_0 := bz7 BK110; have zhcz14_0 := bz7 BK111) | (go_at_call 19; (with_reducible refine (headraceplain_Fields.calls k _ _ l0_6 _ _ l1_6 t112 _ ?side1 ?side2 ?side3 ?side4 A9.out).mono ?_); (case side1 => exact kc); (case side2 => exact HC0_6.out); (case side3 => exact kc); (case side4 => exact HC1_6.out); rintro e w' ⟨rfl, ⟨nd, rfl⟩⟩))
       go_ret
       exact ⟨by first | rfl | (simp [errW_none, errW_some] <;> rfl) | (simp [*, errW_none, errW_some] <;> rfl) | (simp [bneNil, beqNil]; done), bw HB⟩
      ·rw [if_neg c8] at H
       have c8b0 : (a0_5.toList == a1_5.toList) = false := beq_eq_false_iff_ne.mpr c8
       have c8b1 : (a0_5.toList != a1_5.toList) = true := bne_iff_ne.mpr c8
       obtain rfl := Option.some.inj H
       go_enter Tryz.func8, Tryz.ntmps8
       go_wp2_with (first | (refine bx 2 #[.bool a0_0, .string a0_1, .string a0_2, .int .i64 a0_3, .int .i64 a0_4, .string a0_5, .slice A0_6 l0_6.length c0_6] 24 ?_; intro gb110 hg w15 hbox hb; have BK110 := Aside0.mk (hbox); have GW110 := bG HB hg; have GE110 := bG HB hg; replace HB := bS HB hb; clear hb hbox hg) | (refine bx 3 #[.bool a1_0, .string a1_1, .string a1_2, .int .i64 a1_3, .int .i64 a1_4, .string a1_5, .slice A1_6 l1_6.length c1_6] 24 ?_; intro gb111 hg w16 hbox hb; have BK111 := Aside0.mk (hbox); have GW111 := bG HB hg; have GE111 := bG HB hg; have NB110_111 := bN BK110 hg; have NB111_110 := bM BK110 hg; replace BK110 := bB BK110 hb; replace HB := bS HB hb; clear hb hbox hg; have hnb17 := NB110_111.out; have hnc17 := NB111_110.out; have zhcz18_0 := bz7 BK110; have zhcz19_0 := bz7 BK111))
       go_ret
       exact ⟨by first | rfl | (simp [errW_none, errW_some] <;> rfl) | (simp [*, errW_none, errW_some] <;> rfl) | (simp [bneNil, beqNil]; done), bw HB⟩
     ·rw [if_neg c7] at H
      have c7b0 : (a0_4 == a1_4) = false := beq_eq_false_iff_ne.mpr c7
      have c7b1 : (a0_4 != a1_4) = true := bne_iff_ne.mpr c7
      obtain rfl := Option.some.inj H
      go_enter Tryz.func8, Tryz.ntmps8
      go_wp2_with (first | (refine bx 2 #[.bool a0_0, .string a0_1, .string a0_2, .int .i64 a0_3, .int .i64 a0_4, .string a0_5, .slice A0_6 l0_6.length c0_6] 24 ?_; intro gb110 hg w20 hbox hb; have BK110 := Aside0.mk (hbox); have GW110 := bG HB hg; have GE110 := bG HB hg; replace HB := bS HB hb; clear hb hbox hg) | (refine bx 3 #[.bool a1_0, .string a1_1, .string a1_2, .int .i64 a1_3, .int .i64 a1_4, .string a1_5, .slice A1_6 l1_6.length c1_6] 24 ?_; intro gb111 hg w21 hbox hb; have BK111 := Aside0.mk (hbox); have GW111 := bG HB hg; have GE111 := bG HB hg; have NB110_111 := bN BK110 hg; have NB111_110 := bM BK110 hg; replace BK110 := bB BK110 hb; replace HB := bS HB hb; clear hb hbox hg; have hnb22 := NB110_111.out; have hnc22 := NB111_110.out; have zhcz23_0 := bz7 BK110; have zhcz24_0 := bz7 BK111))
      go_ret
      exact ⟨by first | rfl | (simp [errW_none, errW_some] <;> rfl) | (simp [*, errW_none, errW_some] <;> rfl) | (simp [bneNil, beqNil]; done), bw HB⟩
    ·rw [if_neg c6] at H
     have c6b0 : (a0_3 == a1_3) = false := beq_eq_false_iff_ne.mpr c6
     have c6b1 : (a0_3 != a1_3) = true := bne_iff_ne.mpr c6
     obtain rfl := Option.some.inj H
     go_enter Tryz.func8, Tryz.ntmps8
     go_wp2_with (first | (refine bx 2 #[.bool a0_0, .string a0_1, .string a0_2, .int .i64 a0_3, .int .i64 a0_4, .string a0_5, .slice A0_6 l0_6.length c0_6] 24 ?_; intro gb110 hg w25 hbox hb; have BK110 := Aside0.mk (hbox); have GW110 := bG HB hg; have GE110 := bG HB hg; replace HB := bS HB hb; clear hb hbox hg) | (refine bx 3 #[.bool a1_0, .string a1_1, .string a1_2, .int .i64 a1_3, .int .i64 a1_4, .string a1_5, .slice A1_6 l1_6.length c1_6] 24 ?_; intro gb111 hg w26 hbox hb; have BK111 := Aside0.mk (hbox); have GW111 := bG HB hg; have GE111 := bG HB hg; have NB110_111 := bN BK110 hg; have NB111_110 := bM BK110 hg; replace BK110 := bB BK110 hb; replace HB := bS HB hb; clear hb hbox hg; have hnb27 := NB110_111.out; have hnc27 := NB111_110.out; have zhcz28_0 := bz7 BK110; have zhcz29_0 := bz7 BK111))
     go_ret
     exact ⟨by first | rfl | (simp [errW_none, errW_some] <;> rfl) | (simp [*, errW_none, errW_some] <;> rfl) | (simp [bneNil, beqNil]; done), bw HB⟩
   ·rw [if_neg c5] at H
    have c5b0 : (a0_2.toList == a1_2.toList) = false := beq_eq_false_iff_ne.mpr c5
    have c5b1 : (a0_2.toList != a1_2.toList) = true := bne_iff_ne.mpr c5
    obtain rfl := Option.some.inj H
    go_enter Tryz.func8, Tryz.ntmps8
    go_wp2_with (first | (refine bx 2 #[.bool a0_0, .string a0_1, .string a0_2, .int .i64 a0_3, .int .i64 a0_4, .string a0_5, .slice A0_6 l0_6.length c0_6] 24 ?_; intro gb110 hg w30 hbox hb; have BK110 := Aside0.mk (hbox); have GW110 := bG HB hg; have GE110 := bG HB hg; replace HB := bS HB hb; clear hb hbox hg) | (refine bx 3 #[.bool a1_0, .string a1_1, .string a1_2, .int .i64 a1_3, .int .i64 a1_4, .string a1_5, .slice A1_6 l1_6.length c1_6] 24 ?_; intro gb111 hg w31 hbox hb; have BK111 := Aside0.mk (hbox); have GW111 := bG HB hg; have GE111 := bG HB hg; have NB110_111 := bN BK110 hg; have NB111_110 := bM BK110 hg; replace BK110 := bB BK110 hb; replace HB := bS HB hb; clear hb hbox hg; have hnb32 := NB110_111.out; have hnc32 := NB111_110.out; have zhcz33_0 := bz7 BK110; have zhcz34_0 := bz7 BK111))
    go_ret
    exact ⟨by first | rfl | (simp [errW_none, errW_some] <;> rfl) | (simp [*, errW_none, errW_some] <;> rfl) | (simp [bneNil, beqNil]; done), bw HB⟩
  ·rw [if_neg c4] at H
   have c4b0 : (a0_1.toList == a1_1.toList) = false := beq_eq_false_iff_ne.mpr c4
   have c4b1 : (a0_1.toList != a1_1.toList) = true := bne_iff_ne.mpr c4
   obtain rfl := Option.some.inj H
   go_enter Tryz.func8, Tryz.ntmps8
   go_wp2_with (first | (refine bx 2 #[.bool a0_0, .string a0_1, .string a0_2, .int .i64 a0_3, .int .i64 a0_4, .string a0_5, .slice A0_6 l0_6.length c0_6] 24 ?_; intro gb110 hg w35 hbox hb; have BK110 := Aside0.mk (hbox); have GW110 := bG HB hg; have GE110 := bG HB hg; replace HB := bS HB hb; clear hb hbox hg) | (refine bx 3 #[.bool a1_0, .string a1_1, .string a1_2, .int .i64 a1_3, .int .i64 a1_4, .string a1_5, .slice A1_6 l1_6.length c1_6] 24 ?_; intro gb111 hg w36 hbox hb; have BK111 := Aside0.mk (hbox); have GW111 := bG HB hg; have GE111 := bG HB hg; have NB110_111 := bN BK110 hg; have NB111_110 := bM BK110 hg; replace BK110 := bB BK110 hb; replace HB := bS HB hb; clear hb hbox hg; have hnb37 := NB110_111.out; have hnc37 := NB111_110.out; have zhcz38_0 := bz7 BK110; have zhcz39_0 := bz7 BK111))
   go_ret
   exact ⟨by first | rfl | (simp [errW_none, errW_some] <;> rfl) | (simp [*, errW_none, errW_some] <;> rfl) | (simp [bneNil, beqNil]; done), bw HB⟩
 ·rw [if_neg c3] at H
  have c3b0 : (a0_0 == a1_0) = false := by simpa using c3
  (try (have c3b1 : decide (a0_0 = a1_0) = false := by simpa using c3))
  (try (have c3b2 : (a0_0 == a1_0) = false := by simpa using c3))
  (try (have c3b3 : ¬ (a0_0 = a1_0) := by simpa using c3))
  clear c3
  obtain rfl := Option.some.inj H
  go_enter Tryz.func8, Tryz.ntmps8
  go_wp2_with (first | (refine bx 2 #[.bool a0_0, .string a0_1, .string a0_2, .int .i64 a0_3, .int .i64 a0_4, .string a0_5, .slice A0_6 l0_6.length c0_6] 24 ?_; intro gb110 hg w40 hbox hb; have BK110 := Aside0.mk (hbox); have GW110 := bG HB hg; have GE110 := bG HB hg; replace HB := bS HB hb; clear hb hbox hg) | (refine bx 3 #[.bool a1_0, .string a1_1, .string a1_2, .int .i64 a1_3, .int .i64 a1_4, .string a1_5, .slice A1_6 l1_6.length c1_6] 24 ?_; intro gb111 hg w41 hbox hb; have BK111 := Aside0.mk (hbox); have GW111 := bG HB hg; have GE111 := bG HB hg; have NB110_111 := bN BK110 hg; have NB111_110 := bM BK110 hg; replace BK110 := bB BK110 hb; replace HB := bS HB hb; clear hb hbox hg; have hnb42 := NB110_111.out; have hnc42 := NB111_110.out; have zhcz43_0 := bz7 BK110; have zhcz44_0 := bz7 BK111))
  go_ret
  exact ⟨by first | rfl | (simp [errW_none, errW_some] <;> rfl) | (simp [*, errW_none, errW_some] <;> rfl) | (simp [bneNil, beqNil]; done), bw HB⟩

end Go.Proofs.YtmlgejgnjfbblaaGreatDoor.P
/- Laid by a program of this session (hp.py) with the help of the kit's printer: functions as plain Lean functions, and that the machine's calls come to them. -/
namespace Go.Proofs.YtmlgejgnjfbblaaGreatDoor.P
open Go.RowKit Go.Proofs.YtmlgejgnjfbblaaGreatDoorW.PrintWords Go.Proofs.YtmlgejgnjfbblaaGreatDoorW.PrintLast Go.Proofs.YtmlgejgnjfbblaaGreatDoorW.PrintMore
attribute [local go_sem] max2_int min2_int max_two min_two max_three min_three max_four min_four   -- for this text's walks alone
set_option linter.unusedVariables false
set_option linter.unusedSimpArgs false

/-! ### headraceref08_cut: function 62 -/
def headraceref08_cut.l0 : Nat → ByteArray → Int → Int → Option (ByteArray × ByteArray × Bool)
 | 0, _, _, _ => none
 | k + 1, x0, x1, x7 => if x7 < (x0.size : Int) then (if 0 ≤ x7 then (if (bt x0 x7) = x1 then (if x7 ≤ (x0.size : Int) then (if 0 ≤ (wrap64 (x7 + 1)) then (if (wrap64 (x7 + 1)) ≤ (x0.size : Int) then (some (x0.extract 0 (x7 : Int).toNat, x0.extract ((wrap64 (x7 + 1)) : Int).toNat x0.size, true)) else (none)) else (none)) else (none)) else (headraceref08_cut.l0 k x0 x1 (wrap64 (x7 + 1)))) else (none)) else (some (x0, (⟨#[]⟩ : ByteArray), false))
def headraceref08_cut.f (k : Nat) (a0 : ByteArray) (a1 : Int) : Option (ByteArray × ByteArray × Bool) := headraceref08_cut.l0 k a0 a1 0
theorem headraceref08_cut.mono_l : ∀ k, (∀ y0 y1 y2, LeO (headraceref08_cut.l0 k y0 y1 y2) (headraceref08_cut.l0 (k + 1) y0 y1 y2))
 | 0 => fun _ _ _ r h => by simp [headraceref08_cut.l0] at h
 | k + 1 => by
  have ih0 := headraceref08_cut.mono_l k
  ·intro y0 y1 y2
   unfold headraceref08_cut.l0
   repeat' first | with_reducible first | exact ih0 _ _ _ | exact LeO.refl _ | exact LeO.none _ | refine LeO.ite ?_ ?_ | refine LeO.bind ?_ (fun _ => ?_) | exact ih0 _ _ _ | exact LeO.none _ | refine LeO.ite ?_ ?_ | refine LeO.bind ?_ (fun _ => ?_)
theorem headraceref08_cut.mono : ∀ a0 a1 k, LeO (headraceref08_cut.f k a0 a1) (headraceref08_cut.f (k + 1) a0 a1) := by
 intro a0 a1 k
 have ih0 := headraceref08_cut.mono_l k
 unfold headraceref08_cut.f
 repeat' first | with_reducible first | exact ih0 _ _ _ | exact LeO.refl _ | exact LeO.none _ | refine LeO.ite ?_ ?_ | refine LeO.bind ?_ (fun _ => ?_) | exact ih0 _ _ _ | exact LeO.none _ | refine LeO.ite ?_ ?_ | refine LeO.bind ?_ (fun _ => ?_)
set_option maxHeartbeats 8000000 in
set_option maxRecDepth 100000 in
theorem headraceref08_cut.calls (k : Nat) (a0 : ByteArray) (a1 : Int) (r1 : ByteArray) (r2 : ByteArray) (r3 : Bool) (w : World) (h : headraceref08_cut.f k a0 a1 = some (r1, r2, r3)) :
  Calls Tryz.prog 62 #[.string a0, .int .u8 a1] w fun e w' => e = .returned (.tuple #[.string r1, .string r2, .bool r3]) ∧ Drawn0 w w' := by
 have H : (headraceref08_cut.l0 k a0 a1 0) = some (r1, r2, r3) := h
 clear h
 have H' := Aside0.mk H
 clear H
 go_enter Tryz.func62, Tryz.ntmps62
 go_wp2
 repeat (go_quiet (fail); try go_wp2)
 go_loopg [7] k (fun kq v7 w' => ∃ (x7_1 : Int), v7 = .int .i64 x7_1 ∧ Aside0 (headraceref08_cut.l0 kq a0 a1 x7_1 = some (r1, r2, r3)) ∧ Aside0 (kq ≤ k) ∧ Drawn0 w w')
 case atStart => exact ⟨(0), (by first | rfl | (simp; done) | (simp [*]; done) | (simp [bneNil, beqNil]; done)), H', ⟨Nat.le_refl _⟩, by repeat (first | exact Drawn0.refl _ | apply Drawn0.step)⟩
 case round =>
  clear H'
  obtain ⟨x7_1, rfl, HA, HK1, ⟨m1, rfl⟩⟩ := hrel
  cases gk with
  | zero => exact absurd HA.out (by simp [headraceref08_cut.l0])
  | succ k1 =>
   have H := HA.out
   clear HA
   simp only [headraceref08_cut.l0] at H
   by_cases c3 : x7_1 < (a0.size : Int)
   ·rw [if_pos c3] at H
    have c3b0 : decide (x7_1 < (a0.size : Int)) = true := decide_eq_true c3
    clear c3
    by_cases c4 : 0 ≤ x7_1
    ·rw [if_pos c4] at H
     have c4b0 : decide (0 ≤ x7_1) = true := decide_eq_true c4
     clear c4
     by_cases c6 : (bt a0 x7_1) = a1
     ·rw [if_pos c6] at H
      have c6b0 : ((bt a0 x7_1) == a1) = true := beq_iff_eq.mpr c6
      have c6b1 : ((bt a0 x7_1) != a1) = false := bne_eq_false_iff_eq.mpr c6
      clear c6
      have c7b0 := eq_true (of_decide_eq_true bm : 0 ≤ x7_1)
      by_cases c8 : x7_1 ≤ (a0.size : Int)
      ·rw [if_pos c8] at H
       have c8b0 := eq_true c8
       have c8b1 : decide (x7_1 ≤ (a0.size : Int)) = true := decide_eq_true c8
       clear c8
       obtain ⟨ji9, hji9⟩ : ∃ j_ : Int, (wrap64 (x7_1 + 1)) = j_ := ⟨_, rfl⟩
       replace H : (if 0 ≤ (ji9) then (if (ji9) ≤ (a0.size : Int) then (some (a0.extract 0 (x7_1 : Int).toNat, a0.extract ((ji9) : Int).toNat a0.size, true)) else (none)) else (none)) = some (r1, r2, r3) := by first | (rw [hji9] at H; exact H) | (simp only [hji9] at H ⊢; exact H)
       have hji9w : (IntKind.i64.wrap (x7_1 + 1)) = ji9 := (i64_w _).trans hji9
       by_cases c10 : 0 ≤ (ji9)
       ·rw [if_pos c10] at H
        have c10b0 := eq_true c10
        have c10b1 : decide (0 ≤ (ji9)) = true := decide_eq_true c10
        clear c10
        by_cases c11 : (ji9) ≤ (a0.size : Int)
        ·rw [if_pos c11] at H
         have c11b0 := eq_true c11
         have c11b1 : decide ((ji9) ≤ (a0.size : Int)) = true := decide_eq_true c11
         clear c11
         simp only [Option.some.injEq, Prod.mk.injEq] at H
         obtain ⟨rfl, rfl, rfl⟩ := H
         have p5 : 0 ≤ (x7_1 : Int) := of_decide_eq_true bm
         have q5 : x7_1 < (a0.size : Int) := of_decide_eq_true bm
         have hx5 := bt_at a0 x7_1
         replace p5 := eq_true p5
         replace q5 := eq_true q5
         go_wp2
         repeat (go_quiet (fail); try go_wp2)
         go_ret3
         exact ⟨by first | rfl | (simp; done) | (simp only [← hji9] <;> (first | rfl | simp)) | (simp [*]; done), by repeat (first | exact Drawn0.refl _ | apply Drawn0.step)⟩
        ·rw [if_neg c11] at H
         exact absurd H (by simp)
       ·rw [if_neg c10] at H
        exact absurd H (by simp)
      ·rw [if_neg c8] at H
       exact absurd H (by simp)
     ·rw [if_neg c6] at H
      have c6b0 : ((bt a0 x7_1) == a1) = false := beq_eq_false_iff_ne.mpr c6
      have c6b1 : ((bt a0 x7_1) != a1) = true := bne_iff_ne.mpr c6
      have H' := Aside0.mk H
      clear H
      have p5 : 0 ≤ (x7_1 : Int) := of_decide_eq_true bm
      have q5 : x7_1 < (a0.size : Int) := of_decide_eq_true bm
      have hx5 := bt_at a0 x7_1
      replace p5 := eq_true p5
      replace q5 := eq_true q5
      go_wp2
      repeat (go_quiet (fail); try go_wp2)
      go_roundg k1
      case measure => have := HK1.out; omega
      case rel => exact ⟨(wrap64 (x7_1 + 1)), (by first | rfl | (simp; done) | (simp [*]; done) | (simp [bneNil, beqNil]; done)), H', ⟨by have := HK1.out; omega⟩, by repeat (first | exact Drawn0.refl _ | apply Drawn0.step)⟩
    ·rw [if_neg c4] at H
     exact absurd H (by simp)
   ·rw [if_neg c3] at H
    have c3b0 : decide (x7_1 < (a0.size : Int)) = false := decide_eq_false c3
    clear c3
    simp only [Option.some.injEq, Prod.mk.injEq] at H
    obtain ⟨rfl, rfl, rfl⟩ := H
    go_wp2
    repeat (go_quiet (fail); try go_wp2)
    go_ret3
    exact ⟨by first | rfl | (simp; done) | (simp [*]; done) | (simp [bneNil, beqNil]; done), by repeat (first | exact Drawn0.refl _ | apply Drawn0.step)⟩

/-! ### headraceref05_tchar: function 81 -/
mutual
def headraceref05_tchar.j0 : Nat → Int → Bool → Option (Bool)
 | 0, _, _ => none
 | k + 1, x0, x26 => if x26 = true then (some true) else ((some (([33, 35, 36, 37, 38, 39, 42, 43, 45, 46, 94, 95, 96, 124, 126] : List Int) : List Int)).bind fun y113 => (headraceref05_tchar.l0 k x0 y113 (y113.length : Int) 0))
def headraceref05_tchar.l0 : Nat → Int → List Int → Int → Int → Option (Bool)
 | 0, _, _, _, _ => none
 | k + 1, x0, x28, x29, x30 => if x30 < x29 then (if 0 ≤ x30 then (if x30 < (x28.length : Int) then (if x0 = (rd x28 x30) then (some true) else (headraceref05_tchar.l0 k x0 x28 x29 (wrap64 (x30 + 1)))) else (none)) else (none)) else (some false)
end
def headraceref05_tchar.f (k : Nat) (a0 : Int) : Option (Bool) := if a0 ≥ 65 then (if a0 ≤ 90 then (headraceref05_tchar.j0 k a0 true) else (if a0 ≥ 97 then (if a0 ≤ 122 then (headraceref05_tchar.j0 k a0 true) else (if a0 ≥ 48 then (headraceref05_tchar.j0 k a0 (decide (a0 ≤ 57))) else (headraceref05_tchar.j0 k a0 false))) else (if a0 ≥ 48 then (headraceref05_tchar.j0 k a0 (decide (a0 ≤ 57))) else (headraceref05_tchar.j0 k a0 false)))) else (if a0 ≥ 97 then (if a0 ≤ 122 then (headraceref05_tchar.j0 k a0 true) else (if a0 ≥ 48 then (headraceref05_tchar.j0 k a0 (decide (a0 ≤ 57))) else (headraceref05_tchar.j0 k a0 false))) else (if a0 ≥ 48 then (headraceref05_tchar.j0 k a0 (decide (a0 ≤ 57))) else (headraceref05_tchar.j0 k a0 false)))
theorem headraceref05_tchar.mono_l : ∀ k, (∀ y0 y1, LeO (headraceref05_tchar.j0 k y0 y1) (headraceref05_tchar.j0 (k + 1) y0 y1)) ∧ (∀ y0 y1 y2 y3, LeO (headraceref05_tchar.l0 k y0 y1 y2 y3) (headraceref05_tchar.l0 (k + 1) y0 y1 y2 y3))
 | 0 => ⟨fun _ _ r h => by simp [headraceref05_tchar.j0] at h, fun _ _ _ _ r h => by simp [headraceref05_tchar.l0] at h⟩
 | k + 1 => by
  obtain ⟨ih0, ih1⟩ := headraceref05_tchar.mono_l k
  refine ⟨?_, ?_⟩ <;> intros <;> (first | unfold headraceref05_tchar.j0 | unfold headraceref05_tchar.l0) <;> repeat' first | with_reducible first | exact ih0 _ _ | exact ih1 _ _ _ _ | exact LeO.refl _ | exact LeO.none _ | refine LeO.ite ?_ ?_ | refine LeO.bind ?_ (fun _ => ?_) | exact ih0 _ _ | exact ih1 _ _ _ _ | exact LeO.none _ | refine LeO.ite ?_ ?_ | refine LeO.bind ?_ (fun _ => ?_)
theorem headraceref05_tchar.mono : ∀ a0 k, LeO (headraceref05_tchar.f k a0) (headraceref05_tchar.f (k + 1) a0) := by
 intro a0 k
 obtain ⟨ih0, ih1⟩ := headraceref05_tchar.mono_l k
 unfold headraceref05_tchar.f
 repeat' first | with_reducible first | exact ih0 _ _ | exact ih1 _ _ _ _ | exact LeO.refl _ | exact LeO.none _ | refine LeO.ite ?_ ?_ | refine LeO.bind ?_ (fun _ => ?_) | exact ih0 _ _ | exact ih1 _ _ _ _ | exact LeO.none _ | refine LeO.ite ?_ ?_ | refine LeO.bind ?_ (fun _ => ?_)
set_option maxHeartbeats 8000000 in
set_option maxRecDepth 100000 in
theorem headraceref05_tchar.calls (k : Nat) (a0 : Int) (r : Bool) (w : World) (h : headraceref05_tchar.f k a0 = some r) :
  Calls Tryz.prog 81 #[.int .u8 a0] w fun e w' => e = .returned (.bool r) ∧ Below w.heap.size w w' := by
 have HB := Aside0.mk (Below.refl w.heap.size w)
 have H : (if a0 ≥ 65 then (if a0 ≤ 90 then (headraceref05_tchar.j0 k a0 true) else (if a0 ≥ 97 then (if a0 ≤ 122 then (headraceref05_tchar.j0 k a0 true) else (if a0 ≥ 48 then (headraceref05_tchar.j0 k a0 (decide (a0 ≤ 57))) else (headraceref05_tchar.j0 k a0 false))) else (if a0 ≥ 48 then (headraceref05_tchar.j0 k a0 (decide (a0 ≤ 57))) else (headraceref05_tchar.j0 k a0 false)))) else (if a0 ≥ 97 then (if a0 ≤ 122 then (headraceref05_tchar.j0 k a0 true) else (if a0 ≥ 48 then (headraceref05_tchar.j0 k a0 (decide (a0 ≤ 57))) else (headraceref05_tchar.j0 k a0 false))) else (if a0 ≥ 48 then (headraceref05_tchar.j0 k a0 (decide (a0 ≤ 57))) else (headraceref05_tchar.j0 k a0 false)))) = some r := h
 clear h
 have HC2 := Aside0.mk H
 clear H
 go_enter Tryz.func81, Tryz.ntmps81
 go_upto_region 1 with (fail)
 go_cut [26] (fun v26 wc => ∃ (kq : Nat) (x26_1 : Bool), v26 = .bool x26_1 ∧ Aside0 (headraceref05_tchar.j0 kq a0 x26_1 = some r) ∧ Aside0 (kq ≤ k) ∧ Aside0 (Below w.heap.size w wc))
 case first =>
  have H := HC2.out
  clear HC2
  by_cases c3 : a0 ≥ 65
  ·rw [if_pos c3] at H
   have c3b0 : decide (65 ≤ a0) = true := decide_eq_true c3
   clear c3
   (first | rw [c3b0] | (simp only [i64_w, i32_w]; rw [c3b0]) | skip)
   by_cases c4 : a0 ≤ 90
   ·rw [if_pos c4] at H
    have c4b0 : decide (a0 ≤ 90) = true := decide_eq_true c4
    clear c4
    have H' := Aside0.mk H
    clear H
    go_wp2
    go_meet
    case rel => exact ⟨_, (true), (by first | rfl | (simp; done) | (simp [*]; done) | (simp [bneNil, beqNil]; done)), H', ⟨by first | omega | exact Nat.le_refl _⟩, ⟨bw HB⟩⟩
   ·rw [if_neg c4] at H
    have c4b0 : decide (a0 ≤ 90) = false := decide_eq_false c4
    clear c4
    by_cases c5 : a0 ≥ 97
    ·rw [if_pos c5] at H
     have c5b0 : decide (97 ≤ a0) = true := decide_eq_true c5
     clear c5
     by_cases c6 : a0 ≤ 122
     ·rw [if_pos c6] at H
      have c6b0 : decide (a0 ≤ 122) = true := decide_eq_true c6
      clear c6
      have H' := Aside0.mk H
      clear H
      go_wp2
      go_meet
      case rel => exact ⟨_, (true), (by first | rfl | (simp; done) | (simp [*]; done) | (simp [bneNil, beqNil]; done)), H', ⟨by first | omega | exact Nat.le_refl _⟩, ⟨bw HB⟩⟩
     ·rw [if_neg c6] at H
      have c6b0 : decide (a0 ≤ 122) = false := decide_eq_false c6
      clear c6
      by_cases c7 : a0 ≥ 48
      ·rw [if_pos c7] at H
       have c7b0 : decide (48 ≤ a0) = true := decide_eq_true c7
       clear c7
       have H' := Aside0.mk H
       clear H
       go_wp2
       go_meet
       case rel => exact ⟨_, (decide (a0 ≤ 57)), (by first | rfl | (simp; done) | (simp [*]; done) | (simp [bneNil, beqNil]; done)), H', ⟨by first | omega | exact Nat.le_refl _⟩, ⟨bw HB⟩⟩
      ·rw [if_neg c7] at H
       have c7b0 : decide (48 ≤ a0) = false := decide_eq_false c7
       clear c7
       have H' := Aside0.mk H
       clear H
       go_wp2
       go_meet
       case rel => exact ⟨_, (false), (by first | rfl | (simp; done) | (simp [*]; done) | (simp [bneNil, beqNil]; done)), H', ⟨by first | omega | exact Nat.le_refl _⟩, ⟨bw HB⟩⟩
    ·rw [if_neg c5] at H
     have c5b0 : decide (97 ≤ a0) = false := decide_eq_false c5
     clear c5
     by_cases c8 : a0 ≥ 48
     ·rw [if_pos c8] at H
      have c8b0 : decide (48 ≤ a0) = true := decide_eq_true c8
      clear c8
      have H' := Aside0.mk H
      clear H
      go_wp2
      go_meet
      case rel => exact ⟨_, (decide (a0 ≤ 57)), (by first | rfl | (simp; done) | (simp [*]; done) | (simp [bneNil, beqNil]; done)), H', ⟨by first | omega | exact Nat.le_refl _⟩, ⟨bw HB⟩⟩
     ·rw [if_neg c8] at H
      have c8b0 : decide (48 ≤ a0) = false := decide_eq_false c8
      clear c8
      have H' := Aside0.mk H
      clear H
      go_wp2
      go_meet
      case rel => exact ⟨_, (false), (by first | rfl | (simp; done) | (simp [*]; done) | (simp [bneNil, beqNil]; done)), H', ⟨by first | omega | exact Nat.le_refl _⟩, ⟨bw HB⟩⟩
  ·rw [if_neg c3] at H
   have c3b0 : decide (65 ≤ a0) = false := decide_eq_false c3
   clear c3
   (first | rw [c3b0] | (simp only [i64_w, i32_w]; rw [c3b0]) | skip)
   by_cases c9 : a0 ≥ 97
   ·rw [if_pos c9] at H
    have c9b0 : decide (97 ≤ a0) = true := decide_eq_true c9
    clear c9
    by_cases c10 : a0 ≤ 122
    ·rw [if_pos c10] at H
     have c10b0 : decide (a0 ≤ 122) = true := decide_eq_true c10
     clear c10
     have H' := Aside0.mk H
     clear H
     go_wp2
     go_meet
     case rel => exact ⟨_, (true), (by first | rfl | (simp; done) | (simp [*]; done) | (simp [bneNil, beqNil]; done)), H', ⟨by first | omega | exact Nat.le_refl _⟩, ⟨bw HB⟩⟩
    ·rw [if_neg c10] at H
     have c10b0 : decide (a0 ≤ 122) = false := decide_eq_false c10
     clear c10
     by_cases c11 : a0 ≥ 48
     ·rw [if_pos c11] at H
      have c11b0 : decide (48 ≤ a0) = true := decide_eq_true c11
      clear c11
      have H' := Aside0.mk H
      clear H
      go_wp2
      go_meet
      case rel => exact ⟨_, (decide (a0 ≤ 57)), (by first | rfl | (simp; done) | (simp [*]; done) | (simp [bneNil, beqNil]; done)), H', ⟨by first | omega | exact Nat.le_refl _⟩, ⟨bw HB⟩⟩
     ·rw [if_neg c11] at H
      have c11b0 : decide (48 ≤ a0) = false := decide_eq_false c11
      clear c11
      have H' := Aside0.mk H
      clear H
      go_wp2
      go_meet
      case rel => exact ⟨_, (false), (by first | rfl | (simp; done) | (simp [*]; done) | (simp [bneNil, beqNil]; done)), H', ⟨by first | omega | exact Nat.le_refl _⟩, ⟨bw HB⟩⟩
   ·rw [if_neg c9] at H
    have c9b0 : decide (97 ≤ a0) = false := decide_eq_false c9
    clear c9
    by_cases c12 : a0 ≥ 48
    ·rw [if_pos c12] at H
     have c12b0 : decide (48 ≤ a0) = true := decide_eq_true c12
     clear c12
     have H' := Aside0.mk H
     clear H
     go_wp2
     go_meet
     case rel => exact ⟨_, (decide (a0 ≤ 57)), (by first | rfl | (simp; done) | (simp [*]; done) | (simp [bneNil, beqNil]; done)), H', ⟨by first | omega | exact Nat.le_refl _⟩, ⟨bw HB⟩⟩
    ·rw [if_neg c12] at H
     have c12b0 : decide (48 ≤ a0) = false := decide_eq_false c12
     clear c12
     have H' := Aside0.mk H
     clear H
     go_wp2
     go_meet
     case rel => exact ⟨_, (false), (by first | rfl | (simp; done) | (simp [*]; done) | (simp [bneNil, beqNil]; done)), H', ⟨by first | omega | exact Nat.le_refl _⟩, ⟨bw HB⟩⟩
 case rest =>
  clear HC2
  obtain ⟨kq, x26_1, rfl, HA, HJ1, HB⟩ := hcut
  cases kq with
  | zero => exact absurd HA.out (by simp [headraceref05_tchar.j0])
  | succ kj1 =>
   have H := HA.out
   clear HA
   simp only [headraceref05_tchar.j0] at H
   by_cases c13 : x26_1 = true
   ·subst c13
    have H1 : (some true) = some r := by rw [if_pos rfl] at H; exact H
    clear H
    have H := H1
    clear H1
    obtain rfl := Option.some.inj H
    go_wp2
    go_ret
    exact ⟨by first | rfl | (simp [errW_none, errW_some] <;> rfl) | (simp [*, errW_none, errW_some] <;> rfl) | (simp [bneNil, beqNil]; done), bw HB⟩
   ·replace c13 := Bool.eq_false_iff.mpr c13
    subst c13
    have H1 : ((some (([33, 35, 36, 37, 38, 39, 42, 43, 45, 46, 94, 95, 96, 124, 126] : List Int) : List Int)).bind fun y113 => (headraceref05_tchar.l0 kj1 a0 y113 (y113.length : Int) 0)) = some r := by rw [if_neg (show ¬ (false = true) by decide)] at H; exact H
    clear H
    have H := H1
    clear H1
    obtain ⟨y113, hy113⟩ : ∃ y_ : List Int, y_ = (([33, 35, 36, 37, 38, 39, 42, 43, 45, 46, 94, 95, 96, 124, 126] : List Int)) := ⟨_, rfl⟩
    replace H : (headraceref05_tchar.l0 kj1 a0 y113 (y113.length : Int) 0) = some r := by first | (rw [hy113]; with_reducible exact H) | (have H2_ := (Option.bind_some _ _).symm.trans H; rw [hy113]; with_reducible exact H2_) | (have H2_ := (Option.bind_some _ _).symm.trans H; with_reducible exact H2_) | with_reducible exact H | (rw [hy113]; exact H) | exact H
    have Ny113 := Aside0.mk hy113
    clear hy113
    have H' := Aside0.mk H
    clear H
    go_wp2_with (first | ((with_reducible refine gate_dst (N := 27) rfl ?_); refine V_bytes_const _ 5 ?hg (N := 27) ?hd ?hg2 (N2 := 28) ?hd2 33 ?ho2 ?hN ([33, 35, 36, 37, 38, 39, 42, 43, 45, 46, 94, 95, 96, 124, 126] : List Int) ?hr (by simp) Tryz.underlying33 Tryz.underlying5 (Below.refl _ _) (Nat.le_refl _) ?_; (case hg => rfl); (case hd => rfl); (case hg2 => rfl); (case hd2 => rfl); (case ho2 => rfl); (case hN => (simp [Act.put]; done)); (case hr => first | (go_simp; done) | (go_simp; rfl)); intro v114 w14 ho15 hb hg_ hnew_; clear hg_ hnew_; (first | rw [← Ny113.out] at ho15 | (simp only [Int.reduceToNat] at ho15; rw [← Ny113.out] at ho15)); have HO115 := Aside0.mk (Kd.V_lower (Kd.V_mono (ok' := fun k_ => True) ho15 (fun k_ hk_ => trivial)) (below_size (bw HB))); replace HB := bS HB hb; clear hb ho15; obtain ⟨Ao16, co16, eo16⟩ := Kd.V_slice HO115.out; subst eo16))
    go_loopg [30] kj1 (fun kq v30 w' => ∃ (x30_2 : Int), v30 = .int .i64 x30_2 ∧ Aside0 (headraceref05_tchar.l0 kq a0 y113 (y113.length : Int) x30_2 = some r) ∧ Aside0 (kq ≤ kj1) ∧ Aside0 (Kd.V (Kd.int .u8) 5 w' w.heap.size (fun _ => True) (.slice Ao16 y113.length co16) y113) ∧ Aside0 (Below w.heap.size w w'))
    case atStart => exact ⟨(0), (by first | rfl | (simp; done) | (simp [*]; done) | (simp [bneNil, beqNil]; done)), H', ⟨Nat.le_refl _⟩, ⟨by (with_reducible repeat (first | apply Kd.V_alloc | apply Kd.V_drewN | apply Kd.V_drew)); exact HO115.out⟩, ⟨bw HB⟩⟩
    case round =>
     clear H'
     try clear c13
     obtain ⟨x30_2, rfl, HA, HK2, HO_28, HB⟩ := hrel
     cases gk with
     | zero => exact absurd HA.out (by simp [headraceref05_tchar.l0])
     | succ k2 =>
      have H := HA.out
      clear HA
      simp only [headraceref05_tchar.l0] at H
      by_cases c17 : x30_2 < (y113.length : Int)
      ·rw [if_pos c17] at H
       have c17b0 : decide (x30_2 < (y113.length : Int)) = true := decide_eq_true c17
       clear c17
       by_cases c18 : 0 ≤ x30_2
       ·rw [if_pos c18] at H
        have c18b0 : decide (0 ≤ x30_2) = true := decide_eq_true c18
        clear c18
        by_cases c19 : x30_2 < (y113.length : Int)
        ·rw [if_pos c19] at H
         have c19b0 : decide (x30_2 < (y113.length : Int)) = true := decide_eq_true c19
         clear c19
         by_cases c20 : a0 = (rd y113 x30_2)
         ·rw [if_pos c20] at H
          have c20b0 : (a0 == (rd y113 x30_2)) = true := beq_iff_eq.mpr c20
          have c20b1 : (a0 != (rd y113 x30_2)) = false := bne_eq_false_iff_eq.mpr c20
          clear c20
          obtain rfl := Option.some.inj H
          have p116 : 0 ≤ (x30_2 : Int) := of_decide_eq_true bm
          have q116 : x30_2 < (y113.length : Int) := of_decide_eq_true bm
          obtain ⟨ad116, e116, hx116_0⟩ := Kd.at_int (Kd.V_reads' HO_28.out).2.2 x30_2 p116 q116
          cases e116
          replace p116 := eq_true p116
          replace q116 := eq_true q116
          go_wp2
          go_ret
          exact ⟨by first | rfl | (simp [errW_none, errW_some] <;> rfl) | (simp [*, errW_none, errW_some] <;> rfl) | (simp [bneNil, beqNil]; done), bw HB⟩
         ·rw [if_neg c20] at H
          have c20b0 : (a0 == (rd y113 x30_2)) = false := beq_eq_false_iff_ne.mpr c20
          have c20b1 : (a0 != (rd y113 x30_2)) = true := bne_iff_ne.mpr c20
          have H' := Aside0.mk H
          clear H
          have p116 : 0 ≤ (x30_2 : Int) := of_decide_eq_true bm
          have q116 : x30_2 < (y113.length : Int) := of_decide_eq_true bm
          obtain ⟨ad116, e116, hx116_0⟩ := Kd.at_int (Kd.V_reads' HO_28.out).2.2 x30_2 p116 q116
          cases e116
          replace p116 := eq_true p116
          replace q116 := eq_true q116
          go_wp2
          go_roundg k2
          case measure => have := HJ1.out; have := HK2.out; omega
          case rel => exact ⟨(wrap64 (x30_2 + 1)), (by first | rfl | (simp; done) | (simp [*]; done) | (simp [bneNil, beqNil]; done)), H', ⟨by have := HJ1.out; have := HK2.out; omega⟩, ⟨by (with_reducible repeat (first | apply Kd.V_alloc | apply Kd.V_drewN | apply Kd.V_drew)); exact HO_28.out⟩, ⟨bw HB⟩⟩
        ·rw [if_neg c19] at H
         exact absurd H (by simp)
       ·rw [if_neg c18] at H
        exact absurd H (by simp)
      ·rw [if_neg c17] at H
       have c17b0 : decide (x30_2 < (y113.length : Int)) = false := decide_eq_false c17
       clear c17
       obtain rfl := Option.some.inj H
       go_wp2
       go_ret
       exact ⟨by first | rfl | (simp [errW_none, errW_some] <;> rfl) | (simp [*, errW_none, errW_some] <;> rfl) | (simp [bneNil, beqNil]; done), bw HB⟩

/-! ### headraceref05_Token: function 63 -/
def headraceref05_Token.l0 : Nat → ByteArray → Int → Option (Bool)
 | 0, _, _ => none
 | k + 1, x0, x3 => if x3 < (x0.size : Int) then (if 0 ≤ x3 then ((headraceref05_tchar.f k (bt x0 x3)).bind fun t117 => (if t117 = true then (headraceref05_Token.l0 k x0 (wrap64 (x3 + 1))) else (some false))) else (none)) else (some (decide ((x0.size : Int) > 0)))
def headraceref05_Token.f (k : Nat) (a0 : ByteArray) : Option (Bool) := headraceref05_Token.l0 k a0 0
theorem headraceref05_Token.mono_l : ∀ k, (∀ y0 y1, LeO (headraceref05_Token.l0 k y0 y1) (headraceref05_Token.l0 (k + 1) y0 y1))
 | 0 => fun _ _ r h => by simp [headraceref05_Token.l0] at h
 | k + 1 => by
  have ih0 := headraceref05_Token.mono_l k
  ·intro y0 y1
   unfold headraceref05_Token.l0
   repeat' first | with_reducible first | exact ih0 _ _ | exact headraceref05_tchar.mono _ _ | exact LeO.refl _ | exact LeO.none _ | refine LeO.ite ?_ ?_ | refine LeO.bind ?_ (fun _ => ?_) | exact ih0 _ _ | exact headraceref05_tchar.mono _ _ | exact LeO.none _ | refine LeO.ite ?_ ?_ | refine LeO.bind ?_ (fun _ => ?_)
theorem headraceref05_Token.mono : ∀ a0 k, LeO (headraceref05_Token.f k a0) (headraceref05_Token.f (k + 1) a0) := by
 intro a0 k
 have ih0 := headraceref05_Token.mono_l k
 unfold headraceref05_Token.f
 repeat' first | with_reducible first | exact ih0 _ _ | exact headraceref05_tchar.mono _ _ | exact LeO.refl _ | exact LeO.none _ | refine LeO.ite ?_ ?_ | refine LeO.bind ?_ (fun _ => ?_) | exact ih0 _ _ | exact headraceref05_tchar.mono _ _ | exact LeO.none _ | refine LeO.ite ?_ ?_ | refine LeO.bind ?_ (fun _ => ?_)
set_option maxHeartbeats 8000000 in
set_option maxRecDepth 100000 in
theorem headraceref05_Token.calls (k : Nat) (a0 : ByteArray) (r : Bool) (w : World) (h : headraceref05_Token.f k a0 = some r) :
  Calls Tryz.prog 63 #[.string a0] w fun e w' => e = .returned (.bool r) ∧ Below w.heap.size w w' := by
 have HB := Aside0.mk (Below.refl w.heap.size w)
 have H : (headraceref05_Token.l0 k a0 0) = some r := h
 clear h
 have H' := Aside0.mk H
 clear H
 go_enter Tryz.func63, Tryz.ntmps63
 go_wp2
 go_loopg [3] k (fun kq v3 w' => ∃ (x3_1 : Int), v3 = .int .i64 x3_1 ∧ Aside0 (headraceref05_Token.l0 kq a0 x3_1 = some r) ∧ Aside0 (kq ≤ k) ∧ Aside0 (Below w.heap.size w w'))
 case atStart => exact ⟨(0), (by first | rfl | (simp; done) | (simp [*]; done) | (simp [bneNil, beqNil]; done)), H', ⟨Nat.le_refl _⟩, ⟨bw HB⟩⟩
 case round =>
  clear H'
  obtain ⟨x3_1, rfl, HA, HK1, HB⟩ := hrel
  cases gk with
  | zero => exact absurd HA.out (by simp [headraceref05_Token.l0])
  | succ k1 =>
   have H := HA.out
   clear HA
   simp only [headraceref05_Token.l0] at H
   by_cases c2 : x3_1 < (a0.size : Int)
   ·rw [if_pos c2] at H
    have c2b0 : decide (x3_1 < (a0.size : Int)) = true := decide_eq_true c2
    clear c2
    by_cases c3 : 0 ≤ x3_1
    ·rw [if_pos c3] at H
     have c3b0 : decide (0 ≤ x3_1) = true := decide_eq_true c3
     clear c3
     replace H := Option.bind_eq_some_iff.mp H
     obtain ⟨t117, A50, H⟩ := H
     have A5 := Aside0.mk A50
     clear A50
     by_cases c6 : t117 = true
     ·subst c6
      have H1 : (headraceref05_Token.l0 k1 a0 (wrap64 (x3_1 + 1))) = some r := by rw [if_pos rfl] at H; exact H
      clear H
      have H := H1
      clear H1
      have H' := Aside0.mk H
      clear H
      have p4 : 0 ≤ (x3_1 : Int) := of_decide_eq_true bm
      have q4 : x3_1 < (a0.size : Int) := of_decide_eq_true bm
      have hx4 := bt_at a0 x3_1
      replace p4 := eq_true p4
      replace q4 := eq_true q4
      go_wp2_with (first | (refine gl 81 13 Tryz.func81 #[.int .u8 (bt a0 x3_1)] ?_; (with_reducible refine (headraceref05_tchar.calls k1 (bt a0 x3_1) true _ A5.out).mono ?_); rintro e w7 ⟨rfl, hb⟩; refine ⟨_, rfl, ?_⟩; replace HB := bS HB hb; (try clear hb); (try clear hb2); (try clear hk); (try clear hi)))
      go_roundg k1
      case measure => have := HK1.out; omega
      case rel => exact ⟨(wrap64 (x3_1 + 1)), (by first | rfl | (simp; done) | (simp [*]; done) | (simp [bneNil, beqNil]; done)), H', ⟨by have := HK1.out; omega⟩, ⟨bw HB⟩⟩
     ·replace c6 := Bool.eq_false_iff.mpr c6
      subst c6
      have H1 : (some false) = some r := by rw [if_neg (show ¬ (false = true) by decide)] at H; exact H
      clear H
      have H := H1
      clear H1
      obtain rfl := Option.some.inj H
      have p4 : 0 ≤ (x3_1 : Int) := of_decide_eq_true bm
      have q4 : x3_1 < (a0.size : Int) := of_decide_eq_true bm
      have hx4 := bt_at a0 x3_1
      replace p4 := eq_true p4
      replace q4 := eq_true q4
      go_wp2_with (first | (refine gl 81 13 Tryz.func81 #[.int .u8 (bt a0 x3_1)] ?_; (with_reducible refine (headraceref05_tchar.calls k1 (bt a0 x3_1) false _ A5.out).mono ?_); rintro e w8 ⟨rfl, hb⟩; refine ⟨_, rfl, ?_⟩; replace HB := bS HB hb; (try clear hb); (try clear hb2); (try clear hk); (try clear hi)))
      go_ret
      exact ⟨by first | rfl | (simp [errW_none, errW_some] <;> rfl) | (simp [*, errW_none, errW_some] <;> rfl) | (simp [bneNil, beqNil]; done), bw HB⟩
    ·rw [if_neg c3] at H
     exact absurd H (by simp)
   ·rw [if_neg c2] at H
    have c2b0 : decide (x3_1 < (a0.size : Int)) = false := decide_eq_false c2
    clear c2
    obtain rfl := Option.some.inj H
    go_wp2
    go_ret
    exact ⟨by first | rfl | (simp [errW_none, errW_some] <;> rfl) | (simp [*, errW_none, errW_some] <;> rfl) | (simp [bneNil, beqNil]; done), bw HB⟩

end Go.Proofs.YtmlgejgnjfbblaaGreatDoor.P
/- Laid by a program of this session (hp.py) with the help of the kit's printer: functions as plain Lean functions, and that the machine's calls come to them. -/
namespace Go.Proofs.YtmlgejgnjfbblaaGreatDoor.P
open Go.RowKit Go.Proofs.YtmlgejgnjfbblaaGreatDoorW.PrintWords Go.Proofs.YtmlgejgnjfbblaaGreatDoorW.PrintLast Go.Proofs.YtmlgejgnjfbblaaGreatDoorW.PrintMore
attribute [local go_sem] max2_int min2_int max_two min_two max_three min_three max_four min_four   -- for this text's walks alone
set_option linter.unusedVariables false
set_option linter.unusedSimpArgs false

/-! ### headraceref08_version: function 64 -/
def headraceref08_version.j0 : Nat → ByteArray → Bool → Option (Int × Int)
 | 0, _, _ => none
 | k + 1, x0, x9 => if x9 = true then (if 7 < (x0.size : Int) then (some (((bt x0 7) - 48) % 256, 0)) else (none)) else (if (x0.size : Int) = 8 then (if 0 ≤ 5 then (if 5 ≤ (x0.size : Int) then (if (x0.extract 0 5).toList = ([72, 84, 84, 80, 47] : List UInt8) then (if 6 < (x0.size : Int) then (if (bt x0 6) = 46 then (if 5 < (x0.size : Int) then (if (bt x0 5) ≥ 48 then (if (bt x0 5) ≤ 57 then (if 7 < (x0.size : Int) then (if (bt x0 7) ≥ 48 then (if (bt x0 7) ≤ 57 then (some (0, 86)) else (some (0, 80))) else (some (0, 80))) else (none)) else (some (0, 80))) else (some (0, 80))) else (none)) else (some (0, 80))) else (none)) else (some (0, 80))) else (none)) else (none)) else (some (0, 80)))
def headraceref08_version.f (k : Nat) (a0 : ByteArray) : Option (Int × Int) := if a0.toList = ([72, 84, 84, 80, 47, 49, 46, 48] : List UInt8) then (headraceref08_version.j0 k a0 true) else (headraceref08_version.j0 k a0 (a0.toList == ([72, 84, 84, 80, 47, 49, 46, 49] : List UInt8)))
theorem headraceref08_version.mono_l : ∀ k, (∀ y0 y1, LeO (headraceref08_version.j0 k y0 y1) (headraceref08_version.j0 (k + 1) y0 y1))
 | 0 => fun _ _ r h => by simp [headraceref08_version.j0] at h
 | k + 1 => by
  have ih0 := headraceref08_version.mono_l k
  ·intro y0 y1
   unfold headraceref08_version.j0
   repeat' first | with_reducible first | exact ih0 _ _ | exact LeO.refl _ | exact LeO.none _ | refine LeO.ite ?_ ?_ | refine LeO.bind ?_ (fun _ => ?_) | exact ih0 _ _ | exact LeO.none _ | refine LeO.ite ?_ ?_ | refine LeO.bind ?_ (fun _ => ?_)
theorem headraceref08_version.mono : ∀ a0 k, LeO (headraceref08_version.f k a0) (headraceref08_version.f (k + 1) a0) := by
 intro a0 k
 have ih0 := headraceref08_version.mono_l k
 unfold headraceref08_version.f
 repeat' first | with_reducible first | exact ih0 _ _ | exact LeO.refl _ | exact LeO.none _ | refine LeO.ite ?_ ?_ | refine LeO.bind ?_ (fun _ => ?_) | exact ih0 _ _ | exact LeO.none _ | refine LeO.ite ?_ ?_ | refine LeO.bind ?_ (fun _ => ?_)
set_option maxHeartbeats 8000000 in
set_option maxRecDepth 100000 in
theorem headraceref08_version.calls (k : Nat) (a0 : ByteArray) (r1 : Int) (r2 : Int) (w : World) (h : headraceref08_version.f k a0 = some (r1, r2)) :
  Calls Tryz.prog 64 #[.string a0] w fun e w' => e = .returned (.tuple #[.int .i64 r1, .int .i64 r2]) ∧ Drawn0 w w' := by
 have H : (if a0.toList = ([72, 84, 84, 80, 47, 49, 46, 48] : List UInt8) then (headraceref08_version.j0 k a0 true) else (headraceref08_version.j0 k a0 (a0.toList == ([72, 84, 84, 80, 47, 49, 46, 49] : List UInt8)))) = some (r1, r2) := h
 clear h
 have HC2 := Aside0.mk H
 clear H
 go_enter Tryz.func64, Tryz.ntmps64
 go_upto_region 1 with (fail)
 go_cut [9] (fun v9 wc => ∃ (kq : Nat) (x9_1 : Bool), v9 = .bool x9_1 ∧ Aside0 (headraceref08_version.j0 kq a0 x9_1 = some (r1, r2)) ∧ Aside0 (kq ≤ k) ∧ Drawn0 w wc)
 case first =>
  have H := HC2.out
  clear HC2
  by_cases c3 : a0.toList = ([72, 84, 84, 80, 47, 49, 46, 48] : List UInt8)
  ·rw [if_pos c3] at H
   have c3b0 : (a0.toList == ([72, 84, 84, 80, 47, 49, 46, 48] : List UInt8)) = true := beq_iff_eq.mpr c3
   have c3b1 : (a0.toList != ([72, 84, 84, 80, 47, 49, 46, 48] : List UInt8)) = false := bne_eq_false_iff_eq.mpr c3
   clear c3
   (first | rw [c3b0] | (simp only [i64_w, i32_w]; rw [c3b0]) | skip)
   have H' := Aside0.mk H
   clear H
   go_wp2
   go_meet
   case rel => exact ⟨_, (true), (by first | rfl | (simp; done) | (simp [*]; done) | (simp [bneNil, beqNil]; done)), H', ⟨by first | omega | exact Nat.le_refl _⟩, by repeat (first | exact Drawn0.refl _ | apply Drawn0.step)⟩
  ·rw [if_neg c3] at H
   have c3b0 : (a0.toList == ([72, 84, 84, 80, 47, 49, 46, 48] : List UInt8)) = false := beq_eq_false_iff_ne.mpr c3
   have c3b1 : (a0.toList != ([72, 84, 84, 80, 47, 49, 46, 48] : List UInt8)) = true := bne_iff_ne.mpr c3
   (first | rw [c3b0] | (simp only [i64_w, i32_w]; rw [c3b0]) | skip)
   have H' := Aside0.mk H
   clear H
   go_wp2
   go_meet
   case rel => exact ⟨_, ((a0.toList == ([72, 84, 84, 80, 47, 49, 46, 49] : List UInt8))), (by first | rfl | (simp; done) | (simp [*]; done) | (simp [bneNil, beqNil]; done)), H', ⟨by first | omega | exact Nat.le_refl _⟩, by repeat (first | exact Drawn0.refl _ | apply Drawn0.step)⟩
 case rest =>
  clear HC2
  obtain ⟨kq, x9_1, rfl, HA, HJ1, ⟨mc1, rfl⟩⟩ := hcut
  cases kq with
  | zero => exact absurd HA.out (by simp [headraceref08_version.j0])
  | succ kj1 =>
   have H := HA.out
   clear HA
   simp only [headraceref08_version.j0] at H
   by_cases c4 : x9_1 = true
   ·subst c4
    have H1 : (if 7 < (a0.size : Int) then (some (((bt a0 7) - 48) % 256, 0)) else (none)) = some (r1, r2) := by rw [if_pos rfl] at H; exact H
    clear H
    have H := H1
    clear H1
    by_cases c5 : 7 < (a0.size : Int)
    ·rw [if_pos c5] at H
     have c5b0 : decide (7 < (a0.size : Int)) = true := decide_eq_true c5
     have c5b1 : decide (7 < a0.size) = true := decide_eq_true (by omega)
     clear c5
     simp only [Option.some.injEq, Prod.mk.injEq] at H
     obtain ⟨rfl, rfl⟩ := H
     have p6 : 0 ≤ (7 : Int) := (by omega)
     have q6 : 7 < a0.size := (by have : (7 : Int) < (a0.size : Int) := of_decide_eq_true bm; omega)
     have hx6 : ∀ h : 7 < a0.size, ((a0[7]'h).toNat : Int) = bt a0 7 := bt_at a0 7
     clear p6
     have qi6 : (7 < (a0.size : Int)) = True := eq_true (of_decide_eq_true bm)
     replace q6 := eq_true q6
     go_wp2
     go_ret2
     exact ⟨by first | rfl | (simp; done) | (simp [*]; done) | (simp [bneNil, beqNil]; done), by repeat (first | exact Drawn0.refl _ | apply Drawn0.step)⟩
    ·rw [if_neg c5] at H
     exact absurd H (by simp)
   ·replace c4 := Bool.eq_false_iff.mpr c4
    subst c4
    have H1 : (if (a0.size : Int) = 8 then (if 0 ≤ 5 then (if 5 ≤ (a0.size : Int) then (if (a0.extract 0 5).toList = ([72, 84, 84, 80, 47] : List UInt8) then (if 6 < (a0.size : Int) then (if (bt a0 6) = 46 then (if 5 < (a0.size : Int) then (if (bt a0 5) ≥ 48 then (if (bt a0 5) ≤ 57 then (if 7 < (a0.size : Int) then (if (bt a0 7) ≥ 48 then (if (bt a0 7) ≤ 57 then (some (0, 86)) else (some (0, 80))) else (some (0, 80))) else (none)) else (some (0, 80))) else (some (0, 80))) else (none)) else (some (0, 80))) else (none)) else (some (0, 80))) else (none)) else (none)) else (some (0, 80))) = some (r1, r2) := by rw [if_neg (show ¬ (false = true) by decide)] at H; exact H
    clear H
    have H := H1
    clear H1
    by_cases c7 : (a0.size : Int) = 8
    ·rw [if_pos c7] at H
     have c7b0 : ((a0.size : Int) == 8) = true := beq_iff_eq.mpr c7
     have c7b1 : ((a0.size : Int) != 8) = false := bne_eq_false_iff_eq.mpr c7
     clear c7
     by_cases c8 : 0 ≤ 5
     ·rw [if_pos c8] at H
      have c8b0 := eq_true c8
      have c8b1 : decide (0 ≤ 5) = true := decide_eq_true c8
      clear c8
      by_cases c9 : 5 ≤ (a0.size : Int)
      ·rw [if_pos c9] at H
       have c9b0 := eq_true c9
       have c9b1 : decide (5 ≤ (a0.size : Int)) = true := decide_eq_true c9
       clear c9
       by_cases c10 : (a0.extract 0 5).toList = ([72, 84, 84, 80, 47] : List UInt8)
       ·rw [if_pos c10] at H
        have c10b0 : ((a0.extract 0 5).toList == ([72, 84, 84, 80, 47] : List UInt8)) = true := beq_iff_eq.mpr c10
        have c10b1 : ((a0.extract 0 5).toList != ([72, 84, 84, 80, 47] : List UInt8)) = false := bne_eq_false_iff_eq.mpr c10
        clear c10
        by_cases c11 : 6 < (a0.size : Int)
        ·rw [if_pos c11] at H
         have c11b0 : decide (6 < (a0.size : Int)) = true := decide_eq_true c11
         have c11b1 : decide (6 < a0.size) = true := decide_eq_true (by omega)
         clear c11
         by_cases c13 : (bt a0 6) = 46
         ·rw [if_pos c13] at H
          have c13b0 : ((bt a0 6) == 46) = true := beq_iff_eq.mpr c13
          have c13b1 : ((bt a0 6) != 46) = false := bne_eq_false_iff_eq.mpr c13
          clear c13
          by_cases c14 : 5 < (a0.size : Int)
          ·rw [if_pos c14] at H
           have c14b0 : decide (5 < (a0.size : Int)) = true := decide_eq_true c14
           have c14b1 : decide (5 < a0.size) = true := decide_eq_true (by omega)
           clear c14
           by_cases c16 : (bt a0 5) ≥ 48
           ·rw [if_pos c16] at H
            have c16b0 : decide (48 ≤ (bt a0 5)) = true := decide_eq_true c16
            clear c16
            by_cases c18 : (bt a0 5) ≤ 57
            ·rw [if_pos c18] at H
             have c18b0 : decide ((bt a0 5) ≤ 57) = true := decide_eq_true c18
             clear c18
             by_cases c19 : 7 < (a0.size : Int)
             ·rw [if_pos c19] at H
              have c19b0 : decide (7 < (a0.size : Int)) = true := decide_eq_true c19
              have c19b1 : decide (7 < a0.size) = true := decide_eq_true (by omega)
              clear c19
              by_cases c21 : (bt a0 7) ≥ 48
              ·rw [if_pos c21] at H
               have c21b0 : decide (48 ≤ (bt a0 7)) = true := decide_eq_true c21
               clear c21
               by_cases c23 : (bt a0 7) ≤ 57
               ·rw [if_pos c23] at H
                have c23b0 : decide ((bt a0 7) ≤ 57) = true := decide_eq_true c23
                clear c23
                simp only [Option.some.injEq, Prod.mk.injEq] at H
                obtain ⟨rfl, rfl⟩ := H
                have p12 : 0 ≤ (6 : Int) := (by omega)
                have q12 : 6 < a0.size := (by have : (6 : Int) < (a0.size : Int) := of_decide_eq_true bm; omega)
                have hx12 : ∀ h : 6 < a0.size, ((a0[6]'h).toNat : Int) = bt a0 6 := bt_at a0 6
                clear p12
                have qi12 : (6 < (a0.size : Int)) = True := eq_true (of_decide_eq_true bm)
                replace q12 := eq_true q12
                have p15 : 0 ≤ (5 : Int) := (by omega)
                have q15 : 5 < a0.size := (by have : (5 : Int) < (a0.size : Int) := of_decide_eq_true bm; omega)
                have hx15 : ∀ h : 5 < a0.size, ((a0[5]'h).toNat : Int) = bt a0 5 := bt_at a0 5
                clear p15
                have qi15 : (5 < (a0.size : Int)) = True := eq_true (of_decide_eq_true bm)
                replace q15 := eq_true q15
                have p17 : 0 ≤ (5 : Int) := (by omega)
                have q17 : 5 < a0.size := (by have : (5 : Int) < (a0.size : Int) := of_decide_eq_true bm; omega)
                have hx17 : ∀ h : 5 < a0.size, ((a0[5]'h).toNat : Int) = bt a0 5 := bt_at a0 5
                clear p17
                have qi17 : (5 < (a0.size : Int)) = True := eq_true (of_decide_eq_true bm)
                replace q17 := eq_true q17
                have p20 : 0 ≤ (7 : Int) := (by omega)
                have q20 : 7 < a0.size := (by have : (7 : Int) < (a0.size : Int) := of_decide_eq_true bm; omega)
                have hx20 : ∀ h : 7 < a0.size, ((a0[7]'h).toNat : Int) = bt a0 7 := bt_at a0 7
                clear p20
                have qi20 : (7 < (a0.size : Int)) = True := eq_true (of_decide_eq_true bm)
                replace q20 := eq_true q20
                have p22 : 0 ≤ (7 : Int) := (by omega)
                have q22 : 7 < a0.size := (by have : (7 : Int) < (a0.size : Int) := of_decide_eq_true bm; omega)
                have hx22 : ∀ h : 7 < a0.size, ((a0[7]'h).toNat : Int) = bt a0 7 := bt_at a0 7
                clear p22
                have qi22 : (7 < (a0.size : Int)) = True := eq_true (of_decide_eq_true bm)
                replace q22 := eq_true q22
                go_wp2
                go_ret2
                exact ⟨by first | rfl | (simp; done) | (simp [*]; done) | (simp [bneNil, beqNil]; done), by repeat (first | exact Drawn0.refl _ | apply Drawn0.step)⟩
               ·rw [if_neg c23] at H
                have c23b0 : decide ((bt a0 7) ≤ 57) = false := decide_eq_false c23
                clear c23
                simp only [Option.some.injEq, Prod.mk.injEq] at H
                obtain ⟨rfl, rfl⟩ := H
                have p12 : 0 ≤ (6 : Int) := (by omega)
                have q12 : 6 < a0.size := (by have : (6 : Int) < (a0.size : Int) := of_decide_eq_true bm; omega)
                have hx12 : ∀ h : 6 < a0.size, ((a0[6]'h).toNat : Int) = bt a0 6 := bt_at a0 6
                clear p12
                have qi12 : (6 < (a0.size : Int)) = True := eq_true (of_decide_eq_true bm)
                replace q12 := eq_true q12
                have p15 : 0 ≤ (5 : Int) := (by omega)
                have q15 : 5 < a0.size := (by have : (5 : Int) < (a0.size : Int) := of_decide_eq_true bm; omega)
                have hx15 : ∀ h : 5 < a0.size, ((a0[5]'h).toNat : Int) = bt a0 5 := bt_at a0 5
                clear p15
                have qi15 : (5 < (a0.size : Int)) = True := eq_true (of_decide_eq_true bm)
                replace q15 := eq_true q15
                have p17 : 0 ≤ (5 : Int) := (by omega)
                have q17 : 5 < a0.size := (by have : (5 : Int) < (a0.size : Int) := of_decide_eq_true bm; omega)
                have hx17 : ∀ h : 5 < a0.size, ((a0[5]'h).toNat : Int) = bt a0 5 := bt_at a0 5
                clear p17
                have qi17 : (5 < (a0.size : Int)) = True := eq_true (of_decide_eq_true bm)
                replace q17 := eq_true q17
                have p20 : 0 ≤ (7 : Int) := (by omega)
                have q20 : 7 < a0.size := (by have : (7 : Int) < (a0.size : Int) := of_decide_eq_true bm; omega)
                have hx20 : ∀ h : 7 < a0.size, ((a0[7]'h).toNat : Int) = bt a0 7 := bt_at a0 7
                clear p20
                have qi20 : (7 < (a0.size : Int)) = True := eq_true (of_decide_eq_true bm)
                replace q20 := eq_true q20
                have p22 : 0 ≤ (7 : Int) := (by omega)
                have q22 : 7 < a0.size := (by have : (7 : Int) < (a0.size : Int) := of_decide_eq_true bm; omega)
                have hx22 : ∀ h : 7 < a0.size, ((a0[7]'h).toNat : Int) = bt a0 7 := bt_at a0 7
                clear p22
                have qi22 : (7 < (a0.size : Int)) = True := eq_true (of_decide_eq_true bm)
                replace q22 := eq_true q22
                go_wp2
                go_ret2
                exact ⟨by first | rfl | (simp; done) | (simp [*]; done) | (simp [bneNil, beqNil]; done), by repeat (first | exact Drawn0.refl _ | apply Drawn0.step)⟩
              ·rw [if_neg c21] at H
               have c21b0 : decide (48 ≤ (bt a0 7)) = false := decide_eq_false c21
               clear c21
               simp only [Option.some.injEq, Prod.mk.injEq] at H
               obtain ⟨rfl, rfl⟩ := H
               have p12 : 0 ≤ (6 : Int) := (by omega)
               have q12 : 6 < a0.size := (by have : (6 : Int) < (a0.size : Int) := of_decide_eq_true bm; omega)
               have hx12 : ∀ h : 6 < a0.size, ((a0[6]'h).toNat : Int) = bt a0 6 := bt_at a0 6
               clear p12
               have qi12 : (6 < (a0.size : Int)) = True := eq_true (of_decide_eq_true bm)
               replace q12 := eq_true q12
               have p15 : 0 ≤ (5 : Int) := (by omega)
               have q15 : 5 < a0.size := (by have : (5 : Int) < (a0.size : Int) := of_decide_eq_true bm; omega)
               have hx15 : ∀ h : 5 < a0.size, ((a0[5]'h).toNat : Int) = bt a0 5 := bt_at a0 5
               clear p15
               have qi15 : (5 < (a0.size : Int)) = True := eq_true (of_decide_eq_true bm)
               replace q15 := eq_true q15
               have p17 : 0 ≤ (5 : Int) := (by omega)
               have q17 : 5 < a0.size := (by have : (5 : Int) < (a0.size : Int) := of_decide_eq_true bm; omega)
               have hx17 : ∀ h : 5 < a0.size, ((a0[5]'h).toNat : Int) = bt a0 5 := bt_at a0 5
               clear p17
               have qi17 : (5 < (a0.size : Int)) = True := eq_true (of_decide_eq_true bm)
               replace q17 := eq_true q17
               have p20 : 0 ≤ (7 : Int) := (by omega)
               have q20 : 7 < a0.size := (by have : (7 : Int) < (a0.size : Int) := of_decide_eq_true bm; omega)
               have hx20 : ∀ h : 7 < a0.size, ((a0[7]'h).toNat : Int) = bt a0 7 := bt_at a0 7
               clear p20
               have qi20 : (7 < (a0.size : Int)) = True := eq_true (of_decide_eq_true bm)
               replace q20 := eq_true q20
               go_wp2
               go_ret2
               exact ⟨by first | rfl | (simp; done) | (simp [*]; done) | (simp [bneNil, beqNil]; done), by repeat (first | exact Drawn0.refl _ | apply Drawn0.step)⟩
             ·rw [if_neg c19] at H
              exact absurd H (by simp)
            ·rw [if_neg c18] at H
             have c18b0 : decide ((bt a0 5) ≤ 57) = false := decide_eq_false c18
             clear c18
             simp only [Option.some.injEq, Prod.mk.injEq] at H
             obtain ⟨rfl, rfl⟩ := H
             have p12 : 0 ≤ (6 : Int) := (by omega)
             have q12 : 6 < a0.size := (by have : (6 : Int) < (a0.size : Int) := of_decide_eq_true bm; omega)
             have hx12 : ∀ h : 6 < a0.size, ((a0[6]'h).toNat : Int) = bt a0 6 := bt_at a0 6
             clear p12
             have qi12 : (6 < (a0.size : Int)) = True := eq_true (of_decide_eq_true bm)
             replace q12 := eq_true q12
             have p15 : 0 ≤ (5 : Int) := (by omega)
             have q15 : 5 < a0.size := (by have : (5 : Int) < (a0.size : Int) := of_decide_eq_true bm; omega)
             have hx15 : ∀ h : 5 < a0.size, ((a0[5]'h).toNat : Int) = bt a0 5 := bt_at a0 5
             clear p15
             have qi15 : (5 < (a0.size : Int)) = True := eq_true (of_decide_eq_true bm)
             replace q15 := eq_true q15
             have p17 : 0 ≤ (5 : Int) := (by omega)
             have q17 : 5 < a0.size := (by have : (5 : Int) < (a0.size : Int) := of_decide_eq_true bm; omega)
             have hx17 : ∀ h : 5 < a0.size, ((a0[5]'h).toNat : Int) = bt a0 5 := bt_at a0 5
             clear p17
             have qi17 : (5 < (a0.size : Int)) = True := eq_true (of_decide_eq_true bm)
             replace q17 := eq_true q17
             go_wp2
             go_ret2
             exact ⟨by first | rfl | (simp; done) | (simp [*]; done) | (simp [bneNil, beqNil]; done), by repeat (first | exact Drawn0.refl _ | apply Drawn0.step)⟩
           ·rw [if_neg c16] at H
            have c16b0 : decide (48 ≤ (bt a0 5)) = false := decide_eq_false c16
            clear c16
            simp only [Option.some.injEq, Prod.mk.injEq] at H
            obtain ⟨rfl, rfl⟩ := H
            have p12 : 0 ≤ (6 : Int) := (by omega)
            have q12 : 6 < a0.size := (by have : (6 : Int) < (a0.size : Int) := of_decide_eq_true bm; omega)
            have hx12 : ∀ h : 6 < a0.size, ((a0[6]'h).toNat : Int) = bt a0 6 := bt_at a0 6
            clear p12
            have qi12 : (6 < (a0.size : Int)) = True := eq_true (of_decide_eq_true bm)
            replace q12 := eq_true q12
            have p15 : 0 ≤ (5 : Int) := (by omega)
            have q15 : 5 < a0.size := (by have : (5 : Int) < (a0.size : Int) := of_decide_eq_true bm; omega)
            have hx15 : ∀ h : 5 < a0.size, ((a0[5]'h).toNat : Int) = bt a0 5 := bt_at a0 5
            clear p15
            have qi15 : (5 < (a0.size : Int)) = True := eq_true (of_decide_eq_true bm)
            replace q15 := eq_true q15
            go_wp2
            go_ret2
            exact ⟨by first | rfl | (simp; done) | (simp [*]; done) | (simp [bneNil, beqNil]; done), by repeat (first | exact Drawn0.refl _ | apply Drawn0.step)⟩
          ·rw [if_neg c14] at H
           exact absurd H (by simp)
         ·rw [if_neg c13] at H
          have c13b0 : ((bt a0 6) == 46) = false := beq_eq_false_iff_ne.mpr c13
          have c13b1 : ((bt a0 6) != 46) = true := bne_iff_ne.mpr c13
          simp only [Option.some.injEq, Prod.mk.injEq] at H
          obtain ⟨rfl, rfl⟩ := H
          have p12 : 0 ≤ (6 : Int) := (by omega)
          have q12 : 6 < a0.size := (by have : (6 : Int) < (a0.size : Int) := of_decide_eq_true bm; omega)
          have hx12 : ∀ h : 6 < a0.size, ((a0[6]'h).toNat : Int) = bt a0 6 := bt_at a0 6
          clear p12
          have qi12 : (6 < (a0.size : Int)) = True := eq_true (of_decide_eq_true bm)
          replace q12 := eq_true q12
          go_wp2
          go_ret2
          exact ⟨by first | rfl | (simp; done) | (simp [*]; done) | (simp [bneNil, beqNil]; done), by repeat (first | exact Drawn0.refl _ | apply Drawn0.step)⟩
        ·rw [if_neg c11] at H
         exact absurd H (by simp)
       ·rw [if_neg c10] at H
        have c10b0 : ((a0.extract 0 5).toList == ([72, 84, 84, 80, 47] : List UInt8)) = false := beq_eq_false_iff_ne.mpr c10
        have c10b1 : ((a0.extract 0 5).toList != ([72, 84, 84, 80, 47] : List UInt8)) = true := bne_iff_ne.mpr c10
        simp only [Option.some.injEq, Prod.mk.injEq] at H
        obtain ⟨rfl, rfl⟩ := H
        go_wp2
        go_ret2
        exact ⟨by first | rfl | (simp; done) | (simp [*]; done) | (simp [bneNil, beqNil]; done), by repeat (first | exact Drawn0.refl _ | apply Drawn0.step)⟩
      ·rw [if_neg c9] at H
       exact absurd H (by simp)
     ·rw [if_neg c8] at H
      exact absurd H (by simp)
    ·rw [if_neg c7] at H
     have c7b0 : ((a0.size : Int) == 8) = false := beq_eq_false_iff_ne.mpr c7
     have c7b1 : ((a0.size : Int) != 8) = true := bne_iff_ne.mpr c7
     simp only [Option.some.injEq, Prod.mk.injEq] at H
     obtain ⟨rfl, rfl⟩ := H
     go_wp2
     go_ret2
     exact ⟨by first | rfl | (simp; done) | (simp [*]; done) | (simp [bneNil, beqNil]; done), by repeat (first | exact Drawn0.refl _ | apply Drawn0.step)⟩

/-! ### headraceref05_digit: function 82 -/
mutual
def headraceref05_digit.j0 : Nat → Int → Int → Int → Bool → Option (Int)
 | 0, _, _, _, _ => none
 | k + 1, x0, x1, x5, x6 => if x6 = true then (if ((x0 - 48) % 256) ≥ x1 then (some (-1)) else (some ((x0 - 48) % 256))) else (if x0 ≥ 97 then (headraceref05_digit.j1 k x0 x1 x5 (decide (x0 ≤ 102))) else (headraceref05_digit.j1 k x0 x1 x5 false))
def headraceref05_digit.j1 : Nat → Int → Int → Int → Bool → Option (Int)
 | 0, _, _, _, _ => none
 | k + 1, x0, x1, x5, x16 => if x16 = true then (if (((x0 - 97) % 256) + 10) ≥ x1 then (some (-1)) else (some (((x0 - 97) % 256) + 10))) else (if x0 ≥ 65 then (headraceref05_digit.j2 k x0 x1 x5 (decide (x0 ≤ 70))) else (headraceref05_digit.j2 k x0 x1 x5 false))
def headraceref05_digit.j2 : Nat → Int → Int → Int → Bool → Option (Int)
 | 0, _, _, _, _ => none
 | k + 1, x0, x1, x5, x27 => if x27 = true then (if (((x0 - 65) % 256) + 10) ≥ x1 then (some (-1)) else (some (((x0 - 65) % 256) + 10))) else (if x5 ≥ x1 then (some (-1)) else (some x5))
end
def headraceref05_digit.f (k : Nat) (a0 : Int) (a1 : Int) : Option (Int) := if a0 ≥ 48 then (headraceref05_digit.j0 k a0 a1 (-1) (decide (a0 ≤ 57))) else (headraceref05_digit.j0 k a0 a1 (-1) false)
theorem headraceref05_digit.mono_l : ∀ k, (∀ y0 y1 y2 y3, LeO (headraceref05_digit.j0 k y0 y1 y2 y3) (headraceref05_digit.j0 (k + 1) y0 y1 y2 y3)) ∧ (∀ y0 y1 y2 y3, LeO (headraceref05_digit.j1 k y0 y1 y2 y3) (headraceref05_digit.j1 (k + 1) y0 y1 y2 y3)) ∧ (∀ y0 y1 y2 y3, LeO (headraceref05_digit.j2 k y0 y1 y2 y3) (headraceref05_digit.j2 (k + 1) y0 y1 y2 y3))
 | 0 => ⟨fun _ _ _ _ r h => by simp [headraceref05_digit.j0] at h, fun _ _ _ _ r h => by simp [headraceref05_digit.j1] at h, fun _ _ _ _ r h => by simp [headraceref05_digit.j2] at h⟩
 | k + 1 => by
  obtain ⟨ih0, ih1, ih2⟩ := headraceref05_digit.mono_l k
  refine ⟨?_, ?_, ?_⟩ <;> intros <;> (first | unfold headraceref05_digit.j0 | unfold headraceref05_digit.j1 | unfold headraceref05_digit.j2) <;> repeat' first | with_reducible first | exact ih0 _ _ _ _ | exact ih1 _ _ _ _ | exact ih2 _ _ _ _ | exact LeO.refl _ | exact LeO.none _ | refine LeO.ite ?_ ?_ | refine LeO.bind ?_ (fun _ => ?_) | exact ih0 _ _ _ _ | exact ih1 _ _ _ _ | exact ih2 _ _ _ _ | exact LeO.none _ | refine LeO.ite ?_ ?_ | refine LeO.bind ?_ (fun _ => ?_)
theorem headraceref05_digit.mono : ∀ a0 a1 k, LeO (headraceref05_digit.f k a0 a1) (headraceref05_digit.f (k + 1) a0 a1) := by
 intro a0 a1 k
 obtain ⟨ih0, ih1, ih2⟩ := headraceref05_digit.mono_l k
 unfold headraceref05_digit.f
 repeat' first | with_reducible first | exact ih0 _ _ _ _ | exact ih1 _ _ _ _ | exact ih2 _ _ _ _ | exact LeO.refl _ | exact LeO.none _ | refine LeO.ite ?_ ?_ | refine LeO.bind ?_ (fun _ => ?_) | exact ih0 _ _ _ _ | exact ih1 _ _ _ _ | exact ih2 _ _ _ _ | exact LeO.none _ | refine LeO.ite ?_ ?_ | refine LeO.bind ?_ (fun _ => ?_)
set_option maxHeartbeats 8000000 in
set_option maxRecDepth 100000 in
theorem headraceref05_digit.calls (k : Nat) (a0 : Int) (a1 : Int) (r : Int) (w : World) (h : headraceref05_digit.f k a0 a1 = some r) :
  Calls Tryz.prog 82 #[.int .u8 a0, .int .i64 a1] w fun e w' => e = .returned (.int .i64 r) ∧ Drawn0 w w' := by
 have H : (if a0 ≥ 48 then (headraceref05_digit.j0 k a0 a1 (-1) (decide (a0 ≤ 57))) else (headraceref05_digit.j0 k a0 a1 (-1) false)) = some r := h
 clear h
 have HC3 := Aside0.mk H
 clear H
 go_enter Tryz.func82, Tryz.ntmps82
 go_upto_region 2 with (fail)
 go_cut [6] (fun v6 wc => ∃ (kq : Nat) (x6_2 : Bool), v6 = .bool x6_2 ∧ Aside0 (headraceref05_digit.j0 kq a0 a1 (-1) x6_2 = some r) ∧ Aside0 (kq ≤ k) ∧ Drawn0 w wc)
 case first =>
  have H := HC3.out
  clear HC3
  by_cases c4 : a0 ≥ 48
  ·rw [if_pos c4] at H
   have c4b0 : decide (48 ≤ a0) = true := decide_eq_true c4
   clear c4
   (first | rw [c4b0] | (simp only [i64_w, i32_w]; rw [c4b0]) | skip)
   have H' := Aside0.mk H
   clear H
   go_wp2
   go_meet
   case rel => exact ⟨_, (decide (a0 ≤ 57)), (by first | rfl | (simp; done) | (simp [*]; done) | (simp [bneNil, beqNil]; done)), H', ⟨by first | omega | exact Nat.le_refl _⟩, by repeat (first | exact Drawn0.refl _ | apply Drawn0.step)⟩
  ·rw [if_neg c4] at H
   have c4b0 : decide (48 ≤ a0) = false := decide_eq_false c4
   clear c4
   (first | rw [c4b0] | (simp only [i64_w, i32_w]; rw [c4b0]) | skip)
   have H' := Aside0.mk H
   clear H
   go_wp2
   go_meet
   case rel => exact ⟨_, (false), (by first | rfl | (simp; done) | (simp [*]; done) | (simp [bneNil, beqNil]; done)), H', ⟨by first | omega | exact Nat.le_refl _⟩, by repeat (first | exact Drawn0.refl _ | apply Drawn0.step)⟩
 case rest =>
  clear HC3
  obtain ⟨kq, x6_2, rfl, HA, HJ2, ⟨mc2, rfl⟩⟩ := hcut
  cases kq with
  | zero => exact absurd HA.out (by simp [headraceref05_digit.j0])
  | succ kj2 =>
   have H := HA.out
   clear HA
   simp only [headraceref05_digit.j0] at H
   by_cases c5 : x6_2 = true
   ·subst c5
    have H1 : (if ((a0 - 48) % 256) ≥ a1 then (some (-1)) else (some ((a0 - 48) % 256))) = some r := by rw [if_pos rfl] at H; exact H
    clear H
    have H := H1
    clear H1
    by_cases c6 : ((a0 - 48) % 256) ≥ a1
    ·rw [if_pos c6] at H
     have c6b0 : decide (a1 ≤ ((a0 - 48) % 256)) = true := decide_eq_true c6
     clear c6
     obtain rfl := Option.some.inj H
     go_wp2
     go_ret
     exact ⟨by first | rfl | (simp; done) | (simp [*]; done) | (simp [bneNil, beqNil]; done), by repeat (first | exact Drawn0.refl _ | apply Drawn0.step)⟩
    ·rw [if_neg c6] at H
     have c6b0 : decide (a1 ≤ ((a0 - 48) % 256)) = false := decide_eq_false c6
     clear c6
     obtain rfl := Option.some.inj H
     go_wp2
     go_ret
     exact ⟨by first | rfl | (simp; done) | (simp [*]; done) | (simp [bneNil, beqNil]; done), by repeat (first | exact Drawn0.refl _ | apply Drawn0.step)⟩
   ·replace c5 := Bool.eq_false_iff.mpr c5
    subst c5
    have H1 : (if a0 ≥ 97 then (headraceref05_digit.j1 kj2 a0 a1 (-1) (decide (a0 ≤ 102))) else (headraceref05_digit.j1 kj2 a0 a1 (-1) false)) = some r := by rw [if_neg (show ¬ (false = true) by decide)] at H; exact H
    clear H
    have H := H1
    clear H1
    have HC7 := Aside0.mk H
    clear H
    go_upto_region 4 with (fail)
    go_cut [16] (fun v16 wc => ∃ (kq : Nat) (x16_6 : Bool), v16 = .bool x16_6 ∧ Aside0 (headraceref05_digit.j1 kq a0 a1 (-1) x16_6 = some r) ∧ Aside0 (kq ≤ kj2) ∧ Drawn0 w wc)
    case first =>
     have H := HC7.out
     clear HC7
     by_cases c8 : a0 ≥ 97
     ·rw [if_pos c8] at H
      have c8b0 : decide (97 ≤ a0) = true := decide_eq_true c8
      clear c8
      (first | rw [c8b0] | (simp only [i64_w, i32_w]; rw [c8b0]) | skip)
      have H' := Aside0.mk H
      clear H
      go_wp2
      go_meet
      case rel => exact ⟨_, (decide (a0 ≤ 102)), (by first | rfl | (simp; done) | (simp [*]; done) | (simp [bneNil, beqNil]; done)), H', ⟨by have := HJ2.out; first | omega | exact Nat.le_refl _⟩, by repeat (first | exact Drawn0.refl _ | apply Drawn0.step)⟩
     ·rw [if_neg c8] at H
      have c8b0 : decide (97 ≤ a0) = false := decide_eq_false c8
      clear c8
      (first | rw [c8b0] | (simp only [i64_w, i32_w]; rw [c8b0]) | skip)
      have H' := Aside0.mk H
      clear H
      go_wp2
      go_meet
      case rel => exact ⟨_, (false), (by first | rfl | (simp; done) | (simp [*]; done) | (simp [bneNil, beqNil]; done)), H', ⟨by have := HJ2.out; first | omega | exact Nat.le_refl _⟩, by repeat (first | exact Drawn0.refl _ | apply Drawn0.step)⟩
    case rest =>
     clear HC7
     try clear c5
     obtain ⟨kq, x16_6, rfl, HA, HJ6, ⟨mc6, rfl⟩⟩ := hcut
     cases kq with
     | zero => exact absurd HA.out (by simp [headraceref05_digit.j1])
     | succ kj6 =>
      have H := HA.out
      clear HA
      simp only [headraceref05_digit.j1] at H
      by_cases c9 : x16_6 = true
      ·subst c9
       have H1 : (if (((a0 - 97) % 256) + 10) ≥ a1 then (some (-1)) else (some (((a0 - 97) % 256) + 10))) = some r := by rw [if_pos rfl] at H; exact H
       clear H
       have H := H1
       clear H1
       by_cases c10 : (((a0 - 97) % 256) + 10) ≥ a1
       ·rw [if_pos c10] at H
        have c10b0 : decide (a1 ≤ (((a0 - 97) % 256) + 10)) = true := decide_eq_true c10
        clear c10
        obtain rfl := Option.some.inj H
        go_wp2
        go_ret
        exact ⟨by first | rfl | (simp; done) | (simp [*]; done) | (simp [bneNil, beqNil]; done), by repeat (first | exact Drawn0.refl _ | apply Drawn0.step)⟩
       ·rw [if_neg c10] at H
        have c10b0 : decide (a1 ≤ (((a0 - 97) % 256) + 10)) = false := decide_eq_false c10
        clear c10
        obtain rfl := Option.some.inj H
        go_wp2
        go_ret
        exact ⟨by first | rfl | (simp; done) | (simp [*]; done) | (simp [bneNil, beqNil]; done), by repeat (first | exact Drawn0.refl _ | apply Drawn0.step)⟩
      ·replace c9 := Bool.eq_false_iff.mpr c9
       subst c9
       have H1 : (if a0 ≥ 65 then (headraceref05_digit.j2 kj6 a0 a1 (-1) (decide (a0 ≤ 70))) else (headraceref05_digit.j2 kj6 a0 a1 (-1) false)) = some r := by rw [if_neg (show ¬ (false = true) by decide)] at H; exact H
       clear H
       have H := H1
       clear H1
       have HC11 := Aside0.mk H
       clear H
       go_upto_region 6 with (fail)
       go_cut [27] (fun v27 wc => ∃ (kq : Nat) (x27_10 : Bool), v27 = .bool x27_10 ∧ Aside0 (headraceref05_digit.j2 kq a0 a1 (-1) x27_10 = some r) ∧ Aside0 (kq ≤ kj6) ∧ Drawn0 w wc)
       case first =>
        have H := HC11.out
        clear HC11
        by_cases c12 : a0 ≥ 65
        ·rw [if_pos c12] at H
         have c12b0 : decide (65 ≤ a0) = true := decide_eq_true c12
         clear c12
         (first | rw [c12b0] | (simp only [i64_w, i32_w]; rw [c12b0]) | skip)
         have H' := Aside0.mk H
         clear H
         go_wp2
         go_meet
         case rel => exact ⟨_, (decide (a0 ≤ 70)), (by first | rfl | (simp; done) | (simp [*]; done) | (simp [bneNil, beqNil]; done)), H', ⟨by have := HJ2.out; have := HJ6.out; first | omega | exact Nat.le_refl _⟩, by repeat (first | exact Drawn0.refl _ | apply Drawn0.step)⟩
        ·rw [if_neg c12] at H
         have c12b0 : decide (65 ≤ a0) = false := decide_eq_false c12
         clear c12
         (first | rw [c12b0] | (simp only [i64_w, i32_w]; rw [c12b0]) | skip)
         have H' := Aside0.mk H
         clear H
         go_wp2
         go_meet
         case rel => exact ⟨_, (false), (by first | rfl | (simp; done) | (simp [*]; done) | (simp [bneNil, beqNil]; done)), H', ⟨by have := HJ2.out; have := HJ6.out; first | omega | exact Nat.le_refl _⟩, by repeat (first | exact Drawn0.refl _ | apply Drawn0.step)⟩
       case rest =>
        clear HC11
        try clear c5; try clear c9
        obtain ⟨kq, x27_10, rfl, HA, HJ10, ⟨mc10, rfl⟩⟩ := hcut
        cases kq with
        | zero => exact absurd HA.out (by simp [headraceref05_digit.j2])
        | succ kj10 =>
         have H := HA.out
         clear HA
         simp only [headraceref05_digit.j2] at H
         by_cases c13 : x27_10 = true
         ·subst c13
          have H1 : (if (((a0 - 65) % 256) + 10) ≥ a1 then (some (-1)) else (some (((a0 - 65) % 256) + 10))) = some r := by rw [if_pos rfl] at H; exact H
          clear H
          have H := H1
          clear H1
          by_cases c14 : (((a0 - 65) % 256) + 10) ≥ a1
          ·rw [if_pos c14] at H
           have c14b0 : decide (a1 ≤ (((a0 - 65) % 256) + 10)) = true := decide_eq_true c14
           clear c14
           obtain rfl := Option.some.inj H
           go_wp2
           go_ret
           exact ⟨by first | rfl | (simp; done) | (simp [*]; done) | (simp [bneNil, beqNil]; done), by repeat (first | exact Drawn0.refl _ | apply Drawn0.step)⟩
          ·rw [if_neg c14] at H
           have c14b0 : decide (a1 ≤ (((a0 - 65) % 256) + 10)) = false := decide_eq_false c14
           clear c14
           obtain rfl := Option.some.inj H
           go_wp2
           go_ret
           exact ⟨by first | rfl | (simp; done) | (simp [*]; done) | (simp [bneNil, beqNil]; done), by repeat (first | exact Drawn0.refl _ | apply Drawn0.step)⟩
         ·replace c13 := Bool.eq_false_iff.mpr c13
          subst c13
          have H1 : (if (-1) ≥ a1 then (some (-1)) else (some (-1))) = some r := by rw [if_neg (show ¬ (false = true) by decide)] at H; exact H
          clear H
          have H := H1
          clear H1
          by_cases c15 : (-1) ≥ a1
          ·rw [if_pos c15] at H
           have c15b0 : decide (a1 ≤ (-1)) = true := decide_eq_true c15
           clear c15
           obtain rfl := Option.some.inj H
           go_wp2
           go_ret
           exact ⟨by first | rfl | (simp; done) | (simp [*]; done) | (simp [bneNil, beqNil]; done), by repeat (first | exact Drawn0.refl _ | apply Drawn0.step)⟩
          ·rw [if_neg c15] at H
           have c15b0 : decide (a1 ≤ (-1)) = false := decide_eq_false c15
           clear c15
           obtain rfl := Option.some.inj H
           go_wp2
           go_ret
           exact ⟨by first | rfl | (simp; done) | (simp [*]; done) | (simp [bneNil, beqNil]; done), by repeat (first | exact Drawn0.refl _ | apply Drawn0.step)⟩

/-! ### headraceref05_Digits: function 65 -/
def headraceref05_Digits.l0 : Nat → ByteArray → Int → Int → Int → Option (Int × Int)
 | 0, _, _, _, _ => none
 | k + 1, x0, x1, x6, x7 => if x7 < (x0.size : Int) then (if 0 ≤ x7 then ((headraceref05_digit.f k (bt x0 x7) x1).bind fun t118 => (if t118 < 0 then (some (0, 50)) else (if x6 ≤ 9007199254740992 then (headraceref05_Digits.l0 k x0 x1 (wrap64 ((wrap64 (x6 * x1)) + t118)) (wrap64 (x7 + 1))) else (headraceref05_Digits.l0 k x0 x1 x6 (wrap64 (x7 + 1)))))) else (none)) else (if x6 > 9007199254740992 then (some (0, 51)) else (some (x6, 0)))
def headraceref05_Digits.f (k : Nat) (a0 : ByteArray) (a1 : Int) : Option (Int × Int) := if (a0.size : Int) = 0 then (some (0, 50)) else (headraceref05_Digits.l0 k a0 a1 0 0)
theorem headraceref05_Digits.mono_l : ∀ k, (∀ y0 y1 y2 y3, LeO (headraceref05_Digits.l0 k y0 y1 y2 y3) (headraceref05_Digits.l0 (k + 1) y0 y1 y2 y3))
 | 0 => fun _ _ _ _ r h => by simp [headraceref05_Digits.l0] at h
 | k + 1 => by
  have ih0 := headraceref05_Digits.mono_l k
  ·intro y0 y1 y2 y3
   unfold headraceref05_Digits.l0
   repeat' first | with_reducible first | exact ih0 _ _ _ _ | exact headraceref05_digit.mono _ _ _ | exact LeO.refl _ | exact LeO.none _ | refine LeO.ite ?_ ?_ | refine LeO.bind ?_ (fun _ => ?_) | exact ih0 _ _ _ _ | exact headraceref05_digit.mono _ _ _ | exact LeO.none _ | refine LeO.ite ?_ ?_ | refine LeO.bind ?_ (fun _ => ?_)
theorem headraceref05_Digits.mono : ∀ a0 a1 k, LeO (headraceref05_Digits.f k a0 a1) (headraceref05_Digits.f (k + 1) a0 a1) := by
 intro a0 a1 k
 have ih0 := headraceref05_Digits.mono_l k
 unfold headraceref05_Digits.f
 repeat' first | with_reducible first | exact ih0 _ _ _ _ | exact headraceref05_digit.mono _ _ _ | exact LeO.refl _ | exact LeO.none _ | refine LeO.ite ?_ ?_ | refine LeO.bind ?_ (fun _ => ?_) | exact ih0 _ _ _ _ | exact headraceref05_digit.mono _ _ _ | exact LeO.none _ | refine LeO.ite ?_ ?_ | refine LeO.bind ?_ (fun _ => ?_)
set_option maxHeartbeats 8000000 in
set_option maxRecDepth 100000 in
theorem headraceref05_Digits.calls (k : Nat) (a0 : ByteArray) (a1 : Int) (r1 : Int) (r2 : Int) (w : World) (h : headraceref05_Digits.f k a0 a1 = some (r1, r2)) :
  Calls Tryz.prog 65 #[.string a0, .int .i64 a1] w fun e w' => e = .returned (.tuple #[.int .i64 r1, .int .i64 r2]) ∧ Drawn0 w w' := by
 have H : (if (a0.size : Int) = 0 then (some (0, 50)) else (headraceref05_Digits.l0 k a0 a1 0 0)) = some (r1, r2) := h
 clear h
 by_cases c3 : (a0.size : Int) = 0
 ·rw [if_pos c3] at H
  have c3b0 : ((a0.size : Int) == 0) = true := beq_iff_eq.mpr c3
  have c3b1 : ((a0.size : Int) != 0) = false := bne_eq_false_iff_eq.mpr c3
  clear c3
  simp only [Option.some.injEq, Prod.mk.injEq] at H
  obtain ⟨rfl, rfl⟩ := H
  go_enter Tryz.func65, Tryz.ntmps65
  go_wp2
  go_ret2
  exact ⟨by first | rfl | (simp; done) | (simp [*]; done) | (simp [bneNil, beqNil]; done), by repeat (first | exact Drawn0.refl _ | apply Drawn0.step)⟩
 ·rw [if_neg c3] at H
  have c3b0 : ((a0.size : Int) == 0) = false := beq_eq_false_iff_ne.mpr c3
  have c3b1 : ((a0.size : Int) != 0) = true := bne_iff_ne.mpr c3
  have H' := Aside0.mk H
  clear H
  go_enter Tryz.func65, Tryz.ntmps65
  go_wp2
  go_loopg [6, 7] k (fun kq v6 v7 w' => ∃ (x6_1 : Int) (x7_1 : Int), v6 = .int .i64 x6_1 ∧ v7 = .int .i64 x7_1 ∧ Aside0 (headraceref05_Digits.l0 kq a0 a1 x6_1 x7_1 = some (r1, r2)) ∧ Aside0 (kq ≤ k) ∧ Drawn0 w w')
  case atStart => exact ⟨(0), (0), (by first | rfl | (simp; done) | (simp [*]; done) | (simp [bneNil, beqNil]; done)), (by first | rfl | (simp; done) | (simp [*]; done) | (simp [bneNil, beqNil]; done)), H', ⟨Nat.le_refl _⟩, by repeat (first | exact Drawn0.refl _ | apply Drawn0.step)⟩
  case round =>
   clear H'
   try clear c3; try clear c3b0; try clear c3b1
   obtain ⟨x6_1, x7_1, rfl, rfl, HA, HK1, ⟨m1, rfl⟩⟩ := hrel
   cases gk with
   | zero => exact absurd HA.out (by simp [headraceref05_Digits.l0])
   | succ k1 =>
    have H := HA.out
    clear HA
    simp only [headraceref05_Digits.l0] at H
    by_cases c4 : x7_1 < (a0.size : Int)
    ·rw [if_pos c4] at H
     have c4b0 : decide (x7_1 < (a0.size : Int)) = true := decide_eq_true c4
     clear c4
     by_cases c5 : 0 ≤ x7_1
     ·rw [if_pos c5] at H
      have c5b0 : decide (0 ≤ x7_1) = true := decide_eq_true c5
      clear c5
      replace H := Option.bind_eq_some_iff.mp H
      obtain ⟨t118, A70, H⟩ := H
      have A7 := Aside0.mk A70
      clear A70
      by_cases c8 : t118 < 0
      ·rw [if_pos c8] at H
       have c8b0 : decide (t118 < 0) = true := decide_eq_true c8
       clear c8
       simp only [Option.some.injEq, Prod.mk.injEq] at H
       obtain ⟨rfl, rfl⟩ := H
       have p6 : 0 ≤ (x7_1 : Int) := of_decide_eq_true bm
       have q6 : x7_1 < (a0.size : Int) := of_decide_eq_true bm
       have hx6 := bt_at a0 x7_1
       replace p6 := eq_true p6
       replace q6 := eq_true q6
       go_wp2_with (first | (refine gl 82 22 Tryz.func82 #[.int .u8 (bt a0 x7_1), .int .i64 a1] ?_; (with_reducible refine (headraceref05_digit.calls k1 (bt a0 x7_1) a1 t118 _ A7.out).mono ?_); rintro e w' ⟨rfl, ⟨nd, rfl⟩⟩; refine ⟨_, rfl, ?_⟩))
       go_ret2
       exact ⟨by first | rfl | (simp; done) | (simp [*]; done) | (simp [bneNil, beqNil]; done), by repeat (first | exact Drawn0.refl _ | apply Drawn0.step)⟩
      ·rw [if_neg c8] at H
       have c8b0 : decide (t118 < 0) = false := decide_eq_false c8
       clear c8
       by_cases c9 : x6_1 ≤ 9007199254740992
       ·rw [if_pos c9] at H
        have c9b0 : decide (x6_1 ≤ 9007199254740992) = true := decide_eq_true c9
        clear c9
        have H' := Aside0.mk H
        clear H
        have p6 : 0 ≤ (x7_1 : Int) := of_decide_eq_true bm
        have q6 : x7_1 < (a0.size : Int) := of_decide_eq_true bm
        have hx6 := bt_at a0 x7_1
        replace p6 := eq_true p6
        replace q6 := eq_true q6
        go_wp2_with (first | (refine gl 82 22 Tryz.func82 #[.int .u8 (bt a0 x7_1), .int .i64 a1] ?_; (with_reducible refine (headraceref05_digit.calls k1 (bt a0 x7_1) a1 t118 _ A7.out).mono ?_); rintro e w' ⟨rfl, ⟨nd, rfl⟩⟩; refine ⟨_, rfl, ?_⟩))
        go_roundg k1
        case measure => have := HK1.out; omega
        case rel => exact ⟨(wrap64 ((wrap64 (x6_1 * a1)) + t118)), (wrap64 (x7_1 + 1)), (by first | rfl | (simp; done) | (simp [*]; done) | (simp [bneNil, beqNil]; done)), (by first | rfl | (simp; done) | (simp [*]; done) | (simp [bneNil, beqNil]; done)), H', ⟨by have := HK1.out; omega⟩, by repeat (first | exact Drawn0.refl _ | apply Drawn0.step)⟩
       ·rw [if_neg c9] at H
        have c9b0 : decide (x6_1 ≤ 9007199254740992) = false := decide_eq_false c9
        clear c9
        have H' := Aside0.mk H
        clear H
        have p6 : 0 ≤ (x7_1 : Int) := of_decide_eq_true bm
        have q6 : x7_1 < (a0.size : Int) := of_decide_eq_true bm
        have hx6 := bt_at a0 x7_1
        replace p6 := eq_true p6
        replace q6 := eq_true q6
        go_wp2_with (first | (refine gl 82 22 Tryz.func82 #[.int .u8 (bt a0 x7_1), .int .i64 a1] ?_; (with_reducible refine (headraceref05_digit.calls k1 (bt a0 x7_1) a1 t118 _ A7.out).mono ?_); rintro e w' ⟨rfl, ⟨nd, rfl⟩⟩; refine ⟨_, rfl, ?_⟩))
        go_roundg k1
        case measure => have := HK1.out; omega
        case rel => exact ⟨(x6_1), (wrap64 (x7_1 + 1)), (by first | rfl | (simp; done) | (simp [*]; done) | (simp [bneNil, beqNil]; done)), (by first | rfl | (simp; done) | (simp [*]; done) | (simp [bneNil, beqNil]; done)), H', ⟨by have := HK1.out; omega⟩, by repeat (first | exact Drawn0.refl _ | apply Drawn0.step)⟩
     ·rw [if_neg c5] at H
      exact absurd H (by simp)
    ·rw [if_neg c4] at H
     have c4b0 : decide (x7_1 < (a0.size : Int)) = false := decide_eq_false c4
     clear c4
     by_cases c10 : x6_1 > 9007199254740992
     ·rw [if_pos c10] at H
      have c10b0 : decide (9007199254740992 < x6_1) = true := decide_eq_true c10
      clear c10
      simp only [Option.some.injEq, Prod.mk.injEq] at H
      obtain ⟨rfl, rfl⟩ := H
      go_wp2
      go_ret2
      exact ⟨by first | rfl | (simp; done) | (simp [*]; done) | (simp [bneNil, beqNil]; done), by repeat (first | exact Drawn0.refl _ | apply Drawn0.step)⟩
     ·rw [if_neg c10] at H
      have c10b0 : decide (9007199254740992 < x6_1) = false := decide_eq_false c10
      clear c10
      simp only [Option.some.injEq, Prod.mk.injEq] at H
      obtain ⟨rfl, rfl⟩ := H
      go_wp2
      go_ret2
      exact ⟨by first | rfl | (simp; done) | (simp [*]; done) | (simp [bneNil, beqNil]; done), by repeat (first | exact Drawn0.refl _ | apply Drawn0.step)⟩

end Go.Proofs.YtmlgejgnjfbblaaGreatDoor.P
/- Laid by a program of this session (hp.py) with the help of the kit's printer: functions as plain Lean functions, and that the machine's calls come to them. -/
namespace Go.Proofs.YtmlgejgnjfbblaaGreatDoor.P
open Go.RowKit Go.Proofs.YtmlgejgnjfbblaaGreatDoorW.PrintWords Go.Proofs.YtmlgejgnjfbblaaGreatDoorW.PrintLast Go.Proofs.YtmlgejgnjfbblaaGreatDoorW.PrintMore
attribute [local go_sem] max2_int min2_int max_two min_two max_three min_three max_four min_four   -- for this text's walks alone
set_option linter.unusedVariables false
set_option linter.unusedSimpArgs false

/-! ### headraceref08_first: function 44 -/
mutual
def headraceref08_first.j0 : Nat → Bool → ByteArray → ByteArray → ByteArray → Bool → Option (Bool × ByteArray × ByteArray × Int × Int × ByteArray × (List (S45)) × Int)
 | 0, _, _, _, _, _ => none
 | k + 1, x0, x6, x9, x10, x37 => if x37 = true then (some (false, (⟨#[]⟩ : ByteArray), (⟨#[]⟩ : ByteArray), 0, 0, (⟨#[]⟩ : ByteArray), ([] : List (S45)), 80)) else (if x0 = true then (headraceref08_first.l0 k x6 x9 x10 0) else ((headraceref08_version.f k x6).bind fun bt129 => ((headraceref05_Digits.f k x9 10).bind fun bt131 => (if bt131.2 = 0 then (if (x9.size : Int) = 3 then (if bt131.1 < 100 then (headraceref08_first.j2 k x10 bt129.1 bt129.2 bt131.1 true) else (if bt131.1 > 599 then (headraceref08_first.j2 k x10 bt129.1 bt129.2 bt131.1 true) else (headraceref08_first.j2 k x10 bt129.1 bt129.2 bt131.1 (bt129.2 == 80)))) else (headraceref08_first.j2 k x10 bt129.1 bt129.2 bt131.1 true)) else (headraceref08_first.j2 k x10 bt129.1 bt129.2 bt131.1 true)))))
def headraceref08_first.l0 : Nat → ByteArray → ByteArray → ByteArray → Int → Option (Bool × ByteArray × ByteArray × Int × Int × ByteArray × (List (S45)) × Int)
 | 0, _, _, _, _ => none
 | k + 1, x6, x9, x10, x12 => if x12 < (x9.size : Int) then (if 0 ≤ x12 then (if (bt x9 x12) < 33 then (some (false, (⟨#[]⟩ : ByteArray), (⟨#[]⟩ : ByteArray), 0, 0, (⟨#[]⟩ : ByteArray), ([] : List (S45)), 80)) else (if (bt x9 x12) > 126 then (some (false, (⟨#[]⟩ : ByteArray), (⟨#[]⟩ : ByteArray), 0, 0, (⟨#[]⟩ : ByteArray), ([] : List (S45)), 80)) else (headraceref08_first.l0 k x6 x9 x10 (wrap64 (x12 + 1))))) else (none)) else ((headraceref05_Token.f k x6).bind fun t126 => (if t126 = true then (if x9.toList = ([] : List UInt8) then (some (false, (⟨#[]⟩ : ByteArray), (⟨#[]⟩ : ByteArray), 0, 0, (⟨#[]⟩ : ByteArray), ([] : List (S45)), 80)) else ((headraceref08_version.f k x10).bind fun bt127 => (some (true, x6, x9, bt127.1, 0, (⟨#[]⟩ : ByteArray), ([] : List (S45)), bt127.2)))) else (some (false, (⟨#[]⟩ : ByteArray), (⟨#[]⟩ : ByteArray), 0, 0, (⟨#[]⟩ : ByteArray), ([] : List (S45)), 80))))
def headraceref08_first.j2 : Nat → ByteArray → Int → Int → Int → Bool → Option (Bool × ByteArray × ByteArray × Int × Int × ByteArray × (List (S45)) × Int)
 | 0, _, _, _, _, _ => none
 | k + 1, x10, x15, x16, x17, x103 => if x103 = true then (some (false, (⟨#[]⟩ : ByteArray), (⟨#[]⟩ : ByteArray), 0, 0, (⟨#[]⟩ : ByteArray), ([] : List (S45)), 80)) else (headraceref08_first.l1 k x10 x15 x16 x17 0)
def headraceref08_first.l1 : Nat → ByteArray → Int → Int → Int → Int → Option (Bool × ByteArray × ByteArray × Int × Int × ByteArray × (List (S45)) × Int)
 | 0, _, _, _, _, _ => none
 | k + 1, x10, x15, x16, x17, x19 => if x19 < (x10.size : Int) then (if 0 ≤ x19 then (if (bt x10 x19) < 32 then (if (bt x10 x19) = 9 then (if (bt x10 x19) = 127 then (some (false, (⟨#[]⟩ : ByteArray), (⟨#[]⟩ : ByteArray), 0, 0, (⟨#[]⟩ : ByteArray), ([] : List (S45)), 80)) else (headraceref08_first.l1 k x10 x15 x16 x17 (wrap64 (x19 + 1)))) else (some (false, (⟨#[]⟩ : ByteArray), (⟨#[]⟩ : ByteArray), 0, 0, (⟨#[]⟩ : ByteArray), ([] : List (S45)), 80))) else (if (bt x10 x19) = 127 then (some (false, (⟨#[]⟩ : ByteArray), (⟨#[]⟩ : ByteArray), 0, 0, (⟨#[]⟩ : ByteArray), ([] : List (S45)), 80)) else (headraceref08_first.l1 k x10 x15 x16 x17 (wrap64 (x19 + 1))))) else (none)) else (some (false, (⟨#[]⟩ : ByteArray), (⟨#[]⟩ : ByteArray), x15, x17, x10, ([] : List (S45)), x16))
end
def headraceref08_first.f (k : Nat) (a0 : Bool) (a1 : ByteArray) : Option (Bool × ByteArray × ByteArray × Int × Int × ByteArray × (List (S45)) × Int) := (headraceref08_cut.f k a1 32).bind fun bt120 => ((headraceref08_cut.f k bt120.2.1 32).bind fun bt123 => (if bt120.2.2 = true then (headraceref08_first.j0 k a0 bt120.1 bt123.1 bt123.2.1 (!bt123.2.2)) else (headraceref08_first.j0 k a0 bt120.1 bt123.1 bt123.2.1 true)))
theorem headraceref08_first.mono_l : ∀ k, (∀ y0 y1 y2 y3 y4, LeO (headraceref08_first.j0 k y0 y1 y2 y3 y4) (headraceref08_first.j0 (k + 1) y0 y1 y2 y3 y4)) ∧ (∀ y0 y1 y2 y3, LeO (headraceref08_first.l0 k y0 y1 y2 y3) (headraceref08_first.l0 (k + 1) y0 y1 y2 y3)) ∧ (∀ y0 y1 y2 y3 y4, LeO (headraceref08_first.j2 k y0 y1 y2 y3 y4) (headraceref08_first.j2 (k + 1) y0 y1 y2 y3 y4)) ∧ (∀ y0 y1 y2 y3 y4, LeO (headraceref08_first.l1 k y0 y1 y2 y3 y4) (headraceref08_first.l1 (k + 1) y0 y1 y2 y3 y4))
 | 0 => ⟨fun _ _ _ _ _ r h => by simp [headraceref08_first.j0] at h, fun _ _ _ _ r h => by simp [headraceref08_first.l0] at h, fun _ _ _ _ _ r h => by simp [headraceref08_first.j2] at h, fun _ _ _ _ _ r h => by simp [headraceref08_first.l1] at h⟩
 | k + 1 => by
  obtain ⟨ih0, ih1, ih2, ih3⟩ := headraceref08_first.mono_l k
  refine ⟨?_, ?_, ?_, ?_⟩ <;> intros <;> (first | unfold headraceref08_first.j0 | unfold headraceref08_first.l0 | unfold headraceref08_first.j2 | unfold headraceref08_first.l1) <;> repeat' first | with_reducible first | exact ih0 _ _ _ _ _ | exact ih1 _ _ _ _ | exact ih2 _ _ _ _ _ | exact ih3 _ _ _ _ _ | exact headraceref05_Digits.mono _ _ _ | exact headraceref05_Token.mono _ _ | exact headraceref08_cut.mono _ _ _ | exact headraceref08_version.mono _ _ | exact LeO.refl _ | exact LeO.none _ | refine LeO.ite ?_ ?_ | refine LeO.bind ?_ (fun _ => ?_) | exact ih0 _ _ _ _ _ | exact ih1 _ _ _ _ | exact ih2 _ _ _ _ _ | exact ih3 _ _ _ _ _ | exact headraceref05_Digits.mono _ _ _ | exact headraceref05_Token.mono _ _ | exact headraceref08_cut.mono _ _ _ | exact headraceref08_version.mono _ _ | exact LeO.none _ | refine LeO.ite ?_ ?_ | refine LeO.bind ?_ (fun _ => ?_)
theorem headraceref08_first.mono : ∀ a0 a1 k, LeO (headraceref08_first.f k a0 a1) (headraceref08_first.f (k + 1) a0 a1) := by
 intro a0 a1 k
 obtain ⟨ih0, ih1, ih2, ih3⟩ := headraceref08_first.mono_l k
 unfold headraceref08_first.f
 repeat' first | with_reducible first | exact ih0 _ _ _ _ _ | exact ih1 _ _ _ _ | exact ih2 _ _ _ _ _ | exact ih3 _ _ _ _ _ | exact headraceref05_Digits.mono _ _ _ | exact headraceref05_Token.mono _ _ | exact headraceref08_cut.mono _ _ _ | exact headraceref08_version.mono _ _ | exact LeO.refl _ | exact LeO.none _ | refine LeO.ite ?_ ?_ | refine LeO.bind ?_ (fun _ => ?_) | exact ih0 _ _ _ _ _ | exact ih1 _ _ _ _ | exact ih2 _ _ _ _ _ | exact ih3 _ _ _ _ _ | exact headraceref05_Digits.mono _ _ _ | exact headraceref05_Token.mono _ _ | exact headraceref08_cut.mono _ _ _ | exact headraceref08_version.mono _ _ | exact LeO.none _ | refine LeO.ite ?_ ?_ | refine LeO.bind ?_ (fun _ => ?_)
set_option maxHeartbeats 8000000 in
set_option maxRecDepth 100000 in
theorem headraceref08_first.calls (k : Nat) (a0 : Bool) (a1 : ByteArray) (r1 : Bool) (r2 : ByteArray) (r3 : ByteArray) (r4 : Int) (r5 : Int) (r6 : ByteArray) (r7 : List (S45)) (r8 : Int) (w : World) (h : headraceref08_first.f k a0 a1 = some (r1, r2, r3, r4, r5, r6, r7, r8)) :
  Calls Tryz.prog 44 #[.bool a0, .string a1] w fun e w' => ∃ v6_ : Value, e = .returned (.tuple #[.agg #[.bool r1, .string r2, .string r3, .int .i64 r4, .int .i64 r5, .string r6, v6_], .int .i64 r8]) ∧ Kd.R k45 45 w' w.heap.size (fun _ => True) v6_ r7 ∧ Below w.heap.size w w' := by
 have hu24 := Tryz.underlying24
 have HB := Aside0.mk (Below.refl w.heap.size w)
 have H : ((headraceref08_cut.f k a1 32).bind fun bt120 => ((headraceref08_cut.f k bt120.2.1 32).bind fun bt123 => (if bt120.2.2 = true then (headraceref08_first.j0 k a0 bt120.1 bt123.1 bt123.2.1 (!bt123.2.2)) else (headraceref08_first.j0 k a0 bt120.1 bt123.1 bt123.2.1 true)))) = some (r1, r2, r3, r4, r5, r6, r7, r8) := h
 clear h
 replace H := Option.bind_eq_some_iff.mp H
 obtain ⟨⟨t120, t121, t122⟩, A30, H⟩ := H
 replace H : ((headraceref08_cut.f k t121 32).bind fun bt123 => (if t122 = true then (headraceref08_first.j0 k a0 t120 bt123.1 bt123.2.1 (!bt123.2.2)) else (headraceref08_first.j0 k a0 t120 bt123.1 bt123.2.1 true))) = some (r1, r2, r3, r4, r5, r6, r7, r8) := H
 have A3 := Aside0.mk A30
 clear A30
 replace H := Option.bind_eq_some_iff.mp H
 obtain ⟨⟨t123, t124, t125⟩, A40, H⟩ := H
 replace H : (if t122 = true then (headraceref08_first.j0 k a0 t120 t123 t124 (!t125)) else (headraceref08_first.j0 k a0 t120 t123 t124 true)) = some (r1, r2, r3, r4, r5, r6, r7, r8) := H
 have A4 := Aside0.mk A40
 clear A40
 have HC5 := Aside0.mk H
 clear H
 go_enter Tryz.func44, Tryz.ntmps44
 go_upto_region 3 with (first | (refine bx 4 #[.bool false, .string (⟨#[]⟩ : ByteArray), .string (⟨#[]⟩ : ByteArray), .int .i64 0, .int .i64 0, .string (⟨#[]⟩ : ByteArray), .slice none 0 0] 24 ?_; intro gb119 hg w6 hbox hb; have BK119 := Aside0.mk (hbox); have GW119 := bG HB hg; have GE119 := bG HB hg; replace HB := bS HB hb; clear hb hbox hg) | (refine gl 62 22 Tryz.func62 #[.string a1, .int .u8 32] ?_; (with_reducible refine (headraceref08_cut.calls k a1 32 t120 t121 t122 _ A3.out).mono ?_); rintro e w' ⟨rfl, ⟨nd, rfl⟩⟩; refine ⟨_, rfl, ?_⟩) | (refine gl 62 28 Tryz.func62 #[.string t121, .int .u8 32] ?_; (with_reducible refine (headraceref08_cut.calls k t121 32 t123 t124 t125 _ A4.out).mono ?_); rintro e w' ⟨rfl, ⟨nd, rfl⟩⟩; refine ⟨_, rfl, ?_⟩))
 (try simp only [Act.put, List.setIfInBounds_toArray, List.set_cons_zero, List.set_cons_succ])
 go_cut [37] (fun v37 wc => ∃ (kq : Nat) (x37_4 : Bool), v37 = .bool x37_4 ∧ Aside0 (headraceref08_first.j0 kq a0 t120 t123 t124 x37_4 = some (r1, r2, r3, r4, r5, r6, r7, r8)) ∧ Aside0 (kq ≤ k) ∧ Aside0 (wc.heap[gb119]? = some (.cells #[.bool false, .string (⟨#[]⟩ : ByteArray), .string (⟨#[]⟩ : ByteArray), .int .i64 0, .int .i64 0, .string (⟨#[]⟩ : ByteArray), (.slice none 0 0)] 24 (0, 0))) ∧ Aside0 (Below w.heap.size w wc))
 case first =>
  have H := HC5.out
  clear HC5
  by_cases c7 : t122 = true
  ·subst c7
   have H1 : (headraceref08_first.j0 k a0 t120 t123 t124 (!t125)) = some (r1, r2, r3, r4, r5, r6, r7, r8) := by rw [if_pos rfl] at H; exact H
   clear H
   have H := H1
   clear H1
   have H' := Aside0.mk H
   clear H
   go_wp2
   go_meet
   case rel => exact ⟨_, (!t125), (by first | rfl | (simp; done) | (simp [*]; done) | (simp [bneNil, beqNil]; done)), H', ⟨by first | omega | exact Nat.le_refl _⟩, ⟨bk BK119⟩, ⟨bw HB⟩⟩
  ·replace c7 := Bool.eq_false_iff.mpr c7
   subst c7
   have H1 : (headraceref08_first.j0 k a0 t120 t123 t124 true) = some (r1, r2, r3, r4, r5, r6, r7, r8) := by rw [if_neg (show ¬ (false = true) by decide)] at H; exact H
   clear H
   have H := H1
   clear H1
   have H' := Aside0.mk H
   clear H
   go_wp2
   go_meet
   case rel => exact ⟨_, (true), (by first | rfl | (simp; done) | (simp [*]; done) | (simp [bneNil, beqNil]; done)), H', ⟨by first | omega | exact Nat.le_refl _⟩, ⟨bk BK119⟩, ⟨bw HB⟩⟩
 case rest =>
  clear HC5
  obtain ⟨kq, x37_4, rfl, HA, HJ4, BK119, HB⟩ := hcut
  cases kq with
  | zero => exact absurd HA.out (by simp [headraceref08_first.j0])
  | succ kj4 =>
   have H := HA.out
   clear HA
   simp only [headraceref08_first.j0] at H
   by_cases c8 : x37_4 = true
   ·subst c8
    have H1 : (some (false, (⟨#[]⟩ : ByteArray), (⟨#[]⟩ : ByteArray), 0, 0, (⟨#[]⟩ : ByteArray), ([] : List (S45)), 80)) = some (r1, r2, r3, r4, r5, r6, r7, r8) := by rw [if_pos rfl] at H; exact H
    clear H
    have H := H1
    clear H1
    simp only [Option.some.injEq, Prod.mk.injEq] at H
    obtain ⟨rfl, rfl, rfl, rfl, rfl, rfl, rfl, rfl⟩ := H
    have zhcz9_0 := bz7 BK119
    go_wp2
    refine bodyPost_ret (results_ct rfl _ _ gb119 24 #[.bool false, .string (⟨#[]⟩ : ByteArray), .string (⟨#[]⟩ : ByteArray), .int .i64 0, .int .i64 0, .string (⟨#[]⟩ : ByteArray), .slice none 0 0] (0, 0) _ rfl bq Tryz.underlying24 rfl (by kernel_rfl)) rfl ?_
    exact ⟨.slice none 0 0, by first | rfl | (simp [errW_none, errW_some] <;> rfl) | (simp [*, errW_none, errW_some] <;> rfl) | (simp [bneNil, beqNil]; done), by first | exact Kd.R_nil _ _ _ _ _ | exact Kd.N_nil _ _ _ _ _ | exact Kd.V_nil _ _ _ _ _ | exact Kd.Q_nil _ _ _ _ _ | exact Kd.S_nil _ _ _ _ _, bw HB⟩
   ·replace c8 := Bool.eq_false_iff.mpr c8
    subst c8
    have H1 : (if a0 = true then (headraceref08_first.l0 kj4 t120 t123 t124 0) else ((headraceref08_version.f kj4 t120).bind fun bt129 => ((headraceref05_Digits.f kj4 t123 10).bind fun bt131 => (if bt131.2 = 0 then (if (t123.size : Int) = 3 then (if bt131.1 < 100 then (headraceref08_first.j2 kj4 t124 bt129.1 bt129.2 bt131.1 true) else (if bt131.1 > 599 then (headraceref08_first.j2 kj4 t124 bt129.1 bt129.2 bt131.1 true) else (headraceref08_first.j2 kj4 t124 bt129.1 bt129.2 bt131.1 (bt129.2 == 80)))) else (headraceref08_first.j2 kj4 t124 bt129.1 bt129.2 bt131.1 true)) else (headraceref08_first.j2 kj4 t124 bt129.1 bt129.2 bt131.1 true))))) = some (r1, r2, r3, r4, r5, r6, r7, r8) := by rw [if_neg (show ¬ (false = true) by decide)] at H; exact H
    clear H
    have H := H1
    clear H1
    by_cases c10 : a0 = true
    ·subst c10
     have H1 : (headraceref08_first.l0 kj4 t120 t123 t124 0) = some (r1, r2, r3, r4, r5, r6, r7, r8) := by rw [if_pos rfl] at H; exact H
     clear H
     have H := H1
     clear H1
     have H' := Aside0.mk H
     clear H
     go_wp2
     go_loopg [12] kj4 (fun kq v12 w' => ∃ (x12_2 : Int) (x120000_2 : Bool) (x120001_2 : ByteArray) (x120002_2 : ByteArray) (x120003_2 : Int) (x120004_2 : Int) (x120005_2 : ByteArray), v12 = .int .i64 x12_2 ∧ Aside0 (headraceref08_first.l0 kq t120 t123 t124 x12_2 = some (r1, r2, r3, r4, r5, r6, r7, r8)) ∧ Aside0 (kq ≤ kj4) ∧ Aside0 (w'.heap[gb119]? = some (.cells #[.bool x120000_2, .string x120001_2, .string x120002_2, .int .i64 x120003_2, .int .i64 x120004_2, .string x120005_2, (.slice none 0 0)] 24 (0, 0))) ∧ Aside0 (Below w.heap.size w w'))
     case atStart => exact ⟨(0), (false), ((⟨#[]⟩ : ByteArray)), ((⟨#[]⟩ : ByteArray)), (0), (0), ((⟨#[]⟩ : ByteArray)), (by first | rfl | (simp; done) | (simp [*]; done) | (simp [bneNil, beqNil]; done)), H', ⟨Nat.le_refl _⟩, ⟨bk BK119⟩, ⟨bw HB⟩⟩
     case round =>
      clear H'
      try clear c8; try clear c10; try clear zhcz9_0
      obtain ⟨x12_2, x120000_2, x120001_2, x120002_2, x120003_2, x120004_2, x120005_2, rfl, HA, HK2, BK119, HB⟩ := hrel
      cases gk with
      | zero => exact absurd HA.out (by simp [headraceref08_first.l0])
      | succ k2 =>
       have H := HA.out
       clear HA
       simp only [headraceref08_first.l0] at H
       by_cases c11 : x12_2 < (t123.size : Int)
       ·rw [if_pos c11] at H
        have c11b0 : decide (x12_2 < (t123.size : Int)) = true := decide_eq_true c11
        clear c11
        by_cases c12 : 0 ≤ x12_2
        ·rw [if_pos c12] at H
         have c12b0 : decide (0 ≤ x12_2) = true := decide_eq_true c12
         clear c12
         by_cases c14 : (bt t123 x12_2) < 33
         ·rw [if_pos c14] at H
          have c14b0 : decide ((bt t123 x12_2) < 33) = true := decide_eq_true c14
          clear c14
          simp only [Option.some.injEq, Prod.mk.injEq] at H
          obtain ⟨rfl, rfl, rfl, rfl, rfl, rfl, rfl, rfl⟩ := H
          have p13 : 0 ≤ (x12_2 : Int) := of_decide_eq_true bm
          have q13 : x12_2 < (t123.size : Int) := of_decide_eq_true bm
          have hx13 := bt_at t123 x12_2
          replace p13 := eq_true p13
          replace q13 := eq_true q13
          have zhcz15_0 := bz7 BK119
          go_wp2
          refine bodyPost_ret (results_ct rfl _ _ gb119 24 #[.bool false, .string (⟨#[]⟩ : ByteArray), .string (⟨#[]⟩ : ByteArray), .int .i64 0, .int .i64 0, .string (⟨#[]⟩ : ByteArray), .slice none 0 0] (0, 0) _ rfl bq Tryz.underlying24 rfl (by kernel_rfl)) rfl ?_
          exact ⟨.slice none 0 0, by first | rfl | (simp [errW_none, errW_some] <;> rfl) | (simp [*, errW_none, errW_some] <;> rfl) | (simp [bneNil, beqNil]; done), by first | exact Kd.R_nil _ _ _ _ _ | exact Kd.N_nil _ _ _ _ _ | exact Kd.V_nil _ _ _ _ _ | exact Kd.Q_nil _ _ _ _ _ | exact Kd.S_nil _ _ _ _ _, bw HB⟩
         ·rw [if_neg c14] at H
          have c14b0 : decide ((bt t123 x12_2) < 33) = false := decide_eq_false c14
          clear c14
          by_cases c17 : (bt t123 x12_2) > 126
          ·rw [if_pos c17] at H
           have c17b0 : decide (126 < (bt t123 x12_2)) = true := decide_eq_true c17
           clear c17
           simp only [Option.some.injEq, Prod.mk.injEq] at H
           obtain ⟨rfl, rfl, rfl, rfl, rfl, rfl, rfl, rfl⟩ := H
           have p13 : 0 ≤ (x12_2 : Int) := of_decide_eq_true bm
           have q13 : x12_2 < (t123.size : Int) := of_decide_eq_true bm
           have hx13 := bt_at t123 x12_2
           replace p13 := eq_true p13
           replace q13 := eq_true q13
           have p16 : 0 ≤ (x12_2 : Int) := of_decide_eq_true bm
           have q16 : x12_2 < (t123.size : Int) := of_decide_eq_true bm
           have hx16 := bt_at t123 x12_2
           replace p16 := eq_true p16
           replace q16 := eq_true q16
           have zhcz18_0 := bz7 BK119
           go_wp2
           refine bodyPost_ret (results_ct rfl _ _ gb119 24 #[.bool false, .string (⟨#[]⟩ : ByteArray), .string (⟨#[]⟩ : ByteArray), .int .i64 0, .int .i64 0, .string (⟨#[]⟩ : ByteArray), .slice none 0 0] (0, 0) _ rfl bq Tryz.underlying24 rfl (by kernel_rfl)) rfl ?_
           exact ⟨.slice none 0 0, by first | rfl | (simp [errW_none, errW_some] <;> rfl) | (simp [*, errW_none, errW_some] <;> rfl) | (simp [bneNil, beqNil]; done), by first | exact Kd.R_nil _ _ _ _ _ | exact Kd.N_nil _ _ _ _ _ | exact Kd.V_nil _ _ _ _ _ | exact Kd.Q_nil _ _ _ _ _ | exact Kd.S_nil _ _ _ _ _, bw HB⟩
          ·rw [if_neg c17] at H
           have c17b0 : decide (126 < (bt t123 x12_2)) = false := decide_eq_false c17
           clear c17
           have H' := Aside0.mk H
           clear H
           have p13 : 0 ≤ (x12_2 : Int) := of_decide_eq_true bm
           have q13 : x12_2 < (t123.size : Int) := of_decide_eq_true bm
           have hx13 := bt_at t123 x12_2
           replace p13 := eq_true p13
           replace q13 := eq_true q13
           have p16 : 0 ≤ (x12_2 : Int) := of_decide_eq_true bm
           have q16 : x12_2 < (t123.size : Int) := of_decide_eq_true bm
           have hx16 := bt_at t123 x12_2
           replace p16 := eq_true p16
           replace q16 := eq_true q16
           go_wp2
           go_roundg k2
           case measure => have := HJ4.out; have := HK2.out; omega
           case rel => exact ⟨(wrap64 (x12_2 + 1)), (x120000_2), (x120001_2), (x120002_2), (x120003_2), (x120004_2), (x120005_2), (by first | rfl | (simp; done) | (simp [*]; done) | (simp [bneNil, beqNil]; done)), H', ⟨by have := HJ4.out; have := HK2.out; omega⟩, ⟨bk BK119⟩, ⟨bw HB⟩⟩
        ·rw [if_neg c12] at H
         exact absurd H (by simp)
       ·rw [if_neg c11] at H
        have c11b0 : decide (x12_2 < (t123.size : Int)) = false := decide_eq_false c11
        clear c11
        replace H := Option.bind_eq_some_iff.mp H
        obtain ⟨t126, A190, H⟩ := H
        have A19 := Aside0.mk A190
        clear A190
        by_cases c20 : t126 = true
        ·subst c20
         have H1 : (if t123.toList = ([] : List UInt8) then (some (false, (⟨#[]⟩ : ByteArray), (⟨#[]⟩ : ByteArray), 0, 0, (⟨#[]⟩ : ByteArray), ([] : List (S45)), 80)) else ((headraceref08_version.f k2 t124).bind fun bt127 => (some (true, t120, t123, bt127.1, 0, (⟨#[]⟩ : ByteArray), ([] : List (S45)), bt127.2)))) = some (r1, r2, r3, r4, r5, r6, r7, r8) := by rw [if_pos rfl] at H; exact H
         clear H
         have H := H1
         clear H1
         by_cases c21 : t123.toList = ([] : List UInt8)
         ·rw [if_pos c21] at H
          have c21b0 : (t123.toList == ([] : List UInt8)) = true := beq_iff_eq.mpr c21
          have c21b1 : (t123.toList != ([] : List UInt8)) = false := bne_eq_false_iff_eq.mpr c21
          clear c21
          simp only [Option.some.injEq, Prod.mk.injEq] at H
          obtain ⟨rfl, rfl, rfl, rfl, rfl, rfl, rfl, rfl⟩ := H
          go_wp2_with (first | (refine gl 63 58 Tryz.func63 #[.string t120] ?_; (with_reducible refine (headraceref05_Token.calls k2 t120 true _ A19.out).mono ?_); rintro e w22 ⟨rfl, hb⟩; refine ⟨_, rfl, ?_⟩; replace BK119 := bB BK119 hb; replace HB := bS HB hb; (try clear hb); (try clear hb2); (try clear hk); (try clear hi); have zhcz23_0 := bz7 BK119))
          refine bodyPost_ret (results_ct rfl _ _ gb119 24 #[.bool false, .string (⟨#[]⟩ : ByteArray), .string (⟨#[]⟩ : ByteArray), .int .i64 0, .int .i64 0, .string (⟨#[]⟩ : ByteArray), .slice none 0 0] (0, 0) _ rfl bq Tryz.underlying24 rfl (by kernel_rfl)) rfl ?_
          exact ⟨.slice none 0 0, by first | rfl | (simp [errW_none, errW_some] <;> rfl) | (simp [*, errW_none, errW_some] <;> rfl) | (simp [bneNil, beqNil]; done), by first | exact Kd.R_nil _ _ _ _ _ | exact Kd.N_nil _ _ _ _ _ | exact Kd.V_nil _ _ _ _ _ | exact Kd.Q_nil _ _ _ _ _ | exact Kd.S_nil _ _ _ _ _, bw HB⟩
         ·rw [if_neg c21] at H
          have c21b0 : (t123.toList == ([] : List UInt8)) = false := beq_eq_false_iff_ne.mpr c21
          have c21b1 : (t123.toList != ([] : List UInt8)) = true := bne_iff_ne.mpr c21
          replace H := Option.bind_eq_some_iff.mp H
          obtain ⟨⟨t127, t128⟩, A240, H⟩ := H
          replace H : (some (true, t120, t123, t127, 0, (⟨#[]⟩ : ByteArray), ([] : List (S45)), t128)) = some (r1, r2, r3, r4, r5, r6, r7, r8) := H
          have A24 := Aside0.mk A240
          clear A240
          simp only [Option.some.injEq, Prod.mk.injEq] at H
          obtain ⟨rfl, rfl, rfl, rfl, rfl, rfl, rfl, rfl⟩ := H
          go_wp2_with (first | (refine gl 63 58 Tryz.func63 #[.string t120] ?_; (with_reducible refine (headraceref05_Token.calls k2 t120 true _ A19.out).mono ?_); rintro e w25 ⟨rfl, hb⟩; refine ⟨_, rfl, ?_⟩; replace BK119 := bB BK119 hb; replace HB := bS HB hb; (try clear hb); (try clear hb2); (try clear hk); (try clear hi)) | (refine gl 64 67 Tryz.func64 #[.string t124] ?_; (with_reducible refine (headraceref08_version.calls k2 t124 t127 t128 _ A24.out).mono ?_); rintro e w' ⟨rfl, ⟨nd, rfl⟩⟩; refine ⟨_, rfl, ?_⟩; (try (rw [drewN_self w25]; generalize hq_ : World.drewN w25 _ = w25; have n0_ : Aside0 (w25.heap[gb119]? = some (.cells #[.bool x120000_2, .string x120001_2, .string x120002_2, .int .i64 x120003_2, .int .i64 x120004_2, .string x120005_2, .slice none 0 0] 24 (0, 0))) := ⟨by rw [← hq_]; exact (bk BK119)⟩; have n1_ : Aside0 (Below w.heap.size w w25) := ⟨by rw [← hq_]; exact (bw HB)⟩; clear BK119 HB hq_; have BK119 := n0_; have HB := n1_; clear n0_ n1_)); have zhcz26_0 := bz7 BK119))
          refine bodyPost_ret (results_ct rfl _ _ gb119 24 #[.bool true, .string t120, .string t123, .int .i64 t127, .int .i64 0, .string (⟨#[]⟩ : ByteArray), .slice none 0 0] (0, 0) _ rfl bq Tryz.underlying24 rfl (by kernel_rfl)) rfl ?_
          exact ⟨.slice none 0 0, by first | rfl | (simp [errW_none, errW_some] <;> rfl) | (simp [*, errW_none, errW_some] <;> rfl) | (simp [bneNil, beqNil]; done), by first | exact Kd.R_nil _ _ _ _ _ | exact Kd.N_nil _ _ _ _ _ | exact Kd.V_nil _ _ _ _ _ | exact Kd.Q_nil _ _ _ _ _ | exact Kd.S_nil _ _ _ _ _, bw HB⟩
        ·replace c20 := Bool.eq_false_iff.mpr c20
         subst c20
         have H1 : (some (false, (⟨#[]⟩ : ByteArray), (⟨#[]⟩ : ByteArray), 0, 0, (⟨#[]⟩ : ByteArray), ([] : List (S45)), 80)) = some (r1, r2, r3, r4, r5, r6, r7, r8) := by rw [if_neg (show ¬ (false = true) by decide)] at H; exact H
         clear H
         have H := H1
         clear H1
         simp only [Option.some.injEq, Prod.mk.injEq] at H
         obtain ⟨rfl, rfl, rfl, rfl, rfl, rfl, rfl, rfl⟩ := H
         go_wp2_with (first | (refine gl 63 58 Tryz.func63 #[.string t120] ?_; (with_reducible refine (headraceref05_Token.calls k2 t120 false _ A19.out).mono ?_); rintro e w27 ⟨rfl, hb⟩; refine ⟨_, rfl, ?_⟩; replace BK119 := bB BK119 hb; replace HB := bS HB hb; (try clear hb); (try clear hb2); (try clear hk); (try clear hi); have zhcz28_0 := bz7 BK119))
         refine bodyPost_ret (results_ct rfl _ _ gb119 24 #[.bool false, .string (⟨#[]⟩ : ByteArray), .string (⟨#[]⟩ : ByteArray), .int .i64 0, .int .i64 0, .string (⟨#[]⟩ : ByteArray), .slice none 0 0] (0, 0) _ rfl bq Tryz.underlying24 rfl (by kernel_rfl)) rfl ?_
         exact ⟨.slice none 0 0, by first | rfl | (simp [errW_none, errW_some] <;> rfl) | (simp [*, errW_none, errW_some] <;> rfl) | (simp [bneNil, beqNil]; done), by first | exact Kd.R_nil _ _ _ _ _ | exact Kd.N_nil _ _ _ _ _ | exact Kd.V_nil _ _ _ _ _ | exact Kd.Q_nil _ _ _ _ _ | exact Kd.S_nil _ _ _ _ _, bw HB⟩
    ·replace c10 := Bool.eq_false_iff.mpr c10
     subst c10
     have H1 : ((headraceref08_version.f kj4 t120).bind fun bt129 => ((headraceref05_Digits.f kj4 t123 10).bind fun bt131 => (if bt131.2 = 0 then (if (t123.size : Int) = 3 then (if bt131.1 < 100 then (headraceref08_first.j2 kj4 t124 bt129.1 bt129.2 bt131.1 true) else (if bt131.1 > 599 then (headraceref08_first.j2 kj4 t124 bt129.1 bt129.2 bt131.1 true) else (headraceref08_first.j2 kj4 t124 bt129.1 bt129.2 bt131.1 (bt129.2 == 80)))) else (headraceref08_first.j2 kj4 t124 bt129.1 bt129.2 bt131.1 true)) else (headraceref08_first.j2 kj4 t124 bt129.1 bt129.2 bt131.1 true)))) = some (r1, r2, r3, r4, r5, r6, r7, r8) := by rw [if_neg (show ¬ (false = true) by decide)] at H; exact H
     clear H
     have H := H1
     clear H1
     replace H := Option.bind_eq_some_iff.mp H
     obtain ⟨⟨t129, t130⟩, A290, H⟩ := H
     replace H : ((headraceref05_Digits.f kj4 t123 10).bind fun bt131 => (if bt131.2 = 0 then (if (t123.size : Int) = 3 then (if bt131.1 < 100 then (headraceref08_first.j2 kj4 t124 t129 t130 bt131.1 true) else (if bt131.1 > 599 then (headraceref08_first.j2 kj4 t124 t129 t130 bt131.1 true) else (headraceref08_first.j2 kj4 t124 t129 t130 bt131.1 (t130 == 80)))) else (headraceref08_first.j2 kj4 t124 t129 t130 bt131.1 true)) else (headraceref08_first.j2 kj4 t124 t129 t130 bt131.1 true))) = some (r1, r2, r3, r4, r5, r6, r7, r8) := H
     have A29 := Aside0.mk A290
     clear A290
     replace H := Option.bind_eq_some_iff.mp H
     obtain ⟨⟨t131, t132⟩, A300, H⟩ := H
     replace H : (if t132 = 0 then (if (t123.size : Int) = 3 then (if t131 < 100 then (headraceref08_first.j2 kj4 t124 t129 t130 t131 true) else (if t131 > 599 then (headraceref08_first.j2 kj4 t124 t129 t130 t131 true) else (headraceref08_first.j2 kj4 t124 t129 t130 t131 (t130 == 80)))) else (headraceref08_first.j2 kj4 t124 t129 t130 t131 true)) else (headraceref08_first.j2 kj4 t124 t129 t130 t131 true)) = some (r1, r2, r3, r4, r5, r6, r7, r8) := H
     have A30 := Aside0.mk A300
     clear A300
     have HC31 := Aside0.mk H
     clear H
     go_upto_region 17 with (first | (refine gl 64 77 Tryz.func64 #[.string t120] ?_; (with_reducible refine (headraceref08_version.calls kj4 t120 t129 t130 _ A29.out).mono ?_); rintro e w' ⟨rfl, ⟨nd, rfl⟩⟩; refine ⟨_, rfl, ?_⟩) | (refine gl 65 82 Tryz.func65 #[.string t123, .int .i64 10] ?_; (with_reducible refine (headraceref05_Digits.calls kj4 t123 10 t131 t132 _ A30.out).mono ?_); rintro e w' ⟨rfl, ⟨nd, rfl⟩⟩; refine ⟨_, rfl, ?_⟩))
     (try simp only [Act.put, List.setIfInBounds_toArray, List.set_cons_zero, List.set_cons_succ])
     go_cut [103] (fun v103 wc => ∃ (kq : Nat) (x103_30 : Bool), v103 = .bool x103_30 ∧ Aside0 (headraceref08_first.j2 kq t124 t129 t130 t131 x103_30 = some (r1, r2, r3, r4, r5, r6, r7, r8)) ∧ Aside0 (kq ≤ kj4) ∧ Aside0 (wc.heap[gb119]? = some (.cells #[.bool false, .string (⟨#[]⟩ : ByteArray), .string (⟨#[]⟩ : ByteArray), .int .i64 0, .int .i64 0, .string (⟨#[]⟩ : ByteArray), (.slice none 0 0)] 24 (0, 0))) ∧ Aside0 (Below w.heap.size w wc))
     case first =>
      have H := HC31.out
      clear HC31
      by_cases c32 : t132 = 0
      ·rw [if_pos c32] at H
       have c32b0 : (t132 == 0) = true := beq_iff_eq.mpr c32
       have c32b1 : (t132 != 0) = false := bne_eq_false_iff_eq.mpr c32
       clear c32
       (first | rw [c32b0] | (simp only [i64_w, i32_w]; rw [c32b0]) | skip)
       by_cases c33 : (t123.size : Int) = 3
       ·rw [if_pos c33] at H
        have c33b0 : ((t123.size : Int) == 3) = true := beq_iff_eq.mpr c33
        have c33b1 : ((t123.size : Int) != 3) = false := bne_eq_false_iff_eq.mpr c33
        clear c33
        by_cases c34 : t131 < 100
        ·rw [if_pos c34] at H
         have c34b0 : decide (t131 < 100) = true := decide_eq_true c34
         clear c34
         have H' := Aside0.mk H
         clear H
         go_wp2
         go_meet
         case rel => exact ⟨_, (true), (by first | rfl | (simp; done) | (simp [*]; done) | (simp [bneNil, beqNil]; done)), H', ⟨by have := HJ4.out; first | omega | exact Nat.le_refl _⟩, ⟨bk BK119⟩, ⟨bw HB⟩⟩
        ·rw [if_neg c34] at H
         have c34b0 : decide (t131 < 100) = false := decide_eq_false c34
         clear c34
         by_cases c35 : t131 > 599
         ·rw [if_pos c35] at H
          have c35b0 : decide (599 < t131) = true := decide_eq_true c35
          clear c35
          have H' := Aside0.mk H
          clear H
          go_wp2
          go_meet
          case rel => exact ⟨_, (true), (by first | rfl | (simp; done) | (simp [*]; done) | (simp [bneNil, beqNil]; done)), H', ⟨by have := HJ4.out; first | omega | exact Nat.le_refl _⟩, ⟨bk BK119⟩, ⟨bw HB⟩⟩
         ·rw [if_neg c35] at H
          have c35b0 : decide (599 < t131) = false := decide_eq_false c35
          clear c35
          have H' := Aside0.mk H
          clear H
          go_wp2
          go_meet
          case rel => exact ⟨_, ((t130 == 80)), (by first | rfl | (simp; done) | (simp [*]; done) | (simp [bneNil, beqNil]; done)), H', ⟨by have := HJ4.out; first | omega | exact Nat.le_refl _⟩, ⟨bk BK119⟩, ⟨bw HB⟩⟩
       ·rw [if_neg c33] at H
        have c33b0 : ((t123.size : Int) == 3) = false := beq_eq_false_iff_ne.mpr c33
        have c33b1 : ((t123.size : Int) != 3) = true := bne_iff_ne.mpr c33
        have H' := Aside0.mk H
        clear H
        go_wp2
        go_meet
        case rel => exact ⟨_, (true), (by first | rfl | (simp; done) | (simp [*]; done) | (simp [bneNil, beqNil]; done)), H', ⟨by have := HJ4.out; first | omega | exact Nat.le_refl _⟩, ⟨bk BK119⟩, ⟨bw HB⟩⟩
      ·rw [if_neg c32] at H
       have c32b0 : (t132 == 0) = false := beq_eq_false_iff_ne.mpr c32
       have c32b1 : (t132 != 0) = true := bne_iff_ne.mpr c32
       (first | rw [c32b0] | (simp only [i64_w, i32_w]; rw [c32b0]) | skip)
       have H' := Aside0.mk H
       clear H
       go_wp2
       go_meet
       case rel => exact ⟨_, (true), (by first | rfl | (simp; done) | (simp [*]; done) | (simp [bneNil, beqNil]; done)), H', ⟨by have := HJ4.out; first | omega | exact Nat.le_refl _⟩, ⟨bk BK119⟩, ⟨bw HB⟩⟩
     case rest =>
      clear HC31
      try clear q1; try clear hx1; try clear c8; try clear c10; try clear q13; try clear hx13; try clear q16; try clear hx16; try clear zhcz15_0; try clear zhcz18_0; try clear zhcz23_0; try clear zhcz26_0; try clear zhcz28_0; try clear zhcz9_0
      obtain ⟨kq, x103_30, rfl, HA, HJ30, BK119, HB⟩ := hcut
      cases kq with
      | zero => exact absurd HA.out (by simp [headraceref08_first.j2])
      | succ kj30 =>
       have H := HA.out
       clear HA
       simp only [headraceref08_first.j2] at H
       by_cases c36 : x103_30 = true
       ·subst c36
        have H1 : (some (false, (⟨#[]⟩ : ByteArray), (⟨#[]⟩ : ByteArray), 0, 0, (⟨#[]⟩ : ByteArray), ([] : List (S45)), 80)) = some (r1, r2, r3, r4, r5, r6, r7, r8) := by rw [if_pos rfl] at H; exact H
        clear H
        have H := H1
        clear H1
        simp only [Option.some.injEq, Prod.mk.injEq] at H
        obtain ⟨rfl, rfl, rfl, rfl, rfl, rfl, rfl, rfl⟩ := H
        have zhcz37_0 := bz7 BK119
        go_wp2
        refine bodyPost_ret (results_ct rfl _ _ gb119 24 #[.bool false, .string (⟨#[]⟩ : ByteArray), .string (⟨#[]⟩ : ByteArray), .int .i64 0, .int .i64 0, .string (⟨#[]⟩ : ByteArray), .slice none 0 0] (0, 0) _ rfl bq Tryz.underlying24 rfl (by kernel_rfl)) rfl ?_
        exact ⟨.slice none 0 0, by first | rfl | (simp [errW_none, errW_some] <;> rfl) | (simp [*, errW_none, errW_some] <;> rfl) | (simp [bneNil, beqNil]; done), by first | exact Kd.R_nil _ _ _ _ _ | exact Kd.N_nil _ _ _ _ _ | exact Kd.V_nil _ _ _ _ _ | exact Kd.Q_nil _ _ _ _ _ | exact Kd.S_nil _ _ _ _ _, bw HB⟩
       ·replace c36 := Bool.eq_false_iff.mpr c36
        subst c36
        have H1 : (headraceref08_first.l1 kj30 t124 t129 t130 t131 0) = some (r1, r2, r3, r4, r5, r6, r7, r8) := by rw [if_neg (show ¬ (false = true) by decide)] at H; exact H
        clear H
        have H := H1
        clear H1
        have H' := Aside0.mk H
        clear H
        go_wp2
        go_loopg [19] kj30 (fun kq v19 w' => ∃ (x19_3 : Int) (x120000_3 : Bool) (x120001_3 : ByteArray) (x120002_3 : ByteArray) (x120003_3 : Int) (x120004_3 : Int) (x120005_3 : ByteArray), v19 = .int .i64 x19_3 ∧ Aside0 (headraceref08_first.l1 kq t124 t129 t130 t131 x19_3 = some (r1, r2, r3, r4, r5, r6, r7, r8)) ∧ Aside0 (kq ≤ kj30) ∧ Aside0 (w'.heap[gb119]? = some (.cells #[.bool x120000_3, .string x120001_3, .string x120002_3, .int .i64 x120003_3, .int .i64 x120004_3, .string x120005_3, (.slice none 0 0)] 24 (0, 0))) ∧ Aside0 (Below w.heap.size w w'))
        case atStart => exact ⟨(0), (false), ((⟨#[]⟩ : ByteArray)), ((⟨#[]⟩ : ByteArray)), (0), (0), ((⟨#[]⟩ : ByteArray)), (by first | rfl | (simp; done) | (simp [*]; done) | (simp [bneNil, beqNil]; done)), H', ⟨Nat.le_refl _⟩, ⟨bk BK119⟩, ⟨bw HB⟩⟩
        case round =>
         clear H'
         try clear q1; try clear hx1; try clear c8; try clear c10; try clear q13; try clear hx13; try clear q16; try clear hx16; try clear c36; try clear zhcz15_0; try clear zhcz18_0; try clear zhcz23_0; try clear zhcz26_0; try clear zhcz28_0; try clear zhcz37_0; try clear zhcz9_0
         obtain ⟨x19_3, x120000_3, x120001_3, x120002_3, x120003_3, x120004_3, x120005_3, rfl, HA, HK3, BK119, HB⟩ := hrel
         cases gk with
         | zero => exact absurd HA.out (by simp [headraceref08_first.l1])
         | succ k3 =>
          have H := HA.out
          clear HA
          simp only [headraceref08_first.l1] at H
          by_cases c38 : x19_3 < (t124.size : Int)
          ·rw [if_pos c38] at H
           have c38b0 : decide (x19_3 < (t124.size : Int)) = true := decide_eq_true c38
           clear c38
           by_cases c39 : 0 ≤ x19_3
           ·rw [if_pos c39] at H
            have c39b0 : decide (0 ≤ x19_3) = true := decide_eq_true c39
            clear c39
            by_cases c41 : (bt t124 x19_3) < 32
            ·rw [if_pos c41] at H
             have c41b0 : decide ((bt t124 x19_3) < 32) = true := decide_eq_true c41
             clear c41
             by_cases c43 : (bt t124 x19_3) = 9
             ·rw [if_pos c43] at H
              have c43b0 : ((bt t124 x19_3) == 9) = true := beq_iff_eq.mpr c43
              have c43b1 : ((bt t124 x19_3) != 9) = false := bne_eq_false_iff_eq.mpr c43
              clear c43
              by_cases c45 : (bt t124 x19_3) = 127
              ·rw [if_pos c45] at H
               have c45b0 : ((bt t124 x19_3) == 127) = true := beq_iff_eq.mpr c45
               have c45b1 : ((bt t124 x19_3) != 127) = false := bne_eq_false_iff_eq.mpr c45
               clear c45
               simp only [Option.some.injEq, Prod.mk.injEq] at H
               obtain ⟨rfl, rfl, rfl, rfl, rfl, rfl, rfl, rfl⟩ := H
               have p40 : 0 ≤ (x19_3 : Int) := of_decide_eq_true bm
               have q40 : x19_3 < (t124.size : Int) := of_decide_eq_true bm
               have hx40 := bt_at t124 x19_3
               replace p40 := eq_true p40
               replace q40 := eq_true q40
               have p42 : 0 ≤ (x19_3 : Int) := of_decide_eq_true bm
               have q42 : x19_3 < (t124.size : Int) := of_decide_eq_true bm
               have hx42 := bt_at t124 x19_3
               replace p42 := eq_true p42
               replace q42 := eq_true q42
               have p44 : 0 ≤ (x19_3 : Int) := of_decide_eq_true bm
               have q44 : x19_3 < (t124.size : Int) := of_decide_eq_true bm
               have hx44 := bt_at t124 x19_3
               replace p44 := eq_true p44
               replace q44 := eq_true q44
               have zhcz46_0 := bz7 BK119
               go_wp2
               refine bodyPost_ret (results_ct rfl _ _ gb119 24 #[.bool false, .string (⟨#[]⟩ : ByteArray), .string (⟨#[]⟩ : ByteArray), .int .i64 0, .int .i64 0, .string (⟨#[]⟩ : ByteArray), .slice none 0 0] (0, 0) _ rfl bq Tryz.underlying24 rfl (by kernel_rfl)) rfl ?_
               exact ⟨.slice none 0 0, by first | rfl | (simp [errW_none, errW_some] <;> rfl) | (simp [*, errW_none, errW_some] <;> rfl) | (simp [bneNil, beqNil]; done), by first | exact Kd.R_nil _ _ _ _ _ | exact Kd.N_nil _ _ _ _ _ | exact Kd.V_nil _ _ _ _ _ | exact Kd.Q_nil _ _ _ _ _ | exact Kd.S_nil _ _ _ _ _, bw HB⟩
              ·rw [if_neg c45] at H
               have c45b0 : ((bt t124 x19_3) == 127) = false := beq_eq_false_iff_ne.mpr c45
               have c45b1 : ((bt t124 x19_3) != 127) = true := bne_iff_ne.mpr c45
               have H' := Aside0.mk H
               clear H
               have p40 : 0 ≤ (x19_3 : Int) := of_decide_eq_true bm
               have q40 : x19_3 < (t124.size : Int) := of_decide_eq_true bm
               have hx40 := bt_at t124 x19_3
               replace p40 := eq_true p40
               replace q40 := eq_true q40
               have p42 : 0 ≤ (x19_3 : Int) := of_decide_eq_true bm
               have q42 : x19_3 < (t124.size : Int) := of_decide_eq_true bm
               have hx42 := bt_at t124 x19_3
               replace p42 := eq_true p42
               replace q42 := eq_true q42
               have p44 : 0 ≤ (x19_3 : Int) := of_decide_eq_true bm
               have q44 : x19_3 < (t124.size : Int) := of_decide_eq_true bm
               have hx44 := bt_at t124 x19_3
               replace p44 := eq_true p44
               replace q44 := eq_true q44
               go_wp2
               go_roundg k3
               case measure => have := HJ4.out; have := HJ30.out; have := HK3.out; omega
               case rel => exact ⟨(wrap64 (x19_3 + 1)), (x120000_3), (x120001_3), (x120002_3), (x120003_3), (x120004_3), (x120005_3), (by first | rfl | (simp; done) | (simp [*]; done) | (simp [bneNil, beqNil]; done)), H', ⟨by have := HJ4.out; have := HJ30.out; have := HK3.out; omega⟩, ⟨bk BK119⟩, ⟨bw HB⟩⟩
             ·rw [if_neg c43] at H
              have c43b0 : ((bt t124 x19_3) == 9) = false := beq_eq_false_iff_ne.mpr c43
              have c43b1 : ((bt t124 x19_3) != 9) = true := bne_iff_ne.mpr c43
              simp only [Option.some.injEq, Prod.mk.injEq] at H
              obtain ⟨rfl, rfl, rfl, rfl, rfl, rfl, rfl, rfl⟩ := H
              have p40 : 0 ≤ (x19_3 : Int) := of_decide_eq_true bm
              have q40 : x19_3 < (t124.size : Int) := of_decide_eq_true bm
              have hx40 := bt_at t124 x19_3
              replace p40 := eq_true p40
              replace q40 := eq_true q40
              have p42 : 0 ≤ (x19_3 : Int) := of_decide_eq_true bm
              have q42 : x19_3 < (t124.size : Int) := of_decide_eq_true bm
              have hx42 := bt_at t124 x19_3
              replace p42 := eq_true p42
              replace q42 := eq_true q42
              have zhcz47_0 := bz7 BK119
              go_wp2
              refine bodyPost_ret (results_ct rfl _ _ gb119 24 #[.bool false, .string (⟨#[]⟩ : ByteArray), .string (⟨#[]⟩ : ByteArray), .int .i64 0, .int .i64 0, .string (⟨#[]⟩ : ByteArray), .slice none 0 0] (0, 0) _ rfl bq Tryz.underlying24 rfl (by kernel_rfl)) rfl ?_
              exact ⟨.slice none 0 0, by first | rfl | (simp [errW_none, errW_some] <;> rfl) | (simp [*, errW_none, errW_some] <;> rfl) | (simp [bneNil, beqNil]; done), by first | exact Kd.R_nil _ _ _ _ _ | exact Kd.N_nil _ _ _ _ _ | exact Kd.V_nil _ _ _ _ _ | exact Kd.Q_nil _ _ _ _ _ | exact Kd.S_nil _ _ _ _ _, bw HB⟩
            ·rw [if_neg c41] at H
             have c41b0 : decide ((bt t124 x19_3) < 32) = false := decide_eq_false c41
             clear c41
             by_cases c49 : (bt t124 x19_3) = 127
             ·rw [if_pos c49] at H
              have c49b0 : ((bt t124 x19_3) == 127) = true := beq_iff_eq.mpr c49
              have c49b1 : ((bt t124 x19_3) != 127) = false := bne_eq_false_iff_eq.mpr c49
              clear c49
              simp only [Option.some.injEq, Prod.mk.injEq] at H
              obtain ⟨rfl, rfl, rfl, rfl, rfl, rfl, rfl, rfl⟩ := H
              have p40 : 0 ≤ (x19_3 : Int) := of_decide_eq_true bm
              have q40 : x19_3 < (t124.size : Int) := of_decide_eq_true bm
              have hx40 := bt_at t124 x19_3
              replace p40 := eq_true p40
              replace q40 := eq_true q40
              have p48 : 0 ≤ (x19_3 : Int) := of_decide_eq_true bm
              have q48 : x19_3 < (t124.size : Int) := of_decide_eq_true bm
              have hx48 := bt_at t124 x19_3
              replace p48 := eq_true p48
              replace q48 := eq_true q48
              have zhcz50_0 := bz7 BK119
              go_wp2
              refine bodyPost_ret (results_ct rfl _ _ gb119 24 #[.bool false, .string (⟨#[]⟩ : ByteArray), .string (⟨#[]⟩ : ByteArray), .int .i64 0, .int .i64 0, .string (⟨#[]⟩ : ByteArray), .slice none 0 0] (0, 0) _ rfl bq Tryz.underlying24 rfl (by kernel_rfl)) rfl ?_
              exact ⟨.slice none 0 0, by first | rfl | (simp [errW_none, errW_some] <;> rfl) | (simp [*, errW_none, errW_some] <;> rfl) | (simp [bneNil, beqNil]; done), by first | exact Kd.R_nil _ _ _ _ _ | exact Kd.N_nil _ _ _ _ _ | exact Kd.V_nil _ _ _ _ _ | exact Kd.Q_nil _ _ _ _ _ | exact Kd.S_nil _ _ _ _ _, bw HB⟩
             ·rw [if_neg c49] at H
              have c49b0 : ((bt t124 x19_3) == 127) = false := beq_eq_false_iff_ne.mpr c49
              have c49b1 : ((bt t124 x19_3) != 127) = true := bne_iff_ne.mpr c49
              have H' := Aside0.mk H
              clear H
              have p40 : 0 ≤ (x19_3 : Int) := of_decide_eq_true bm
              have q40 : x19_3 < (t124.size : Int) := of_decide_eq_true bm
              have hx40 := bt_at t124 x19_3
              replace p40 := eq_true p40
              replace q40 := eq_true q40
              have p48 : 0 ≤ (x19_3 : Int) := of_decide_eq_true bm
              have q48 : x19_3 < (t124.size : Int) := of_decide_eq_true bm
              have hx48 := bt_at t124 x19_3
              replace p48 := eq_true p48
              replace q48 := eq_true q48
              go_wp2
              go_roundg k3
              case measure => have := HJ4.out; have := HJ30.out; have := HK3.out; omega
              case rel => exact ⟨(wrap64 (x19_3 + 1)), (x120000_3), (x120001_3), (x120002_3), (x120003_3), (x120004_3), (x120005_3), (by first | rfl | (simp; done) | (simp [*]; done) | (simp [bneNil, beqNil]; done)), H', ⟨by have := HJ4.out; have := HJ30.out; have := HK3.out; omega⟩, ⟨bk BK119⟩, ⟨bw HB⟩⟩
           ·rw [if_neg c39] at H
            exact absurd H (by simp)
          ·rw [if_neg c38] at H
           have c38b0 : decide (x19_3 < (t124.size : Int)) = false := decide_eq_false c38
           clear c38
           simp only [Option.some.injEq, Prod.mk.injEq] at H
           obtain ⟨rfl, rfl, rfl, rfl, rfl, rfl, rfl, rfl⟩ := H
           have zhcz51_0 := bz7 BK119
           go_wp2
           refine bodyPost_ret (results_ct rfl _ _ gb119 24 #[.bool false, .string (⟨#[]⟩ : ByteArray), .string (⟨#[]⟩ : ByteArray), .int .i64 t129, .int .i64 t131, .string t124, .slice none 0 0] (0, 0) _ rfl bq Tryz.underlying24 rfl (by kernel_rfl)) rfl ?_
           exact ⟨.slice none 0 0, by first | rfl | (simp [errW_none, errW_some] <;> rfl) | (simp [*, errW_none, errW_some] <;> rfl) | (simp [bneNil, beqNil]; done), by first | exact Kd.R_nil _ _ _ _ _ | exact Kd.N_nil _ _ _ _ _ | exact Kd.V_nil _ _ _ _ _ | exact Kd.Q_nil _ _ _ _ _ | exact Kd.S_nil _ _ _ _ _, bw HB⟩

end Go.Proofs.YtmlgejgnjfbblaaGreatDoor.P
