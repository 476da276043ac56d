/- Package lexis, by hand: the library's FormatInt in hex; own text of this session. -/
import Derived.Test.YtnlicpihondmgaaDoorLex5
import Derived.Lib.AppendIntMem
namespace Go.Proofs.YtnlicpihondmgaaDoor.Lex
open Go.RowKit Go.Proofs.YtnlicpihondmgaaDoorW.PrintWords Go.Proofs.Hr Go.Shelf Go.Lib
set_option linter.unusedVariables false
set_option maxRecDepth 100000 in
set_option maxHeartbeats 2000000 in
theorem tz16 (w : World) (hG : GInv w) : Calls Tryd.prog 106 #[.int .u64 16] w fun e w' => e = .returned (.int .i64 4) ∧ w' = w := by
  have hdb := hG.db
  have heq : IntKind.u64.wrap (Go.bits BinOp.and IntKind.u64 16 (IntKind.u64.wrap (-16)) * 285870213051353865) / 288230376151711744 = 15 := by decide +kernel
  clear hG
  go_enter Tryd.func106, Tryd.ntmps106
  go_wp2
  go_ret
  exact ⟨rfl, rfl⟩
set_option maxRecDepth 100000 in
set_option maxHeartbeats 2000000 in
theorem tz (w : World) (hG : GInv w) : Calls Tryd.prog 92 #[.int .u64 16] w fun e w' => e = .returned (.int .i64 4) ∧ w' = w := by
  have H := Lib.hid (tz16 w hG)
  clear hG
  go_enter Tryd.func92, Tryd.ntmps92
  go_wp2_with (go_at_call 106; refine H.out.mono ?_; rintro e w' ⟨rfl, rfl⟩)
  go_ret
  exact ⟨rfl, rfl⟩
theorem pow16 (w : World) : Calls Tryd.prog 91 #[.int .i64 16] w fun e w' => e = .returned (.bool true) ∧ w' = w := by
  have hpow : (Go.bits .and .i64 16 15 == 0) = true := by decide +kernel
  go_enter Tryd.func91, Tryd.ntmps91
  go_wp2
  go_ret
  exact ⟨rfl, rfl⟩
theorem and15 (u : Nat) (hu : u ≤ 9007199254740992) : Go.bits .and .u64 (u : Int) 15 = ((u % 16 : Nat) : Int) := by
  have h := Go.u64_and_nat u 15 (by omega) (by decide)
  rw [show ((15 : Nat) : Int) = 15 from rfl] at h
  rw [h]
  congr 1
  exact Nat.and_two_pow_sub_one_eq_mod u 4
def hexRow (i : Nat) (acc : Bs) : Array Value := (List.replicate i (Value.int .u8 0) ++ bvs acc).toArray
theorem hexRow_start : Tryd.zeroCells126 = hexRow 65 [] := by
  unfold hexRow bvs
  rfl
theorem hexRow_at (i : Nat) (acc : Bs) : (hexRow (i + 1) acc)[i]? = some (.int .u8 0) := by
  unfold hexRow
  rw [List.getElem?_toArray, List.getElem?_append_left (by simp)]
  simp
theorem hexRow_set (i : Nat) (acc : Bs) (d : UInt8) (v : Int) (hv : v = (d.toNat : Int)) : (hexRow (i + 1) acc).setIfInBounds i (.int .u8 v) = hexRow i (d :: acc) := by
  subst hv
  unfold hexRow
  rw [List.setIfInBounds_toArray]
  congr 1
  rw [List.set_append_left _ _ (by simp), List.replicate_succ', List.set_append_right _ _ (by simp)]
  simp [bvs]
theorem hexRow_cell {w : World} {B i : Nat} {acc : Bs} (h : w.heap[B]? = some (.cells (hexRow (i + 1) acc) 126 (0, 0))) : w.cell? ⟨B, i, none⟩ = some (.int .u8 0) ∧ w.frozen? ⟨B, i, none⟩ = false := by
  constructor
  · unfold World.cell?; simp only [h, Option.isSome_none, Bool.false_eq_true, if_false]; exact hexRow_at i acc
  · unfold World.frozen?; simp [h]
theorem hexRow_get (i : Nat) (l : Bs) (k : Nat) (h : k < l.length) : (hexRow i l)[i + k]? = some (.int .u8 ((nOf l).getD k 0)) := by
  unfold hexRow
  rw [List.getElem?_toArray, List.getElem?_append_right (by simp)]
  simp [bvs, nOf, h]
theorem ret_fb {a b : ByteArray} (h : a = b) : Ending.returned (.tuple #[.slice none 0 0, .string a]) = .returned (.tuple #[.slice none 0 0, .string b]) := by rw [h]
theorem dig_all : ∀ d : Fin 16, ((⟨#[48, 49, 50, 51, 52, 53, 54, 55, 56, 57, 97, 98, 99, 100, 101, 102, 103, 104, 105, 106, 107, 108, 109, 110, 111, 112, 113, 114, 115, 116, 117, 118, 119, 120, 121, 122]⟩ : ByteArray).data[d.val]?).map (·.toNat) = some (Hr.hexDigit d.val).toNat := by decide +kernel
theorem dig (d : Nat) (h : d < 36) (hd : d < 16) : (((⟨#[48, 49, 50, 51, 52, 53, 54, 55, 56, 57, 97, 98, 99, 100, 101, 102, 103, 104, 105, 106, 107, 108, 109, 110, 111, 112, 113, 114, 115, 116, 117, 118, 119, 120, 121, 122]⟩ : ByteArray)[d]'h).toNat : Int) = ((Hr.hexDigit d).toNat : Int) := by
  have h2 := dig_all ⟨d, hd⟩
  simp only [ByteArray.getElem_eq_getElem_data]
  rw [Array.getElem?_eq_getElem (by exact h)] at h2
  simp only [Option.map_some, Option.some.injEq] at h2
  omega
set_option maxRecDepth 100000 in
set_option maxHeartbeats 2000000 in
theorem fb_calls (u : Nat) (w : World) (hu : u ≤ 9007199254740992) (hG : GInv w) : Calls Tryd.prog 73 #[.slice none 0 0, .int .u64 u, .int .i64 16, .bool false, .bool false] w fun e w' => e = .returned (.tuple #[.slice none 0 0, .string ⟨(hex u).toArray⟩]) ∧ Below w.heap.size w w' := by
  go_enter Tryd.func73, Tryd.ntmps73
  have HG := Aside0.mk hG
  clear hG
  go_wp2_with (first | (go_at_call 92; refine (tz _ (HG.out.below ((Below.refl _ _).alloc (Nat.le_refl _) _))).mono ?_; rintro e w' ⟨rfl, rfl⟩) | (go_at_call 91; refine (pow16 _).mono ?_; rintro e w' ⟨rfl, rfl⟩))
  go_loopw [1, 13] (fun uv iv wr => ∃ (x k : Nat) (acc : Bs), uv = .int .u64 x ∧ iv = .int .i64 (48 + k : Nat) ∧ 4 ≤ k ∧ k + acc.length = 17 ∧ x ≤ 9007199254740992 ∧ Aside0 (x < 16 ^ (k - 3)) ∧ Aside0 (hexGo k x acc = hex u) ∧ Aside0 (wr.heap[w.heap.size]? = some (.cells (hexRow (48 + k) acc) 126 (0, 0))) ∧ Aside0 (Below w.heap.size w wr)) (fun uv _ _ => (RowKit.intOf uv).toNat)
  case atStart => exact ⟨u, 17, [], rfl, rfl, by omega, rfl, hu, ⟨by show u < 16 ^ 14; omega⟩, ⟨rfl⟩, ⟨by show (w.heap.push _)[_]? = _; simp; exact hexRow_start⟩, ⟨(Below.refl _ _).alloc (Nat.le_refl _) _⟩⟩
  case round =>
    obtain ⟨x, k, acc, rfl, rfl, hk, hka, hx, HX, HH, HW, HB⟩ := hrel
    by_cases hlt : 16 ≤ x
    · have h15 := and15 x hx
      obtain ⟨d, hd⟩ : ∃ d, d = x % 16 := ⟨_, rfl⟩
      rw [← hd] at h15
      have hd16 : d < 16 := by omega
      have HD := Aside0.mk hd
      clear hd
      obtain ⟨j, rfl⟩ : ∃ j, k = j + 1 := ⟨k - 1, by omega⟩
      have hc := hexRow_cell (i := 48 + j) HW.out
      have hcell := hc.1
      have hfr := hc.2
      clear hc
      go_wp2
      have hd36 : (d : Int) < 36 := by omega
      go_roundw
      case rel =>
        refine ⟨x / 16, j, Hr.hexDigit d :: acc, by go_num, by go_num, ?_, by simp; omega, by omega, ⟨?_⟩, ⟨?_⟩, ⟨?_⟩, ⟨HB.out.setCell (Nat.le_refl _) _⟩⟩
        · have h1 := HX.out
          have h2 : j + 1 - 3 ≠ 1 := by intro e; rw [e] at h1; omega
          omega
        · have h1 := HX.out
          rw [show j + 1 - 3 = (j - 3) + 1 by have h2 : j + 1 - 3 ≠ 1 := (by intro e; rw [e] at h1; omega); omega, Nat.pow_succ] at h1
          exact Nat.div_lt_of_lt_mul (by rw [Nat.mul_comm]; exact h1)
        · have h1 := HH.out
          unfold hexGo at h1
          rw [if_neg (by omega), ← HD.out] at h1
          exact h1
        · rw [setCell_block HW.out]
          exact congrArg (fun c => some (Obj.cells c 126 (0, 0))) (hexRow_set (48 + j) acc (Hr.hexDigit d) _ (dig d (by omega) hd16))
      case measure => simp [RowKit.intOf]; omega
    · obtain ⟨j, rfl⟩ : ∃ j, k = j + 1 := ⟨k - 1, by omega⟩
      have hc := hexRow_cell (i := 48 + j) HW.out
      have hcell := hc.1
      have hfr := hc.2
      clear hc
      have hdg : ∀ h : x < 36, ((⟨#[48, 49, 50, 51, 52, 53, 54, 55, 56, 57, 97, 98, 99, 100, 101, 102, 103, 104, 105, 106, 107, 108, 109, 110, 111, 112, 113, 114, 115, 116, 117, 118, 119, 120, 121, 122]⟩ : ByteArray)[x]'h).toNat = (Hr.hexDigit x).toNat := fun h => by have := dig x h (by omega); omega
      have hsl : ∀ W, (Instr.sliceAt 126 (.pointer (some ⟨w.heap.size, 0, none⟩)) (some (.int .i64 (48 + ((j : Int) + 1) - 1))) none none).run Tryd.prog W = .ok (.slice (some ⟨w.heap.size, 48 + j, none⟩) (17 - j) (17 - j)) W := fun W => by
        rw [run_sliceAt_array_l W 126 ⟨w.heap.size, 0, none⟩ (by simp [Program.arrayLen, Program.elem, Tryd.underlying126]) .i64 (48 + ((j : Int) + 1) - 1) (by omega) (by simp [Program.arrayLen, Tryd.underlying126]; omega)]
        have e1 : (48 + ((j : Int) + 1) - 1).toNat = 48 + j := by omega
        rw [e1]
        have e2 : Tryd.prog.arrayLen 126 = 65 := by simp [Program.arrayLen, Tryd.underlying126]
        have e3 : Tryd.prog.elem 126 = 5 := by simp [Program.elem, Tryd.underlying126]
        rw [e2, e3]
        have e4 : ¬ (65 = 48 + j) := by omega
        have e5 : 65 - (48 + j) = 17 - j := by omega
        go_simp
      have hrow : (wr.setCell ⟨w.heap.size, 48 + j, none⟩ (.int .u8 ((Hr.hexDigit x).toNat : Int))).heap[w.heap.size]? = some (.cells (hexRow (48 + j) (Hr.hexDigit x :: acc)) 126 (0, 0)) := by
        rw [setCell_block HW.out]
        exact congrArg (fun c => some (Obj.cells c 126 (0, 0))) (hexRow_set (48 + j) acc (Hr.hexDigit x) _ rfl)
      have hcv2 := run_convert_bytes_arg (P := Tryd.prog) (wr.setCell ⟨w.heap.size, 48 + j, none⟩ (.int .u8 ((Hr.hexDigit x).toNat : Int))) 22 5 Tryd.underlying22 Tryd.underlying5 w.heap.size (48 + j) (17 - j) (17 - j) (nOf (Hr.hexDigit x :: acc)) (by rw [nOf_length, List.length_cons]; omega) (fun i hi => by
        unfold World.cell?; simp only [hrow, Option.isSome_none, Bool.false_eq_true, if_false]
        exact hexRow_get (48 + j) (Hr.hexDigit x :: acc) i (by rw [List.length_cons]; omega)) 9 Tryd.underlying9
      have hfin : hex u = Hr.hexDigit x :: acc := by
        rw [← HH.out]
        unfold hexGo
        rw [if_pos (by omega)]
      have HFIN := Aside0.mk hfin
      clear hfin hrow
      go_wp2
      go_ret2
      exact ⟨ret_fb (by rw [strOfNums_nOf, HFIN.out]), HB.out.setCell (Nat.le_refl _) _⟩
set_option maxRecDepth 100000 in
set_option maxHeartbeats 2000000 in
theorem fi_calls (u : Nat) (w : World) (hu : u ≤ 9007199254740992) (hG : GInv w) : Calls Tryd.prog 63 #[.int .i64 u, .int .i64 16] w fun e w' => e = .returned (.string ⟨(hex u).toArray⟩) ∧ Below w.heap.size w w' := by
  have H := Lib.hid (fb_calls u w hu hG)
  generalize (⟨(hex u).toArray⟩ : ByteArray) = r at H ⊢
  clear hG
  go_enter Tryd.func63, Tryd.ntmps63
  go_wp2_with (go_at_call 73; refine H.out.mono ?_; rintro e w' ⟨rfl, hb⟩)
  go_ret
  exact ⟨rfl, hb⟩
set_option maxRecDepth 100000 in
theorem hex_calls (a0 : Int) (w : World) (h0 : 0 ≤ a0) (h1 : a0 ≤ 9007199254740992) (hG_ : GInv w) :
    Calls Tryd.prog 52 #[.int .i64 a0, .int .i64 16] w fun e w' => e = .returned (.string ⟨(hex a0.toNat).toArray⟩) ∧ Below w.heap.size w w' := by
  obtain ⟨u, rfl⟩ := Int.eq_ofNat_of_zero_le h0
  rw [Int.toNat_natCast]
  have H := Lib.hid (fi_calls u w (by omega) hG_)
  generalize (⟨(hex u).toArray⟩ : ByteArray) = r at H ⊢
  clear hG_
  go_enter Tryd.func52, Tryd.ntmps52
  go_wp2_with (go_at_call 63; refine H.out.mono ?_; rintro e w' ⟨rfl, hb⟩)
  go_ret
  exact ⟨rfl, hb⟩
theorem itoa_calls (a0 : Int) (w : World) (h0 : -9223372036854775808 ≤ a0) (h1 : a0 ≤ 9223372036854775807) (hG_ : GInv w) :
    Calls Tryd.prog 109 #[.int .i64 a0] w fun e w' => e = .returned (.string ⟨(Lib.itoa a0).toArray⟩) ∧ Below w.heap.size w w' := by
  refine (Tryd.strconv_Itoa a0 h0 h1 w hG_.tab).mono ?_
  rintro e w' ⟨rfl, k, os, rfl⟩
  exact ⟨rfl, below_grow _ _ (Nat.le_refl _) _ _⟩
end Go.Proofs.YtnlicpihondmgaaDoor.Lex
