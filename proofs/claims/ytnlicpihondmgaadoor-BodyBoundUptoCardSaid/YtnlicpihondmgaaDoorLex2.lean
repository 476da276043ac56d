/- Package lexis, by hand: the library's ParseUint at one byte; own text of this session. -/
import Derived.Test.YtnlicpihondmgaaDoorLex1
import Derived.Test.YtnlicpihondmgaaDoorInv
import Derived.Test.YtnlicpihondmgaaDoorShelf
import Derived.Outline
import Derived.Lib.AtoiErrMem
namespace Go.Proofs.YtnlicpihondmgaaDoor.Lex
open Go.RowKit Go.Proofs.YtnlicpihondmgaaDoorW.PrintWords Go.Proofs.Hr Go.Shelf
set_option linter.unusedVariables false
theorem or32 : ∀ n : Nat, n < 256 → Go.bits .or .u8 (n : Int) 32 = ((n ||| 32 : Nat) : Int) := by decide +kernel
theorem or32_low : ∀ n : Nat, n < 256 → 97 ≤ n → n ≤ 122 → (n ||| 32) = n := by decide +kernel
theorem or32_up : ∀ n : Nat, n < 256 → 65 ≤ n → n ≤ 90 → (n ||| 32) = n + 32 := by decide +kernel
theorem or32_no : ∀ n : Nat, n < 256 → ¬ (97 ≤ n ∧ n ≤ 122) → ¬ (65 ≤ n ∧ n ≤ 90) → ¬ (97 ≤ (n ||| 32) ∧ (n ||| 32) ≤ 122) := by decide +kernel
theorem one_cell (c : UInt8) (w : World) (fr : Nat × Nat) (cap : Nat) : ((w.alloc (.cells (Go.bytesRow ⟨#[c]⟩ cap) 5 fr)).drew).cell? ⟨w.heap.size, 0, none⟩ = some (.int .u8 (c.toNat : Int)) := by
  unfold World.cell?
  have h : ((w.alloc (.cells (Go.bytesRow ⟨#[c]⟩ cap) 5 fr)).drew).heap[w.heap.size]? = some (.cells (Go.bytesRow ⟨#[c]⟩ cap) 5 fr) := by
    show (w.heap.push _)[_]? = _; simp
  simp only [h, Option.isSome_none, Bool.false_eq_true, if_false]
  unfold Go.bytesRow
  rw [Array.getElem?_append_left (by simp)]
  simp
theorem ret_pu {a b : Int} (h : a = b) : Ending.returned (.tuple #[.int .u64 a, .nilIface]) = .returned (.tuple #[.int .u64 b, .nilIface]) := by rw [h]
theorem below_new (w : World) (o : Obj) : Below w.heap.size w (w.alloc o).drew := ((Below.refl _ _).alloc (Nat.le_refl _) _).drew
/-- What ParseUint of the inside answers at one byte, base 16. -/
def pu16 (c : UInt8) : Value := match digitOf 16 c with
  | some d => .tuple #[.int .u64 d, .nilIface]
  | none => .tuple #[.int .u64 0, .iface 130 (.int .i64 2)]
set_option maxRecDepth 100000 in
set_option maxHeartbeats 2000000 in
theorem pu_digit (c : UInt8) (w : World) (h0 : 48 ≤ (c.toNat : Int)) (h1 : (c.toNat : Int) ≤ 57) :
    Calls Tryd.prog 78 #[.string ⟨#[c]⟩, .int .i64 16, .int .i64 8] w fun e w' => e = .returned (.tuple #[.int .u64 ((c.toNat : Int) - 48), .nilIface]) ∧ Below w.heap.size w w' := by
  have hcv := Go.run_bytes_of_string (P := Tryd.prog) w 9 22 5 ⟨#[c]⟩ Tryd.underlying9 Tryd.underlying22 Tryd.underlying5
  have hcell := one_cell c w ((bytesRow { data := #[c] } (grownCap w 1 0 5)).size, (bytesRow { data := #[c] } (grownCap w 1 0 5)).size + 1) (grownCap w 1 0 5)
  have hne : ((c.toNat : Int) == 95) = false ∨ True := .inr trivial
  clear hne
  have hne : ((c.toNat : Int) == 95) = false := by rw [beq_eq_false_iff_ne]; omega
  go_enter Tryd.func78, Tryd.ntmps78
  go_wp2
  refine wp_loop_rounds 2 ?_
  rw [rounds_succ]
  go_wp2
  all_goals first
    | (rw [rounds_succ]; go_wp2; go_ret2; first | exact ⟨rfl, below_new _ _⟩ | exact ⟨ret_pu (by omega), below_new _ _⟩)
    | (go_ret2; exact ⟨rfl, below_new _ _⟩)
set_option maxRecDepth 100000 in
set_option maxHeartbeats 2000000 in
theorem pu_low (c : UInt8) (w : World) (h0 : 97 ≤ (c.toNat : Int)) (h1 : (c.toNat : Int) ≤ 102) :
    Calls Tryd.prog 78 #[.string ⟨#[c]⟩, .int .i64 16, .int .i64 8] w fun e w' => e = .returned (.tuple #[.int .u64 ((c.toNat : Int) - 87), .nilIface]) ∧ Below w.heap.size w w' := by
  have hcv := Go.run_bytes_of_string (P := Tryd.prog) w 9 22 5 ⟨#[c]⟩ Tryd.underlying9 Tryd.underlying22 Tryd.underlying5
  have hcell := one_cell c w ((bytesRow { data := #[c] } (grownCap w 1 0 5)).size, (bytesRow { data := #[c] } (grownCap w 1 0 5)).size + 1) (grownCap w 1 0 5)
  have hne : ((c.toNat : Int) == 95) = false ∨ True := .inr trivial
  clear hne
  have hne : ((c.toNat : Int) == 95) = false := by rw [beq_eq_false_iff_ne]; omega
  have ho : Go.bits .or .u8 (c.toNat : Int) 32 = (c.toNat : Int) := by rw [or32 _ c.toNat_lt, or32_low _ c.toNat_lt (by omega) (by omega)]
  go_enter Tryd.func78, Tryd.ntmps78
  go_wp2
  refine wp_loop_rounds 2 ?_
  rw [rounds_succ]
  go_wp2
  all_goals first
    | (rw [rounds_succ]; go_wp2; go_ret2; first | exact ⟨rfl, below_new _ _⟩ | exact ⟨ret_pu (by omega), below_new _ _⟩)
    | (go_ret2; exact ⟨rfl, below_new _ _⟩)
set_option maxRecDepth 100000 in
set_option maxHeartbeats 2000000 in
theorem pu_low_no (c : UInt8) (w : World) (h0 : 103 ≤ (c.toNat : Int)) (h1 : (c.toNat : Int) ≤ 122) :
    Calls Tryd.prog 78 #[.string ⟨#[c]⟩, .int .i64 16, .int .i64 8] w fun e w' => e = .returned (.tuple #[.int .u64 0, .iface 130 (.int .i64 2)]) ∧ Below w.heap.size w w' := by
  have hcv := Go.run_bytes_of_string (P := Tryd.prog) w 9 22 5 ⟨#[c]⟩ Tryd.underlying9 Tryd.underlying22 Tryd.underlying5
  have hcell := one_cell c w ((bytesRow { data := #[c] } (grownCap w 1 0 5)).size, (bytesRow { data := #[c] } (grownCap w 1 0 5)).size + 1) (grownCap w 1 0 5)
  have hne : ((c.toNat : Int) == 95) = false ∨ True := .inr trivial
  clear hne
  have hne : ((c.toNat : Int) == 95) = false := by rw [beq_eq_false_iff_ne]; omega
  have ho : Go.bits .or .u8 (c.toNat : Int) 32 = (c.toNat : Int) := by rw [or32 _ c.toNat_lt, or32_low _ c.toNat_lt (by omega) (by omega)]
  go_enter Tryd.func78, Tryd.ntmps78
  go_wp2
  refine wp_loop_rounds 2 ?_
  rw [rounds_succ]
  go_wp2
  all_goals first
    | (rw [rounds_succ]; go_wp2; go_ret2; first | exact ⟨rfl, below_new _ _⟩ | exact ⟨ret_pu (by omega), below_new _ _⟩)
    | (go_ret2; exact ⟨rfl, below_new _ _⟩)
set_option maxRecDepth 100000 in
set_option maxHeartbeats 2000000 in
theorem pu_up (c : UInt8) (w : World) (h0 : 65 ≤ (c.toNat : Int)) (h1 : (c.toNat : Int) ≤ 70) :
    Calls Tryd.prog 78 #[.string ⟨#[c]⟩, .int .i64 16, .int .i64 8] w fun e w' => e = .returned (.tuple #[.int .u64 ((c.toNat : Int) - 55), .nilIface]) ∧ Below w.heap.size w w' := by
  have hcv := Go.run_bytes_of_string (P := Tryd.prog) w 9 22 5 ⟨#[c]⟩ Tryd.underlying9 Tryd.underlying22 Tryd.underlying5
  have hcell := one_cell c w ((bytesRow { data := #[c] } (grownCap w 1 0 5)).size, (bytesRow { data := #[c] } (grownCap w 1 0 5)).size + 1) (grownCap w 1 0 5)
  have hne : ((c.toNat : Int) == 95) = false ∨ True := .inr trivial
  clear hne
  have hne : ((c.toNat : Int) == 95) = false := by rw [beq_eq_false_iff_ne]; omega
  have ho : Go.bits .or .u8 (c.toNat : Int) 32 = (c.toNat : Int) + 32 := by rw [or32 _ c.toNat_lt, or32_up _ c.toNat_lt (by omega) (by omega)]; rfl
  go_enter Tryd.func78, Tryd.ntmps78
  go_wp2
  refine wp_loop_rounds 2 ?_
  rw [rounds_succ]
  go_wp2
  all_goals first
    | (rw [rounds_succ]; go_wp2; go_ret2; first | exact ⟨rfl, below_new _ _⟩ | exact ⟨ret_pu (by omega), below_new _ _⟩)
    | (go_ret2; exact ⟨rfl, below_new _ _⟩)
set_option maxRecDepth 100000 in
set_option maxHeartbeats 2000000 in
theorem pu_up_no (c : UInt8) (w : World) (h0 : 71 ≤ (c.toNat : Int)) (h1 : (c.toNat : Int) ≤ 90) :
    Calls Tryd.prog 78 #[.string ⟨#[c]⟩, .int .i64 16, .int .i64 8] w fun e w' => e = .returned (.tuple #[.int .u64 0, .iface 130 (.int .i64 2)]) ∧ Below w.heap.size w w' := by
  have hcv := Go.run_bytes_of_string (P := Tryd.prog) w 9 22 5 ⟨#[c]⟩ Tryd.underlying9 Tryd.underlying22 Tryd.underlying5
  have hcell := one_cell c w ((bytesRow { data := #[c] } (grownCap w 1 0 5)).size, (bytesRow { data := #[c] } (grownCap w 1 0 5)).size + 1) (grownCap w 1 0 5)
  have hne : ((c.toNat : Int) == 95) = false ∨ True := .inr trivial
  clear hne
  have hne : ((c.toNat : Int) == 95) = false := by rw [beq_eq_false_iff_ne]; omega
  have ho : Go.bits .or .u8 (c.toNat : Int) 32 = (c.toNat : Int) + 32 := by rw [or32 _ c.toNat_lt, or32_up _ c.toNat_lt (by omega) (by omega)]; rfl
  go_enter Tryd.func78, Tryd.ntmps78
  go_wp2
  refine wp_loop_rounds 2 ?_
  rw [rounds_succ]
  go_wp2
  all_goals first
    | (rw [rounds_succ]; go_wp2; go_ret2; first | exact ⟨rfl, below_new _ _⟩ | exact ⟨ret_pu (by omega), below_new _ _⟩)
    | (go_ret2; exact ⟨rfl, below_new _ _⟩)
set_option maxRecDepth 100000 in
set_option maxHeartbeats 2000000 in
theorem pu_none (c : UInt8) (w : World) (h0 : ¬ (48 ≤ (c.toNat : Int) ∧ (c.toNat : Int) ≤ 57)) (h1 : ¬ (97 ≤ (c.toNat : Int) ∧ (c.toNat : Int) ≤ 122)) (h2 : ¬ (65 ≤ (c.toNat : Int) ∧ (c.toNat : Int) ≤ 90)) :
    Calls Tryd.prog 78 #[.string ⟨#[c]⟩, .int .i64 16, .int .i64 8] w fun e w' => e = .returned (.tuple #[.int .u64 0, .iface 130 (.int .i64 2)]) ∧ Below w.heap.size w w' := by
  have hcv := Go.run_bytes_of_string (P := Tryd.prog) w 9 22 5 ⟨#[c]⟩ Tryd.underlying9 Tryd.underlying22 Tryd.underlying5
  have hcell := one_cell c w ((bytesRow { data := #[c] } (grownCap w 1 0 5)).size, (bytesRow { data := #[c] } (grownCap w 1 0 5)).size + 1) (grownCap w 1 0 5)
  have hne : ((c.toNat : Int) == 95) = false ∨ True := .inr trivial
  clear hne
  have hov : ∃ v : Int, Go.bits .or .u8 (c.toNat : Int) 32 = v ∧ ¬ (97 ≤ v ∧ v ≤ 122) ∧ 0 ≤ v ∧ v < 256 := ⟨_, or32 _ c.toNat_lt, by have := or32_no _ c.toNat_lt (by omega) (by omega); omega, by omega, by have : c.toNat ||| 32 < 2 ^ 8 := Nat.or_lt_two_pow c.toNat_lt (by decide); omega⟩
  obtain ⟨v, ho, hv, hv0, hv1⟩ := hov
  go_enter Tryd.func78, Tryd.ntmps78
  go_wp2
  refine wp_loop_rounds 2 ?_
  rw [rounds_succ]
  go_wp2
  all_goals first
    | (rw [rounds_succ]; go_wp2; go_ret2; first | exact ⟨rfl, below_new _ _⟩ | exact ⟨ret_pu (by omega), below_new _ _⟩)
    | (go_ret2; exact ⟨rfl, below_new _ _⟩)
theorem below_bw (w : World) (e : TypeId) (s : ByteArray) : Below w.heap.size w (Lib.bytesWorld w e s) := Lib.bytesWorld_below w e s
/-- What ParseUint answers at one byte. -/
def PuAns (base : Nat) (c : UInt8) (w : World) (e : Ending) (w' : World) : Prop :=
  (∃ x er, e = .returned (.tuple #[.int .u64 x, er]) ∧ match digitOf base c with
    | some d => x = (d : Int) ∧ er = .nilIface
    | none => ∃ t p, er = .iface t (.pointer p)) ∧ Below w.heap.size w w'
theorem digit_eq (base : Nat) (c : UInt8) (h0 : 48 ≤ c.toNat) (h1 : c.toNat ≤ 57) (hb : c.toNat - 48 < base) : digitOf base c = some (c.toNat - 48) := by
  unfold digitOf
  rw [if_pos (by simp only [Bool.and_eq_true, decide_eq_true_eq, UInt8.le_iff_toNat_le]; exact ⟨h0, h1⟩), if_pos hb]
theorem digitOf_all : ∀ n : Nat, n < 256 → digitOf 16 (UInt8.ofNat n) = (if 48 ≤ n ∧ n ≤ 57 then some (n - 48) else if 97 ≤ n ∧ n ≤ 102 then some (n - 87) else if 65 ≤ n ∧ n ≤ 70 then some (n - 55) else none) := by decide +kernel
theorem digitOf_16 (c : UInt8) : digitOf 16 c = (if 48 ≤ c.toNat ∧ c.toNat ≤ 57 then some (c.toNat - 48) else if 97 ≤ c.toNat ∧ c.toNat ≤ 102 then some (c.toNat - 87) else if 65 ≤ c.toNat ∧ c.toNat ≤ 70 then some (c.toNat - 55) else none) := by
  have h := digitOf_all c.toNat c.toNat_lt
  rwa [UInt8.ofNat_toNat] at h
set_option maxRecDepth 100000 in
set_option maxHeartbeats 2000000 in
theorem pub_ok (c : UInt8) (d : Int) (w : World) (h : Calls Tryd.prog 78 #[.string ⟨#[c]⟩, .int .i64 16, .int .i64 8] w fun e w' => e = .returned (.tuple #[.int .u64 d, .nilIface]) ∧ Below w.heap.size w w') :
    Calls Tryd.prog 67 #[.string ⟨#[c]⟩, .int .i64 16, .int .i64 8] w fun e w' => e = .returned (.tuple #[.int .u64 d, .nilIface]) ∧ Below w.heap.size w w' := by
  have H := Lib.hid h
  clear h
  go_enter Tryd.func67, Tryd.ntmps67
  go_wp2_with (go_at_call 78; refine H.out.mono ?_; rintro e w1 ⟨rfl, hb⟩)
  go_ret2
  exact ⟨rfl, hb⟩
set_option maxRecDepth 100000 in
set_option maxHeartbeats 2000000 in
theorem pub_no (c : UInt8) (w : World) (hG : GInv w) (h : Calls Tryd.prog 78 #[.string ⟨#[c]⟩, .int .i64 16, .int .i64 8] w fun e w' => e = .returned (.tuple #[.int .u64 0, .iface 130 (.int .i64 2)]) ∧ Below w.heap.size w w') :
    Calls Tryd.prog 67 #[.string ⟨#[c]⟩, .int .i64 16, .int .i64 8] w fun e w' => (∃ p, e = .returned (.tuple #[.int .u64 0, .iface 132 (.pointer p)])) ∧ Below w.heap.size w w' := by
  have H := Lib.hid h
  clear h
  go_enter Tryd.func67, Tryd.ntmps67
  go_wp2_with fail
  refine H.out.mono ?_
  rintro e w1 ⟨rfl, hb⟩
  have HB := Aside0.mk hb
  have HG := Aside0.mk (hG.below hb)
  clear hb
  go_wp2_with fail
  obtain ⟨tp, p, hv⟩ := HG.out.syn
  have hev := Lib.hid (cell_of_var (g := 2) (by kernel_rfl) hv)
  clear hv
  refine (AnyPu.strconv_toError_syntax { Tryd.laysPu14 with } _ _ _ _ (.iface tp p) _ (by show 1 ≤ _; decide) hev.out (.inr ⟨_, _, rfl⟩)).mono ?_
  rintro e w2 ⟨N, rfl, _, _, hb2⟩
  have HB2 := Aside0.mk hb2
  clear hb2
  go_wp2
  go_ret2
  exact ⟨⟨_, rfl⟩, HB.out.trans (HB2.out.mono HB.out.size)⟩
theorem pu_calls16 (c : UInt8) (w : World) (hG : GInv w) : Calls Tryd.prog 67 #[.string ⟨#[c]⟩, .int .i64 16, .int .i64 8] w (PuAns 16 c w) := by
  unfold PuAns
  rw [digitOf_16 c]
  by_cases h1 : 48 ≤ c.toNat ∧ c.toNat ≤ 57
  · rw [if_pos h1]
    exact (pub_ok c _ w (pu_digit c w (by omega) (by omega))).mono fun e w' ⟨he, hb⟩ => ⟨⟨_, _, he, by omega, rfl⟩, hb⟩
  rw [if_neg h1]
  by_cases h2 : 97 ≤ c.toNat ∧ c.toNat ≤ 102
  · rw [if_pos h2]
    exact (pub_ok c _ w (pu_low c w (by omega) (by omega))).mono fun e w' ⟨he, hb⟩ => ⟨⟨_, _, he, by omega, rfl⟩, hb⟩
  rw [if_neg h2]
  by_cases h3 : 65 ≤ c.toNat ∧ c.toNat ≤ 70
  · rw [if_pos h3]
    exact (pub_ok c _ w (pu_up c w (by omega) (by omega))).mono fun e w' ⟨he, hb⟩ => ⟨⟨_, _, he, by omega, rfl⟩, hb⟩
  rw [if_neg h3]
  have hno : Calls Tryd.prog 78 #[.string ⟨#[c]⟩, .int .i64 16, .int .i64 8] w fun e w' => e = .returned (.tuple #[.int .u64 0, .iface 130 (.int .i64 2)]) ∧ Below w.heap.size w w' := by
    by_cases h4 : 103 ≤ c.toNat ∧ c.toNat ≤ 122
    · exact pu_low_no c w (by omega) (by omega)
    by_cases h5 : 71 ≤ c.toNat ∧ c.toNat ≤ 90
    · exact pu_up_no c w (by omega) (by omega)
    exact pu_none c w (by omega) (by omega) (by omega)
  exact (pub_no c w hG hno).mono fun e w' ⟨⟨p, he⟩, hb⟩ => ⟨⟨_, _, he, _, _, rfl⟩, hb⟩
theorem pu10_all : ∀ n : Nat, n < 256 → Lib.parseUintB 8 [UInt8.ofNat n] = (match digitOf 10 (UInt8.ofNat n) with | some d => .ok d | none => Lib.parseUintB 8 []) := by decide +kernel
theorem pu10 (c : UInt8) : Lib.parseUintB 8 [c] = (match digitOf 10 c with | some d => .ok d | none => Lib.parseUintB 8 []) := by
  have h := pu10_all c.toNat c.toNat_lt
  rwa [UInt8.ofNat_toNat] at h
theorem pu_calls10 (c : UInt8) (w : World) (hG : GInv w) : Calls Tryd.prog 67 #[.string ⟨#[c]⟩, .int .i64 10, .int .i64 8] w (PuAns 10 c w) := by
  unfold PuAns
  have h := pu10 c
  cases hd : digitOf 10 c with
  | some d =>
    rw [hd] at h
    refine (Tryd.strconv_ParseUint_10_at8_ok ⟨#[c]⟩ (by show 1 ≤ _; decide) d h w).mono fun e w' ⟨he, hw⟩ => ⟨⟨_, _, he, rfl, rfl⟩, ?_⟩
    rcases hw with rfl | rfl
    · exact Below.refl _ _
    · exact below_bw _ _ _
  | none =>
    rw [hd] at h
    obtain ⟨tp, p, hv⟩ := hG.syn
    exact (Any.strconv_ParseUint_10_at8_syntax_var Tryd.laysPu14 ⟨#[c]⟩ (by show 1 ≤ _; decide) (h.trans (by decide +kernel)) tp p w hv).mono fun e w' ⟨N, he, _, _, hb⟩ => ⟨⟨_, _, he, _, _, rfl⟩, hb⟩
end Go.Proofs.YtnlicpihondmgaaDoor.Lex
