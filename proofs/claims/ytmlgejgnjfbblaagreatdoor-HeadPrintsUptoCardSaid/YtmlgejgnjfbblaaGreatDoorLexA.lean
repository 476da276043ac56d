/- Package lexis, by hand: what Lower comes to; own text of this session. -/
import Derived.Test.YtmlgejgnjfbblaaGreatDoorProg
import Derived.Test.YtmlgejgnjfbblaaGreatDoorSpec
import Derived.Test.YtmlgejgnjfbblaaGreatDoorBytes
import Derived.Laws.IdiomStrings
import Derived.Lib.ConvBytes
import Derived.WalkSpells
import Derived.Outline
import Derived.Test.YtmlgejgnjfbblaaGreatDoorInv
import Derived.Test.YtmlgejgnjfbblaaGreatDoorShelf
import Derived.Lib.AtoiErrMem
import Derived.Shelf.Strings.SlTrimAscii
import Derived.Lib.AppendIntMem
namespace Go.Proofs.YtmlgejgnjfbblaaGreatDoor.Lex
open Go.RowKit Go.Proofs.YtmlgejgnjfbblaaGreatDoorW.PrintWords Go.Proofs.Hr
set_option linter.unusedVariables false
end Go.Proofs.YtmlgejgnjfbblaaGreatDoor.Lex
/- Package lexis, by hand: the library's ParseUint at one byte; own text of this session. -/
namespace Go.Proofs.YtmlgejgnjfbblaaGreatDoor.Lex
open Go.RowKit Go.Proofs.YtmlgejgnjfbblaaGreatDoorW.PrintWords Go.Proofs.Hr Go.Shelf
set_option linter.unusedVariables false
theorem or32 : ∀ n : Nat, n < 256 → Go.bits .or .u8 (n : Int) 32 = ((n ||| 32 : Nat) : Int) := by decide +kernel
theorem or32_low : ∀ n : Nat, n < 256 → 97 ≤ n → n ≤ 122 → (n ||| 32) = n := by decide +kernel
theorem or32_up : ∀ n : Nat, n < 256 → 65 ≤ n → n ≤ 90 → (n ||| 32) = n + 32 := by decide +kernel
theorem or32_no : ∀ n : Nat, n < 256 → ¬ (97 ≤ n ∧ n ≤ 122) → ¬ (65 ≤ n ∧ n ≤ 90) → ¬ (97 ≤ (n ||| 32) ∧ (n ||| 32) ≤ 122) := by decide +kernel
theorem one_cell (c : UInt8) (w : World) (fr : Nat × Nat) (cap : Nat) : ((w.alloc (.cells (Go.bytesRow ⟨#[c]⟩ cap) 5 fr)).drew).cell? ⟨w.heap.size, 0, none⟩ = some (.int .u8 (c.toNat : Int)) := by
  unfold World.cell?
  have h : ((w.alloc (.cells (Go.bytesRow ⟨#[c]⟩ cap) 5 fr)).drew).heap[w.heap.size]? = some (.cells (Go.bytesRow ⟨#[c]⟩ cap) 5 fr) := by
    show (w.heap.push _)[_]? = _; simp
  simp only [h, Option.isSome_none, Bool.false_eq_true, if_false]
  unfold Go.bytesRow
  rw [Array.getElem?_append_left (by simp)]
  simp
theorem ret_pu {a b : Int} (h : a = b) : Ending.returned (.tuple #[.int .u64 a, .nilIface]) = .returned (.tuple #[.int .u64 b, .nilIface]) := by rw [h]
theorem below_new (w : World) (o : Obj) : Below w.heap.size w (w.alloc o).drew := ((Below.refl _ _).alloc (Nat.le_refl _) _).drew
set_option maxRecDepth 100000 in
set_option maxHeartbeats 2000000 in
theorem pu_digit (c : UInt8) (w : World) (h0 : 48 ≤ (c.toNat : Int)) (h1 : (c.toNat : Int) ≤ 57) :
    Calls Tryz.prog 95 #[.string ⟨#[c]⟩, .int .i64 16, .int .i64 8] w fun e w' => e = .returned (.tuple #[.int .u64 ((c.toNat : Int) - 48), .nilIface]) ∧ Below w.heap.size w w' := by
  have hcv := Go.run_bytes_of_string (P := Tryz.prog) w 9 33 5 ⟨#[c]⟩ Tryz.underlying9 Tryz.underlying33 Tryz.underlying5
  have hcell := one_cell c w ((bytesRow { data := #[c] } (grownCap w 1 0 5)).size, (bytesRow { data := #[c] } (grownCap w 1 0 5)).size + 1) (grownCap w 1 0 5)
  have hne : ((c.toNat : Int) == 95) = false ∨ True := .inr trivial
  clear hne
  have hne : ((c.toNat : Int) == 95) = false := by rw [beq_eq_false_iff_ne]; omega
  go_enter Tryz.func95, Tryz.ntmps95
  go_wp2
  refine wp_loop_rounds 2 ?_
  rw [rounds_succ]
  go_wp2
  all_goals first
    | (rw [rounds_succ]; go_wp2; go_ret2; first | exact ⟨rfl, below_new _ _⟩ | exact ⟨ret_pu (by omega), below_new _ _⟩)
    | (go_ret2; exact ⟨rfl, below_new _ _⟩)
set_option maxRecDepth 100000 in
set_option maxHeartbeats 2000000 in
theorem pu_low (c : UInt8) (w : World) (h0 : 97 ≤ (c.toNat : Int)) (h1 : (c.toNat : Int) ≤ 102) :
    Calls Tryz.prog 95 #[.string ⟨#[c]⟩, .int .i64 16, .int .i64 8] w fun e w' => e = .returned (.tuple #[.int .u64 ((c.toNat : Int) - 87), .nilIface]) ∧ Below w.heap.size w w' := by
  have hcv := Go.run_bytes_of_string (P := Tryz.prog) w 9 33 5 ⟨#[c]⟩ Tryz.underlying9 Tryz.underlying33 Tryz.underlying5
  have hcell := one_cell c w ((bytesRow { data := #[c] } (grownCap w 1 0 5)).size, (bytesRow { data := #[c] } (grownCap w 1 0 5)).size + 1) (grownCap w 1 0 5)
  have hne : ((c.toNat : Int) == 95) = false ∨ True := .inr trivial
  clear hne
  have hne : ((c.toNat : Int) == 95) = false := by rw [beq_eq_false_iff_ne]; omega
  have ho : Go.bits .or .u8 (c.toNat : Int) 32 = (c.toNat : Int) := by rw [or32 _ c.toNat_lt, or32_low _ c.toNat_lt (by omega) (by omega)]
  go_enter Tryz.func95, Tryz.ntmps95
  go_wp2
  refine wp_loop_rounds 2 ?_
  rw [rounds_succ]
  go_wp2
  all_goals first
    | (rw [rounds_succ]; go_wp2; go_ret2; first | exact ⟨rfl, below_new _ _⟩ | exact ⟨ret_pu (by omega), below_new _ _⟩)
    | (go_ret2; exact ⟨rfl, below_new _ _⟩)
set_option maxRecDepth 100000 in
set_option maxHeartbeats 2000000 in
theorem pu_low_no (c : UInt8) (w : World) (h0 : 103 ≤ (c.toNat : Int)) (h1 : (c.toNat : Int) ≤ 122) :
    Calls Tryz.prog 95 #[.string ⟨#[c]⟩, .int .i64 16, .int .i64 8] w fun e w' => e = .returned (.tuple #[.int .u64 0, .iface 158 (.int .i64 2)]) ∧ Below w.heap.size w w' := by
  have hcv := Go.run_bytes_of_string (P := Tryz.prog) w 9 33 5 ⟨#[c]⟩ Tryz.underlying9 Tryz.underlying33 Tryz.underlying5
  have hcell := one_cell c w ((bytesRow { data := #[c] } (grownCap w 1 0 5)).size, (bytesRow { data := #[c] } (grownCap w 1 0 5)).size + 1) (grownCap w 1 0 5)
  have hne : ((c.toNat : Int) == 95) = false ∨ True := .inr trivial
  clear hne
  have hne : ((c.toNat : Int) == 95) = false := by rw [beq_eq_false_iff_ne]; omega
  have ho : Go.bits .or .u8 (c.toNat : Int) 32 = (c.toNat : Int) := by rw [or32 _ c.toNat_lt, or32_low _ c.toNat_lt (by omega) (by omega)]
  go_enter Tryz.func95, Tryz.ntmps95
  go_wp2
  refine wp_loop_rounds 2 ?_
  rw [rounds_succ]
  go_wp2
  all_goals first
    | (rw [rounds_succ]; go_wp2; go_ret2; first | exact ⟨rfl, below_new _ _⟩ | exact ⟨ret_pu (by omega), below_new _ _⟩)
    | (go_ret2; exact ⟨rfl, below_new _ _⟩)
set_option maxRecDepth 100000 in
set_option maxHeartbeats 2000000 in
theorem pu_up (c : UInt8) (w : World) (h0 : 65 ≤ (c.toNat : Int)) (h1 : (c.toNat : Int) ≤ 70) :
    Calls Tryz.prog 95 #[.string ⟨#[c]⟩, .int .i64 16, .int .i64 8] w fun e w' => e = .returned (.tuple #[.int .u64 ((c.toNat : Int) - 55), .nilIface]) ∧ Below w.heap.size w w' := by
  have hcv := Go.run_bytes_of_string (P := Tryz.prog) w 9 33 5 ⟨#[c]⟩ Tryz.underlying9 Tryz.underlying33 Tryz.underlying5
  have hcell := one_cell c w ((bytesRow { data := #[c] } (grownCap w 1 0 5)).size, (bytesRow { data := #[c] } (grownCap w 1 0 5)).size + 1) (grownCap w 1 0 5)
  have hne : ((c.toNat : Int) == 95) = false ∨ True := .inr trivial
  clear hne
  have hne : ((c.toNat : Int) == 95) = false := by rw [beq_eq_false_iff_ne]; omega
  have ho : Go.bits .or .u8 (c.toNat : Int) 32 = (c.toNat : Int) + 32 := by rw [or32 _ c.toNat_lt, or32_up _ c.toNat_lt (by omega) (by omega)]; rfl
  go_enter Tryz.func95, Tryz.ntmps95
  go_wp2
  refine wp_loop_rounds 2 ?_
  rw [rounds_succ]
  go_wp2
  all_goals first
    | (rw [rounds_succ]; go_wp2; go_ret2; first | exact ⟨rfl, below_new _ _⟩ | exact ⟨ret_pu (by omega), below_new _ _⟩)
    | (go_ret2; exact ⟨rfl, below_new _ _⟩)
set_option maxRecDepth 100000 in
set_option maxHeartbeats 2000000 in
theorem pu_up_no (c : UInt8) (w : World) (h0 : 71 ≤ (c.toNat : Int)) (h1 : (c.toNat : Int) ≤ 90) :
    Calls Tryz.prog 95 #[.string ⟨#[c]⟩, .int .i64 16, .int .i64 8] w fun e w' => e = .returned (.tuple #[.int .u64 0, .iface 158 (.int .i64 2)]) ∧ Below w.heap.size w w' := by
  have hcv := Go.run_bytes_of_string (P := Tryz.prog) w 9 33 5 ⟨#[c]⟩ Tryz.underlying9 Tryz.underlying33 Tryz.underlying5
  have hcell := one_cell c w ((bytesRow { data := #[c] } (grownCap w 1 0 5)).size, (bytesRow { data := #[c] } (grownCap w 1 0 5)).size + 1) (grownCap w 1 0 5)
  have hne : ((c.toNat : Int) == 95) = false ∨ True := .inr trivial
  clear hne
  have hne : ((c.toNat : Int) == 95) = false := by rw [beq_eq_false_iff_ne]; omega
  have ho : Go.bits .or .u8 (c.toNat : Int) 32 = (c.toNat : Int) + 32 := by rw [or32 _ c.toNat_lt, or32_up _ c.toNat_lt (by omega) (by omega)]; rfl
  go_enter Tryz.func95, Tryz.ntmps95
  go_wp2
  refine wp_loop_rounds 2 ?_
  rw [rounds_succ]
  go_wp2
  all_goals first
    | (rw [rounds_succ]; go_wp2; go_ret2; first | exact ⟨rfl, below_new _ _⟩ | exact ⟨ret_pu (by omega), below_new _ _⟩)
    | (go_ret2; exact ⟨rfl, below_new _ _⟩)
set_option maxRecDepth 100000 in
set_option maxHeartbeats 2000000 in
theorem pu_none (c : UInt8) (w : World) (h0 : ¬ (48 ≤ (c.toNat : Int) ∧ (c.toNat : Int) ≤ 57)) (h1 : ¬ (97 ≤ (c.toNat : Int) ∧ (c.toNat : Int) ≤ 122)) (h2 : ¬ (65 ≤ (c.toNat : Int) ∧ (c.toNat : Int) ≤ 90)) :
    Calls Tryz.prog 95 #[.string ⟨#[c]⟩, .int .i64 16, .int .i64 8] w fun e w' => e = .returned (.tuple #[.int .u64 0, .iface 158 (.int .i64 2)]) ∧ Below w.heap.size w w' := by
  have hcv := Go.run_bytes_of_string (P := Tryz.prog) w 9 33 5 ⟨#[c]⟩ Tryz.underlying9 Tryz.underlying33 Tryz.underlying5
  have hcell := one_cell c w ((bytesRow { data := #[c] } (grownCap w 1 0 5)).size, (bytesRow { data := #[c] } (grownCap w 1 0 5)).size + 1) (grownCap w 1 0 5)
  have hne : ((c.toNat : Int) == 95) = false ∨ True := .inr trivial
  clear hne
  have hov : ∃ v : Int, Go.bits .or .u8 (c.toNat : Int) 32 = v ∧ ¬ (97 ≤ v ∧ v ≤ 122) ∧ 0 ≤ v ∧ v < 256 := ⟨_, or32 _ c.toNat_lt, by have := or32_no _ c.toNat_lt (by omega) (by omega); omega, by omega, by have : c.toNat ||| 32 < 2 ^ 8 := Nat.or_lt_two_pow c.toNat_lt (by decide); omega⟩
  obtain ⟨v, ho, hv, hv0, hv1⟩ := hov
  go_enter Tryz.func95, Tryz.ntmps95
  go_wp2
  refine wp_loop_rounds 2 ?_
  rw [rounds_succ]
  go_wp2
  all_goals first
    | (rw [rounds_succ]; go_wp2; go_ret2; first | exact ⟨rfl, below_new _ _⟩ | exact ⟨ret_pu (by omega), below_new _ _⟩)
    | (go_ret2; exact ⟨rfl, below_new _ _⟩)
theorem below_bw (w : World) (e : TypeId) (s : ByteArray) : Below w.heap.size w (Lib.bytesWorld w e s) := Lib.bytesWorld_below w e s
/-- What ParseUint answers at one byte. -/
def PuAns (base : Nat) (c : UInt8) (w : World) (e : Ending) (w' : World) : Prop :=
  (∃ x er, e = .returned (.tuple #[.int .u64 x, er]) ∧ match digitOf base c with
    | some d => x = (d : Int) ∧ er = .nilIface
    | none => ∃ t p, er = .iface t (.pointer p)) ∧ Below w.heap.size w w'
theorem digitOf_all : ∀ n : Nat, n < 256 → digitOf 16 (UInt8.ofNat n) = (if 48 ≤ n ∧ n ≤ 57 then some (n - 48) else if 97 ≤ n ∧ n ≤ 102 then some (n - 87) else if 65 ≤ n ∧ n ≤ 70 then some (n - 55) else none) := by decide +kernel
theorem digitOf_16 (c : UInt8) : digitOf 16 c = (if 48 ≤ c.toNat ∧ c.toNat ≤ 57 then some (c.toNat - 48) else if 97 ≤ c.toNat ∧ c.toNat ≤ 102 then some (c.toNat - 87) else if 65 ≤ c.toNat ∧ c.toNat ≤ 70 then some (c.toNat - 55) else none) := by
  have h := digitOf_all c.toNat c.toNat_lt
  rwa [UInt8.ofNat_toNat] at h
set_option maxRecDepth 100000 in
set_option maxHeartbeats 2000000 in
theorem pub_ok (c : UInt8) (d : Int) (w : World) (h : Calls Tryz.prog 95 #[.string ⟨#[c]⟩, .int .i64 16, .int .i64 8] w fun e w' => e = .returned (.tuple #[.int .u64 d, .nilIface]) ∧ Below w.heap.size w w') :
    Calls Tryz.prog 73 #[.string ⟨#[c]⟩, .int .i64 16, .int .i64 8] w fun e w' => e = .returned (.tuple #[.int .u64 d, .nilIface]) ∧ Below w.heap.size w w' := by
  have H := Lib.hid h
  clear h
  go_enter Tryz.func73, Tryz.ntmps73
  go_wp2_with (go_at_call 95; refine H.out.mono ?_; rintro e w1 ⟨rfl, hb⟩)
  go_ret2
  exact ⟨rfl, hb⟩
set_option maxRecDepth 100000 in
set_option maxHeartbeats 2000000 in
theorem pub_no (c : UInt8) (w : World) (hG : GInv w) (h : Calls Tryz.prog 95 #[.string ⟨#[c]⟩, .int .i64 16, .int .i64 8] w fun e w' => e = .returned (.tuple #[.int .u64 0, .iface 158 (.int .i64 2)]) ∧ Below w.heap.size w w') :
    Calls Tryz.prog 73 #[.string ⟨#[c]⟩, .int .i64 16, .int .i64 8] w fun e w' => (∃ p, e = .returned (.tuple #[.int .u64 0, .iface 160 (.pointer p)])) ∧ Below w.heap.size w w' := by
  have H := Lib.hid h
  clear h
  go_enter Tryz.func73, Tryz.ntmps73
  go_wp2_with fail
  refine H.out.mono ?_
  rintro e w1 ⟨rfl, hb⟩
  have HB := Aside0.mk hb
  have HG := Aside0.mk (hG.below hb)
  clear hb
  go_wp2_with fail
  obtain ⟨tp, p, hv⟩ := HG.out.syn
  have hev := Lib.hid (cell_of_var (g := 7) (by kernel_rfl) hv)
  clear hv
  refine (AnyPu.strconv_toError_syntax { Tryz.laysPu14 with } _ _ _ _ (.iface tp p) _ (by show 1 ≤ _; decide) hev.out (.inr ⟨_, _, rfl⟩)).mono ?_
  rintro e w2 ⟨N, rfl, _, _, hb2⟩
  have HB2 := Aside0.mk hb2
  clear hb2
  go_wp2
  go_ret2
  exact ⟨⟨_, rfl⟩, HB.out.trans (HB2.out.mono HB.out.size)⟩
theorem pu_calls16 (c : UInt8) (w : World) (hG : GInv w) : Calls Tryz.prog 73 #[.string ⟨#[c]⟩, .int .i64 16, .int .i64 8] w (PuAns 16 c w) := by
  unfold PuAns
  rw [digitOf_16 c]
  by_cases h1 : 48 ≤ c.toNat ∧ c.toNat ≤ 57
  · rw [if_pos h1]
    exact (pub_ok c _ w (pu_digit c w (by omega) (by omega))).mono fun e w' ⟨he, hb⟩ => ⟨⟨_, _, he, by omega, rfl⟩, hb⟩
  rw [if_neg h1]
  by_cases h2 : 97 ≤ c.toNat ∧ c.toNat ≤ 102
  · rw [if_pos h2]
    exact (pub_ok c _ w (pu_low c w (by omega) (by omega))).mono fun e w' ⟨he, hb⟩ => ⟨⟨_, _, he, by omega, rfl⟩, hb⟩
  rw [if_neg h2]
  by_cases h3 : 65 ≤ c.toNat ∧ c.toNat ≤ 70
  · rw [if_pos h3]
    exact (pub_ok c _ w (pu_up c w (by omega) (by omega))).mono fun e w' ⟨he, hb⟩ => ⟨⟨_, _, he, by omega, rfl⟩, hb⟩
  rw [if_neg h3]
  have hno : Calls Tryz.prog 95 #[.string ⟨#[c]⟩, .int .i64 16, .int .i64 8] w fun e w' => e = .returned (.tuple #[.int .u64 0, .iface 158 (.int .i64 2)]) ∧ Below w.heap.size w w' := by
    by_cases h4 : 103 ≤ c.toNat ∧ c.toNat ≤ 122
    · exact pu_low_no c w (by omega) (by omega)
    by_cases h5 : 71 ≤ c.toNat ∧ c.toNat ≤ 90
    · exact pu_up_no c w (by omega) (by omega)
    exact pu_none c w (by omega) (by omega) (by omega)
  exact (pub_no c w hG hno).mono fun e w' ⟨⟨p, he⟩, hb⟩ => ⟨⟨_, _, he, _, _, rfl⟩, hb⟩
theorem pu10_all : ∀ n : Nat, n < 256 → Lib.parseUintB 8 [UInt8.ofNat n] = (match digitOf 10 (UInt8.ofNat n) with | some d => .ok d | none => Lib.parseUintB 8 []) := by decide +kernel
theorem pu10 (c : UInt8) : Lib.parseUintB 8 [c] = (match digitOf 10 c with | some d => .ok d | none => Lib.parseUintB 8 []) := by
  have h := pu10_all c.toNat c.toNat_lt
  rwa [UInt8.ofNat_toNat] at h
theorem pu_calls10 (c : UInt8) (w : World) (hG : GInv w) : Calls Tryz.prog 73 #[.string ⟨#[c]⟩, .int .i64 10, .int .i64 8] w (PuAns 10 c w) := by
  unfold PuAns
  have h := pu10 c
  cases hd : digitOf 10 c with
  | some d =>
    rw [hd] at h
    refine (Tryz.strconv_ParseUint_10_at8_ok ⟨#[c]⟩ (by show 1 ≤ _; decide) d h w).mono fun e w' ⟨he, hw⟩ => ⟨⟨_, _, he, rfl, rfl⟩, ?_⟩
    rcases hw with rfl | rfl
    · exact Below.refl _ _
    · exact below_bw _ _ _
  | none =>
    rw [hd] at h
    obtain ⟨tp, p, hv⟩ := hG.syn
    exact (Any.strconv_ParseUint_10_at8_syntax_var Tryz.laysPu14 ⟨#[c]⟩ (by show 1 ≤ _; decide) (h.trans (by decide +kernel)) tp p w hv).mono fun e w' ⟨N, he, _, _, hb⟩ => ⟨⟨_, _, he, _, _, rfl⟩, hb⟩
end Go.Proofs.YtmlgejgnjfbblaaGreatDoor.Lex
/- Package lexis, by hand: what digits comes to; own text of this session. -/
namespace Go.Proofs.YtmlgejgnjfbblaaGreatDoor.Lex
open Go.RowKit Go.Proofs.YtmlgejgnjfbblaaGreatDoorW.PrintWords Go.Proofs.Hr Go.Shelf
set_option linter.unusedVariables false
theorem one_extract (a0 : ByteArray) (l : Bs) (hl : l = a0.data.toList) (k : Nat) (h : k < l.length) : a0.extract k (k + 1) = ⟨#[l[k]'h]⟩ := by
  subst hl
  have h' : k < a0.data.size := by simpa using h
  apply ByteArray.ext
  rw [ByteArray.data_extract]
  apply Array.ext
  · have e1 : a0.data.size = a0.size := rfl
    simp; omega
  · intro i h1 h2
    have : i = 0 := by simp at h2; omega
    subst this
    simp
/-- The numbers so far. -/
def dg (base : Nat) (l : Bs) (r : Int × Int) (n : Nat) (big : Bool) : Prop :=
  (match digitsGo base l n big with
  | none => (0, 50)
  | some (n, big) => if big then (0, 51) else ((n : Int), 0)) = r
theorem dg_start (base : Nat) (s : Bs) (hs : s ≠ []) (r : Int × Int) (h : Hr.digits base s = r) : dg base s r 0 false := by
  unfold Hr.digits at h
  unfold dg
  rw [← h]
  cases digitsGo base s 0 false with
  | none => rfl
  | some x => simp [hs]
theorem dg_none {base : Nat} {c : UInt8} {l : Bs} {r : Int × Int} {n : Nat} {big : Bool} (h : dg base (c :: l) r n big) (hd : digitOf base c = none) : r = (0, 50) := by
  unfold dg at h
  simp only [digitsGo, hd] at h
  exact h.symm
theorem dg_big {base : Nat} {c : UInt8} {l : Bs} {r : Int × Int} {n d : Nat} (h : dg base (c :: l) r n true) (hd : digitOf base c = some d) : dg base l r n true := by
  unfold dg at h ⊢
  simpa only [digitsGo, hd, if_true] using h
theorem dg_some {base : Nat} {c : UInt8} {l : Bs} {r : Int × Int} {n d : Nat} (h : dg base (c :: l) r n false) (hd : digitOf base c = some d) : dg base l r (n * base + d) (decide (9007199254740992 < n * base + d)) := by
  unfold dg at h ⊢
  simpa only [digitsGo, hd, Bool.false_eq_true, if_false] using h
theorem digitOf_lt {base : Nat} {c : UInt8} {d : Nat} (h : digitOf base c = some d) : d < base := by
  unfold digitOf at h
  (repeat' split at h) <;> first | (injection h with h; omega) | (simp at h)
theorem pu_any (c : UInt8) (b : Int) (hb : b = 10 ∨ b = 16) (w : World) (hG : GInv w) : Calls Tryz.prog 73 #[.string ⟨#[c]⟩, .int .i64 b, .int .i64 8] w (PuAns b.toNat c w) := by
  rcases hb with rfl | rfl
  · exact pu_calls10 c w hG
  · exact pu_calls16 c w hG
theorem emptyB {s : ByteArray} (h : s.size = 0) : s.toList.isEmpty = true := by
  have : s = ⟨#[]⟩ := by
    cases s with
    | mk d => have : d = #[] := Array.eq_empty_of_size_eq_zero h
              rw [this]
  rw [this, ByteArray.toList_eq]; rfl
theorem emptyB_no {s : ByteArray} (h : ¬ s.size = 0) : s.toList.isEmpty = false := by
  rw [ByteArray.toList_eq]
  cases hh : s.data.toList with
  | nil => exact absurd (by rw [show s.size = s.data.toList.length from Array.length_toList.symm, hh]; rfl) h
  | cons a b => rfl
set_option maxRecDepth 100000 in
set_option maxHeartbeats 2000000 in
theorem digits_calls10 (a0 : ByteArray) (r1 r2 : Int) (w : World) (hs : a0.size ≤ 281474976710656) (h : Hr.digits 10 a0.data.toList = (r1, r2)) (hG_ : GInv w) :
    Calls Tryz.prog 48 #[.string a0, .int .i64 10] w fun e w' => e = .returned (.tuple #[.int .i64 r1, .int .i64 r2]) ∧ Below w.heap.size w w' := by
  have HG := Aside0.mk hG_
  have HH := Aside0.mk h
  clear h hG_
  obtain ⟨l, hl⟩ : ∃ l, l = a0.data.toList := ⟨_, rfl⟩
  have hn : a0.size = l.length := by rw [hl]; exact Array.length_toList.symm
  by_cases hz : a0.size = 0
  · have hemp : a0.toList.isEmpty = true := emptyB hz
    have hnil : a0.data.toList = [] := by rw [← hl]; exact List.eq_nil_of_length_eq_zero (by omega)
    have hr : (0, 50) = (r1, r2) := by rw [← HH.out, hnil]; rfl
    injection hr with h1 h2
    subst h1; subst h2
    have HZ := Aside0.mk hz
    clear hl hn hnil HH hz
    go_enter Tryz.func48, Tryz.ntmps48
    go_wp2
    refine wp_loop_rounds 1 ?_
    rw [rounds_succ]
    have hz : (a0.size : Int) = 0 := by rw [HZ.out]; rfl
    go_wp2
    go_ret2
    exact ⟨rfl, Below.refl _ _⟩
  have hlne : l ≠ [] := by intro h0; rw [h0] at hn; exact hz hn
  have HD := Aside0.mk (dg_start 10 l hlne (r1, r2) (by rw [hl]; exact HH.out))
  have hemp : a0.toList.isEmpty = false := emptyB_no hz
  have HL := Aside0.mk hl
  have HN := Aside0.mk hn
  clear hl hn hlne HH hz
  go_enter Tryz.func48, Tryz.ntmps48
  go_wp2
  go_loopw [6, 7, 13] (fun n big i wr => ∃ (k m : Nat) (b : Bool), k ≤ a0.size ∧ i = .int .i64 k ∧ n = .int .i64 m ∧ big = .bool b ∧ m ≤ 9007199254740992 * 16 + 16 ∧ (b = false → m ≤ 9007199254740992) ∧ Aside0 (dg 10 (l.drop k) (r1, r2) m b) ∧ Aside0 (Below w.heap.size w wr)) (fun _ _ i _ => a0.size - (intOf i).toNat)
  case atStart => exact ⟨0, 0, false, Nat.zero_le _, rfl, rfl, rfl, by omega, fun _ => by omega, HD, ⟨Below.refl _ _⟩⟩
  case round =>
    obtain ⟨k, m, b, hk, rfl, rfl, rfl, hm, hmb, HDk, HBw⟩ := hrel
    by_cases hlt : k < a0.size
    · have hkl : k < l.length := by rw [← HN.out]; exact hlt
      obtain ⟨c, hc⟩ : ∃ c, c = l[k]'hkl := ⟨_, rfl⟩
      have HE := Aside0.mk (one_extract a0 l HL.out k hkl)
      rw [← hc] at HE
      have HDc : Aside0 (dg 10 (c :: l.drop (k + 1)) (r1, r2) m b) := ⟨by rw [hc, ← List.drop_eq_getElem_cons hkl]; exact HDk.out⟩
      clear hc HDk HD
      go_wp2_with fail
      rw [HE.out]
      refine (pu_any c 10 (by decide) wr (HG.out.below HBw.out)).mono ?_
      intro e w1 hans
      obtain ⟨⟨x, er, rfl, hx⟩, hbl⟩ := hans
      have HB1 := Aside0.mk (below_step HBw.out hbl)
      clear hbl
      cases hd : digitOf 10 c with
      | none =>
        have hd' : digitOf (10 : Int).toNat c = none := hd
        rw [hd'] at hx
        obtain ⟨t, p, rfl⟩ := hx
        have hr := dg_none HDc.out hd
        injection hr with h1 h2
        subst h1; subst h2
        clear hd hd'
        go_wp2
        go_ret2
        exact ⟨rfl, HB1.out⟩
      | some d =>
        have hd' : digitOf (10 : Int).toNat c = some d := hd
        rw [hd'] at hx
        obtain ⟨rfl, rfl⟩ := hx
        have hdl := digitOf_lt hd
        have HDD := Aside0.mk hd
        clear hd hd'
        cases b with
        | true =>
          have HX := Aside0.mk (dg_big HDc.out HDD.out)
          clear hmb
          go_wp2
          go_roundw
          case rel => exact ⟨k + 1, m, true, by omega, by go_num, rfl, rfl, hm, (fun h => by cases h), HX, HB1⟩
          case measure => simp [intOf]; omega
        | false =>
          have HX := Aside0.mk (dg_some HDc.out HDD.out)
          have hmb' : m ≤ 9007199254740992 := hmb rfl
          clear hmb hm
          by_cases hbig : 9007199254740992 < m * 10 + d
          · have hbd : decide ((9007199254740992 : Int) < (m : Int) * 10 + (d : Int)) = true := decide_eq_true (by omega)
            rw [decide_eq_true hbig] at HX
            go_wp2
            go_roundw
            case rel => exact ⟨k + 1, m * 10 + d, true, by omega, by go_num, by go_num, rfl, by omega, (fun h => by cases h), HX, HB1⟩
            case measure => simp [intOf]; omega
          · have hbd : decide ((9007199254740992 : Int) < (m : Int) * 10 + (d : Int)) = false := decide_eq_false (by omega)
            rw [decide_eq_false hbig] at HX
            go_wp2
            go_roundw
            case rel => exact ⟨k + 1, m * 10 + d, false, by omega, by go_num, by go_num, rfl, by omega, fun _ => by omega, HX, HB1⟩
            case measure => simp [intOf]; omega
    · have hdr : l.drop k = [] := by rw [List.drop_eq_nil_iff, ← HN.out]; omega
      have hfin : (if b then ((0 : Int), (51 : Int)) else ((m : Int), 0)) = (r1, r2) := by have h5 := HDk.out; rw [hdr] at h5; exact h5
      clear hdr HDk HD
      cases b with
      | true =>
        injection hfin with h1 h2
        subst h1; subst h2
        go_wp2
        go_ret2
        exact ⟨rfl, HBw.out⟩
      | false =>
        injection hfin with h1 h2
        subst h1; subst h2
        go_wp2
        go_ret2
        exact ⟨rfl, HBw.out⟩
set_option maxRecDepth 100000 in
set_option maxHeartbeats 2000000 in
theorem digits_calls16 (a0 : ByteArray) (r1 r2 : Int) (w : World) (hs : a0.size ≤ 281474976710656) (h : Hr.digits 16 a0.data.toList = (r1, r2)) (hG_ : GInv w) :
    Calls Tryz.prog 48 #[.string a0, .int .i64 16] w fun e w' => e = .returned (.tuple #[.int .i64 r1, .int .i64 r2]) ∧ Below w.heap.size w w' := by
  have HG := Aside0.mk hG_
  have HH := Aside0.mk h
  clear h hG_
  obtain ⟨l, hl⟩ : ∃ l, l = a0.data.toList := ⟨_, rfl⟩
  have hn : a0.size = l.length := by rw [hl]; exact Array.length_toList.symm
  by_cases hz : a0.size = 0
  · have hemp : a0.toList.isEmpty = true := emptyB hz
    have hnil : a0.data.toList = [] := by rw [← hl]; exact List.eq_nil_of_length_eq_zero (by omega)
    have hr : (0, 50) = (r1, r2) := by rw [← HH.out, hnil]; rfl
    injection hr with h1 h2
    subst h1; subst h2
    have HZ := Aside0.mk hz
    clear hl hn hnil HH hz
    go_enter Tryz.func48, Tryz.ntmps48
    go_wp2
    refine wp_loop_rounds 1 ?_
    rw [rounds_succ]
    have hz : (a0.size : Int) = 0 := by rw [HZ.out]; rfl
    go_wp2
    go_ret2
    exact ⟨rfl, Below.refl _ _⟩
  have hlne : l ≠ [] := by intro h0; rw [h0] at hn; exact hz hn
  have HD := Aside0.mk (dg_start 16 l hlne (r1, r2) (by rw [hl]; exact HH.out))
  have hemp : a0.toList.isEmpty = false := emptyB_no hz
  have HL := Aside0.mk hl
  have HN := Aside0.mk hn
  clear hl hn hlne HH hz
  go_enter Tryz.func48, Tryz.ntmps48
  go_wp2
  go_loopw [6, 7, 13] (fun n big i wr => ∃ (k m : Nat) (b : Bool), k ≤ a0.size ∧ i = .int .i64 k ∧ n = .int .i64 m ∧ big = .bool b ∧ m ≤ 9007199254740992 * 16 + 16 ∧ (b = false → m ≤ 9007199254740992) ∧ Aside0 (dg 16 (l.drop k) (r1, r2) m b) ∧ Aside0 (Below w.heap.size w wr)) (fun _ _ i _ => a0.size - (intOf i).toNat)
  case atStart => exact ⟨0, 0, false, Nat.zero_le _, rfl, rfl, rfl, by omega, fun _ => by omega, HD, ⟨Below.refl _ _⟩⟩
  case round =>
    obtain ⟨k, m, b, hk, rfl, rfl, rfl, hm, hmb, HDk, HBw⟩ := hrel
    by_cases hlt : k < a0.size
    · have hkl : k < l.length := by rw [← HN.out]; exact hlt
      obtain ⟨c, hc⟩ : ∃ c, c = l[k]'hkl := ⟨_, rfl⟩
      have HE := Aside0.mk (one_extract a0 l HL.out k hkl)
      rw [← hc] at HE
      have HDc : Aside0 (dg 16 (c :: l.drop (k + 1)) (r1, r2) m b) := ⟨by rw [hc, ← List.drop_eq_getElem_cons hkl]; exact HDk.out⟩
      clear hc HDk HD
      go_wp2_with fail
      rw [HE.out]
      refine (pu_any c 16 (by decide) wr (HG.out.below HBw.out)).mono ?_
      intro e w1 hans
      obtain ⟨⟨x, er, rfl, hx⟩, hbl⟩ := hans
      have HB1 := Aside0.mk (below_step HBw.out hbl)
      clear hbl
      cases hd : digitOf 16 c with
      | none =>
        have hd' : digitOf (16 : Int).toNat c = none := hd
        rw [hd'] at hx
        obtain ⟨t, p, rfl⟩ := hx
        have hr := dg_none HDc.out hd
        injection hr with h1 h2
        subst h1; subst h2
        clear hd hd'
        go_wp2
        go_ret2
        exact ⟨rfl, HB1.out⟩
      | some d =>
        have hd' : digitOf (16 : Int).toNat c = some d := hd
        rw [hd'] at hx
        obtain ⟨rfl, rfl⟩ := hx
        have hdl := digitOf_lt hd
        have HDD := Aside0.mk hd
        clear hd hd'
        cases b with
        | true =>
          have HX := Aside0.mk (dg_big HDc.out HDD.out)
          clear hmb
          go_wp2
          go_roundw
          case rel => exact ⟨k + 1, m, true, by omega, by go_num, rfl, rfl, hm, (fun h => by cases h), HX, HB1⟩
          case measure => simp [intOf]; omega
        | false =>
          have HX := Aside0.mk (dg_some HDc.out HDD.out)
          have hmb' : m ≤ 9007199254740992 := hmb rfl
          clear hmb hm
          by_cases hbig : 9007199254740992 < m * 16 + d
          · have hbd : decide ((9007199254740992 : Int) < (m : Int) * 16 + (d : Int)) = true := decide_eq_true (by omega)
            rw [decide_eq_true hbig] at HX
            go_wp2
            go_roundw
            case rel => exact ⟨k + 1, m * 16 + d, true, by omega, by go_num, by go_num, rfl, by omega, (fun h => by cases h), HX, HB1⟩
            case measure => simp [intOf]; omega
          · have hbd : decide ((9007199254740992 : Int) < (m : Int) * 16 + (d : Int)) = false := decide_eq_false (by omega)
            rw [decide_eq_false hbig] at HX
            go_wp2
            go_roundw
            case rel => exact ⟨k + 1, m * 16 + d, false, by omega, by go_num, by go_num, rfl, by omega, fun _ => by omega, HX, HB1⟩
            case measure => simp [intOf]; omega
    · have hdr : l.drop k = [] := by rw [List.drop_eq_nil_iff, ← HN.out]; omega
      have hfin : (if b then ((0 : Int), (51 : Int)) else ((m : Int), 0)) = (r1, r2) := by have h5 := HDk.out; rw [hdr] at h5; exact h5
      clear hdr HDk HD
      cases b with
      | true =>
        injection hfin with h1 h2
        subst h1; subst h2
        go_wp2
        go_ret2
        exact ⟨rfl, HBw.out⟩
      | false =>
        injection hfin with h1 h2
        subst h1; subst h2
        go_wp2
        go_ret2
        exact ⟨rfl, HBw.out⟩
theorem digits_calls (a0 : ByteArray) (a1 r1 r2 : Int) (w : World) (hs : a0.size ≤ 281474976710656) (hb : a1 = 10 ∨ a1 = 16) (h : Hr.digits a1.toNat a0.data.toList = (r1, r2)) (hG_ : GInv w) :
    Calls Tryz.prog 48 #[.string a0, .int .i64 a1] w fun e w' => e = .returned (.tuple #[.int .i64 r1, .int .i64 r2]) ∧ Below w.heap.size w w' := by
  rcases hb with rfl | rfl
  · exact digits_calls10 a0 r1 r2 w hs h hG_
  · exact digits_calls16 a0 r1 r2 w hs h hG_
end Go.Proofs.YtmlgejgnjfbblaaGreatDoor.Lex
/- Package lexis, by hand: Trim, and what List's closure does; own text of this session. -/
namespace Go.Proofs.YtmlgejgnjfbblaaGreatDoor.Lex
open Go.RowKit Go.Proofs.YtmlgejgnjfbblaaGreatDoorW.PrintWords Go.Proofs.Hr Go.Shelf Go.Lib
set_option linter.unusedVariables false
theorem trim_calls (a0 : ByteArray) (w : World) (hs : a0.size ≤ 4611686018427387904) :
    Calls Tryz.prog 72 #[.string a0, .string ⟨#[32, 9]⟩] w fun e w' => e = .returned (.string ⟨(trim a0.data.toList).toArray⟩) ∧ Below w.heap.size w w' :=
  Any.strings_Trim_laid Tryz.lays160 (by kernel_rfl) a0 ⟨#[32, 9]⟩ w (by omega) (by decide) (ascii_of_all (by decide))
theorem lexTrim_calls (a0 : ByteArray) (w : World) (hs : a0.size ≤ 4611686018427387904) :
    Calls Tryz.prog 47 #[.string a0] w fun e w' => e = .returned (.string ⟨(trim a0.data.toList).toArray⟩) ∧ Below w.heap.size w w' := by
  have H := Lib.hid (trim_calls a0 w hs)
  generalize hr : (⟨(trim a0.data.toList).toArray⟩ : ByteArray) = r at H ⊢
  clear hr
  go_enter Tryz.func47, Tryz.ntmps47
  go_wp2_with (go_at_call 72; refine H.out.mono ?_; rintro e w' ⟨rfl, hB⟩)
  go_ret
  exact ⟨rfl, hB⟩
end Go.Proofs.YtmlgejgnjfbblaaGreatDoor.Lex
/- Package lexis, by hand: what List comes to; own text of this session. -/
namespace Go.Proofs.YtmlgejgnjfbblaaGreatDoor.Lex
open Go.RowKit Go.Proofs.YtmlgejgnjfbblaaGreatDoorW.PrintWords Go.Proofs.Hr Go.Shelf Go.Lib
set_option linter.unusedVariables false
def mkB (l : Bs) : ByteArray := ⟨l.toArray⟩
theorem listGo_nil (part : Bs) (q : Bool) (out : List Bs) : listGo [] part q out = Hr.put part out := by unfold listGo; rfl
theorem listGo_cons (c : UInt8) (rest part : Bs) (q : Bool) (out : List Bs) : listGo (c :: rest) part q out =
    if c == 34 then listGo rest (part ++ [c]) (!q) out
    else if c == 92 && q then (match rest with | [] => Hr.put (part ++ [c]) out | d :: r => listGo r (part ++ [c, d]) q out)
    else if c == 44 && !q then listGo rest [] q (Hr.put part out)
    else listGo rest (part ++ [c]) q out := by
  cases rest with
  | cons d r => rw [listGo]
  | nil =>
    have e0 : listGo [c] part q out = (if c == 44 && !q then Hr.put [] (Hr.put part out) else Hr.put (part ++ [c]) out) := by unfold listGo; rfl
    rw [e0]
    simp only [listGo_nil]
    by_cases h1 : c = 34
    · subst h1; rfl
    · by_cases h2 : c = 92
      · subst h2; cases q <;> rfl
      · by_cases h3 : c = 44
        · subst h3; cases q <;> rfl
        · have e1 : (c == 34) = false := by simpa using h1
          have e2 : (c == 92) = false := by simpa using h2
          have e3 : (c == 44) = false := by simpa using h3
          simp only [e1, e2, e3, Bool.false_and, Bool.false_eq_true, if_false]
/-- What is still to come, at place i. -/
structure LFin (l : Bs) (R : List Bs) (i : Nat) (q : Bool) (fr : Nat) (ys : List Bs) : Prop where
  le : fr ≤ l.length
  cnt : ys.length ≤ fr
  i1 : i ≤ l.length + 1
  go : i ≤ l.length → fr ≤ i ∧ listGo (l.drop i) ((l.take i).drop fr) q ys = R
  fin : l.length ≤ i → Hr.put (l.drop fr) ys = R
theorem part_succ (l : Bs) (fr i : Nat) (h : i < l.length) (hf : fr ≤ i) : (l.take (i + 1)).drop fr = (l.take i).drop fr ++ [l[i]'h] := by
  rw [List.take_succ_eq_append_getElem h, List.drop_append_of_le_length (by simp; omega)]
section
variable {l : Bs} {R ys : List Bs} {i fr : Nat} {q : Bool}
theorem LFin.mk' (hle : fr ≤ l.length) (hc : ys.length ≤ fr) (hi : i ≤ l.length) (hf : fr ≤ i) (h : listGo (l.drop i) ((l.take i).drop fr) q ys = R) : LFin l R i q fr ys :=
  ⟨hle, hc, by omega, fun _ => ⟨hf, h⟩, fun h2 => by
    have e : i = l.length := by omega
    subst e
    rw [List.drop_length, listGo_nil, List.take_length] at h
    exact h⟩
theorem LFin.at (h : LFin l R i q fr ys) (hi : i < l.length) : fr ≤ i ∧ listGo (l[i]'hi :: l.drop (i + 1)) ((l.take i).drop fr) q ys = R := by
  obtain ⟨h1, h2⟩ := h.go (by omega)
  rw [List.drop_eq_getElem_cons hi] at h2
  exact ⟨h1, h2⟩
theorem LFin.plain (h : LFin l R i q fr ys) (hi : i < l.length) (h34 : ¬ l[i]'hi = 34) (h92 : ¬ (l[i]'hi = 92 ∧ q = true)) (h44 : ¬ (l[i]'hi = 44 ∧ q = false)) : LFin l R (i + 1) q fr ys := by
  obtain ⟨h1, h2⟩ := h.at hi
  rw [listGo_cons, if_neg (by simpa using h34), if_neg (by simpa using h92), if_neg (by simpa using h44)] at h2
  refine LFin.mk' h.le h.cnt (by omega) (by omega) ?_
  rw [part_succ l fr i hi h1]
  exact h2
theorem LFin.skip (h : LFin l R i true fr ys) (hi : i < l.length) (hc : l[i]'hi = 92) : LFin l R (i + 2) true fr ys := by
  obtain ⟨h1, h2⟩ := h.at hi
  rw [listGo_cons, hc] at h2
  by_cases hi2 : i + 1 < l.length
  · rw [List.drop_eq_getElem_cons hi2] at h2
    refine LFin.mk' h.le h.cnt (by omega) (by omega) ?_
    rw [part_succ l fr (i + 1) hi2 (by omega), part_succ l fr i hi h1, hc, List.append_assoc]
    exact h2
  · have e : l.drop (i + 1) = [] := List.drop_eq_nil_of_le (by omega)
    rw [e] at h2
    refine ⟨h.le, h.cnt, by omega, fun h3 => by omega, fun _ => ?_⟩
    have h4 : Hr.put ((l.take i).drop fr ++ [92]) ys = R := h2
    rw [← hc, ← part_succ l fr i hi h1, List.take_of_length_le (by omega)] at h4
    exact h4
end
end Go.Proofs.YtmlgejgnjfbblaaGreatDoor.Lex
/- Package lexis, by hand: the library's FormatInt in hex; own text of this session. -/
namespace Go.Proofs.YtmlgejgnjfbblaaGreatDoor.Lex
open Go.RowKit Go.Proofs.YtmlgejgnjfbblaaGreatDoorW.PrintWords Go.Proofs.Hr Go.Shelf Go.Lib
set_option linter.unusedVariables false
theorem itoa_calls (a0 : Int) (w : World) (h0 : -9223372036854775808 ≤ a0) (h1 : a0 ≤ 9223372036854775807) (hG_ : GInv w) :
    Calls Tryz.prog 9 #[.int .i64 a0] w fun e w' => e = .returned (.string ⟨(Lib.itoa a0).toArray⟩) ∧ Below w.heap.size w w' := by
  refine (Tryz.strconv_Itoa a0 h0 h1 w hG_.tab).mono ?_
  rintro e w' ⟨rfl, k, os, rfl⟩
  exact ⟨rfl, below_grow _ _ (Nat.le_refl _) _ _⟩
end Go.Proofs.YtmlgejgnjfbblaaGreatDoor.Lex
/- Package lexis and what it calls of the library: all contracts by hand, gathered; own text of this session. -/

