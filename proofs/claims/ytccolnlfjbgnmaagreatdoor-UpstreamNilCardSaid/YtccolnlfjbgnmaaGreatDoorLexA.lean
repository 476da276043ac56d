/- Package lexis, by hand: what Lower comes to; own text of this session. -/
import Derived.Test.YtccolnlfjbgnmaaGreatDoorProg
import Derived.Test.YtccolnlfjbgnmaaGreatDoorSpec
import Derived.Test.YtccolnlfjbgnmaaGreatDoorBytes
import Derived.Laws.IdiomStrings
import Derived.Lib.ConvBytes
import Derived.WalkSpells
import Derived.Outline
import Derived.Test.YtccolnlfjbgnmaaGreatDoorInv
import Derived.Test.YtccolnlfjbgnmaaGreatDoorShelf
import Derived.Lib.AtoiErrMem
import Derived.Shelf.Strings.SlTrimAscii
import Derived.Lib.AppendIntMem
namespace Go.Proofs.YtccolnlfjbgnmaaGreatDoor.Lex
open Go.RowKit Go.Proofs.YtccolnlfjbgnmaaGreatDoorW.PrintWords Go.Proofs.Hr
set_option linter.unusedVariables false
theorem ret_str {a b : ByteArray} (h : a = b) : Ending.returned (.string a) = .returned (.string b) := by rw [h]
/-- A row of bytes as values. -/
def bvs (l : Bs) : List Value := l.map fun b => Value.int .u8 (b.toNat : Int)
theorem bvs_length (l : Bs) : (bvs l).length = l.length := by simp [bvs]
def midRow (l : Bs) (k m : Nat) : Array Value := (bvs (lower (l.take k) ++ l.drop k) ++ List.replicate m (Value.int .u8 0)).toArray
theorem midRow_zero (s : ByteArray) (cap : Nat) : Go.bytesRow s cap = midRow s.data.toList 0 (cap - s.size) := by
  unfold Go.bytesRow midRow bvs lower
  apply Array.ext'
  simp
theorem midRow_size (l : Bs) (k m : Nat) : (midRow l k m).size = l.length + m := by
  simp [midRow, bvs, lower]
  omega
theorem midRow_at (l : Bs) (k m : Nat) (h : k < l.length) : (midRow l k m)[k]? = some (.int .u8 ((l[k]'h).toNat : Int)) := by
  have h1 : k < (lower (l.take k) ++ l.drop k).length := by simp [lower]; omega
  have h2 : (lower (l.take k) ++ l.drop k)[k]'h1 = l[k]'h := by
    rw [List.getElem_append_right (by simp [lower]; omega)]
    simp [lower, Nat.min_eq_left (Nat.le_of_lt h)]
  unfold midRow
  rw [List.getElem?_toArray, List.getElem?_append_left (by rw [bvs_length]; exact h1)]
  simp only [bvs, List.getElem?_map, List.getElem?_eq_getElem h1, Option.map_some, h2]
theorem lower_succ (l : Bs) (k : Nat) (h : k < l.length) : lower (l.take (k + 1)) ++ l.drop (k + 1) = (lower (l.take k) ++ l.drop k).set k (lowB (l[k]'h)) := by
  have e : lower (l.take k) ++ l.drop k = lower (l.take k) ++ (l[k]'h :: l.drop (k + 1)) := by rw [List.drop_eq_getElem_cons h]
  rw [e, List.set_append_right _ _ (by simp [lower]; omega)]
  have h3 : k - (lower (l.take k)).length = 0 := by simp [lower]; omega
  rw [h3, List.set_cons_zero, List.take_succ_eq_append_getElem h]
  unfold lower
  simp only [List.map_append, List.map_cons, List.map_nil, List.append_assoc, List.cons_append, List.nil_append]
theorem midRow_set (l : Bs) (k m : Nat) (h : k < l.length) (v : Int) (hv : v = ((lowB (l[k]'h)).toNat : Int)) : (midRow l k m).setIfInBounds k (.int .u8 v) = midRow l (k + 1) m := by
  subst hv
  unfold midRow
  rw [lower_succ l k h]
  rw [List.setIfInBounds_toArray]
  congr 1
  rw [List.set_append_left _ _ (by rw [bvs_length]; simp [lower]; omega)]
  simp [bvs, List.map_set]
theorem midRow_keep (l : Bs) (k m : Nat) (h : k < l.length) (hv : lowB (l[k]'h) = l[k]'h) : midRow l k m = midRow l (k + 1) m := by
  unfold midRow
  rw [lower_succ l k h, hv]
  have h1 : k < (lower (l.take k) ++ l.drop k).length := by simp [lower]; omega
  have h2 : (lower (l.take k) ++ l.drop k)[k]'h1 = l[k]'h := by
    rw [List.getElem_append_right (by simp [lower]; omega)]
    simp [lower, Nat.min_eq_left (Nat.le_of_lt h)]
  rw [← h2, List.set_getElem_self]
theorem setCell_block {w : World} {b : Nat} {C : Array Value} {ty : TypeId} {fr : Nat × Nat} {k : Nat} {v : Value} (h : w.heap[b]? = some (.cells C ty fr)) :
    (w.setCell ⟨b, k, none⟩ v).heap[b]? = some (.cells (C.setIfInBounds k v) ty fr) := by
  unfold World.setCell
  simp [Array.getElem?_modify, h]
theorem lowB_hit (c : UInt8) (h1 : 65 ≤ (c.toNat : Int)) (h2 : (c.toNat : Int) ≤ 90) : (c.toNat : Int) + 32 = ((lowB c).toNat : Int) := by
  have a : 65 ≤ c := by rw [UInt8.le_iff_toNat_le]; show 65 ≤ _; omega
  have b : c ≤ 90 := by rw [UInt8.le_iff_toNat_le]; show _ ≤ 90; omega
  unfold lowB
  rw [if_pos (by simp [a, b]), UInt8.toNat_add]
  rw [show UInt8.toNat 32 = 32 from rfl]
  omega
theorem midRow_all (l : Bs) (m i : Nat) (h : i < l.length) : (midRow l l.length m)[i]? = some (.int .u8 ((nOf (lower l)).getD i 0)) := by
  unfold midRow
  rw [List.getElem?_toArray, List.getElem?_append_left (by rw [bvs_length]; simp [lower]; exact h)]
  simp [bvs, nOf, lower, h]
theorem lowB_miss (c : UInt8) (h : ¬ (65 ≤ (c.toNat : Int) ∧ (c.toNat : Int) ≤ 90)) : lowB c = c := by
  unfold lowB
  rw [if_neg]
  intro h2
  simp only [Bool.and_eq_true, decide_eq_true_eq, UInt8.le_iff_toNat_le] at h2
  have h3 : 65 ≤ c.toNat ∧ c.toNat ≤ 90 := h2
  omega
set_option maxRecDepth 100000 in
set_option maxHeartbeats 1000000 in
theorem lower_calls (a0 : ByteArray) (w : World) (hs : a0.size ≤ 4611686018427387904) :
    Calls Tryz.prog 175 #[.string a0] w fun e w' => e = .returned (.string ⟨(lower a0.data.toList).toArray⟩) ∧ Below w.heap.size w w' := by
  have hcv := Go.run_bytes_of_string (P := Tryz.prog) w 9 33 5 a0 Tryz.underlying9 Tryz.underlying33 Tryz.underlying5
  go_enter Tryz.func175, Tryz.ntmps175
  go_wp2
  have hcap : a0.size ≤ grownCap w a0.size 0 5 := by
    show a0.size ≤ a0.size + _
    omega
  obtain ⟨cap, hcape⟩ : ∃ c, c = grownCap w a0.size 0 5 := ⟨_, rfl⟩
  rw [← hcape] at hcap ⊢
  clear hcv hcape
  rw [midRow_zero]
  have hsz := midRow_size a0.data.toList 0 (cap - a0.size)
  have hsz2 : (midRow a0.data.toList 0 (cap - a0.size)).size = cap := by rw [hsz]; have := (show a0.size = a0.data.toList.length from Array.length_toList.symm); omega
  rw [hsz2]
  clear hsz hsz2
  obtain ⟨l, hl⟩ : ∃ l, l = a0.data.toList := ⟨_, rfl⟩
  have hn : a0.size = l.length := by rw [hl]; exact Array.length_toList.symm
  rw [← hl]
  obtain ⟨n, hnn⟩ : ∃ n, n = a0.size := ⟨_, rfl⟩
  rw [← hnn] at hcap hs hn ⊢
  have HN := Aside0.mk hn
  clear hn hnn
  have HL := Aside0.mk hl
  clear hl
  go_loopw [10] (fun i wr => ∃ k : Nat, k ≤ n ∧ i = .int .i64 k ∧ Aside0 (wr.heap[w.heap.size]? = some (.cells (midRow l k (cap - n)) 5 (cap, cap + 1))) ∧ Aside0 (Below w.heap.size w wr)) (fun i _ => n - (intOf i).toNat)
  case atStart => exact ⟨0, Nat.zero_le _, rfl, ⟨by show (w.heap.push _)[_]? = _; simp⟩, ⟨((Below.refl _ _).alloc (Nat.le_refl _) _).drew⟩⟩
  case round =>
    obtain ⟨k, hk, rfl, HR, HB⟩ := hrel
    by_cases hlt : k < n
    · have hkl : k < l.length := by rw [← HN.out]; exact hlt
      obtain ⟨c, hc⟩ : ∃ c, c = l[k]'hkl := ⟨_, rfl⟩
      have hcell : wr.cell? ⟨w.heap.size, k, none⟩ = some (.int .u8 (c.toNat : Int)) := by
        unfold World.cell?; simp only [HR.out, Option.isSome_none, Bool.false_eq_true, if_false]; rw [hc]; exact midRow_at l k _ hkl
      have hfr : wr.frozen? ⟨w.heap.size, k, none⟩ = false := by
        unfold World.frozen?; simp only [HR.out]; simp; omega
      have HC := Aside0.mk hc
      clear hc
      have hcb : (c.toNat : Int) < 256 := by have := c.toNat_lt; omega
      have hc0 : 0 ≤ (c.toNat : Int) := by omega
      go_wp2
      · have h1 : (65 : Int) ≤ (c.toNat : Int) := by assumption
        have h2 : (c.toNat : Int) ≤ 90 := by assumption
        go_roundw
        case rel => exact ⟨k + 1, by omega, by go_num, ⟨by rw [setCell_block HR.out, midRow_set l k _ hkl _ (by rw [← HC.out]; exact lowB_hit c h1 h2)]⟩, ⟨HB.out.setCell (Nat.le_refl _) _⟩⟩
        case measure => simp [intOf]; omega
      all_goals
        have hmiss : lowB c = c := lowB_miss c (by omega)
        go_roundw
        case rel => exact ⟨k + 1, by omega, by go_num, ⟨by rw [← midRow_keep l k _ hkl (by rw [← HC.out]; exact hmiss)]; exact HR.out⟩, HB⟩
        case measure => simp [intOf]; omega
    · obtain rfl : k = n := by omega
      have hcv2 := run_convert_bytes_arg (P := Tryz.prog) wr 33 5 Tryz.underlying33 Tryz.underlying5 w.heap.size 0 k cap (nOf (lower l)) (by simp [nOf, lower]; exact HN.out.symm) (fun i hi => by unfold World.cell?; simp only [HR.out, Option.isSome_none, Bool.false_eq_true, if_false, Nat.zero_add]; have e := midRow_all l (cap - k) i (by rw [← HN.out]; exact hi); rw [← HN.out] at e; exact e) 9 Tryz.underlying9
      go_wp2
      go_ret
      exact ⟨ret_str (by rw [strOfNums_nOf, HL.out]), HB.out⟩
end Go.Proofs.YtccolnlfjbgnmaaGreatDoor.Lex
/- Package lexis, by hand: the library's ParseUint at one byte; own text of this session. -/
namespace Go.Proofs.YtccolnlfjbgnmaaGreatDoor.Lex
open Go.RowKit Go.Proofs.YtccolnlfjbgnmaaGreatDoorW.PrintWords Go.Proofs.Hr Go.Shelf
set_option linter.unusedVariables false
theorem or32 : ∀ n : Nat, n < 256 → Go.bits .or .u8 (n : Int) 32 = ((n ||| 32 : Nat) : Int) := by decide +kernel
theorem or32_low : ∀ n : Nat, n < 256 → 97 ≤ n → n ≤ 122 → (n ||| 32) = n := by decide +kernel
theorem or32_up : ∀ n : Nat, n < 256 → 65 ≤ n → n ≤ 90 → (n ||| 32) = n + 32 := by decide +kernel
theorem or32_no : ∀ n : Nat, n < 256 → ¬ (97 ≤ n ∧ n ≤ 122) → ¬ (65 ≤ n ∧ n ≤ 90) → ¬ (97 ≤ (n ||| 32) ∧ (n ||| 32) ≤ 122) := by decide +kernel
theorem one_cell (c : UInt8) (w : World) (fr : Nat × Nat) (cap : Nat) : ((w.alloc (.cells (Go.bytesRow ⟨#[c]⟩ cap) 5 fr)).drew).cell? ⟨w.heap.size, 0, none⟩ = some (.int .u8 (c.toNat : Int)) := by
  unfold World.cell?
  have h : ((w.alloc (.cells (Go.bytesRow ⟨#[c]⟩ cap) 5 fr)).drew).heap[w.heap.size]? = some (.cells (Go.bytesRow ⟨#[c]⟩ cap) 5 fr) := by
    show (w.heap.push _)[_]? = _; simp
  simp only [h, Option.isSome_none, Bool.false_eq_true, if_false]
  unfold Go.bytesRow
  rw [Array.getElem?_append_left (by simp)]
  simp
theorem ret_pu {a b : Int} (h : a = b) : Ending.returned (.tuple #[.int .u64 a, .nilIface]) = .returned (.tuple #[.int .u64 b, .nilIface]) := by rw [h]
theorem below_new (w : World) (o : Obj) : Below w.heap.size w (w.alloc o).drew := ((Below.refl _ _).alloc (Nat.le_refl _) _).drew
set_option maxRecDepth 100000 in
set_option maxHeartbeats 2000000 in
theorem pu_digit (c : UInt8) (w : World) (h0 : 48 ≤ (c.toNat : Int)) (h1 : (c.toNat : Int) ≤ 57) :
    Calls Tryz.prog 172 #[.string ⟨#[c]⟩, .int .i64 16, .int .i64 8] w fun e w' => e = .returned (.tuple #[.int .u64 ((c.toNat : Int) - 48), .nilIface]) ∧ Below w.heap.size w w' := by
  have hcv := Go.run_bytes_of_string (P := Tryz.prog) w 9 33 5 ⟨#[c]⟩ Tryz.underlying9 Tryz.underlying33 Tryz.underlying5
  have hcell := one_cell c w ((bytesRow { data := #[c] } (grownCap w 1 0 5)).size, (bytesRow { data := #[c] } (grownCap w 1 0 5)).size + 1) (grownCap w 1 0 5)
  have hne : ((c.toNat : Int) == 95) = false ∨ True := .inr trivial
  clear hne
  have hne : ((c.toNat : Int) == 95) = false := by rw [beq_eq_false_iff_ne]; omega
  go_enter Tryz.func172, Tryz.ntmps172
  go_wp2
  refine wp_loop_rounds 2 ?_
  rw [rounds_succ]
  go_wp2
  all_goals first
    | (rw [rounds_succ]; go_wp2; go_ret2; first | exact ⟨rfl, below_new _ _⟩ | exact ⟨ret_pu (by omega), below_new _ _⟩)
    | (go_ret2; exact ⟨rfl, below_new _ _⟩)
set_option maxRecDepth 100000 in
set_option maxHeartbeats 2000000 in
theorem pu_low (c : UInt8) (w : World) (h0 : 97 ≤ (c.toNat : Int)) (h1 : (c.toNat : Int) ≤ 102) :
    Calls Tryz.prog 172 #[.string ⟨#[c]⟩, .int .i64 16, .int .i64 8] w fun e w' => e = .returned (.tuple #[.int .u64 ((c.toNat : Int) - 87), .nilIface]) ∧ Below w.heap.size w w' := by
  have hcv := Go.run_bytes_of_string (P := Tryz.prog) w 9 33 5 ⟨#[c]⟩ Tryz.underlying9 Tryz.underlying33 Tryz.underlying5
  have hcell := one_cell c w ((bytesRow { data := #[c] } (grownCap w 1 0 5)).size, (bytesRow { data := #[c] } (grownCap w 1 0 5)).size + 1) (grownCap w 1 0 5)
  have hne : ((c.toNat : Int) == 95) = false ∨ True := .inr trivial
  clear hne
  have hne : ((c.toNat : Int) == 95) = false := by rw [beq_eq_false_iff_ne]; omega
  have ho : Go.bits .or .u8 (c.toNat : Int) 32 = (c.toNat : Int) := by rw [or32 _ c.toNat_lt, or32_low _ c.toNat_lt (by omega) (by omega)]
  go_enter Tryz.func172, Tryz.ntmps172
  go_wp2
  refine wp_loop_rounds 2 ?_
  rw [rounds_succ]
  go_wp2
  all_goals first
    | (rw [rounds_succ]; go_wp2; go_ret2; first | exact ⟨rfl, below_new _ _⟩ | exact ⟨ret_pu (by omega), below_new _ _⟩)
    | (go_ret2; exact ⟨rfl, below_new _ _⟩)
set_option maxRecDepth 100000 in
set_option maxHeartbeats 2000000 in
theorem pu_low_no (c : UInt8) (w : World) (h0 : 103 ≤ (c.toNat : Int)) (h1 : (c.toNat : Int) ≤ 122) :
    Calls Tryz.prog 172 #[.string ⟨#[c]⟩, .int .i64 16, .int .i64 8] w fun e w' => e = .returned (.tuple #[.int .u64 0, .iface 251 (.int .i64 2)]) ∧ Below w.heap.size w w' := by
  have hcv := Go.run_bytes_of_string (P := Tryz.prog) w 9 33 5 ⟨#[c]⟩ Tryz.underlying9 Tryz.underlying33 Tryz.underlying5
  have hcell := one_cell c w ((bytesRow { data := #[c] } (grownCap w 1 0 5)).size, (bytesRow { data := #[c] } (grownCap w 1 0 5)).size + 1) (grownCap w 1 0 5)
  have hne : ((c.toNat : Int) == 95) = false ∨ True := .inr trivial
  clear hne
  have hne : ((c.toNat : Int) == 95) = false := by rw [beq_eq_false_iff_ne]; omega
  have ho : Go.bits .or .u8 (c.toNat : Int) 32 = (c.toNat : Int) := by rw [or32 _ c.toNat_lt, or32_low _ c.toNat_lt (by omega) (by omega)]
  go_enter Tryz.func172, Tryz.ntmps172
  go_wp2
  refine wp_loop_rounds 2 ?_
  rw [rounds_succ]
  go_wp2
  all_goals first
    | (rw [rounds_succ]; go_wp2; go_ret2; first | exact ⟨rfl, below_new _ _⟩ | exact ⟨ret_pu (by omega), below_new _ _⟩)
    | (go_ret2; exact ⟨rfl, below_new _ _⟩)
set_option maxRecDepth 100000 in
set_option maxHeartbeats 2000000 in
theorem pu_up (c : UInt8) (w : World) (h0 : 65 ≤ (c.toNat : Int)) (h1 : (c.toNat : Int) ≤ 70) :
    Calls Tryz.prog 172 #[.string ⟨#[c]⟩, .int .i64 16, .int .i64 8] w fun e w' => e = .returned (.tuple #[.int .u64 ((c.toNat : Int) - 55), .nilIface]) ∧ Below w.heap.size w w' := by
  have hcv := Go.run_bytes_of_string (P := Tryz.prog) w 9 33 5 ⟨#[c]⟩ Tryz.underlying9 Tryz.underlying33 Tryz.underlying5
  have hcell := one_cell c w ((bytesRow { data := #[c] } (grownCap w 1 0 5)).size, (bytesRow { data := #[c] } (grownCap w 1 0 5)).size + 1) (grownCap w 1 0 5)
  have hne : ((c.toNat : Int) == 95) = false ∨ True := .inr trivial
  clear hne
  have hne : ((c.toNat : Int) == 95) = false := by rw [beq_eq_false_iff_ne]; omega
  have ho : Go.bits .or .u8 (c.toNat : Int) 32 = (c.toNat : Int) + 32 := by rw [or32 _ c.toNat_lt, or32_up _ c.toNat_lt (by omega) (by omega)]; rfl
  go_enter Tryz.func172, Tryz.ntmps172
  go_wp2
  refine wp_loop_rounds 2 ?_
  rw [rounds_succ]
  go_wp2
  all_goals first
    | (rw [rounds_succ]; go_wp2; go_ret2; first | exact ⟨rfl, below_new _ _⟩ | exact ⟨ret_pu (by omega), below_new _ _⟩)
    | (go_ret2; exact ⟨rfl, below_new _ _⟩)
set_option maxRecDepth 100000 in
set_option maxHeartbeats 2000000 in
theorem pu_up_no (c : UInt8) (w : World) (h0 : 71 ≤ (c.toNat : Int)) (h1 : (c.toNat : Int) ≤ 90) :
    Calls Tryz.prog 172 #[.string ⟨#[c]⟩, .int .i64 16, .int .i64 8] w fun e w' => e = .returned (.tuple #[.int .u64 0, .iface 251 (.int .i64 2)]) ∧ Below w.heap.size w w' := by
  have hcv := Go.run_bytes_of_string (P := Tryz.prog) w 9 33 5 ⟨#[c]⟩ Tryz.underlying9 Tryz.underlying33 Tryz.underlying5
  have hcell := one_cell c w ((bytesRow { data := #[c] } (grownCap w 1 0 5)).size, (bytesRow { data := #[c] } (grownCap w 1 0 5)).size + 1) (grownCap w 1 0 5)
  have hne : ((c.toNat : Int) == 95) = false ∨ True := .inr trivial
  clear hne
  have hne : ((c.toNat : Int) == 95) = false := by rw [beq_eq_false_iff_ne]; omega
  have ho : Go.bits .or .u8 (c.toNat : Int) 32 = (c.toNat : Int) + 32 := by rw [or32 _ c.toNat_lt, or32_up _ c.toNat_lt (by omega) (by omega)]; rfl
  go_enter Tryz.func172, Tryz.ntmps172
  go_wp2
  refine wp_loop_rounds 2 ?_
  rw [rounds_succ]
  go_wp2
  all_goals first
    | (rw [rounds_succ]; go_wp2; go_ret2; first | exact ⟨rfl, below_new _ _⟩ | exact ⟨ret_pu (by omega), below_new _ _⟩)
    | (go_ret2; exact ⟨rfl, below_new _ _⟩)
set_option maxRecDepth 100000 in
set_option maxHeartbeats 2000000 in
theorem pu_none (c : UInt8) (w : World) (h0 : ¬ (48 ≤ (c.toNat : Int) ∧ (c.toNat : Int) ≤ 57)) (h1 : ¬ (97 ≤ (c.toNat : Int) ∧ (c.toNat : Int) ≤ 122)) (h2 : ¬ (65 ≤ (c.toNat : Int) ∧ (c.toNat : Int) ≤ 90)) :
    Calls Tryz.prog 172 #[.string ⟨#[c]⟩, .int .i64 16, .int .i64 8] w fun e w' => e = .returned (.tuple #[.int .u64 0, .iface 251 (.int .i64 2)]) ∧ Below w.heap.size w w' := by
  have hcv := Go.run_bytes_of_string (P := Tryz.prog) w 9 33 5 ⟨#[c]⟩ Tryz.underlying9 Tryz.underlying33 Tryz.underlying5
  have hcell := one_cell c w ((bytesRow { data := #[c] } (grownCap w 1 0 5)).size, (bytesRow { data := #[c] } (grownCap w 1 0 5)).size + 1) (grownCap w 1 0 5)
  have hne : ((c.toNat : Int) == 95) = false ∨ True := .inr trivial
  clear hne
  have hov : ∃ v : Int, Go.bits .or .u8 (c.toNat : Int) 32 = v ∧ ¬ (97 ≤ v ∧ v ≤ 122) ∧ 0 ≤ v ∧ v < 256 := ⟨_, or32 _ c.toNat_lt, by have := or32_no _ c.toNat_lt (by omega) (by omega); omega, by omega, by have : c.toNat ||| 32 < 2 ^ 8 := Nat.or_lt_two_pow c.toNat_lt (by decide); omega⟩
  obtain ⟨v, ho, hv, hv0, hv1⟩ := hov
  go_enter Tryz.func172, Tryz.ntmps172
  go_wp2
  refine wp_loop_rounds 2 ?_
  rw [rounds_succ]
  go_wp2
  all_goals first
    | (rw [rounds_succ]; go_wp2; go_ret2; first | exact ⟨rfl, below_new _ _⟩ | exact ⟨ret_pu (by omega), below_new _ _⟩)
    | (go_ret2; exact ⟨rfl, below_new _ _⟩)
theorem below_bw (w : World) (e : TypeId) (s : ByteArray) : Below w.heap.size w (Lib.bytesWorld w e s) := Lib.bytesWorld_below w e s
/-- What ParseUint answers at one byte. -/
def PuAns (base : Nat) (c : UInt8) (w : World) (e : Ending) (w' : World) : Prop :=
  (∃ x er, e = .returned (.tuple #[.int .u64 x, er]) ∧ match digitOf base c with
    | some d => x = (d : Int) ∧ er = .nilIface
    | none => ∃ t p, er = .iface t (.pointer p)) ∧ Below w.heap.size w w'
theorem digitOf_all : ∀ n : Nat, n < 256 → digitOf 16 (UInt8.ofNat n) = (if 48 ≤ n ∧ n ≤ 57 then some (n - 48) else if 97 ≤ n ∧ n ≤ 102 then some (n - 87) else if 65 ≤ n ∧ n ≤ 70 then some (n - 55) else none) := by decide +kernel
theorem digitOf_16 (c : UInt8) : digitOf 16 c = (if 48 ≤ c.toNat ∧ c.toNat ≤ 57 then some (c.toNat - 48) else if 97 ≤ c.toNat ∧ c.toNat ≤ 102 then some (c.toNat - 87) else if 65 ≤ c.toNat ∧ c.toNat ≤ 70 then some (c.toNat - 55) else none) := by
  have h := digitOf_all c.toNat c.toNat_lt
  rwa [UInt8.ofNat_toNat] at h
set_option maxRecDepth 100000 in
set_option maxHeartbeats 2000000 in
theorem pub_ok (c : UInt8) (d : Int) (w : World) (h : Calls Tryz.prog 172 #[.string ⟨#[c]⟩, .int .i64 16, .int .i64 8] w fun e w' => e = .returned (.tuple #[.int .u64 d, .nilIface]) ∧ Below w.heap.size w w') :
    Calls Tryz.prog 147 #[.string ⟨#[c]⟩, .int .i64 16, .int .i64 8] w fun e w' => e = .returned (.tuple #[.int .u64 d, .nilIface]) ∧ Below w.heap.size w w' := by
  have H := Lib.hid h
  clear h
  go_enter Tryz.func147, Tryz.ntmps147
  go_wp2_with (go_at_call 172; refine H.out.mono ?_; rintro e w1 ⟨rfl, hb⟩)
  go_ret2
  exact ⟨rfl, hb⟩
set_option maxRecDepth 100000 in
set_option maxHeartbeats 2000000 in
theorem pub_no (c : UInt8) (w : World) (hG : GInv w) (h : Calls Tryz.prog 172 #[.string ⟨#[c]⟩, .int .i64 16, .int .i64 8] w fun e w' => e = .returned (.tuple #[.int .u64 0, .iface 251 (.int .i64 2)]) ∧ Below w.heap.size w w') :
    Calls Tryz.prog 147 #[.string ⟨#[c]⟩, .int .i64 16, .int .i64 8] w fun e w' => (∃ p, e = .returned (.tuple #[.int .u64 0, .iface 253 (.pointer p)])) ∧ Below w.heap.size w w' := by
  have H := Lib.hid h
  clear h
  go_enter Tryz.func147, Tryz.ntmps147
  go_wp2_with fail
  refine H.out.mono ?_
  rintro e w1 ⟨rfl, hb⟩
  have HB := Aside0.mk hb
  have HG := Aside0.mk (hG.below hb)
  clear hb
  go_wp2_with fail
  obtain ⟨tp, p, hv⟩ := HG.out.syn
  have hev := Lib.hid (cell_of_var (g := 7) (by kernel_rfl) hv)
  clear hv
  refine (AnyPu.strconv_toError_syntax { Tryz.laysPu14 with } _ _ _ _ (.iface tp p) _ (by show 1 ≤ _; decide) hev.out (.inr ⟨_, _, rfl⟩)).mono ?_
  rintro e w2 ⟨N, rfl, _, _, hb2⟩
  have HB2 := Aside0.mk hb2
  clear hb2
  go_wp2
  go_ret2
  exact ⟨⟨_, rfl⟩, HB.out.trans (HB2.out.mono HB.out.size)⟩
theorem pu_calls16 (c : UInt8) (w : World) (hG : GInv w) : Calls Tryz.prog 147 #[.string ⟨#[c]⟩, .int .i64 16, .int .i64 8] w (PuAns 16 c w) := by
  unfold PuAns
  rw [digitOf_16 c]
  by_cases h1 : 48 ≤ c.toNat ∧ c.toNat ≤ 57
  · rw [if_pos h1]
    exact (pub_ok c _ w (pu_digit c w (by omega) (by omega))).mono fun e w' ⟨he, hb⟩ => ⟨⟨_, _, he, by omega, rfl⟩, hb⟩
  rw [if_neg h1]
  by_cases h2 : 97 ≤ c.toNat ∧ c.toNat ≤ 102
  · rw [if_pos h2]
    exact (pub_ok c _ w (pu_low c w (by omega) (by omega))).mono fun e w' ⟨he, hb⟩ => ⟨⟨_, _, he, by omega, rfl⟩, hb⟩
  rw [if_neg h2]
  by_cases h3 : 65 ≤ c.toNat ∧ c.toNat ≤ 70
  · rw [if_pos h3]
    exact (pub_ok c _ w (pu_up c w (by omega) (by omega))).mono fun e w' ⟨he, hb⟩ => ⟨⟨_, _, he, by omega, rfl⟩, hb⟩
  rw [if_neg h3]
  have hno : Calls Tryz.prog 172 #[.string ⟨#[c]⟩, .int .i64 16, .int .i64 8] w fun e w' => e = .returned (.tuple #[.int .u64 0, .iface 251 (.int .i64 2)]) ∧ Below w.heap.size w w' := by
    by_cases h4 : 103 ≤ c.toNat ∧ c.toNat ≤ 122
    · exact pu_low_no c w (by omega) (by omega)
    by_cases h5 : 71 ≤ c.toNat ∧ c.toNat ≤ 90
    · exact pu_up_no c w (by omega) (by omega)
    exact pu_none c w (by omega) (by omega) (by omega)
  exact (pub_no c w hG hno).mono fun e w' ⟨⟨p, he⟩, hb⟩ => ⟨⟨_, _, he, _, _, rfl⟩, hb⟩
theorem pu10_all : ∀ n : Nat, n < 256 → Lib.parseUintB 8 [UInt8.ofNat n] = (match digitOf 10 (UInt8.ofNat n) with | some d => .ok d | none => Lib.parseUintB 8 []) := by decide +kernel
theorem pu10 (c : UInt8) : Lib.parseUintB 8 [c] = (match digitOf 10 c with | some d => .ok d | none => Lib.parseUintB 8 []) := by
  have h := pu10_all c.toNat c.toNat_lt
  rwa [UInt8.ofNat_toNat] at h
theorem pu_calls10 (c : UInt8) (w : World) (hG : GInv w) : Calls Tryz.prog 147 #[.string ⟨#[c]⟩, .int .i64 10, .int .i64 8] w (PuAns 10 c w) := by
  unfold PuAns
  have h := pu10 c
  cases hd : digitOf 10 c with
  | some d =>
    rw [hd] at h
    refine (Tryz.strconv_ParseUint_10_at8_ok ⟨#[c]⟩ (by show 1 ≤ _; decide) d h w).mono fun e w' ⟨he, hw⟩ => ⟨⟨_, _, he, rfl, rfl⟩, ?_⟩
    rcases hw with rfl | rfl
    · exact Below.refl _ _
    · exact below_bw _ _ _
  | none =>
    rw [hd] at h
    obtain ⟨tp, p, hv⟩ := hG.syn
    exact (Any.strconv_ParseUint_10_at8_syntax_var Tryz.laysPu14 ⟨#[c]⟩ (by show 1 ≤ _; decide) (h.trans (by decide +kernel)) tp p w hv).mono fun e w' ⟨N, he, _, _, hb⟩ => ⟨⟨_, _, he, _, _, rfl⟩, hb⟩
end Go.Proofs.YtccolnlfjbgnmaaGreatDoor.Lex
/- Package lexis, by hand: what digits comes to; own text of this session. -/
namespace Go.Proofs.YtccolnlfjbgnmaaGreatDoor.Lex
open Go.RowKit Go.Proofs.YtccolnlfjbgnmaaGreatDoorW.PrintWords Go.Proofs.Hr Go.Shelf
set_option linter.unusedVariables false
theorem one_extract (a0 : ByteArray) (l : Bs) (hl : l = a0.data.toList) (k : Nat) (h : k < l.length) : a0.extract k (k + 1) = ⟨#[l[k]'h]⟩ := by
  subst hl
  have h' : k < a0.data.size := by simpa using h
  apply ByteArray.ext
  rw [ByteArray.data_extract]
  apply Array.ext
  · have e1 : a0.data.size = a0.size := rfl
    simp; omega
  · intro i h1 h2
    have : i = 0 := by simp at h2; omega
    subst this
    simp
/-- The numbers so far. -/
def dg (base : Nat) (l : Bs) (r : Int × Int) (n : Nat) (big : Bool) : Prop :=
  (match digitsGo base l n big with
  | none => (0, 50)
  | some (n, big) => if big then (0, 51) else ((n : Int), 0)) = r
theorem dg_start (base : Nat) (s : Bs) (hs : s ≠ []) (r : Int × Int) (h : Hr.digits base s = r) : dg base s r 0 false := by
  unfold Hr.digits at h
  unfold dg
  rw [← h]
  cases digitsGo base s 0 false with
  | none => rfl
  | some x => simp [hs]
theorem dg_none {base : Nat} {c : UInt8} {l : Bs} {r : Int × Int} {n : Nat} {big : Bool} (h : dg base (c :: l) r n big) (hd : digitOf base c = none) : r = (0, 50) := by
  unfold dg at h
  simp only [digitsGo, hd] at h
  exact h.symm
theorem dg_big {base : Nat} {c : UInt8} {l : Bs} {r : Int × Int} {n d : Nat} (h : dg base (c :: l) r n true) (hd : digitOf base c = some d) : dg base l r n true := by
  unfold dg at h ⊢
  simpa only [digitsGo, hd, if_true] using h
theorem dg_some {base : Nat} {c : UInt8} {l : Bs} {r : Int × Int} {n d : Nat} (h : dg base (c :: l) r n false) (hd : digitOf base c = some d) : dg base l r (n * base + d) (decide (9007199254740992 < n * base + d)) := by
  unfold dg at h ⊢
  simpa only [digitsGo, hd, Bool.false_eq_true, if_false] using h
theorem digitOf_lt {base : Nat} {c : UInt8} {d : Nat} (h : digitOf base c = some d) : d < base := by
  unfold digitOf at h
  (repeat' split at h) <;> first | (injection h with h; omega) | (simp at h)
theorem pu_any (c : UInt8) (b : Int) (hb : b = 10 ∨ b = 16) (w : World) (hG : GInv w) : Calls Tryz.prog 147 #[.string ⟨#[c]⟩, .int .i64 b, .int .i64 8] w (PuAns b.toNat c w) := by
  rcases hb with rfl | rfl
  · exact pu_calls10 c w hG
  · exact pu_calls16 c w hG
theorem emptyB {s : ByteArray} (h : s.size = 0) : s.toList.isEmpty = true := by
  have : s = ⟨#[]⟩ := by
    cases s with
    | mk d => have : d = #[] := Array.eq_empty_of_size_eq_zero h
              rw [this]
  rw [this, ByteArray.toList_eq]; rfl
theorem emptyB_no {s : ByteArray} (h : ¬ s.size = 0) : s.toList.isEmpty = false := by
  rw [ByteArray.toList_eq]
  cases hh : s.data.toList with
  | nil => exact absurd (by rw [show s.size = s.data.toList.length from Array.length_toList.symm, hh]; rfl) h
  | cons a b => rfl
set_option maxRecDepth 100000 in
set_option maxHeartbeats 2000000 in
theorem digits_calls10 (a0 : ByteArray) (r1 r2 : Int) (w : World) (hs : a0.size ≤ 281474976710656) (h : Hr.digits 10 a0.data.toList = (r1, r2)) (hG_ : GInv w) :
    Calls Tryz.prog 117 #[.string a0, .int .i64 10] w fun e w' => e = .returned (.tuple #[.int .i64 r1, .int .i64 r2]) ∧ Below w.heap.size w w' := by
  have HG := Aside0.mk hG_
  have HH := Aside0.mk h
  clear h hG_
  obtain ⟨l, hl⟩ : ∃ l, l = a0.data.toList := ⟨_, rfl⟩
  have hn : a0.size = l.length := by rw [hl]; exact Array.length_toList.symm
  by_cases hz : a0.size = 0
  · have hemp : a0.toList.isEmpty = true := emptyB hz
    have hnil : a0.data.toList = [] := by rw [← hl]; exact List.eq_nil_of_length_eq_zero (by omega)
    have hr : (0, 50) = (r1, r2) := by rw [← HH.out, hnil]; rfl
    injection hr with h1 h2
    subst h1; subst h2
    have HZ := Aside0.mk hz
    clear hl hn hnil HH hz
    go_enter Tryz.func117, Tryz.ntmps117
    go_wp2
    refine wp_loop_rounds 1 ?_
    rw [rounds_succ]
    have hz : (a0.size : Int) = 0 := by rw [HZ.out]; rfl
    go_wp2
    go_ret2
    exact ⟨rfl, Below.refl _ _⟩
  have hlne : l ≠ [] := by intro h0; rw [h0] at hn; exact hz hn
  have HD := Aside0.mk (dg_start 10 l hlne (r1, r2) (by rw [hl]; exact HH.out))
  have hemp : a0.toList.isEmpty = false := emptyB_no hz
  have HL := Aside0.mk hl
  have HN := Aside0.mk hn
  clear hl hn hlne HH hz
  go_enter Tryz.func117, Tryz.ntmps117
  go_wp2
  go_loopw [6, 7, 13] (fun n big i wr => ∃ (k m : Nat) (b : Bool), k ≤ a0.size ∧ i = .int .i64 k ∧ n = .int .i64 m ∧ big = .bool b ∧ m ≤ 9007199254740992 * 16 + 16 ∧ (b = false → m ≤ 9007199254740992) ∧ Aside0 (dg 10 (l.drop k) (r1, r2) m b) ∧ Aside0 (Below w.heap.size w wr)) (fun _ _ i _ => a0.size - (intOf i).toNat)
  case atStart => exact ⟨0, 0, false, Nat.zero_le _, rfl, rfl, rfl, by omega, fun _ => by omega, HD, ⟨Below.refl _ _⟩⟩
  case round =>
    obtain ⟨k, m, b, hk, rfl, rfl, rfl, hm, hmb, HDk, HBw⟩ := hrel
    by_cases hlt : k < a0.size
    · have hkl : k < l.length := by rw [← HN.out]; exact hlt
      obtain ⟨c, hc⟩ : ∃ c, c = l[k]'hkl := ⟨_, rfl⟩
      have HE := Aside0.mk (one_extract a0 l HL.out k hkl)
      rw [← hc] at HE
      have HDc : Aside0 (dg 10 (c :: l.drop (k + 1)) (r1, r2) m b) := ⟨by rw [hc, ← List.drop_eq_getElem_cons hkl]; exact HDk.out⟩
      clear hc HDk HD
      go_wp2_with fail
      rw [HE.out]
      refine (pu_any c 10 (by decide) wr (HG.out.below HBw.out)).mono ?_
      intro e w1 hans
      obtain ⟨⟨x, er, rfl, hx⟩, hbl⟩ := hans
      have HB1 := Aside0.mk (below_step HBw.out hbl)
      clear hbl
      cases hd : digitOf 10 c with
      | none =>
        have hd' : digitOf (10 : Int).toNat c = none := hd
        rw [hd'] at hx
        obtain ⟨t, p, rfl⟩ := hx
        have hr := dg_none HDc.out hd
        injection hr with h1 h2
        subst h1; subst h2
        clear hd hd'
        go_wp2
        go_ret2
        exact ⟨rfl, HB1.out⟩
      | some d =>
        have hd' : digitOf (10 : Int).toNat c = some d := hd
        rw [hd'] at hx
        obtain ⟨rfl, rfl⟩ := hx
        have hdl := digitOf_lt hd
        have HDD := Aside0.mk hd
        clear hd hd'
        cases b with
        | true =>
          have HX := Aside0.mk (dg_big HDc.out HDD.out)
          clear hmb
          go_wp2
          go_roundw
          case rel => exact ⟨k + 1, m, true, by omega, by go_num, rfl, rfl, hm, (fun h => by cases h), HX, HB1⟩
          case measure => simp [intOf]; omega
        | false =>
          have HX := Aside0.mk (dg_some HDc.out HDD.out)
          have hmb' : m ≤ 9007199254740992 := hmb rfl
          clear hmb hm
          by_cases hbig : 9007199254740992 < m * 10 + d
          · have hbd : decide ((9007199254740992 : Int) < (m : Int) * 10 + (d : Int)) = true := decide_eq_true (by omega)
            rw [decide_eq_true hbig] at HX
            go_wp2
            go_roundw
            case rel => exact ⟨k + 1, m * 10 + d, true, by omega, by go_num, by go_num, rfl, by omega, (fun h => by cases h), HX, HB1⟩
            case measure => simp [intOf]; omega
          · have hbd : decide ((9007199254740992 : Int) < (m : Int) * 10 + (d : Int)) = false := decide_eq_false (by omega)
            rw [decide_eq_false hbig] at HX
            go_wp2
            go_roundw
            case rel => exact ⟨k + 1, m * 10 + d, false, by omega, by go_num, by go_num, rfl, by omega, fun _ => by omega, HX, HB1⟩
            case measure => simp [intOf]; omega
    · have hdr : l.drop k = [] := by rw [List.drop_eq_nil_iff, ← HN.out]; omega
      have hfin : (if b then ((0 : Int), (51 : Int)) else ((m : Int), 0)) = (r1, r2) := by have h5 := HDk.out; rw [hdr] at h5; exact h5
      clear hdr HDk HD
      cases b with
      | true =>
        injection hfin with h1 h2
        subst h1; subst h2
        go_wp2
        go_ret2
        exact ⟨rfl, HBw.out⟩
      | false =>
        injection hfin with h1 h2
        subst h1; subst h2
        go_wp2
        go_ret2
        exact ⟨rfl, HBw.out⟩
set_option maxRecDepth 100000 in
set_option maxHeartbeats 2000000 in
theorem digits_calls16 (a0 : ByteArray) (r1 r2 : Int) (w : World) (hs : a0.size ≤ 281474976710656) (h : Hr.digits 16 a0.data.toList = (r1, r2)) (hG_ : GInv w) :
    Calls Tryz.prog 117 #[.string a0, .int .i64 16] w fun e w' => e = .returned (.tuple #[.int .i64 r1, .int .i64 r2]) ∧ Below w.heap.size w w' := by
  have HG := Aside0.mk hG_
  have HH := Aside0.mk h
  clear h hG_
  obtain ⟨l, hl⟩ : ∃ l, l = a0.data.toList := ⟨_, rfl⟩
  have hn : a0.size = l.length := by rw [hl]; exact Array.length_toList.symm
  by_cases hz : a0.size = 0
  · have hemp : a0.toList.isEmpty = true := emptyB hz
    have hnil : a0.data.toList = [] := by rw [← hl]; exact List.eq_nil_of_length_eq_zero (by omega)
    have hr : (0, 50) = (r1, r2) := by rw [← HH.out, hnil]; rfl
    injection hr with h1 h2
    subst h1; subst h2
    have HZ := Aside0.mk hz
    clear hl hn hnil HH hz
    go_enter Tryz.func117, Tryz.ntmps117
    go_wp2
    refine wp_loop_rounds 1 ?_
    rw [rounds_succ]
    have hz : (a0.size : Int) = 0 := by rw [HZ.out]; rfl
    go_wp2
    go_ret2
    exact ⟨rfl, Below.refl _ _⟩
  have hlne : l ≠ [] := by intro h0; rw [h0] at hn; exact hz hn
  have HD := Aside0.mk (dg_start 16 l hlne (r1, r2) (by rw [hl]; exact HH.out))
  have hemp : a0.toList.isEmpty = false := emptyB_no hz
  have HL := Aside0.mk hl
  have HN := Aside0.mk hn
  clear hl hn hlne HH hz
  go_enter Tryz.func117, Tryz.ntmps117
  go_wp2
  go_loopw [6, 7, 13] (fun n big i wr => ∃ (k m : Nat) (b : Bool), k ≤ a0.size ∧ i = .int .i64 k ∧ n = .int .i64 m ∧ big = .bool b ∧ m ≤ 9007199254740992 * 16 + 16 ∧ (b = false → m ≤ 9007199254740992) ∧ Aside0 (dg 16 (l.drop k) (r1, r2) m b) ∧ Aside0 (Below w.heap.size w wr)) (fun _ _ i _ => a0.size - (intOf i).toNat)
  case atStart => exact ⟨0, 0, false, Nat.zero_le _, rfl, rfl, rfl, by omega, fun _ => by omega, HD, ⟨Below.refl _ _⟩⟩
  case round =>
    obtain ⟨k, m, b, hk, rfl, rfl, rfl, hm, hmb, HDk, HBw⟩ := hrel
    by_cases hlt : k < a0.size
    · have hkl : k < l.length := by rw [← HN.out]; exact hlt
      obtain ⟨c, hc⟩ : ∃ c, c = l[k]'hkl := ⟨_, rfl⟩
      have HE := Aside0.mk (one_extract a0 l HL.out k hkl)
      rw [← hc] at HE
      have HDc : Aside0 (dg 16 (c :: l.drop (k + 1)) (r1, r2) m b) := ⟨by rw [hc, ← List.drop_eq_getElem_cons hkl]; exact HDk.out⟩
      clear hc HDk HD
      go_wp2_with fail
      rw [HE.out]
      refine (pu_any c 16 (by decide) wr (HG.out.below HBw.out)).mono ?_
      intro e w1 hans
      obtain ⟨⟨x, er, rfl, hx⟩, hbl⟩ := hans
      have HB1 := Aside0.mk (below_step HBw.out hbl)
      clear hbl
      cases hd : digitOf 16 c with
      | none =>
        have hd' : digitOf (16 : Int).toNat c = none := hd
        rw [hd'] at hx
        obtain ⟨t, p, rfl⟩ := hx
        have hr := dg_none HDc.out hd
        injection hr with h1 h2
        subst h1; subst h2
        clear hd hd'
        go_wp2
        go_ret2
        exact ⟨rfl, HB1.out⟩
      | some d =>
        have hd' : digitOf (16 : Int).toNat c = some d := hd
        rw [hd'] at hx
        obtain ⟨rfl, rfl⟩ := hx
        have hdl := digitOf_lt hd
        have HDD := Aside0.mk hd
        clear hd hd'
        cases b with
        | true =>
          have HX := Aside0.mk (dg_big HDc.out HDD.out)
          clear hmb
          go_wp2
          go_roundw
          case rel => exact ⟨k + 1, m, true, by omega, by go_num, rfl, rfl, hm, (fun h => by cases h), HX, HB1⟩
          case measure => simp [intOf]; omega
        | false =>
          have HX := Aside0.mk (dg_some HDc.out HDD.out)
          have hmb' : m ≤ 9007199254740992 := hmb rfl
          clear hmb hm
          by_cases hbig : 9007199254740992 < m * 16 + d
          · have hbd : decide ((9007199254740992 : Int) < (m : Int) * 16 + (d : Int)) = true := decide_eq_true (by omega)
            rw [decide_eq_true hbig] at HX
            go_wp2
            go_roundw
            case rel => exact ⟨k + 1, m * 16 + d, true, by omega, by go_num, by go_num, rfl, by omega, (fun h => by cases h), HX, HB1⟩
            case measure => simp [intOf]; omega
          · have hbd : decide ((9007199254740992 : Int) < (m : Int) * 16 + (d : Int)) = false := decide_eq_false (by omega)
            rw [decide_eq_false hbig] at HX
            go_wp2
            go_roundw
            case rel => exact ⟨k + 1, m * 16 + d, false, by omega, by go_num, by go_num, rfl, by omega, fun _ => by omega, HX, HB1⟩
            case measure => simp [intOf]; omega
    · have hdr : l.drop k = [] := by rw [List.drop_eq_nil_iff, ← HN.out]; omega
      have hfin : (if b then ((0 : Int), (51 : Int)) else ((m : Int), 0)) = (r1, r2) := by have h5 := HDk.out; rw [hdr] at h5; exact h5
      clear hdr HDk HD
      cases b with
      | true =>
        injection hfin with h1 h2
        subst h1; subst h2
        go_wp2
        go_ret2
        exact ⟨rfl, HBw.out⟩
      | false =>
        injection hfin with h1 h2
        subst h1; subst h2
        go_wp2
        go_ret2
        exact ⟨rfl, HBw.out⟩
theorem digits_calls (a0 : ByteArray) (a1 r1 r2 : Int) (w : World) (hs : a0.size ≤ 281474976710656) (hb : a1 = 10 ∨ a1 = 16) (h : Hr.digits a1.toNat a0.data.toList = (r1, r2)) (hG_ : GInv w) :
    Calls Tryz.prog 117 #[.string a0, .int .i64 a1] w fun e w' => e = .returned (.tuple #[.int .i64 r1, .int .i64 r2]) ∧ Below w.heap.size w w' := by
  rcases hb with rfl | rfl
  · exact digits_calls10 a0 r1 r2 w hs h hG_
  · exact digits_calls16 a0 r1 r2 w hs h hG_
end Go.Proofs.YtccolnlfjbgnmaaGreatDoor.Lex
/- Package lexis, by hand: Trim, and what List's closure does; own text of this session. -/
namespace Go.Proofs.YtccolnlfjbgnmaaGreatDoor.Lex
open Go.RowKit Go.Proofs.YtccolnlfjbgnmaaGreatDoorW.PrintWords Go.Proofs.Hr Go.Shelf Go.Lib
set_option linter.unusedVariables false
theorem trim_calls (a0 : ByteArray) (w : World) (hs : a0.size ≤ 4611686018427387904) :
    Calls Tryz.prog 146 #[.string a0, .string ⟨#[32, 9]⟩] w fun e w' => e = .returned (.string ⟨(trim a0.data.toList).toArray⟩) ∧ Below w.heap.size w w' :=
  Any.strings_Trim_laid Tryz.lays160 (by kernel_rfl) a0 ⟨#[32, 9]⟩ w (by omega) (by decide) (ascii_of_all (by decide))
theorem lexTrim_calls (a0 : ByteArray) (w : World) (hs : a0.size ≤ 4611686018427387904) :
    Calls Tryz.prog 116 #[.string a0] w fun e w' => e = .returned (.string ⟨(trim a0.data.toList).toArray⟩) ∧ Below w.heap.size w w' := by
  have H := Lib.hid (trim_calls a0 w hs)
  generalize hr : (⟨(trim a0.data.toList).toArray⟩ : ByteArray) = r at H ⊢
  clear hr
  go_enter Tryz.func116, Tryz.ntmps116
  go_wp2_with (go_at_call 146; refine H.out.mono ?_; rintro e w' ⟨rfl, hB⟩)
  go_ret
  exact ⟨rfl, hB⟩
structure LInv (B : Nat) (a0 : ByteArray) (fr : Int) (v : Value) (xs : List ByteArray) (w : World) : Prop where
  s : w.heap[B]? = some (.cells #[.string a0] 9 (0, 0))
  o : w.heap[B + 1]? = some (.cells #[v] 80 (0, 0))
  f : w.heap[B + 2]? = some (.cells #[.int .i64 fr] 3 (0, 0))
  r : Kd.string.R 9 w (B + 3) (fun k => B + 3 ≤ k) v xs
theorem cell_one {w : World} {b : Nat} {v : Value} {t : TypeId} (h : w.heap[b]? = some (.cells #[v] t (0, 0))) : w.cell? ⟨b, 0, none⟩ = some v := by
  unfold World.cell?; simp [h]
theorem free_one {w : World} {b : Nat} {v : Value} {t : TypeId} (h : w.heap[b]? = some (.cells #[v] t (0, 0))) : w.frozen? ⟨b, 0, none⟩ = false := by
  unfold World.frozen?; simp [h]
theorem lt_blk {w : World} {b : Nat} {o : Obj} (h : w.heap[b]? = some o) : b < w.heap.size := (Array.getElem?_eq_some_iff.1 h).1
theorem LInv.below {B : Nat} {a0 : ByteArray} {fr : Int} {v : Value} {xs : List ByteArray} {w w' : World} (h : LInv B a0 fr v xs w) (hb : Below w.heap.size w w') : LInv B a0 fr v xs w' :=
  ⟨(hb.block _ (lt_blk h.s)).trans h.s, (hb.block _ (lt_blk h.o)).trans h.o, (hb.block _ (lt_blk h.f)).trans h.f, Kd.R_below h.r hb⟩
theorem info_str : (Tryz.prog.info? 9).map (fun i => (i.zero, i.size, i.bytes)) = some (some (.string ⟨#[]⟩), 1, 16) := by kernel_rfl
theorem set_one {w : World} {b : Nat} {u v : Value} {t : TypeId} (h : w.heap[b]? = some (.cells #[u] t (0, 0))) : (w.setCell ⟨b, 0, none⟩ v).heap[b]? = some (.cells #[v] t (0, 0)) := by
  rw [setCell_block h]; rfl
theorem set_other {w : World} {b c : Nat} {v : Value} {k : Nat} (h : c ≠ b) : (w.setCell ⟨b, k, none⟩ v).heap[c]? = w.heap[c]? := by
  unfold World.setCell
  simp only [Array.getElem?_modify]
  rw [if_neg (fun e => h e.symm)]
theorem LInv.setF {B : Nat} {a0 : ByteArray} {fr fr' : Int} {v : Value} {xs : List ByteArray} {w : World} (h : LInv B a0 fr v xs w) : LInv B a0 fr' v xs (w.setCell ⟨B + 2, 0, none⟩ (.int .i64 fr')) :=
  ⟨(set_other (by omega)).trans h.s, (set_other (by omega)).trans h.o, set_one h.f, Kd.R_step h.r (fun k hk _ => set_other (by omega))⟩
def PutPost (B : Nat) (a0 : ByteArray) (t1 : Int) (ys : List ByteArray) (w : World) (e : Ending) (w' : World) : Prop :=
  e = .returned (.tuple #[]) ∧ (∃ v', LInv B a0 (t1 + 1) v' ys w') ∧ Below B w w'
set_option maxRecDepth 100000 in
set_option maxHeartbeats 2000000 in
theorem put_calls (B : Nat) (a0 : ByteArray) (fr t1 : Int) (v : Value) (xs : List ByteArray) (w : World) (h : LInv B a0 fr v xs w) (h0 : 0 ≤ fr) (h1 : fr ≤ t1) (h2 : t1 ≤ a0.size) (hs : a0.size ≤ 4398046511104) (hx : xs.length ≤ 4398046511104) :
    Calls Tryz.prog 198 #[.int .i64 t1, .pointer (some ⟨B, 0, none⟩), .pointer (some ⟨B + 2, 0, none⟩), .pointer (some ⟨B + 1, 0, none⟩)] w fun e w' => e = .returned (.tuple #[]) ∧
      (∃ v', LInv B a0 (t1 + 1) v' (let t := trim (a0.extract fr.toNat t1.toNat).data.toList; if t = [] then xs else xs ++ [⟨t.toArray⟩]) w') ∧ Below B w w' := by
  generalize hys : (let t := trim (a0.extract fr.toNat t1.toNat).data.toList; if t = [] then xs else xs ++ [(⟨t.toArray⟩ : ByteArray)]) = ys
  have HY := Aside0.mk hys
  clear hys
  show Calls _ _ _ _ (PutPost B a0 t1 ys w)
  have HI := Aside0.mk h
  have hcS := cell_one h.s
  have hcO := cell_one h.o
  have hcF := cell_one h.f
  clear h
  go_enter Tryz.func198, Tryz.ntmps198
  go_wp2_with fail
  refine (lexTrim_calls _ w (by rw [ByteArray.size_extract]; omega)).mono ?_
  rintro e w1 ⟨rfl, hb⟩
  replace HY := HY.out
  generalize ht : trim (a0.extract fr.toNat t1.toNat).data.toList = t at HY ⊢
  clear ht
  replace HY := Aside0.mk HY
  have HI1 := Aside0.mk (HI.out.below hb)
  have HB := Aside0.mk hb
  have hlt := lt_blk HI.out.f
  clear hb hcS hcO hcF
  have HLT := Aside0.mk hlt
  have HSZ := Aside0.mk HB.out.size
  clear hlt
  by_cases hz : t = []
  · have hemp : t.isEmpty = true := by rw [hz]; rfl
    have hcF := cell_one HI1.out.f
    have hfF := free_one HI1.out.f
    have hys : xs = ys := by rw [← HY.out, hz]; rfl
    clear hz
    have HYS := Aside0.mk hys
    clear hys
    go_wp2
    refine bodyPost_end (results_none rfl _ _ _) rfl ⟨rfl, ⟨v, HYS.out ▸ HI1.out.setF⟩, (HB.out.mono (by have := HLT.out; omega)).setCell (show B ≤ B + 2 by omega) _⟩
  · have hemp : t.isEmpty = false := by cases t with | nil => exact absurd rfl hz | cons => rfl
    have hcO := cell_one HI1.out.o
    have hys : xs ++ [⟨t.toArray⟩] = ys := by rw [← HY.out]; simp only [hz, if_false]
    clear hz
    have HYS := Aside0.mk hys
    clear hys
    go_wp2_with (at_builtin; refine Kd.R_append Kd.string (w0 := w1) (B + 3) rfl (.tmp 13) (.tmp 15) 80 9 (.string ⟨#[]⟩) 16 rfl Tryz.underlying80 info_str rfl (by decide) (by omega) v xs ⟨t.toArray⟩ [.string ⟨t.toArray⟩] (fun k => B + 3 ≤ k) (fun _ => False) rfl rfl ?aP (fun _ hk => hk.elim) ?aF ?aO ?aB ?aS ?aL ?_)
    case aP => rfl
    case aF => intro k hk; have := HLT.out; have := HSZ.out; omega
    case aO => exact HI1.out.r
    case aB => exact Below.refl _ _
    case aS => have := HLT.out; have := HSZ.out; omega
    case aL => omega
    intro v1 w2 hR hb2 hg hat
    have hl3 : B + 2 < w1.heap.size := by have := HLT.out; have := HSZ.out; omega
    have hne : ∀ k, k < B + 3 → some k ≠ v.ownBlock := by
      intro k hk e
      have := Kd.R_base HI1.out.r k e.symm
      omega
    have hO2 : w2.heap[B + 1]? = some (.cells #[v] 80 (0, 0)) := (hg.block _ (by omega) (hne _ (by omega))).trans HI1.out.o
    have hF2 : w2.heap[B + 2]? = some (.cells #[.int .i64 fr] 3 (0, 0)) := (hg.block _ (by omega) (hne _ (by omega))).trans HI1.out.f
    have hS2 : w2.heap[B]? = some (.cells #[.string a0] 9 (0, 0)) := (hg.block _ (by omega) (hne _ (by omega))).trans HI1.out.s
    have hcO2 := cell_one hO2
    have hfO2 := free_one hO2
    obtain ⟨A1, c1, e1⟩ := Kd.R_slice hR
    rw [show (xs ++ [(⟨t.toArray⟩ : ByteArray)]).length = xs.length + 1 from by simp] at e1
    subst e1
    have hcF3 := cell_one ((set_other (w := w2) (b := B + 1) (k := 0) (v := .slice A1 (xs.length + 1) c1) (c := B + 2) (by omega)).trans hF2)
    have hfF3 := free_one ((set_other (w := w2) (b := B + 1) (k := 0) (v := .slice A1 (xs.length + 1) c1) (c := B + 2) (by omega)).trans hF2)
    have HR := Aside0.mk hR
    have HB2 := Aside0.mk hb2
    have HO2 := Aside0.mk hO2
    have HF2 := Aside0.mk hF2
    have HS2 := Aside0.mk hS2
    clear hR hb2 hg hat hne hO2 hF2 hS2 hl3 hcO
    go_wp2
    refine bodyPost_end (results_none rfl _ _ _) rfl ⟨rfl, ⟨.slice A1 (xs.length + 1) c1, ?_⟩, ?_⟩
    · rw [← HYS.out]
      exact LInv.setF (fr := fr) ⟨(set_other (by omega)).trans HS2.out, set_one HO2.out, (set_other (by omega)).trans HF2.out, Kd.R_step HR.out (fun k hk _ => set_other (by omega))⟩
    · have hB : B ≤ w.heap.size := by have := HLT.out; omega
      have h5 : Below B w w2 := (HB.out.mono hB).trans (HB2.out.mono (by omega))
      exact (h5.setCell (show B ≤ B + 1 by omega) _).setCell (show B ≤ B + 2 by omega) _
end Go.Proofs.YtccolnlfjbgnmaaGreatDoor.Lex
/- Package lexis, by hand: what List comes to; own text of this session. -/
namespace Go.Proofs.YtccolnlfjbgnmaaGreatDoor.Lex
open Go.RowKit Go.Proofs.YtccolnlfjbgnmaaGreatDoorW.PrintWords Go.Proofs.Hr Go.Shelf Go.Lib
set_option linter.unusedVariables false
def mkB (l : Bs) : ByteArray := ⟨l.toArray⟩
theorem listGo_nil (part : Bs) (q : Bool) (out : List Bs) : listGo [] part q out = Hr.put part out := by unfold listGo; rfl
theorem listGo_cons (c : UInt8) (rest part : Bs) (q : Bool) (out : List Bs) : listGo (c :: rest) part q out =
    if c == 34 then listGo rest (part ++ [c]) (!q) out
    else if c == 92 && q then (match rest with | [] => Hr.put (part ++ [c]) out | d :: r => listGo r (part ++ [c, d]) q out)
    else if c == 44 && !q then listGo rest [] q (Hr.put part out)
    else listGo rest (part ++ [c]) q out := by
  cases rest with
  | cons d r => rw [listGo]
  | nil =>
    have e0 : listGo [c] part q out = (if c == 44 && !q then Hr.put [] (Hr.put part out) else Hr.put (part ++ [c]) out) := by unfold listGo; rfl
    rw [e0]
    simp only [listGo_nil]
    by_cases h1 : c = 34
    · subst h1; rfl
    · by_cases h2 : c = 92
      · subst h2; cases q <;> rfl
      · by_cases h3 : c = 44
        · subst h3; cases q <;> rfl
        · have e1 : (c == 34) = false := by simpa using h1
          have e2 : (c == 92) = false := by simpa using h2
          have e3 : (c == 44) = false := by simpa using h3
          simp only [e1, e2, e3, Bool.false_and, Bool.false_eq_true, if_false]
/-- What is still to come, at place i. -/
structure LFin (l : Bs) (R : List Bs) (i : Nat) (q : Bool) (fr : Nat) (ys : List Bs) : Prop where
  le : fr ≤ l.length
  cnt : ys.length ≤ fr
  i1 : i ≤ l.length + 1
  go : i ≤ l.length → fr ≤ i ∧ listGo (l.drop i) ((l.take i).drop fr) q ys = R
  fin : l.length ≤ i → Hr.put (l.drop fr) ys = R
theorem put_len (p : Bs) (ys : List Bs) : (Hr.put p ys).length ≤ ys.length + 1 := by unfold Hr.put; split <;> simp
theorem part_succ (l : Bs) (fr i : Nat) (h : i < l.length) (hf : fr ≤ i) : (l.take (i + 1)).drop fr = (l.take i).drop fr ++ [l[i]'h] := by
  rw [List.take_succ_eq_append_getElem h, List.drop_append_of_le_length (by simp; omega)]
theorem LFin.start (l : Bs) : LFin l (Hr.list l) 0 false 0 [] :=
  ⟨Nat.zero_le _, Nat.zero_le _, Nat.zero_le _, fun _ => ⟨Nat.zero_le _, rfl⟩, fun h => by
    have : l = [] := List.eq_nil_of_length_eq_zero (by omega)
    subst this; rfl⟩
section
variable {l : Bs} {R ys : List Bs} {i fr : Nat} {q : Bool}
theorem LFin.mk' (hle : fr ≤ l.length) (hc : ys.length ≤ fr) (hi : i ≤ l.length) (hf : fr ≤ i) (h : listGo (l.drop i) ((l.take i).drop fr) q ys = R) : LFin l R i q fr ys :=
  ⟨hle, hc, by omega, fun _ => ⟨hf, h⟩, fun h2 => by
    have e : i = l.length := by omega
    subst e
    rw [List.drop_length, listGo_nil, List.take_length] at h
    exact h⟩
theorem LFin.at (h : LFin l R i q fr ys) (hi : i < l.length) : fr ≤ i ∧ listGo (l[i]'hi :: l.drop (i + 1)) ((l.take i).drop fr) q ys = R := by
  obtain ⟨h1, h2⟩ := h.go (by omega)
  rw [List.drop_eq_getElem_cons hi] at h2
  exact ⟨h1, h2⟩
theorem LFin.quote (h : LFin l R i q fr ys) (hi : i < l.length) (hc : l[i]'hi = 34) : LFin l R (i + 1) (!q) fr ys := by
  obtain ⟨h1, h2⟩ := h.at hi
  rw [listGo_cons, hc] at h2
  refine LFin.mk' h.le h.cnt (by omega) (by omega) ?_
  rw [part_succ l fr i hi h1, hc]
  exact h2
theorem LFin.plain (h : LFin l R i q fr ys) (hi : i < l.length) (h34 : ¬ l[i]'hi = 34) (h92 : ¬ (l[i]'hi = 92 ∧ q = true)) (h44 : ¬ (l[i]'hi = 44 ∧ q = false)) : LFin l R (i + 1) q fr ys := by
  obtain ⟨h1, h2⟩ := h.at hi
  rw [listGo_cons, if_neg (by simpa using h34), if_neg (by simpa using h92), if_neg (by simpa using h44)] at h2
  refine LFin.mk' h.le h.cnt (by omega) (by omega) ?_
  rw [part_succ l fr i hi h1]
  exact h2
theorem LFin.comma (h : LFin l R i false fr ys) (hi : i < l.length) (hc : l[i]'hi = 44) : LFin l R (i + 1) false (i + 1) (Hr.put ((l.take i).drop fr) ys) := by
  obtain ⟨h1, h2⟩ := h.at hi
  rw [listGo_cons, hc] at h2
  refine LFin.mk' (by omega) (by have := put_len ((l.take i).drop fr) ys; have := h.cnt; omega) (by omega) (by omega) ?_
  have e : (l.take (i + 1)).drop (i + 1) = [] := List.drop_eq_nil_of_le (by rw [List.length_take]; omega)
  rw [e]
  exact h2
theorem LFin.skip (h : LFin l R i true fr ys) (hi : i < l.length) (hc : l[i]'hi = 92) : LFin l R (i + 2) true fr ys := by
  obtain ⟨h1, h2⟩ := h.at hi
  rw [listGo_cons, hc] at h2
  by_cases hi2 : i + 1 < l.length
  · rw [List.drop_eq_getElem_cons hi2] at h2
    refine LFin.mk' h.le h.cnt (by omega) (by omega) ?_
    rw [part_succ l fr (i + 1) hi2 (by omega), part_succ l fr i hi h1, hc, List.append_assoc]
    exact h2
  · have e : l.drop (i + 1) = [] := List.drop_eq_nil_of_le (by omega)
    rw [e] at h2
    refine ⟨h.le, h.cnt, by omega, fun h3 => by omega, fun _ => ?_⟩
    have h4 : Hr.put ((l.take i).drop fr ++ [92]) ys = R := h2
    rw [← hc, ← part_succ l fr i hi h1, List.take_of_length_le (by omega)] at h4
    exact h4
end
theorem put_mk (p : Bs) (ys : List Bs) : (let t := trim p; if t = [] then ys.map mkB else ys.map mkB ++ [(⟨t.toArray⟩ : ByteArray)]) = (Hr.put p ys).map mkB := by
  unfold Hr.put
  dsimp only
  split
  · rfl
  · rw [List.map_append]; rfl
theorem ext_part (a0 : ByteArray) (l : Bs) (hl : l = a0.data.toList) (fr i : Nat) : (a0.extract fr i).data.toList = (l.take i).drop fr := by
  subst hl
  rw [ByteArray.data_extract]
  simp [List.extract_eq_take_drop, List.drop_take]
theorem LInv.start (a0 : ByteArray) (w : World) : LInv w.heap.size a0 0 (.slice none 0 0) [] (((w.alloc (.cells #[.string a0] 9)).alloc (.cells #[.slice none 0 0] 80)).alloc (.cells #[.int .i64 0] 3)) := by
  refine ⟨?_, ?_, ?_, Kd.R_nil _ _ _ _ _⟩
  · show (((w.heap.push _).push _).push _)[_]? = _
    rw [Array.getElem?_push, if_neg (by simp; omega), Array.getElem?_push, if_neg (by simp), Array.getElem?_push, if_pos rfl]
  · show (((w.heap.push _).push _).push _)[_]? = _
    rw [Array.getElem?_push, if_neg (by simp), Array.getElem?_push, if_pos (by simp)]
  · show (((w.heap.push _).push _).push _)[_]? = _
    rw [Array.getElem?_push, if_pos (by simp)]
theorem beqN (c : UInt8) (n : Nat) (hn : n < 256) : (((c.toNat : Int) == (n : Int)) = true → c = UInt8.ofNat n) ∧ (((c.toNat : Int) == (n : Int)) = false → ¬ c = UInt8.ofNat n) := by
  constructor
  · intro h
    have h1 : c.toNat = n := by have := beq_iff_eq.1 h; omega
    rw [← h1, UInt8.ofNat_toNat]
  · intro h e
    have h1 := beq_eq_false_iff_ne.1 h
    apply h1
    rw [e, UInt8.toNat_ofNat']
    have : n % 2 ^ 8 = n := Nat.mod_eq_of_lt hn
    rw [this]
def ListPost (a0 : ByteArray) (R : List ByteArray) (w : World) (e : Ending) (w' : World) : Prop :=
  ∃ v0_ : Value, e = .returned (v0_) ∧ Kd.R Kd.string 9 w' w.heap.size (fun _ => True) v0_ R ∧ Below w.heap.size w w'
set_option maxRecDepth 100000 in
set_option maxHeartbeats 4000000 in
theorem list_calls (a0 : ByteArray) (w : World) (hs : a0.size ≤ 4398046511104) :
    Calls Tryz.prog 177 #[.string a0] w (ListPost a0 ((Hr.list a0.data.toList).map mkB) w) := by
  obtain ⟨l, hl⟩ : ∃ l, l = a0.data.toList := ⟨_, rfl⟩
  have hn : a0.size = l.length := by rw [hl]; exact Array.length_toList.symm
  rw [← hl]
  generalize hR : Hr.list l = R
  have HF := Aside0.mk (hR ▸ LFin.start l)
  have HL := Aside0.mk hl
  have HN := Aside0.mk hn
  clear hl hn hR
  go_enter Tryz.func177, Tryz.ntmps177
  go_wp2
  obtain ⟨B, hB⟩ : ∃ B, B = w.heap.size := ⟨_, rfl⟩
  have HI0 : Aside0 (LInv B a0 0 (.slice none 0 0) (List.map mkB []) (((w.alloc (.cells #[.string a0] 9)).alloc (.cells #[.slice none 0 0] 80)).alloc (.cells #[.int .i64 0] 3))) := ⟨by subst hB; exact LInv.start a0 w⟩
  have HB0 : Aside0 (Below B w (((w.alloc (.cells #[.string a0] 9)).alloc (.cells #[.slice none 0 0] 80)).alloc (.cells #[.int .i64 0] 3))) := ⟨by
    subst hB
    exact (((Below.refl _ _).alloc (Nat.le_refl _) _).alloc (by show _ ≤ (w.heap.push _).size; simp) _).alloc (by show _ ≤ ((w.heap.push _).push _).size; simp; omega) _⟩
  rw [← hB]
  have HBW := Aside0.mk hB
  clear hB
  generalize (((w.alloc (.cells #[.string a0] 9)).alloc (.cells #[.slice none 0 0] 80)).alloc (.cells #[.int .i64 0] 3)) = wx at HI0 HB0 ⊢
  go_loopw [5, 7] (fun qv iv wr => ∃ (i fr : Nat) (q : Bool) (v : Value) (ys : List Bs), iv = .int .i64 i ∧ qv = .bool q ∧ i ≤ a0.size + 1 ∧ Aside0 (LFin l R i q fr ys) ∧ Aside0 (LInv B a0 fr v (ys.map mkB) wr) ∧ Aside0 (Below B w wr)) (fun _ iv _ => a0.size + 1 - (RowKit.intOf iv).toNat)
  case atStart => exact ⟨0, 0, false, _, [], rfl, rfl, by omega, HF, HI0, HB0⟩
  case round =>
    clear HF HI0 HB0
    obtain ⟨i, fr, q, v, ys, rfl, rfl, hi1, HF, HI, HB⟩ := hrel
    have hcS := cell_one HI.out.s
    by_cases hlt : i < a0.size
    · have hil : i < l.length := by rw [← HN.out]; exact hlt
      obtain ⟨c, hc⟩ : ∃ c, c = l[i]'hil := ⟨_, rfl⟩
      have hgi : ∀ h : i < a0.size, (a0[i]'h).toNat = c.toNat := by
        intro h
        rw [hc]
        have : a0[i]'h = a0.data.toList[i]'(by rw [← HL.out]; exact hil) := by simp [ByteArray.getElem_eq_getElem_data]
        rw [this]
        simp only [← HL.out]
      have HC := Aside0.mk hc
      clear hc
      go_wp2_with fail
      · have h34 : ((c.toNat : Int) == 34) = true := by assumption
        have e := (beqN c 34 (by decide)).1 h34
        go_roundw
        case rel => exact ⟨i + 1, fr, !q, v, ys, by go_num, rfl, by omega, ⟨HF.out.quote hil (HC.out ▸ e)⟩, HI, HB⟩
        case measure => simp [RowKit.intOf]; omega
      · have h92 : ((c.toNat : Int) == 92) = true := by assumption
        have hq : q = true := by assumption
        have e := (beqN c 92 (by decide)).1 h92
        subst hq
        go_roundw
        case rel => exact ⟨i + 2, fr, true, v, ys, by go_num, rfl, by omega, ⟨HF.out.skip hil (HC.out ▸ e)⟩, HI, HB⟩
        case measure => simp [RowKit.intOf]; omega
      · have h34 : ((c.toNat : Int) == 34) = false := by assumption
        have h92 : ((c.toNat : Int) == 92) = true := by assumption
        have hq : q = false := by assumption
        have e := (beqN c 92 (by decide)).1 h92
        have e2 := (beqN c 34 (by decide)).2 h34
        subst hq
        go_roundw
        case rel => exact ⟨i + 1, fr, false, v, ys, by go_num, rfl, by omega, ⟨HF.out.plain hil (HC.out ▸ e2) (fun h => by cases h.2) (fun h => by rw [← HC.out, e] at h; cases h.1)⟩, HI, HB⟩
        case measure => simp [RowKit.intOf]; omega
      · have h44 : ((c.toNat : Int) == 44) = true := by assumption
        have hq0 : (!q) = true := by assumption
        have hq : q = false := by simpa using hq0
        have e := (beqN c 44 (by decide)).1 h44
        have hf : fr ≤ i := (HF.out.go (by omega)).1
        have hcnt := HF.out.cnt
        have hlen : (ys.map mkB).length ≤ 4398046511104 := by rw [List.length_map]; omega
        refine (put_calls B a0 fr i v (ys.map mkB) wr HI.out (by omega) (by omega) (by omega) hs hlen).mono ?_
        rintro e w1 ⟨rfl, ⟨v', hI'⟩, hB'⟩
        simp only [Int.toNat_natCast] at hI'
        rw [put_mk, ext_part a0 l HL.out] at hI'
        have HI' := Aside0.mk hI'
        have HB' := Aside0.mk (HB.out.trans hB')
        clear hI' hB' hlen hcnt hf
        subst hq
        go_wp2
        go_roundw
        case rel => exact ⟨i + 1, i + 1, false, v', Hr.put ((l.take i).drop fr) ys, by go_num, rfl, by omega, ⟨HF.out.comma hil (HC.out ▸ e)⟩, ⟨by have := HI'.out; simpa using this⟩, HB'⟩
        case measure => simp [RowKit.intOf]; omega
      · have h34 : ((c.toNat : Int) == 34) = false := by assumption
        have h92 : ((c.toNat : Int) == 92) = false := by assumption
        have hq0 : (!q) = false := by assumption
        have hq : q = true := by simpa using hq0
        have e1 := (beqN c 92 (by decide)).2 h92
        have e2 := (beqN c 34 (by decide)).2 h34
        subst hq
        go_roundw
        case rel => exact ⟨i + 1, fr, true, v, ys, by go_num, rfl, by omega, ⟨HF.out.plain hil (HC.out ▸ e2) (fun h => e1 (HC.out ▸ h.1)) (fun h => by cases h.2)⟩, HI, HB⟩
        case measure => simp [RowKit.intOf]; omega
      · have h34 : ((c.toNat : Int) == 34) = false := by assumption
        have h92 : ((c.toNat : Int) == 92) = false := by assumption
        have h44 : ((c.toNat : Int) == 44) = false := by assumption
        have e1 := (beqN c 92 (by decide)).2 h92
        have e2 := (beqN c 34 (by decide)).2 h34
        have e3 := (beqN c 44 (by decide)).2 h44
        go_roundw
        case rel => exact ⟨i + 1, fr, q, v, ys, by go_num, rfl, by omega, ⟨HF.out.plain hil (HC.out ▸ e2) (fun h => e1 (HC.out ▸ h.1)) (fun h => e3 (HC.out ▸ h.1))⟩, HI, HB⟩
        case measure => simp [RowKit.intOf]; omega
    · have hfr : fr ≤ a0.size := by rw [HN.out]; exact HF.out.le
      have hfd : decide (fr ≤ a0.size) = true := decide_eq_true hfr
      have hcF := cell_one HI.out.f
      have hfin := Aside0.mk (HF.out.fin (by rw [← HN.out]; omega))
      have hcnt := HF.out.cnt
      have hlen : (ys.map mkB).length ≤ 4398046511104 := by rw [List.length_map]; omega
      have HLEN := Aside0.mk hlen
      clear hlen hcnt
      go_wp2_with fail
      refine (put_calls B a0 fr a0.size v (ys.map mkB) wr HI.out (by omega) (by omega) (by omega) hs HLEN.out).mono ?_
      rintro e w1 ⟨rfl, ⟨v', hI'⟩, hB'⟩
      simp only [Int.toNat_natCast] at hI'
      rw [put_mk, ext_part a0 l HL.out, List.take_of_length_le (by rw [HN.out]; exact Nat.le_refl _), hfin.out] at hI'
      have HI' := Aside0.mk hI'
      have HB' := Aside0.mk (HB.out.trans hB')
      clear hI' hB' hcF hcS
      obtain ⟨A1, c1, e1⟩ := Kd.R_slice HI'.out.r
      rw [List.length_map] at e1
      subst e1
      have hcO := cell_one HI'.out.o
      go_wp2
      go_ret
      refine ⟨.slice A1 R.length c1, rfl, Kd.R_mono (Kd.R_lower (base' := w.heap.size) HI'.out.r (by have := HBW.out; omega)) (fun _ _ => trivial), ?_⟩
      rw [← HBW.out]; exact HB'.out
end Go.Proofs.YtccolnlfjbgnmaaGreatDoor.Lex
/- Package lexis, by hand: the library's FormatInt in hex; own text of this session. -/
namespace Go.Proofs.YtccolnlfjbgnmaaGreatDoor.Lex
open Go.RowKit Go.Proofs.YtccolnlfjbgnmaaGreatDoorW.PrintWords Go.Proofs.Hr Go.Shelf Go.Lib
set_option linter.unusedVariables false
end Go.Proofs.YtccolnlfjbgnmaaGreatDoor.Lex
/- Package lexis and what it calls of the library: all contracts by hand, gathered; own text of this session. -/

