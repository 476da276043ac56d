/- The small case that the statements of layer 8 ask first; own text of this session. -/
import Derived.Test.YtmlgejgnjfbblaaGreatDoorHdC
namespace Go.Proofs.YtmlgejgnjfbblaaGreatDoor.Hd
open Go.RowKit Go.Proofs.YtmlgejgnjfbblaaGreatDoorW.PrintWords Go.Proofs.YtmlgejgnjfbblaaGreatDoorW.PrintLast Chk Px Hr
set_option linter.unusedVariables false
set_option linter.unusedSimpArgs false
def sb1 : List Int := [71, 69, 84, 32, 47, 32, 72, 84, 84, 80, 47, 49, 46, 49, 13, 10, 72, 111, 115, 116, 58, 32, 97, 13, 10, 13, 10, 114, 101, 115, 116]
def sb2 : List Int := [71, 69, 84, 32, 47, 32, 72, 84, 84, 80, 47, 49, 46, 49, 13, 10, 97, 32, 58, 32, 98, 13, 10]
def st1 : Bs := [71, 69, 84, 32, 47, 32, 72, 84, 84, 80, 47, 49, 46, 49, 13, 10, 72, 111, 115, 116, 58, 32, 97, 13, 10, 13, 10]
set_option maxRecDepth 100000
theorem sp_e : (parseS true sb1).2.2 = 0 := by decide +kernel
theorem sp_n : (parseS true sb1).2.1 = 27 := by decide +kernel
theorem sp_f : (parseS true sb2).2.2 = 83 := by decide +kernel
theorem sp_m : (parseS true sb1).1.f1.data.toList = [71, 69, 84] := by decide +kernel
theorem sp_l : (parseS true sb1).1.f6.length = 1 := by decide +kernel
theorem sp_3 : -9223372036854775808 ≤ (parseS true sb1).1.f3 ∧ (parseS true sb1).1.f3 ≤ 9223372036854775807 := by decide +kernel
theorem sp_4 : -9223372036854775808 ≤ (parseS true sb1).1.f4 ∧ (parseS true sb1).1.f4 ≤ 9223372036854775807 := by decide +kernel
theorem sp_t : (textS (parseS true sb1).1) = st1 := by decide +kernel
theorem sp_s : (printS (parseS true sb1).1).1 = st1 := by decide +kernel
theorem sp_g : (printS (parseS true sb1).1).2 = 0 := by decide +kernel
theorem const_at (g : Nat) (xs : List Int) (n : Nat) (hn : n ≤ 4294940000) : ∀ W' : World, W'.heap[g]? = some (.cells ((xs.map (Value.int .u8)).toArray) 5 (n, n + 1)) → xs.length = n → (Kd.int .u8).C W' (some ⟨g, 0, none⟩) xs.length xs := by
  intro W' h hl
  refine C_of_block h ?_ (by omega)
  intro i hi
  simp [List.getElem?_eq_getElem hi]
theorem parse_x (request : Bool) (b : List Int) (W : World) (A : Option Addr) (cap : Nat) (hC : (Kd.int .u8).C W A b.length b) (hl : b.length ≤ 4294940000) (hG : GInv W) :
    Calls Tryz.prog 7 #[.bool request, .slice A b.length cap] W fun e w1 => ∃ A1 c1, e = .returned (.tuple #[.agg #[.bool (parseS request b).1.f0, .string (parseS request b).1.f1, .string (parseS request b).1.f2, .int .i64 (parseS request b).1.f3, .int .i64 (parseS request b).1.f4, .string (parseS request b).1.f5, .slice A1 (parseS request b).1.f6.length c1], .int .i64 (parseS request b).2.1, .int .i64 (parseS request b).2.2]) ∧ Below W.heap.size W w1 ∧ (parseS request b).1.f6.length ≤ c1 ∧ fldK.R 45 w1 0 (fun _ => True) (.slice A1 (parseS request b).1.f6.length c1) (parseS request b).1.f6 := by
  refine (parse_calls request b A cap W hC hl hG).mono ?_
  rintro e w1 ⟨v, rfl, hR, hb⟩
  obtain ⟨A1, c1, e1, hc1, hC1⟩ := Kd.R_reads hR
  subst e1
  exact ⟨A1, c1, rfl, hb, hc1, Kd.R_lower (Kd.R_mono hR (fun _ _ => trivial)) (Nat.zero_le _)⟩
set_option maxHeartbeats 4000000 in
theorem speaks_calls (w : World) (hG : GInv w) : Calls Tryz.prog 6 #[] w fun e w' => e = .returned (.bool true) ∧ Below w.heap.size w w' := by
  obtain ⟨x, hx⟩ : ∃ x, x = (parseS true sb1).1 := ⟨_, rfl⟩
  obtain ⟨y, hy⟩ : ∃ y, y = (parseS true sb2).1 := ⟨_, rfl⟩
  obtain ⟨m, hm⟩ : ∃ m, m = (parseS true sb2).2.1 := ⟨_, rfl⟩
  have hxl : x.f6.length = 1 := by rw [hx]; exact sp_l
  have hx1 : x.f1 = ⟨#[71, 69, 84]⟩ := by rw [hx]; exact ba_eq sp_m
  have hcc1 : ∀ W : World, (convert 33 33 (.slice (some ⟨W.heap.size, 0, none⟩) 31 31)).run Tryz.prog (W.alloc (.cells #[.int .u8 71, .int .u8 69, .int .u8 84, .int .u8 32, .int .u8 47, .int .u8 32, .int .u8 72, .int .u8 84, .int .u8 84, .int .u8 80, .int .u8 47, .int .u8 49, .int .u8 46, .int .u8 49, .int .u8 13, .int .u8 10, .int .u8 72, .int .u8 111, .int .u8 115, .int .u8 116, .int .u8 58, .int .u8 32, .int .u8 97, .int .u8 13, .int .u8 10, .int .u8 13, .int .u8 10, .int .u8 114, .int .u8 101, .int .u8 115, .int .u8 116] 5)) = Result.ok (.slice (some ⟨W.heap.size, 0, none⟩) 31 31) (W.alloc (.cells #[.int .u8 71, .int .u8 69, .int .u8 84, .int .u8 32, .int .u8 47, .int .u8 32, .int .u8 72, .int .u8 84, .int .u8 84, .int .u8 80, .int .u8 47, .int .u8 49, .int .u8 46, .int .u8 49, .int .u8 13, .int .u8 10, .int .u8 72, .int .u8 111, .int .u8 115, .int .u8 116, .int .u8 58, .int .u8 32, .int .u8 97, .int .u8 13, .int .u8 10, .int .u8 13, .int .u8 10, .int .u8 114, .int .u8 101, .int .u8 115, .int .u8 116] 5 (31, 32))) := fun W => Lib.run_convert_bytes_const W _ _ #[.int .u8 71, .int .u8 69, .int .u8 84, .int .u8 32, .int .u8 47, .int .u8 32, .int .u8 72, .int .u8 84, .int .u8 84, .int .u8 80, .int .u8 47, .int .u8 49, .int .u8 46, .int .u8 49, .int .u8 13, .int .u8 10, .int .u8 72, .int .u8 111, .int .u8 115, .int .u8 116, .int .u8 58, .int .u8 32, .int .u8 97, .int .u8 13, .int .u8 10, .int .u8 13, .int .u8 10, .int .u8 114, .int .u8 101, .int .u8 115, .int .u8 116] 31 31 Tryz.underlying33 Tryz.underlying5
  have hcc2 : ∀ W : World, (convert 33 33 (.slice (some ⟨W.heap.size, 0, none⟩) 23 23)).run Tryz.prog (W.alloc (.cells #[.int .u8 71, .int .u8 69, .int .u8 84, .int .u8 32, .int .u8 47, .int .u8 32, .int .u8 72, .int .u8 84, .int .u8 84, .int .u8 80, .int .u8 47, .int .u8 49, .int .u8 46, .int .u8 49, .int .u8 13, .int .u8 10, .int .u8 97, .int .u8 32, .int .u8 58, .int .u8 32, .int .u8 98, .int .u8 13, .int .u8 10] 5)) = Result.ok (.slice (some ⟨W.heap.size, 0, none⟩) 23 23) (W.alloc (.cells #[.int .u8 71, .int .u8 69, .int .u8 84, .int .u8 32, .int .u8 47, .int .u8 32, .int .u8 72, .int .u8 84, .int .u8 84, .int .u8 80, .int .u8 47, .int .u8 49, .int .u8 46, .int .u8 49, .int .u8 13, .int .u8 10, .int .u8 97, .int .u8 32, .int .u8 58, .int .u8 32, .int .u8 98, .int .u8 13, .int .u8 10] 5 (23, 24))) := fun W => Lib.run_convert_bytes_const W _ _ #[.int .u8 71, .int .u8 69, .int .u8 84, .int .u8 32, .int .u8 47, .int .u8 32, .int .u8 72, .int .u8 84, .int .u8 84, .int .u8 80, .int .u8 47, .int .u8 49, .int .u8 46, .int .u8 49, .int .u8 13, .int .u8 10, .int .u8 97, .int .u8 32, .int .u8 58, .int .u8 32, .int .u8 98, .int .u8 13, .int .u8 10] 23 23 Tryz.underlying33 Tryz.underlying5
  have HP1 : Aside0 (∀ (g : Nat) (W' : World), W'.heap[g]? = some (.cells #[.int .u8 71, .int .u8 69, .int .u8 84, .int .u8 32, .int .u8 47, .int .u8 32, .int .u8 72, .int .u8 84, .int .u8 84, .int .u8 80, .int .u8 47, .int .u8 49, .int .u8 46, .int .u8 49, .int .u8 13, .int .u8 10, .int .u8 72, .int .u8 111, .int .u8 115, .int .u8 116, .int .u8 58, .int .u8 32, .int .u8 97, .int .u8 13, .int .u8 10, .int .u8 13, .int .u8 10, .int .u8 114, .int .u8 101, .int .u8 115, .int .u8 116] 5 (31, 32)) → GInv W' → Calls Tryz.prog 7 #[.bool true, .slice (some ⟨g, 0, none⟩) 31 31] W' fun e w1 => ∃ A1 c1, e = .returned (.tuple #[.agg #[.bool x.f0, .string ⟨#[71, 69, 84]⟩, .string x.f2, .int .i64 x.f3, .int .i64 x.f4, .string x.f5, .slice A1 1 c1], .int .i64 27, .int .i64 0]) ∧ Below W'.heap.size W' w1 ∧ 1 ≤ c1 ∧ Kd.C P.k45 w1 A1 x.f6.length x.f6) := ⟨fun g W' h hG => by
    refine (parse_x true sb1 W' (some ⟨g, 0, none⟩) 31 (const_at g sb1 31 (by decide) W' h rfl) (by decide) hG).mono ?_
    rintro e w1 ⟨A1, c1, rfl, hb, hc1, hR⟩
    rw [← hx] at hR hc1
    obtain ⟨A2, c2, e2, hc2, hC⟩ := Kd.R_reads hR
    injection e2 with e3 e4 e5
    subst e3
    exact ⟨A1, c1, by rw [← hx, sp_n, sp_e, hx1, hxl], hb, by rw [hxl] at hc1; exact hc1, hC⟩⟩
  have HP2 : Aside0 (∀ (g : Nat) (W' : World), W'.heap[g]? = some (.cells #[.int .u8 71, .int .u8 69, .int .u8 84, .int .u8 32, .int .u8 47, .int .u8 32, .int .u8 72, .int .u8 84, .int .u8 84, .int .u8 80, .int .u8 47, .int .u8 49, .int .u8 46, .int .u8 49, .int .u8 13, .int .u8 10, .int .u8 97, .int .u8 32, .int .u8 58, .int .u8 32, .int .u8 98, .int .u8 13, .int .u8 10] 5 (23, 24)) → GInv W' → Calls Tryz.prog 7 #[.bool true, .slice (some ⟨g, 0, none⟩) 23 23] W' fun e w1 => ∃ A1 c1, e = .returned (.tuple #[.agg #[.bool y.f0, .string y.f1, .string y.f2, .int .i64 y.f3, .int .i64 y.f4, .string y.f5, .slice A1 y.f6.length c1], .int .i64 m, .int .i64 83]) ∧ Below W'.heap.size W' w1) := ⟨fun g W' h hG => by
    refine (parse_x true sb2 W' (some ⟨g, 0, none⟩) 23 (const_at g sb2 23 (by decide) W' h rfl) (by decide) hG).mono ?_
    rintro e w1 ⟨A1, c1, rfl, hb, hc1, hR⟩
    rw [sp_f, ← hy, ← hm]
    exact ⟨A1, c1, rfl, hb⟩⟩
  have HPr : Aside0 (∀ (W : World) (A1 : Option Addr) (c1 : Nat), Kd.C P.k45 W A1 x.f6.length x.f6 → 1 ≤ c1 → GInv W → Calls Tryz.prog 4 #[.agg #[.bool x.f0, .string ⟨#[71, 69, 84]⟩, .string x.f2, .int .i64 x.f3, .int .i64 x.f4, .string x.f5, .slice A1 1 c1]] W fun e w1 => e = .returned (.tuple #[.string ⟨#[71, 69, 84, 32, 47, 32, 72, 84, 84, 80, 47, 49, 46, 49, 13, 10, 72, 111, 115, 116, 58, 32, 97, 13, 10, 13, 10]⟩, .int .i64 0]) ∧ Below W.heap.size W w1) := ⟨fun W A1 c1 hC hc hG => by
    have h5 := print_calls x A1 c1 W hC (by omega) (by omega) (fun _ => by rw [hx, sp_t]; decide) hG (by rw [hx]; exact sp_3.1) (by rw [hx]; exact sp_3.2) (by rw [hx]; exact sp_4.1) (by rw [hx]; exact sp_4.2)
    unfold hdV at h5
    rw [hxl, hx1] at h5
    refine h5.mono ?_
    rintro e w1 ⟨rfl, hb⟩
    refine ⟨?_, hb⟩
    rw [hx, sp_s, sp_g]; rfl⟩
  have HG := Aside0.mk hG
  clear hx hy hm hG hxl hx1
  go_enter Tryz.func6, Tryz.ntmps6
  go_wp2_with (first
    | (go_at_call 7; first
      | (with_reducible refine (HP1.out _ _ (blk_new _ _) (HG.out.below (below_alloc (Below.refl _ _) _))).mono ?_; rintro e w1 ⟨A1, c1, rfl, hb, hc1, hC1⟩; have HB1 := Aside0.mk (below_step (below_alloc (Below.refl w.heap.size w) _) hb); have HC1 := Aside0.mk hC1; have Hc1 := Aside0.mk hc1; have hd2 := hcc2 (w1.alloc (.cells #[.bool x.f0, .string ⟨#[71, 69, 84]⟩, .string x.f2, .int .i64 x.f3, .int .i64 x.f4, .string x.f5, .slice A1 1 c1] 24)); rw [World.size_alloc] at hd2; clear hb hC1 hc1)
      | (with_reducible refine (HP2.out _ _ (blk_two _ _ _) (HG.out.below (below_alloc (below_alloc HB1.out _) _))).mono ?_; rintro e w2 ⟨A2, c2, rfl, hb⟩; have HB2 := Aside0.mk (below_step (below_alloc (below_alloc HB1.out _) _) hb); have HBA : Aside0 (Below w1.heap.size w1 w2) := ⟨below_step (below_alloc (below_alloc (Below.refl _ _) _) _) hb⟩; have hK2 : w2.heap[w1.heap.size]? = some (.cells #[.bool x.f0, .string ⟨#[71, 69, 84]⟩, .string x.f2, .int .i64 x.f3, .int .i64 x.f4, .string x.f5, .slice A1 1 c1] 24 (0, 0)) := blk_below (blk_alloc (blk_new _ _) _) hb; have z0 : (w2.alloc (.cells #[.bool y.f0, .string y.f1, .string y.f2, .int .i64 y.f3, .int .i64 y.f4, .string y.f5, .slice A2 y.f6.length c2] 24)).cell? ⟨w1.heap.size, 0, none⟩ = some (.bool x.f0) := (blk_cell (blk_alloc hK2 _) 0).trans rfl; have z1 : (w2.alloc (.cells #[.bool y.f0, .string y.f1, .string y.f2, .int .i64 y.f3, .int .i64 y.f4, .string y.f5, .slice A2 y.f6.length c2] 24)).cell? ⟨w1.heap.size, 1, none⟩ = some (.string ⟨#[71, 69, 84]⟩) := (blk_cell (blk_alloc hK2 _) 1).trans rfl; have z2 : (w2.alloc (.cells #[.bool y.f0, .string y.f1, .string y.f2, .int .i64 y.f3, .int .i64 y.f4, .string y.f5, .slice A2 y.f6.length c2] 24)).cell? ⟨w1.heap.size, 2, none⟩ = some (.string x.f2) := (blk_cell (blk_alloc hK2 _) 2).trans rfl; have z3 : (w2.alloc (.cells #[.bool y.f0, .string y.f1, .string y.f2, .int .i64 y.f3, .int .i64 y.f4, .string y.f5, .slice A2 y.f6.length c2] 24)).cell? ⟨w1.heap.size, 3, none⟩ = some (.int .i64 x.f3) := (blk_cell (blk_alloc hK2 _) 3).trans rfl; have z4 : (w2.alloc (.cells #[.bool y.f0, .string y.f1, .string y.f2, .int .i64 y.f3, .int .i64 y.f4, .string y.f5, .slice A2 y.f6.length c2] 24)).cell? ⟨w1.heap.size, 4, none⟩ = some (.int .i64 x.f4) := (blk_cell (blk_alloc hK2 _) 4).trans rfl; have z5 : (w2.alloc (.cells #[.bool y.f0, .string y.f1, .string y.f2, .int .i64 y.f3, .int .i64 y.f4, .string y.f5, .slice A2 y.f6.length c2] 24)).cell? ⟨w1.heap.size, 5, none⟩ = some (.string x.f5) := (blk_cell (blk_alloc hK2 _) 5).trans rfl; have z6 : (w2.alloc (.cells #[.bool y.f0, .string y.f1, .string y.f2, .int .i64 y.f3, .int .i64 y.f4, .string y.f5, .slice A2 y.f6.length c2] 24)).cell? ⟨w1.heap.size, 6, none⟩ = some (.slice A1 1 c1) := (blk_cell (blk_alloc hK2 _) 6).trans rfl; have HK2 := Aside0.mk hK2; clear hb hd2 hK2))
    | (go_at_call 4; go_loud (refine (HPr.out _ A1 c1 (Kd.C_below HC1.out (below_alloc HBA.out _)) Hc1.out (HG.out.below (below_alloc HB2.out _))).mono ?_; rintro e w3 ⟨rfl, hb⟩; have HB3 := Aside0.mk (below_step (below_alloc HB2.out _) hb); have hK3 := blk_below (blk_alloc HK2.out _) hb; have q1 : w3.cell? ⟨w1.heap.size, 1, none⟩ = some (.string ⟨#[71, 69, 84]⟩) := (blk_cell hK3 1).trans rfl; have q6 : w3.cell? ⟨w1.heap.size, 6, none⟩ = some (.slice A1 1 c1) := (blk_cell hK3 6).trans rfl; clear hb hK3)))
  go_ret
  exact ⟨rfl, HB3.out⟩
end Go.Proofs.YtmlgejgnjfbblaaGreatDoor.Hd
