/- The law's asks: a call on the world, and the same on the reference's, by two contracts that tell the same; own text of this session (gen_vs12.py). -/
import Derived.Test.YtnhhcmnjfaeliaaVs9
import Derived.Test.YtnhhcmnjfaeliaaSq
import Derived.Test.YtnhhcmnjfaeliaaVs11
import Derived.Test.YtnhhcmnjfaeliaaVs8
namespace Go.Proofs.Ytnhhcmnjfaeliaa.Vm
open Wld hiding St Ft Next cellsQ cellsP ReadPost ptrE ptrE_none ptrE_some law zeroP Key key_of info_u8 info_int ne_t ne_blk ne_map grown_below
open Go.RowKit Go.Proofs.YtnhhcmnjfaeliaaW.PrintWords Go.Proofs.YtnhhcmnjfaeliaaW.PrintLast Go.Maps
set_option linter.unusedVariables false
set_option linter.unusedSimpArgs false
section
variable {w : World} {p x : Nat} {C N R S : Int} {A : Option Addr} {n cb : Nat} {Z0 Z1 Z2 : Nat → World → Prop}
set_option maxHeartbeats 8000000 in
set_option maxRecDepth 100000 in
theorem sasks0 (hs0 : ∀ g W, Z0 g W → W.heap[g]? = some (stepB 0 C N A n cb)) (hs1 : ∀ g W, Z1 g W → W.heap[g]? = some (stepB 0 C N A n cb)) (hs2 : ∀ g W, Z2 g W → W.heap[g]? = some (stepB 0 C N A n cb)) (hl0 : ∀ g W W', Z0 g W → Below W.heap.size W W' → Z0 g W')
    (h1 : ∀ g W, Z0 g W → Calls Try.prog 15 #[.pointer (some ⟨p, 0, none⟩), .int .i64 C] W fun e w' => e = .returned (.int .i64 R) ∧ Z1 g w')
    (h2 : ∀ g W, Z1 g W → Calls Try.prog 20 #[.pointer (some ⟨x, 0, none⟩), .int .i64 C] W fun e w' => e = .returned (.int .i64 R) ∧ Z2 g w')
    (h0 : Z0 w.heap.size (w.alloc (stepB 0 C N A n cb))) : Calls Try.prog 6 #[.pointer (some ⟨p, 0, none⟩), .pointer (some ⟨x, 0, none⟩), .agg #[.int .i64 0, .int .i64 C, .int .i64 N, .slice A n cb]] w fun e w' => ∃ g : Nat, e = .returned (.bool true) ∧ Z2 g w' := by
  have HS0 := Aside0.mk hs0; have HS1 := Aside0.mk hs1; have HS2 := Aside0.mk hs2; have H1 := Aside0.mk h1; have H2 := Aside0.mk h2
  have HZ := Aside0.mk (hl0 _ _ _ h0 (below_drew (Below.refl _ _)))
  clear hs0 hs1 hs2 hl0 h1 h2 h0
  go_enter Try.func6, Try.ntmps6
  go_wp2
  refine start_ (n := 10) (S := fun w' : World => w'.cell? ⟨w.heap.size, 1, none⟩ = some (.int .i64 C) ∧ w'.cell? ⟨w.heap.size, 2, none⟩ = some (.int .i64 N) ∧ w'.cell? ⟨w.heap.size, 3, none⟩ = some (.slice A n cb)) (ds := []) (lb 10 0) (by kernel_rfl) rfl rfl ⟨(blk_cell (HS0.out _ _ HZ.out) 1).trans rfl, (blk_cell (HS0.out _ _ HZ.out) 2).trans rfl, (blk_cell (HS0.out _ _ HZ.out) 3).trans rfl⟩ (fun hHeld => ?_)
  generalize World.drew _ = W0 at HZ hHeld ⊢
  refine pv 0 23 (lb 10 1) ?_
  refine pv 1 24 (lb 10 3) ?_
  refine tv hHeld 2 25 (lb 10 7) ?_
  refine pv 4 27 (lb 10 23) ?_
  refine pv 5 28 (lb 10 55) ?_
  refine tv hHeld 6 29 (lb 10 119) ?_
  refine one_ (i := 3) (N := some 26) (lb 10 127) rfl rfl (by kernel_rfl) (by decide) (fun K hK => ?_)
  refine goes_ Try.func15 (by kernel_rfl) rfl #[.pointer (some ⟨p, 0, none⟩), .int .i64 C] (by rfl) rfl rfl ba ?_
  refine (H1.out _ _ HZ.out).mono ?_
  rintro e W1 ⟨rfl, hz⟩
  refine ⟨_, rfl, ?_⟩
  have HZ1 := Aside0.mk hz; clear hz
  refine hK.out _ _ ⟨(blk_cell (HS1.out _ _ HZ1.out) 1).trans rfl, (blk_cell (HS1.out _ _ HZ1.out) 2).trans rfl, (blk_cell (HS1.out _ _ HZ1.out) 3).trans rfl⟩ (fun hHeld => ?_)
  clear hK K
  refine norm_ (a' := ?_) ?_ ?_
  rotate_left
  · show Act.put _ (some 26) _ = _
    simp only [Act.put, List.setIfInBounds_toArray, List.set_cons_zero, List.set_cons_succ, i64_w, i32_w]
    rfl
  refine one_ (i := 7) (N := some 30) (lb 10 255) rfl rfl (by kernel_rfl) (by decide) (fun K hK => ?_)
  refine goes_ Try.func20 (by kernel_rfl) rfl #[.pointer (some ⟨x, 0, none⟩), .int .i64 C] (by rfl) rfl rfl ba ?_
  refine (H2.out _ _ HZ1.out).mono ?_
  rintro e W2 ⟨rfl, hz⟩
  refine ⟨_, rfl, ?_⟩
  have HZ2 := Aside0.mk hz; clear hz
  refine hK.out _ _ ?hS2 (fun hHeld => ?_)
  case hS2 => exact ⟨(blk_cell (HS2.out _ _ HZ2.out) 1).trans rfl, (blk_cell (HS2.out _ _ HZ2.out) 2).trans rfl, (blk_cell (HS2.out _ _ HZ2.out) 3).trans rfl⟩
  clear hK K
  refine norm_ (a' := ?_) ?_ ?_
  rotate_left
  · show Act.put _ (some 30) _ = _
    simp only [Act.put, List.setIfInBounds_toArray, List.set_cons_zero, List.set_cons_succ, i64_w, i32_w]
    rfl
  refine pv 8 31 (lb 10 511) ?_
  refine pv 9 6 (lb 10 1023) ?_
  refine done_ (by kernel_rfl) ?_
  go_wp2
  go_ret
  exact ⟨_, by simp, HZ2.out⟩
set_option maxHeartbeats 8000000 in
set_option maxRecDepth 100000 in
theorem sasks1 (hs0 : ∀ g W, Z0 g W → W.heap[g]? = some (stepB 1 C N A n cb)) (hs1 : ∀ g W, Z1 g W → W.heap[g]? = some (stepB 1 C N A n cb)) (hs2 : ∀ g W, Z2 g W → W.heap[g]? = some (stepB 1 C N A n cb)) (hl0 : ∀ g W W', Z0 g W → Below W.heap.size W W' → Z0 g W')
    (h1 : ∀ g W, Z0 g W → Calls Try.prog 21 #[.pointer (some ⟨p, 0, none⟩), .int .i64 C] W fun e w' => e = .returned (.int .i64 R) ∧ Z1 g w')
    (h2 : ∀ g W, Z1 g W → Calls Try.prog 22 #[.pointer (some ⟨x, 0, none⟩), .int .i64 C] W fun e w' => e = .returned (.int .i64 R) ∧ Z2 g w')
    (h0 : Z0 w.heap.size (w.alloc (stepB 1 C N A n cb))) : Calls Try.prog 6 #[.pointer (some ⟨p, 0, none⟩), .pointer (some ⟨x, 0, none⟩), .agg #[.int .i64 1, .int .i64 C, .int .i64 N, .slice A n cb]] w fun e w' => ∃ g : Nat, e = .returned (.bool true) ∧ Z2 g w' := by
  have HS0 := Aside0.mk hs0; have HS1 := Aside0.mk hs1; have HS2 := Aside0.mk hs2; have H1 := Aside0.mk h1; have H2 := Aside0.mk h2
  have HZ := Aside0.mk (hl0 _ _ _ h0 (below_drew (Below.refl _ _)))
  clear hs0 hs1 hs2 hl0 h1 h2 h0
  go_enter Try.func6, Try.ntmps6
  go_wp2
  refine start_ (n := 10) (S := fun w' : World => w'.cell? ⟨w.heap.size, 1, none⟩ = some (.int .i64 C) ∧ w'.cell? ⟨w.heap.size, 2, none⟩ = some (.int .i64 N) ∧ w'.cell? ⟨w.heap.size, 3, none⟩ = some (.slice A n cb)) (ds := []) (lb 10 0) (by kernel_rfl) rfl rfl ⟨(blk_cell (HS0.out _ _ HZ.out) 1).trans rfl, (blk_cell (HS0.out _ _ HZ.out) 2).trans rfl, (blk_cell (HS0.out _ _ HZ.out) 3).trans rfl⟩ (fun hHeld => ?_)
  generalize World.drew _ = W0 at HZ hHeld ⊢
  refine pv 0 34 (lb 10 1) ?_
  refine pv 1 35 (lb 10 3) ?_
  refine tv hHeld 2 36 (lb 10 7) ?_
  refine pv 4 38 (lb 10 23) ?_
  refine pv 5 39 (lb 10 55) ?_
  refine tv hHeld 6 40 (lb 10 119) ?_
  refine one_ (i := 3) (N := some 37) (lb 10 127) rfl rfl (by kernel_rfl) (by decide) (fun K hK => ?_)
  refine goes_ Try.func21 (by kernel_rfl) rfl #[.pointer (some ⟨p, 0, none⟩), .int .i64 C] (by rfl) rfl rfl ba ?_
  refine (H1.out _ _ HZ.out).mono ?_
  rintro e W1 ⟨rfl, hz⟩
  refine ⟨_, rfl, ?_⟩
  have HZ1 := Aside0.mk hz; clear hz
  refine hK.out _ _ ⟨(blk_cell (HS1.out _ _ HZ1.out) 1).trans rfl, (blk_cell (HS1.out _ _ HZ1.out) 2).trans rfl, (blk_cell (HS1.out _ _ HZ1.out) 3).trans rfl⟩ (fun hHeld => ?_)
  clear hK K
  refine norm_ (a' := ?_) ?_ ?_
  rotate_left
  · show Act.put _ (some 37) _ = _
    simp only [Act.put, List.setIfInBounds_toArray, List.set_cons_zero, List.set_cons_succ, i64_w, i32_w]
    rfl
  refine one_ (i := 7) (N := some 41) (lb 10 255) rfl rfl (by kernel_rfl) (by decide) (fun K hK => ?_)
  refine goes_ Try.func22 (by kernel_rfl) rfl #[.pointer (some ⟨x, 0, none⟩), .int .i64 C] (by rfl) rfl rfl ba ?_
  refine (H2.out _ _ HZ1.out).mono ?_
  rintro e W2 ⟨rfl, hz⟩
  refine ⟨_, rfl, ?_⟩
  have HZ2 := Aside0.mk hz; clear hz
  refine hK.out _ _ ?hS2 (fun hHeld => ?_)
  case hS2 => exact ⟨(blk_cell (HS2.out _ _ HZ2.out) 1).trans rfl, (blk_cell (HS2.out _ _ HZ2.out) 2).trans rfl, (blk_cell (HS2.out _ _ HZ2.out) 3).trans rfl⟩
  clear hK K
  refine norm_ (a' := ?_) ?_ ?_
  rotate_left
  · show Act.put _ (some 41) _ = _
    simp only [Act.put, List.setIfInBounds_toArray, List.set_cons_zero, List.set_cons_succ, i64_w, i32_w]
    rfl
  refine pv 8 42 (lb 10 511) ?_
  refine pv 9 6 (lb 10 1023) ?_
  refine done_ (by kernel_rfl) ?_
  go_wp2
  go_ret
  exact ⟨_, by simp, HZ2.out⟩
set_option maxHeartbeats 8000000 in
set_option maxRecDepth 100000 in
theorem sasks2 (hs0 : ∀ g W, Z0 g W → W.heap[g]? = some (stepB 2 C N A n cb)) (hs1 : ∀ g W, Z1 g W → W.heap[g]? = some (stepB 2 C N A n cb)) (hs2 : ∀ g W, Z2 g W → W.heap[g]? = some (stepB 2 C N A n cb)) (hl0 : ∀ g W W', Z0 g W → Below W.heap.size W W' → Z0 g W')
    (h1 : ∀ g W, Z0 g W → Calls Try.prog 17 #[.pointer (some ⟨p, 0, none⟩), .int .i64 C, .slice A n cb] W fun e w' => e = .returned (.int .i64 R) ∧ Z1 g w')
    (h2 : ∀ g W, Z1 g W → Calls Try.prog 23 #[.pointer (some ⟨x, 0, none⟩), .int .i64 C, .slice A n cb] W fun e w' => e = .returned (.int .i64 R) ∧ Z2 g w')
    (h0 : Z0 w.heap.size (w.alloc (stepB 2 C N A n cb))) : Calls Try.prog 6 #[.pointer (some ⟨p, 0, none⟩), .pointer (some ⟨x, 0, none⟩), .agg #[.int .i64 2, .int .i64 C, .int .i64 N, .slice A n cb]] w fun e w' => ∃ g : Nat, e = .returned (.bool true) ∧ Z2 g w' := by
  have HS0 := Aside0.mk hs0; have HS1 := Aside0.mk hs1; have HS2 := Aside0.mk hs2; have H1 := Aside0.mk h1; have H2 := Aside0.mk h2
  have HZ := Aside0.mk (hl0 _ _ _ h0 (below_drew (Below.refl _ _)))
  clear hs0 hs1 hs2 hl0 h1 h2 h0
  go_enter Try.func6, Try.ntmps6
  go_wp2
  refine start_ (n := 14) (S := fun w' : World => w'.cell? ⟨w.heap.size, 1, none⟩ = some (.int .i64 C) ∧ w'.cell? ⟨w.heap.size, 2, none⟩ = some (.int .i64 N) ∧ w'.cell? ⟨w.heap.size, 3, none⟩ = some (.slice A n cb)) (ds := []) (lb 14 0) (by kernel_rfl) rfl rfl ⟨(blk_cell (HS0.out _ _ HZ.out) 1).trans rfl, (blk_cell (HS0.out _ _ HZ.out) 2).trans rfl, (blk_cell (HS0.out _ _ HZ.out) 3).trans rfl⟩ (fun hHeld => ?_)
  generalize World.drew _ = W0 at HZ hHeld ⊢
  refine pv 0 45 (lb 14 1) ?_
  refine pv 1 46 (lb 14 3) ?_
  refine tv hHeld 2 47 (lb 14 7) ?_
  refine pv 3 48 (lb 14 15) ?_
  refine tv hHeld 4 49 (lb 14 31) ?_
  refine pv 6 51 (lb 14 95) ?_
  refine pv 7 52 (lb 14 223) ?_
  refine tv hHeld 8 53 (lb 14 479) ?_
  refine pv 9 54 (lb 14 991) ?_
  refine tv hHeld 10 55 (lb 14 2015) ?_
  refine one_ (i := 5) (N := some 50) (lb 14 2047) rfl rfl (by kernel_rfl) (by decide) (fun K hK => ?_)
  refine goes_ Try.func17 (by kernel_rfl) rfl #[.pointer (some ⟨p, 0, none⟩), .int .i64 C, .slice A n cb] (by rfl) rfl rfl ba ?_
  refine (H1.out _ _ HZ.out).mono ?_
  rintro e W1 ⟨rfl, hz⟩
  refine ⟨_, rfl, ?_⟩
  have HZ1 := Aside0.mk hz; clear hz
  refine hK.out _ _ ⟨(blk_cell (HS1.out _ _ HZ1.out) 1).trans rfl, (blk_cell (HS1.out _ _ HZ1.out) 2).trans rfl, (blk_cell (HS1.out _ _ HZ1.out) 3).trans rfl⟩ (fun hHeld => ?_)
  clear hK K
  refine norm_ (a' := ?_) ?_ ?_
  rotate_left
  · show Act.put _ (some 50) _ = _
    simp only [Act.put, List.setIfInBounds_toArray, List.set_cons_zero, List.set_cons_succ, i64_w, i32_w]
    rfl
  refine one_ (i := 11) (N := some 56) (lb 14 4095) rfl rfl (by kernel_rfl) (by decide) (fun K hK => ?_)
  refine goes_ Try.func23 (by kernel_rfl) rfl #[.pointer (some ⟨x, 0, none⟩), .int .i64 C, .slice A n cb] (by rfl) rfl rfl ba ?_
  refine (H2.out _ _ HZ1.out).mono ?_
  rintro e W2 ⟨rfl, hz⟩
  refine ⟨_, rfl, ?_⟩
  have HZ2 := Aside0.mk hz; clear hz
  refine hK.out _ _ ?hS2 (fun hHeld => ?_)
  case hS2 => exact ⟨(blk_cell (HS2.out _ _ HZ2.out) 1).trans rfl, (blk_cell (HS2.out _ _ HZ2.out) 2).trans rfl, (blk_cell (HS2.out _ _ HZ2.out) 3).trans rfl⟩
  clear hK K
  refine norm_ (a' := ?_) ?_ ?_
  rotate_left
  · show Act.put _ (some 56) _ = _
    simp only [Act.put, List.setIfInBounds_toArray, List.set_cons_zero, List.set_cons_succ, i64_w, i32_w]
    rfl
  refine pv 12 57 (lb 14 8191) ?_
  refine pv 13 6 (lb 14 16383) ?_
  refine done_ (by kernel_rfl) ?_
  go_wp2
  go_ret
  exact ⟨_, by simp, HZ2.out⟩
set_option maxHeartbeats 8000000 in
set_option maxRecDepth 100000 in
theorem sasks3 (hs0 : ∀ g W, Z0 g W → W.heap[g]? = some (stepB 3 C N A n cb)) (hs1 : ∀ g W, Z1 g W → W.heap[g]? = some (stepB 3 C N A n cb)) (hs2 : ∀ g W, Z2 g W → W.heap[g]? = some (stepB 3 C N A n cb)) (hl0 : ∀ g W W', Z0 g W → Below W.heap.size W W' → Z0 g W')
    (h1 : ∀ g W, Z0 g W → Calls Try.prog 24 #[.pointer (some ⟨p, 0, none⟩), .int .i64 C] W fun e w' => e = .returned (.int .i64 R) ∧ Z1 g w')
    (h2 : ∀ g W, Z1 g W → Calls Try.prog 25 #[.pointer (some ⟨x, 0, none⟩), .int .i64 C] W fun e w' => e = .returned (.int .i64 R) ∧ Z2 g w')
    (h0 : Z0 w.heap.size (w.alloc (stepB 3 C N A n cb))) : Calls Try.prog 6 #[.pointer (some ⟨p, 0, none⟩), .pointer (some ⟨x, 0, none⟩), .agg #[.int .i64 3, .int .i64 C, .int .i64 N, .slice A n cb]] w fun e w' => ∃ g : Nat, e = .returned (.bool true) ∧ Z2 g w' := by
  have HS0 := Aside0.mk hs0; have HS1 := Aside0.mk hs1; have HS2 := Aside0.mk hs2; have H1 := Aside0.mk h1; have H2 := Aside0.mk h2
  have HZ := Aside0.mk (hl0 _ _ _ h0 (below_drew (Below.refl _ _)))
  clear hs0 hs1 hs2 hl0 h1 h2 h0
  go_enter Try.func6, Try.ntmps6
  go_wp2
  refine start_ (n := 10) (S := fun w' : World => w'.cell? ⟨w.heap.size, 1, none⟩ = some (.int .i64 C) ∧ w'.cell? ⟨w.heap.size, 2, none⟩ = some (.int .i64 N) ∧ w'.cell? ⟨w.heap.size, 3, none⟩ = some (.slice A n cb)) (ds := []) (lb 10 0) (by kernel_rfl) rfl rfl ⟨(blk_cell (HS0.out _ _ HZ.out) 1).trans rfl, (blk_cell (HS0.out _ _ HZ.out) 2).trans rfl, (blk_cell (HS0.out _ _ HZ.out) 3).trans rfl⟩ (fun hHeld => ?_)
  generalize World.drew _ = W0 at HZ hHeld ⊢
  refine pv 0 60 (lb 10 1) ?_
  refine pv 1 61 (lb 10 3) ?_
  refine tv hHeld 2 62 (lb 10 7) ?_
  refine pv 4 64 (lb 10 23) ?_
  refine pv 5 65 (lb 10 55) ?_
  refine tv hHeld 6 66 (lb 10 119) ?_
  refine one_ (i := 3) (N := some 63) (lb 10 127) rfl rfl (by kernel_rfl) (by decide) (fun K hK => ?_)
  refine goes_ Try.func24 (by kernel_rfl) rfl #[.pointer (some ⟨p, 0, none⟩), .int .i64 C] (by rfl) rfl rfl ba ?_
  refine (H1.out _ _ HZ.out).mono ?_
  rintro e W1 ⟨rfl, hz⟩
  refine ⟨_, rfl, ?_⟩
  have HZ1 := Aside0.mk hz; clear hz
  refine hK.out _ _ ⟨(blk_cell (HS1.out _ _ HZ1.out) 1).trans rfl, (blk_cell (HS1.out _ _ HZ1.out) 2).trans rfl, (blk_cell (HS1.out _ _ HZ1.out) 3).trans rfl⟩ (fun hHeld => ?_)
  clear hK K
  refine norm_ (a' := ?_) ?_ ?_
  rotate_left
  · show Act.put _ (some 63) _ = _
    simp only [Act.put, List.setIfInBounds_toArray, List.set_cons_zero, List.set_cons_succ, i64_w, i32_w]
    rfl
  refine one_ (i := 7) (N := some 67) (lb 10 255) rfl rfl (by kernel_rfl) (by decide) (fun K hK => ?_)
  refine goes_ Try.func25 (by kernel_rfl) rfl #[.pointer (some ⟨x, 0, none⟩), .int .i64 C] (by rfl) rfl rfl ba ?_
  refine (H2.out _ _ HZ1.out).mono ?_
  rintro e W2 ⟨rfl, hz⟩
  refine ⟨_, rfl, ?_⟩
  have HZ2 := Aside0.mk hz; clear hz
  refine hK.out _ _ ?hS2 (fun hHeld => ?_)
  case hS2 => exact ⟨(blk_cell (HS2.out _ _ HZ2.out) 1).trans rfl, (blk_cell (HS2.out _ _ HZ2.out) 2).trans rfl, (blk_cell (HS2.out _ _ HZ2.out) 3).trans rfl⟩
  clear hK K
  refine norm_ (a' := ?_) ?_ ?_
  rotate_left
  · show Act.put _ (some 67) _ = _
    simp only [Act.put, List.setIfInBounds_toArray, List.set_cons_zero, List.set_cons_succ, i64_w, i32_w]
    rfl
  refine pv 8 68 (lb 10 511) ?_
  refine pv 9 6 (lb 10 1023) ?_
  refine done_ (by kernel_rfl) ?_
  go_wp2
  go_ret
  exact ⟨_, by simp, HZ2.out⟩
set_option maxHeartbeats 8000000 in
set_option maxRecDepth 100000 in
theorem sasks5 (hs0 : ∀ g W, Z0 g W → W.heap[g]? = some (stepB 5 C N A n cb)) (hs1 : ∀ g W, Z1 g W → W.heap[g]? = some (stepB 5 C N A n cb)) (hs2 : ∀ g W, Z2 g W → W.heap[g]? = some (stepB 5 C N A n cb)) (hl0 : ∀ g W W', Z0 g W → Below W.heap.size W W' → Z0 g W')
    (h1 : ∀ g W, Z0 g W → Calls Try.prog 16 #[.pointer (some ⟨p, 0, none⟩), .int .i64 C, .int .i64 N] W fun e w' => e = .returned (.int .i64 R) ∧ Z1 g w')
    (h2 : ∀ g W, Z1 g W → Calls Try.prog 27 #[.pointer (some ⟨x, 0, none⟩), .int .i64 C, .int .i64 N] W fun e w' => e = .returned (.int .i64 R) ∧ Z2 g w')
    (h0 : Z0 w.heap.size (w.alloc (stepB 5 C N A n cb))) : Calls Try.prog 6 #[.pointer (some ⟨p, 0, none⟩), .pointer (some ⟨x, 0, none⟩), .agg #[.int .i64 5, .int .i64 C, .int .i64 N, .slice A n cb]] w fun e w' => ∃ g : Nat, e = .returned (.bool true) ∧ Z2 g w' := by
  have HS0 := Aside0.mk hs0; have HS1 := Aside0.mk hs1; have HS2 := Aside0.mk hs2; have H1 := Aside0.mk h1; have H2 := Aside0.mk h2
  have HZ := Aside0.mk (hl0 _ _ _ h0 (below_drew (Below.refl _ _)))
  clear hs0 hs1 hs2 hl0 h1 h2 h0
  go_enter Try.func6, Try.ntmps6
  go_wp2
  refine start_ (n := 14) (S := fun w' : World => w'.cell? ⟨w.heap.size, 1, none⟩ = some (.int .i64 C) ∧ w'.cell? ⟨w.heap.size, 2, none⟩ = some (.int .i64 N) ∧ w'.cell? ⟨w.heap.size, 3, none⟩ = some (.slice A n cb)) (ds := []) (lb 14 0) (by kernel_rfl) rfl rfl ⟨(blk_cell (HS0.out _ _ HZ.out) 1).trans rfl, (blk_cell (HS0.out _ _ HZ.out) 2).trans rfl, (blk_cell (HS0.out _ _ HZ.out) 3).trans rfl⟩ (fun hHeld => ?_)
  generalize World.drew _ = W0 at HZ hHeld ⊢
  refine pv 0 101 (lb 14 1) ?_
  refine pv 1 102 (lb 14 3) ?_
  refine tv hHeld 2 103 (lb 14 7) ?_
  refine pv 3 104 (lb 14 15) ?_
  refine tv hHeld 4 105 (lb 14 31) ?_
  refine pv 6 107 (lb 14 95) ?_
  refine pv 7 108 (lb 14 223) ?_
  refine tv hHeld 8 109 (lb 14 479) ?_
  refine pv 9 110 (lb 14 991) ?_
  refine tv hHeld 10 111 (lb 14 2015) ?_
  refine one_ (i := 5) (N := some 106) (lb 14 2047) rfl rfl (by kernel_rfl) (by decide) (fun K hK => ?_)
  refine goes_ Try.func16 (by kernel_rfl) rfl #[.pointer (some ⟨p, 0, none⟩), .int .i64 C, .int .i64 N] (by rfl) rfl rfl ba ?_
  refine (H1.out _ _ HZ.out).mono ?_
  rintro e W1 ⟨rfl, hz⟩
  refine ⟨_, rfl, ?_⟩
  have HZ1 := Aside0.mk hz; clear hz
  refine hK.out _ _ ⟨(blk_cell (HS1.out _ _ HZ1.out) 1).trans rfl, (blk_cell (HS1.out _ _ HZ1.out) 2).trans rfl, (blk_cell (HS1.out _ _ HZ1.out) 3).trans rfl⟩ (fun hHeld => ?_)
  clear hK K
  refine norm_ (a' := ?_) ?_ ?_
  rotate_left
  · show Act.put _ (some 106) _ = _
    simp only [Act.put, List.setIfInBounds_toArray, List.set_cons_zero, List.set_cons_succ, i64_w, i32_w]
    rfl
  refine one_ (i := 11) (N := some 112) (lb 14 4095) rfl rfl (by kernel_rfl) (by decide) (fun K hK => ?_)
  refine goes_ Try.func27 (by kernel_rfl) rfl #[.pointer (some ⟨x, 0, none⟩), .int .i64 C, .int .i64 N] (by rfl) rfl rfl ba ?_
  refine (H2.out _ _ HZ1.out).mono ?_
  rintro e W2 ⟨rfl, hz⟩
  refine ⟨_, rfl, ?_⟩
  have HZ2 := Aside0.mk hz; clear hz
  refine hK.out _ _ ?hS2 (fun hHeld => ?_)
  case hS2 => exact ⟨(blk_cell (HS2.out _ _ HZ2.out) 1).trans rfl, (blk_cell (HS2.out _ _ HZ2.out) 2).trans rfl, (blk_cell (HS2.out _ _ HZ2.out) 3).trans rfl⟩
  clear hK K
  refine norm_ (a' := ?_) ?_ ?_
  rotate_left
  · show Act.put _ (some 112) _ = _
    simp only [Act.put, List.setIfInBounds_toArray, List.set_cons_zero, List.set_cons_succ, i64_w, i32_w]
    rfl
  refine pv 12 113 (lb 14 8191) ?_
  refine pv 13 6 (lb 14 16383) ?_
  refine done_ (by kernel_rfl) ?_
  go_wp2
  go_ret
  exact ⟨_, by simp, HZ2.out⟩
set_option maxHeartbeats 8000000 in
set_option maxRecDepth 100000 in
theorem sasks7 (hs0 : ∀ g W, Z0 g W → W.heap[g]? = some (stepB 7 C N A n cb)) (hs1 : ∀ g W, Z1 g W → W.heap[g]? = some (stepB 7 C N A n cb)) (hs2 : ∀ g W, Z2 g W → W.heap[g]? = some (stepB 7 C N A n cb)) (hl0 : ∀ g W W', Z0 g W → Below W.heap.size W W' → Z0 g W')
    (h1 : ∀ g W, Z0 g W → Calls Try.prog 29 #[.pointer (some ⟨p, 0, none⟩), .int .i64 N] W fun e w' => e = .returned (.int .i64 R) ∧ Z1 g w')
    (h2 : ∀ g W, Z1 g W → Calls Try.prog 30 #[.pointer (some ⟨x, 0, none⟩), .int .i64 N] W fun e w' => e = .returned (.int .i64 R) ∧ Z2 g w')
    (h0 : Z0 w.heap.size (w.alloc (stepB 7 C N A n cb))) : Calls Try.prog 6 #[.pointer (some ⟨p, 0, none⟩), .pointer (some ⟨x, 0, none⟩), .agg #[.int .i64 7, .int .i64 C, .int .i64 N, .slice A n cb]] w fun e w' => ∃ g : Nat, e = .returned (.bool true) ∧ Z2 g w' := by
  have HS0 := Aside0.mk hs0; have HS1 := Aside0.mk hs1; have HS2 := Aside0.mk hs2; have H1 := Aside0.mk h1; have H2 := Aside0.mk h2
  have HZ := Aside0.mk (hl0 _ _ _ h0 (below_drew (Below.refl _ _)))
  clear hs0 hs1 hs2 hl0 h1 h2 h0
  go_enter Try.func6, Try.ntmps6
  go_wp2
  refine start_ (n := 10) (S := fun w' : World => w'.cell? ⟨w.heap.size, 1, none⟩ = some (.int .i64 C) ∧ w'.cell? ⟨w.heap.size, 2, none⟩ = some (.int .i64 N) ∧ w'.cell? ⟨w.heap.size, 3, none⟩ = some (.slice A n cb)) (ds := []) (lb 10 0) (by kernel_rfl) rfl rfl ⟨(blk_cell (HS0.out _ _ HZ.out) 1).trans rfl, (blk_cell (HS0.out _ _ HZ.out) 2).trans rfl, (blk_cell (HS0.out _ _ HZ.out) 3).trans rfl⟩ (fun hHeld => ?_)
  generalize World.drew _ = W0 at HZ hHeld ⊢
  refine pv 0 144 (lb 10 1) ?_
  refine pv 1 145 (lb 10 3) ?_
  refine tv hHeld 2 146 (lb 10 7) ?_
  refine pv 4 148 (lb 10 23) ?_
  refine pv 5 149 (lb 10 55) ?_
  refine tv hHeld 6 150 (lb 10 119) ?_
  refine one_ (i := 3) (N := some 147) (lb 10 127) rfl rfl (by kernel_rfl) (by decide) (fun K hK => ?_)
  refine goes_ Try.func29 (by kernel_rfl) rfl #[.pointer (some ⟨p, 0, none⟩), .int .i64 N] (by rfl) rfl rfl ba ?_
  refine (H1.out _ _ HZ.out).mono ?_
  rintro e W1 ⟨rfl, hz⟩
  refine ⟨_, rfl, ?_⟩
  have HZ1 := Aside0.mk hz; clear hz
  refine hK.out _ _ ⟨(blk_cell (HS1.out _ _ HZ1.out) 1).trans rfl, (blk_cell (HS1.out _ _ HZ1.out) 2).trans rfl, (blk_cell (HS1.out _ _ HZ1.out) 3).trans rfl⟩ (fun hHeld => ?_)
  clear hK K
  refine norm_ (a' := ?_) ?_ ?_
  rotate_left
  · show Act.put _ (some 147) _ = _
    simp only [Act.put, List.setIfInBounds_toArray, List.set_cons_zero, List.set_cons_succ, i64_w, i32_w]
    rfl
  refine one_ (i := 7) (N := some 151) (lb 10 255) rfl rfl (by kernel_rfl) (by decide) (fun K hK => ?_)
  refine goes_ Try.func30 (by kernel_rfl) rfl #[.pointer (some ⟨x, 0, none⟩), .int .i64 N] (by rfl) rfl rfl ba ?_
  refine (H2.out _ _ HZ1.out).mono ?_
  rintro e W2 ⟨rfl, hz⟩
  refine ⟨_, rfl, ?_⟩
  have HZ2 := Aside0.mk hz; clear hz
  refine hK.out _ _ ?hS2 (fun hHeld => ?_)
  case hS2 => exact ⟨(blk_cell (HS2.out _ _ HZ2.out) 1).trans rfl, (blk_cell (HS2.out _ _ HZ2.out) 2).trans rfl, (blk_cell (HS2.out _ _ HZ2.out) 3).trans rfl⟩
  clear hK K
  refine norm_ (a' := ?_) ?_ ?_
  rotate_left
  · show Act.put _ (some 151) _ = _
    simp only [Act.put, List.setIfInBounds_toArray, List.set_cons_zero, List.set_cons_succ, i64_w, i32_w]
    rfl
  refine pv 8 152 (lb 10 511) ?_
  refine pv 9 6 (lb 10 1023) ?_
  refine done_ (by kernel_rfl) ?_
  go_wp2
  go_ret
  exact ⟨_, by simp, HZ2.out⟩
set_option maxHeartbeats 8000000 in
set_option maxRecDepth 100000 in
theorem sasks6 (hs1 : ∀ g W, Z1 g W → W.heap[g]? = some (stepB 6 C N A n cb))
    (h1 : ∀ g W, Z0 g W → Calls Try.prog 19 #[.pointer (some ⟨p, 0, none⟩), .int .i64 C, .slice A n cb] W fun e w' => e = .returned (.tuple #[.int .i64 R, .int .i64 S]) ∧ Z1 g w')
    (h2 : ∀ g W, Z1 g W → Calls Try.prog 28 #[.pointer (some ⟨x, 0, none⟩), .int .i64 C, .slice A n cb] W fun e w' => e = .returned (.tuple #[.int .i64 R, .int .i64 S]) ∧ Z2 g w')
    (h0 : Z0 w.heap.size (w.alloc (stepB 6 C N A n cb))) : Calls Try.prog 6 #[.pointer (some ⟨p, 0, none⟩), .pointer (some ⟨x, 0, none⟩), .agg #[.int .i64 6, .int .i64 C, .int .i64 N, .slice A n cb]] w fun e w' => ∃ g : Nat, e = .returned (.bool true) ∧ Z2 g w' := by
  have HS1 := Aside0.mk hs1; have H1 := Aside0.mk h1; have H2 := Aside0.mk h2; have HZ := Aside0.mk h0
  clear hs1 h1 h2 h0
  go_enter Try.func6, Try.ntmps6
  go_wp2_with (first
    | (go_at_call 19; refine (H1.out _ _ HZ.out).mono ?_; rintro e W1 ⟨rfl, hz⟩; have HZ1 := Aside0.mk hz; have hc1 : W1.cell? ⟨w.heap.size, 1, none⟩ = some (.int .i64 C) := (blk_cell (HS1.out _ _ hz) 1).trans rfl; have hc3 : W1.cell? ⟨w.heap.size, 3, none⟩ = some (.slice A n cb) := (blk_cell (HS1.out _ _ hz) 3).trans rfl; have hf1 := blk_frozen (HS1.out _ _ hz) 1; have hf3 := blk_frozen (HS1.out _ _ hz) 3; clear hz)
    | (go_at_call 28; refine (H2.out _ _ HZ1.out).mono ?_; rintro e W2 ⟨rfl, hz⟩; have HZ2 := Aside0.mk hz; clear hz))
  all_goals
    go_ret
    exact ⟨_, by simp, HZ2.out⟩
set_option maxHeartbeats 8000000 in
set_option maxRecDepth 100000 in
theorem sasksD {K : Int} (hK : K < 0 ∨ 7 < K) (hs1 : ∀ g W, Z1 g W → W.heap[g]? = some (stepB K C N A n cb))
    (h1 : ∀ g W, Z0 g W → Calls Try.prog 31 #[.pointer (some ⟨p, 0, none⟩), .int .i64 N] W fun e w' => e = .returned (.tuple #[.int .i64 R, .int .i64 S]) ∧ Z1 g w')
    (h2 : ∀ g W, Z1 g W → Calls Try.prog 32 #[.pointer (some ⟨x, 0, none⟩), .int .i64 N] W fun e w' => e = .returned (.tuple #[.int .i64 R, .int .i64 S]) ∧ Z2 g w')
    (h0 : Z0 w.heap.size (w.alloc (stepB K C N A n cb))) : Calls Try.prog 6 #[.pointer (some ⟨p, 0, none⟩), .pointer (some ⟨x, 0, none⟩), .agg #[.int .i64 K, .int .i64 C, .int .i64 N, .slice A n cb]] w fun e w' => ∃ g : Nat, e = .returned (.bool true) ∧ Z2 g w' := by
  have HS1 := Aside0.mk hs1; have H1 := Aside0.mk h1; have H2 := Aside0.mk h2; have HZ := Aside0.mk h0
  clear hs1 h1 h2 h0
  have b0 : (K == 0) = false := by simpa using (show ¬ K = 0 by omega)
  have b1 : (K == 1) = false := by simpa using (show ¬ K = 1 by omega)
  have b2 : (K == 2) = false := by simpa using (show ¬ K = 2 by omega)
  have b3 : (K == 3) = false := by simpa using (show ¬ K = 3 by omega)
  have b4 : (K == 4) = false := by simpa using (show ¬ K = 4 by omega)
  have b5 : (K == 5) = false := by simpa using (show ¬ K = 5 by omega)
  have b6 : (K == 6) = false := by simpa using (show ¬ K = 6 by omega)
  have b7 : (K == 7) = false := by simpa using (show ¬ K = 7 by omega)
  clear hK
  go_enter Try.func6, Try.ntmps6
  go_wp2_with (first
    | (go_at_call 31; refine (H1.out _ _ HZ.out).mono ?_; rintro e W1 ⟨rfl, hz⟩; have HZ1 := Aside0.mk hz; have hc2 : W1.cell? ⟨w.heap.size, 2, none⟩ = some (.int .i64 N) := (blk_cell (HS1.out _ _ hz) 2).trans rfl; have hf2 := blk_frozen (HS1.out _ _ hz) 2; clear hz)
    | (go_at_call 32; refine (H2.out _ _ HZ1.out).mono ?_; rintro e W2 ⟨rfl, hz⟩; have HZ2 := Aside0.mk hz; clear hz))
  all_goals
    go_ret
    exact ⟨_, by simp, HZ2.out⟩
set_option maxHeartbeats 8000000 in
set_option maxRecDepth 100000 in
theorem sasks4 {Z3 : Option Addr → Nat → Nat → Nat → World → Prop} (hs1 : ∀ A1 m c1 g W, Z3 A1 m c1 g W → W.heap[g]? = some (stepB 4 C N A n cb))
    (h1 : ∀ g W, Z0 g W → Calls Try.prog 18 #[.pointer (some ⟨p, 0, none⟩), .int .i64 C, .int .i64 N] W fun e w' => ∃ (A1 : Option Addr) (m c1 : Nat), e = .returned (.tuple #[.slice A1 m c1, .int .i64 R]) ∧ Z3 A1 m c1 g w')
    (h2 : ∀ A1 m c1 g W, Z3 A1 m c1 g W → Calls Try.prog 26 #[.pointer (some ⟨x, 0, none⟩), .int .i64 C, .int .i64 N] W fun e w' => ∃ (A2 : Option Addr) (m2 c2 : Nat), e = .returned (.tuple #[.slice A2 m2 c2, .int .i64 R]) ∧ Z2 g w' ∧ ∃ s, (convert 30 9 (.slice A1 m c1)).run Try.prog w' = Result.ok (.string s) w' ∧ (convert 30 9 (.slice A2 m2 c2)).run Try.prog w' = Result.ok (.string s) w')
    (h0 : Z0 w.heap.size (w.alloc (stepB 4 C N A n cb))) : Calls Try.prog 6 #[.pointer (some ⟨p, 0, none⟩), .pointer (some ⟨x, 0, none⟩), .agg #[.int .i64 4, .int .i64 C, .int .i64 N, .slice A n cb]] w fun e w' => ∃ g : Nat, e = .returned (.bool true) ∧ Z2 g w' := by
  have HS1 := Aside0.mk hs1; have H1 := Aside0.mk h1; have H2 := Aside0.mk h2; have HZ := Aside0.mk h0
  clear hs1 h1 h2 h0
  go_enter Try.func6, Try.ntmps6
  go_wp2_with (first
    | (go_at_call 18; refine (H1.out _ _ HZ.out).mono ?_; rintro e W1 ⟨A1, m1, c1, rfl, hz⟩; have HZ1 := Aside0.mk hz; have hc1 : W1.cell? ⟨w.heap.size, 1, none⟩ = some (.int .i64 C) := (blk_cell (HS1.out _ _ _ _ _ hz) 1).trans rfl; have hc2 : W1.cell? ⟨w.heap.size, 2, none⟩ = some (.int .i64 N) := (blk_cell (HS1.out _ _ _ _ _ hz) 2).trans rfl; have hf1 := blk_frozen (HS1.out _ _ _ _ _ hz) 1; have hf2 := blk_frozen (HS1.out _ _ _ _ _ hz) 2; clear hz)
    | (go_at_call 26; refine (H2.out _ _ _ _ _ HZ1.out).mono ?_; rintro e W2 ⟨A2, m2, c2, rfl, hz, s, hcv1, hcv2⟩; have HZ2 := Aside0.mk hz; clear hz))
  all_goals
    go_ret
    exact ⟨_, by simp, HZ2.out⟩
end
end Go.Proofs.Ytnhhcmnjfaeliaa.Vm
/- Both worlds side by side; own text of this session. -/
namespace Go.Proofs.Ytnhhcmnjfaeliaa.Vm
open Wld hiding St Ft Next cellsQ cellsP ReadPost ptrE ptrE_none ptrE_some law zeroP Key key_of info_u8 info_int ne_t ne_blk ne_map grown_below
open Go.RowKit Go.Proofs.YtnhhcmnjfaeliaaW.PrintWords Go.Proofs.YtnhhcmnjfaeliaaW.PrintLast Go.Maps
set_option linter.unusedVariables false
set_option linter.unusedSimpArgs false
/-- A connection, whoever holds it. -/
structure Ac where
  c : Int
  op : Bool
  en : Bool
  ws : List Int
  ss : List Int
  room : Int
def Cn.abs (x : Cn) : Ac := ⟨x.c, x.op, x.en, x.ws, x.ss, x.room⟩
def Rc.abs (y : Rc) : Ac := ⟨y.c, y.op, y.en, y.ws, y.ss, y.room⟩
/-- The blocks of the program's world. -/
def MFt (p bm : Nat) (vd : Value) (L : List Cn) (k : Nat) : Prop := k = p ∨ k = bm ∨ vd.ownBlock = some k ∨ ∃ y ∈ L, y.own k
section
variable {w w' : World} {p bm sz : Nat} {Dm : DataW Unit} {vd vd' : Value} {ds ds' : List Int} {L : List Cn}
theorem ft_mft {x : Cn} (hx : x ∈ L) (k : Nat) (h : Ft p bm x.q x.vw x.vs vd k) : MFt p bm vd L k := by
  rcases h with h | h | h | h | h | h
  · exact .inl h
  · exact .inr (.inl h)
  · exact .inr (.inr (.inr ⟨x, hx, .inl h⟩))
  · exact .inr (.inr (.inr ⟨x, hx, .inr (.inl h)⟩))
  · exact .inr (.inr (.inr ⟨x, hx, .inr (.inr h)⟩))
  · exact .inr (.inr (.inl h))
theorem MW.ltM (h : MW w p bm sz Dm vd ds L) (k : Nat) (hk : MFt p bm vd L k) : k < w.heap.size := by
  rcases hk with rfl | rfl | hk | ⟨y, hy, hk⟩
  · exact blk_lt h.blkP
  · exact h.own.lt
  · exact h.rd.lt k hk
  · exact Cn.own_lt (h.all y hy) hk
theorem own_keep {b n : Nat} (h : w.ownsMap Try.prog 3 ptrE b n Dm) (e : w'.heap[b]? = w.heap[b]?) : w'.ownsMap Try.prog 3 ptrE b n Dm := by
  obtain ⟨es, clock, hb, r⟩ := h
  exact ⟨es, clock, e.trans hb, r⟩
theorem MW.keepM (h : MW w p bm sz Dm vd ds L) (hk : ∀ k, MFt p bm vd L k → k < w.heap.size → w'.heap[k]? = w.heap[k]?) : MW w' p bm sz Dm vd ds L := by
  have k1 : ∀ k, MFt p bm vd L k → w'.heap[k]? = w.heap[k]? := fun k h1 => hk k h1 (h.ltM k h1)
  have hP := (k1 p (.inl rfl)).trans h.blkP
  have hO := own_keep h.own (k1 bm (.inr (.inl rfl)))
  have hD : Row .i64 3 w' vd ds := h.rd.keep (fun i hi _ => k1 i (.inr (.inr (.inl hi))))
  refine ⟨hP, hO, hD, fun x hx => ?_, h.nokey, h.has, h.apart, h.keys⟩
  have hS := h.all x hx
  exact ⟨hP, hO, (k1 x.q (.inr (.inr (.inr ⟨x, hx, .inl rfl⟩)))).trans hS.blkQ, hS.rw.keep (fun i hi _ => k1 i (.inr (.inr (.inr ⟨x, hx, .inr (.inl hi)⟩)))), hS.rs.keep (fun i hi _ => k1 i (.inr (.inr (.inr ⟨x, hx, .inr (.inr hi)⟩)))), hD, hS.apart, hS.look⟩
end
/-- Both worlds, side by side, and blocks that none of them has. -/
structure JJ (w0 w : World) (p x : Nat) (G : Nat → Obj → Prop) (bm sz : Nat) (Dm : DataW Unit) (vd : Value) (Lm : List Cn) (d1 : List Int) (vL vD : Value) (Lr : List Rc) (d2 : List Int) : Prop where
  m : MW w p bm sz Dm vd d1 Lm
  r : RW w x vL vD Lr d2
  dj : ∀ k, MFt p bm vd Lm k → ¬ RFt x vL vD Lr k
  bl : Below w0.heap.size w0 w
  om : ∀ k, MFt p bm vd Lm k → w0.heap.size ≤ k
  or_ : ∀ k, RFt x vL vD Lr k → w0.heap.size ≤ k
  g : ∀ k o, G k o → w.heap[k]? = some o ∧ ¬ MFt p bm vd Lm k ∧ ¬ RFt x vL vD Lr k
  sz_ : sz = Lm.length
section
variable {w0 w w' : World} {p x : Nat} {G : Nat → Obj → Prop} {bm sz sz' : Nat} {Dm Dm' : DataW Unit} {vd vd' : Value} {Lm Lm' : List Cn} {d1 d1' : List Int} {vL vD : Value} {Lr Lr' : List Rc} {d2 d2' : List Int}
theorem out_of {F : Nat → Prop} (hb : Below w0.heap.size w0 w) (hs : Stay F w w') (hF : ∀ k, F k → w0.heap.size ≤ k) : Below w0.heap.size w0 w' := hs.out hb hF hb.size
theorem JJ.low (h : JJ w0 w p x G bm sz Dm vd Lm d1 vL vD Lr d2) (hb : Below w.heap.size w w') : JJ w0 w' p x G bm sz Dm vd Lm d1 vL vD Lr d2 :=
  ⟨h.m.below hb, h.r.below hb, h.dj, below_step h.bl hb, h.om, h.or_, fun k o hg => ⟨(hb.block k (blk_lt (h.g k o hg).1)).trans (h.g k o hg).1, (h.g k o hg).2⟩, h.sz_⟩
theorem JJ.prog (h : JJ w0 w p x G bm sz Dm vd Lm d1 vL vD Lr d2) (hm : MW w' p bm sz' Dm' vd' d1' Lm') (hf : ∀ k, MFt p bm vd' Lm' k → MFt p bm vd Lm k ∨ w.heap.size ≤ k) (hs : Stay (MFt p bm vd Lm) w w') (hz : sz' = Lm'.length) :
    JJ w0 w' p x G bm sz' Dm' vd' Lm' d1' vL vD Lr d2 := by
  refine ⟨hm, h.r.stay hs h.dj, fun k hk hr => ?_, out_of h.bl hs h.om, fun k hk => ?_, h.or_, fun k o hg => ?_, hz⟩
  · rcases hf k hk with h5 | h5
    · exact h.dj k h5 hr
    · have := h.r.lt k hr; omega
  · rcases hf k hk with h5 | h5
    · exact h.om k h5
    · exact Nat.le_trans h.bl.size h5
  · obtain ⟨h1, h2, h3⟩ := h.g k o hg
    refine ⟨(hs.block k (blk_lt h1) h2).trans h1, fun h5 => ?_, h3⟩
    rcases hf k h5 with h6 | h6
    · exact h2 h6
    · have := blk_lt h1; omega
theorem JJ.ref (h : JJ w0 w p x G bm sz Dm vd Lm d1 vL vD Lr d2) (hn : RNext w x vL vD Lr d2 Lr' d2' w') : ∃ vL' vD', JJ w0 w' p x G bm sz Dm vd Lm d1 vL' vD' Lr' d2' := by
  obtain ⟨vL', vD', hr, hf, hs⟩ := hn
  have hd2 : ∀ k, RFt x vL vD Lr k → ¬ MFt p bm vd Lm k := fun k h1 h2 => h.dj k h2 h1
  refine ⟨vL', vD', h.m.keepM (fun k hk hl => hs.block k hl (h.dj k hk)), hr, fun k hk hk2 => ?_, out_of h.bl hs h.or_, h.om, fun k hk => ?_, fun k o hg => ?_, h.sz_⟩
  · rcases hf k hk2 with h5 | h5
    · exact h.dj k hk h5
    · have := h.m.ltM k hk; omega
  · rcases hf k hk with h5 | h5
    · exact h.or_ k h5
    · exact Nat.le_trans h.bl.size h5
  · obtain ⟨h1, h2, h3⟩ := h.g k o hg
    refine ⟨(hs.block k (blk_lt h1) h3).trans h1, h2, fun h5 => ?_⟩
    rcases hf k h5 with h6 | h6
    · exact h3 h6
    · have := blk_lt h1; omega
/-- One block more that none of them has. -/
theorem JJ.alloc (h : JJ w0 w p x G bm sz Dm vd Lm d1 vL vD Lr d2) (o : Obj) : JJ w0 (w.alloc o) p x (fun k u => G k u ∨ (k = w.heap.size ∧ u = o)) bm sz Dm vd Lm d1 vL vD Lr d2 := by
  have h5 := h.low (below_alloc (Below.refl _ _) o)
  refine ⟨h5.m, h5.r, h5.dj, h5.bl, h5.om, h5.or_, fun k u hg => ?_, h5.sz_⟩
  rcases hg with hg | ⟨rfl, rfl⟩
  · exact h5.g k u hg
  · exact ⟨blk_new _ _, fun h6 => by have := h.m.ltM _ h6; omega, fun h6 => by have := h.r.lt _ h6; omega⟩
theorem JJ.drop {G' : Nat → Obj → Prop} (h : JJ w0 w p x G bm sz Dm vd Lm d1 vL vD Lr d2) (hg : ∀ k o, G' k o → G k o) : JJ w0 w p x G' bm sz Dm vd Lm d1 vL vD Lr d2 :=
  ⟨h.m, h.r, h.dj, h.bl, h.om, h.or_, fun k o h5 => h.g k o (hg k o h5), h.sz_⟩
/-- A row that none of them has. -/
theorem JJ.row (h : JJ w0 w p x G bm sz Dm vd Lm d1 vL vD Lr d2) {v : Value} (hv : ∀ k, v.ownBlock = some k → ¬ MFt p bm vd Lm k ∧ ¬ RFt x vL vD Lr k) : JJ w0 w p x (fun k u => G k u ∨ (v.ownBlock = some k ∧ w.heap[k]? = some u)) bm sz Dm vd Lm d1 vL vD Lr d2 := by
  refine ⟨h.m, h.r, h.dj, h.bl, h.om, h.or_, fun k u hg => ?_, h.sz_⟩
  rcases hg with hg | ⟨h1, h2⟩
  · exact h.g k u hg
  · exact ⟨h2, hv k h1⟩
/-- A call on one connection of the program's world. -/
theorem JJ.next {A B : List Cn} {m m' : Cn} (h : JJ w0 w p x G bm sz Dm vd (A ++ m :: B) d1 vL vD Lr d2) (hc : m'.c = m.c) (hq : m'.q = m.q) (hm : m'.St w' p bm sz Dm vd' d1') (hft : ∀ k, Ft p bm m'.q m'.vw m'.vs vd' k → Ft p bm m.q m.vw m.vs vd k ∨ w.heap.size ≤ k) (hs : Stay (Ft p bm m.q m.vw m.vs vd) w w') :
    JJ w0 w' p x G bm sz Dm vd' (A ++ m' :: B) d1' vL vD Lr d2 := by
  have hmL : m ∈ A ++ m :: B := by simp
  refine h.prog (h.m.step hc hq hm hft hs) (fun k hk => ?_) (hs.mono (ft_mft hmL)) (by rw [h.sz_]; simp)
  have one : Ft p bm m'.q m'.vw m'.vs vd' k → MFt p bm vd (A ++ m :: B) k ∨ w.heap.size ≤ k := fun h5 => (hft k h5).imp (ft_mft hmL k) id
  rcases hk with hk | hk | hk | ⟨z, hz, hk⟩
  · exact .inl (.inl hk)
  · exact .inl (.inr (.inl hk))
  · exact one (.inr (.inr (.inr (.inr (.inr hk)))))
  · rw [List.mem_append, List.mem_cons] at hz
    rcases hz with hz | rfl | hz
    · exact .inl (.inr (.inr (.inr ⟨z, by simp [hz], hk⟩)))
    · rcases hk with hk | hk | hk
      · exact one (.inr (.inr (.inl hk)))
      · exact one (.inr (.inr (.inr (.inl hk))))
      · exact one (.inr (.inr (.inr (.inr (.inl hk)))))
    · exact .inl (.inr (.inr (.inr ⟨z, by simp [hz], hk⟩)))
/-- The numbers of the program's world turned. -/
theorem JJ.numsM (h : JJ w0 w p x G bm sz Dm vd Lm d1 vL vD Lr d2) (hd : DPost w p 55 (.map (some bm)) vd d1' w') : ∃ vd', JJ w0 w' p x G bm sz Dm vd' Lm d1' vL vD Lr d2 := by
  obtain ⟨v1, ⟨hP, hR⟩, hat, hs⟩ := hd
  have hF : ∀ k, k = p ∨ vd.ownBlock = some k → MFt p bm vd Lm k := fun k hk => hk.elim .inl (fun h5 => .inr (.inr (.inl h5)))
  have hne : ∀ k, ¬ (k = p ∨ vd.ownBlock = some k) → k < w.heap.size → w'.heap[k]? = w.heap[k]? := fun k h1 h2 => hs.block k h2 h1
  have hbm : w'.heap[bm]? = w.heap[bm]? := hne bm (fun h5 => by
    rcases h5 with h5 | h5
    · exact ne_map h.m.blkP h.m.own h5.symm
    · exact (h.m.neD bm h5) rfl) h.m.own.lt
  have hO := own_keep h.m.own hbm
  refine ⟨v1, h.prog (sz' := sz) (Dm' := Dm) ⟨hP, hO, hR, fun y hy => ?_, h.m.nokey, h.m.has, h.m.apart, h.m.keys⟩ (fun k hk => ?_) (hs.mono hF) h.sz_⟩
  · have hS := h.m.all y hy
    exact ⟨hP, hO, (hne y.q (fun h5 => by
      rcases h5 with h5 | h5
      · exact hS.nePQ.1 h5.symm
      · exact (hS.neD _ h5).2.2 rfl) (blk_lt hS.blkQ)).trans hS.blkQ, hS.rw.keep (fun i hi hl => hne i (fun h5 => by
      rcases h5 with h5 | h5
      · exact (hS.neW i hi).1 h5
      · exact (hS.neW i hi).2.2.2 h5) hl), hS.rs.keep (fun i hi hl => hne i (fun h5 => by
      rcases h5 with h5 | h5
      · exact (hS.neS i hi).1 h5
      · exact (hS.neS i hi).2.2.2 h5) hl), hR, hS.apart, hS.look⟩
  · rcases hk with hk | hk | hk | hk
    · exact .inl (.inl hk)
    · exact .inl (.inr (.inl hk))
    · exact (hat k hk).imp (fun h5 => .inr (.inr (.inl h5))) id
    · exact .inl (.inr (.inr (.inr hk)))
/-- The numbers of the reference's world turned. -/
theorem RW.nums (h : RW w x vL vD Lr d2) (hd : DPost w x 29 vL vD d2' w') : RNext w x vL vD Lr d2 Lr d2' w' := by
  obtain ⟨v1, ⟨hP, hR⟩, hat, hs⟩ := hd
  have hne : ∀ k, ¬ (k = x ∨ vD.ownBlock = some k) → k < w.heap.size → w'.heap[k]? = w.heap[k]? := fun k h1 h2 => hs.block k h2 h1
  refine ⟨vL, v1, ⟨hP, q_move h.rl (fun k hk => hne k (fun h5 => h5.elim (h.neL hk).1 (h.neL hk).2.1) (q_lt h.rl k hk)), fun y hy => (h.rw y hy).keep (fun i hi hl => hne i (fun h5 => ?_) hl), fun y hy => (h.rs y hy).keep (fun i hi hl => hne i (fun h5 => ?_) hl), hR, h.self, h.apart, h.keys⟩, fun k hk => ?_, hs.mono (fun k hk => hk.elim .inl (fun h5 => .inr (.inr (.inl h5))))⟩
  · rcases h5 with h5 | h5
    · exact h.neY hy (.inl hi) h5
    · exact (h.neD h5).2 y hy (.inl hi)
  · rcases h5 with h5 | h5
    · exact h.neY hy (.inr hi) h5
    · exact (h.neD h5).2 y hy (.inr hi)
  · rcases hk with hk | hk | hk | hk
    · exact .inl (.inl hk)
    · exact .inl (.inr (.inl hk))
    · exact (hat k hk).imp (fun h5 => .inr (.inr (.inl h5))) id
    · exact .inl (.inr (.inr (.inr hk)))
end
end Go.Proofs.Ytnhhcmnjfaeliaa.Vm
/- Both worlds side by side: each call; own text of this session. -/
namespace Go.Proofs.Ytnhhcmnjfaeliaa.Vm
open Wld hiding St Ft Next cellsQ cellsP ReadPost ptrE ptrE_none ptrE_some law zeroP Key key_of info_u8 info_int ne_t ne_blk ne_map grown_below
open Go.RowKit Go.Proofs.YtnhhcmnjfaeliaaW.PrintWords Go.Proofs.YtnhhcmnjfaeliaaW.PrintLast Go.Maps
set_option linter.unusedVariables false
set_option linter.unusedSimpArgs false
/-- Both worlds, and what each holds. -/
def JD (w0 w : World) (p x : Nat) (G : Nat → Obj → Prop) (L1 : List Ac) (d1 : List Int) (L2 : List Ac) (d2 : List Int) : Prop :=
  ∃ bm sz Dm vd Lm vL vD Lr, JJ w0 w p x G bm sz Dm vd Lm d1 vL vD Lr d2 ∧ Lm.map Cn.abs = L1 ∧ Lr.map Rc.abs = L2
/-- No open one. -/
def NoA (L : List Ac) (c : Int) : Prop := ∀ y ∈ L, y.c = c → y.op = false
/-- A block more. -/
def Gx (G : Nat → Obj → Prop) (g : Nat) (o : Obj) (k : Nat) (u : Obj) : Prop := G k u ∨ (k = g ∧ u = o)
theorem map_mid {α β : Type} {f : α → β} {l : List α} {A B : List β} {y : β} (h : l.map f = A ++ y :: B) : ∃ A' y' B', l = A' ++ y' :: B' ∧ A'.map f = A ∧ f y' = y ∧ B'.map f = B := by
  obtain ⟨A', l2, rfl, h1, h2⟩ := List.map_eq_append_iff.1 h
  obtain ⟨y', B', rfl, h3, h4⟩ := List.map_eq_cons_iff.1 h2
  exact ⟨A', y', B', rfl, h1, h3, h4⟩
section
variable {w0 w w' : World} {p x : Nat} {G G' : Nat → Obj → Prop} {L1 L2 A B : List Ac} {y : Ac} {d1 d2 : List Int} {c : Int}
theorem JD.low (h : JD w0 w p x G L1 d1 L2 d2) (hb : Below w.heap.size w w') : JD w0 w' p x G L1 d1 L2 d2 := by
  obtain ⟨bm, sz, Dm, vd, Lm, vL, vD, Lr, hJ, e1, e2⟩ := h
  exact ⟨bm, sz, Dm, vd, Lm, vL, vD, Lr, hJ.low hb, e1, e2⟩
theorem JD.drop (h : JD w0 w p x G L1 d1 L2 d2) (hg : ∀ k o, G' k o → G k o) : JD w0 w p x G' L1 d1 L2 d2 := by
  obtain ⟨bm, sz, Dm, vd, Lm, vL, vD, Lr, hJ, e1, e2⟩ := h
  exact ⟨bm, sz, Dm, vd, Lm, vL, vD, Lr, hJ.drop hg, e1, e2⟩
theorem JD.alloc (h : JD w0 w p x G L1 d1 L2 d2) (o : Obj) : JD w0 (w.alloc o) p x (Gx G w.heap.size o) L1 d1 L2 d2 := by
  obtain ⟨bm, sz, Dm, vd, Lm, vL, vD, Lr, hJ, e1, e2⟩ := h
  exact ⟨bm, sz, Dm, vd, Lm, vL, vD, Lr, hJ.alloc o, e1, e2⟩
theorem JD.at {g : Nat} {o : Obj} (h : JD w0 w p x (Gx G g o) L1 d1 L2 d2) : w.heap[g]? = some o := by
  obtain ⟨bm, sz, Dm, vd, Lm, vL, vD, Lr, hJ, e1, e2⟩ := h
  exact (hJ.g g o (.inr ⟨rfl, rfl⟩)).1
theorem JD.bl (h : JD w0 w p x G L1 d1 L2 d2) : Below w0.heap.size w0 w := by
  obtain ⟨bm, sz, Dm, vd, Lm, vL, vD, Lr, hJ, e1, e2⟩ := h
  exact hJ.bl
theorem JD.noAt (h : JD w0 w p x G L1 d1 L2 d2) (hno : NoA L1 c) (hc : (Key c).wf = true) : NoAt w p c := by
  obtain ⟨bm, sz, Dm, vd, Lm, vL, vD, Lr, hJ, rfl, e2⟩ := h
  by_cases hy : ∃ y ∈ Lm, y.c = c
  · obtain ⟨m, hm, hmc⟩ := hy
    have ho : m.op = false := hno m.abs (List.mem_map.2 ⟨m, hm, rfl⟩) hmc
    have hS := hJ.m.all m hm
    have hS' : Vm.St w p bm sz Dm m.q m.vw m.vs vd c false m.en m.ws m.ss m.room d1 := by rw [← hmc, ← ho]; exact hS
    exact at_shut hS' hc
  · exact at_no hJ.m.blkP hJ.m.own (hJ.m.nokey c (fun m hm e => hy ⟨m, hm, e⟩)) hc
theorem JD.yes (h : JD w0 w p x G (A ++ y :: B) d1 L2 d2) : ∃ bm sz Dm q vw vs vd, Vm.St w p bm sz Dm q vw vs vd y.c y.op y.en y.ws y.ss y.room d1 ∧
    (∀ w' op en ws ss room d1', Vm.Next w p bm sz Dm q vw vs vd y.c op en ws ss room d1' w' → JD w0 w' p x G (A ++ ⟨y.c, op, en, ws, ss, room⟩ :: B) d1' L2 d2) := by
  obtain ⟨bm, sz, Dm, vd, Lm, vL, vD, Lr, hJ, e1, e2⟩ := h
  obtain ⟨Am, m, Bm, rfl, rfl, rfl, rfl⟩ := map_mid e1
  refine ⟨bm, sz, Dm, m.q, m.vw, m.vs, vd, hJ.m.all m (by simp), ?_⟩
  rintro w' op en ws ss room d1' ⟨vw', vs', vd', hst, hft, hsy⟩
  exact ⟨bm, sz, Dm, vd', Am ++ ⟨m.q, vw', vs', m.c, op, en, ws, ss, room⟩ :: Bm, vL, vD, Lr, hJ.next rfl rfl hst hft hsy, by simp [Cn.abs], e2⟩
theorem JD.yesR (h : JD w0 w p x G (A ++ y :: B) d1 L2 d2) (ho : y.op = true) {m : Nat} : ∃ bm sz Dm q vw vs vd, Vm.St w p bm sz Dm q vw vs vd y.c true y.en y.ws y.ss y.room d1 ∧
    (∀ e w', Vm.ReadPost w p bm sz Dm q vw vs vd y.c y.en y.ws y.ss y.room d1 m e w' → ∃ A1 c1, e = .returned (.tuple #[.slice A1 m c1, .int .i64 0]) ∧ Row .u8 5 w' (.slice A1 m c1) (y.ws.take m) ∧ JD w0 w' p x (fun k u => G k u ∨ ((Value.slice A1 m c1).ownBlock = some k ∧ w'.heap[k]? = some u)) (A ++ ⟨y.c, true, y.en, y.ws.drop m, y.ss, y.room⟩ :: B) d1 L2 d2) := by
  obtain ⟨bm, sz, Dm, vd, Lm, vL, vD, Lr, hJ, e1, e2⟩ := h
  obtain ⟨Am, m0, Bm, rfl, rfl, rfl, rfl⟩ := map_mid e1
  have hmo : m0.op = true := ho
  refine ⟨bm, sz, Dm, m0.q, m0.vw, m0.vs, vd, ?_, ?_⟩
  · have hS := hJ.m.all m0 (by simp)
    have hS' : Vm.St w p bm sz Dm m0.q m0.vw m0.vs vd m0.c true m0.en m0.ws m0.ss m0.room d1 := by rw [← hmo]; exact hS
    exact hS'
  · rintro e w' ⟨A1, c1, vw', he, hst, hft, hsy, hrow, hfr⟩
    have hJ2 := hJ.next (m' := ⟨m0.q, vw', m0.vs, m0.c, true, m0.en, m0.ws.drop m, m0.ss, m0.room⟩) rfl rfl hst (fun k hk => .inl (hft k hk)) hsy
    refine ⟨A1, c1, he, hrow, bm, sz, Dm, vd, _, vL, vD, Lr, hJ2.row (fun k hk => ?_), by simp [Cn.abs], e2⟩
    have hk5 := hfr k hk
    refine ⟨fun h5 => ?_, fun h5 => by have := hJ.r.lt k h5; omega⟩
    have h6 : MFt p bm vd (Am ++ m0 :: Bm) k := by
      have hmL : m0 ∈ Am ++ m0 :: Bm := by simp
      rcases h5 with h5 | h5 | h5 | ⟨z, hz, h5⟩
      · exact .inl h5
      · exact .inr (.inl h5)
      · exact .inr (.inr (.inl h5))
      · rw [List.mem_append, List.mem_cons] at hz
        rcases hz with hz | rfl | hz
        · exact .inr (.inr (.inr ⟨z, by simp [hz], h5⟩))
        · refine ft_mft hmL k (hft k ?_)
          rcases h5 with h5 | h5 | h5
          · exact .inr (.inr (.inl h5))
          · exact .inr (.inr (.inr (.inl h5)))
          · exact .inr (.inr (.inr (.inr (.inl h5))))
        · exact .inr (.inr (.inr ⟨z, by simp [hz], h5⟩))
    have := hJ.m.ltM k h6
    omega
theorem JD.ref (h : JD w0 w p x G L1 d1 L2 d2) : ∃ vL vD Lr, RW w x vL vD Lr d2 ∧ Lr.map Rc.abs = L2 ∧ (∀ w', Stay (RFt x vL vD Lr) w w' → Below w0.heap.size w0 w') ∧
    (∀ w' Lr' d2', RNext w x vL vD Lr d2 Lr' d2' w' → JD w0 w' p x G L1 d1 (Lr'.map Rc.abs) d2') := by
  obtain ⟨bm, sz, Dm, vd, Lm, vL, vD, Lr, hJ, e1, e2⟩ := h
  refine ⟨vL, vD, Lr, hJ.r, e2, fun w' hs => out_of hJ.bl hs hJ.or_, fun w' Lr' d2' hn => ?_⟩
  obtain ⟨vL', vD', hJ'⟩ := hJ.ref hn
  exact ⟨bm, sz, Dm, vd, Lm, vL', vD', Lr', hJ', e1, rfl⟩
theorem JD.refYes (h : JD w0 w p x G L1 d1 (A ++ y :: B) d2) : ∃ vL vD Ar yr Br, RW w x vL vD (Ar ++ yr :: Br) d2 ∧ yr.abs = y ∧ (Ar ++ yr :: Br).length = (A ++ y :: B).length ∧ (∀ w', Stay (RFt x vL vD (Ar ++ yr :: Br)) w w' → Below w0.heap.size w0 w') ∧
    (∀ w' y' d2', RNext w x vL vD (Ar ++ yr :: Br) d2 (Ar ++ y' :: Br) d2' w' → JD w0 w' p x G L1 d1 (A ++ y'.abs :: B) d2') := by
  obtain ⟨vL, vD, Lr, hr, e, hs, hn⟩ := h.ref
  obtain ⟨Ar, yr, Br, rfl, rfl, rfl, rfl⟩ := map_mid e
  exact ⟨vL, vD, Ar, yr, Br, hr, rfl, by simp, hs, fun w' y' d2' h5 => by have h6 := hn w' _ d2' h5; simpa using h6⟩
theorem no_c {Lr : List Rc} (e : Lr.map Rc.abs = L2) (hno : NoA L2 c) : NoC Lr c := fun y hy hc => hno y.abs (by rw [← e]; exact List.mem_map.2 ⟨y, hy, rfl⟩) hc
theorem len_abs {Lr : List Rc} (e : Lr.map Rc.abs = L2) : Lr.length = L2.length := by rw [← e, List.length_map]
theorem JD.numsP (h : JD w0 w p x G L1 d1 L2 d2) : ∃ c0 vd, DW w p 55 c0 vd d1 ∧ (∀ w' d1', DPost w p 55 c0 vd d1' w' → JD w0 w' p x G L1 d1' L2 d2) := by
  obtain ⟨bm, sz, Dm, vd, Lm, vL, vD, Lr, hJ, e1, e2⟩ := h
  refine ⟨_, vd, ⟨hJ.m.blkP, hJ.m.rd⟩, fun w' d1' hd => ?_⟩
  obtain ⟨vd', hJ'⟩ := hJ.numsM hd
  exact ⟨bm, sz, Dm, vd', Lm, vL, vD, Lr, hJ', e1, e2⟩
theorem JD.numsR (h : JD w0 w p x G L1 d1 L2 d2) : ∃ c0 vd, DW w x 29 c0 vd d2 ∧ (∀ w' d2', DPost w x 29 c0 vd d2' w' → JD w0 w' p x G L1 d1 L2 d2') := by
  obtain ⟨vL, vD, Lr, hr, rfl, _, hn⟩ := h.ref
  exact ⟨vL, vD, ⟨hr.blk, hr.rd⟩, fun w' d2' hd => hn w' Lr d2' (hr.nums hd)⟩
end
/-- The numbers of the open ones, in order. -/
def aopens (L : List Ac) : List Int := ((L.filter fun y => y.op).map fun y => y.c).mergeSort fun x y => decide (x ≤ y)
theorem opens_abs (L : List Cn) : opens L = aopens (L.map Cn.abs) := by
  unfold opens aopens
  congr 1
  induction L with
  | nil => rfl
  | cons y r ih =>
    simp only [List.map_cons, List.filter_cons, Cn.abs] at ih ⊢
    cases y.op <;> simp [ih, Cn.abs]
theorem ropens_abs (L : List Rc) : ropens L = aopens (L.map Rc.abs) := by
  unfold ropens aopens
  congr 1
  induction L with
  | nil => rfl
  | cons y r ih =>
    simp only [List.map_cons, List.filter_cons, Rc.abs] at ih ⊢
    cases y.op <;> simp [ih, Rc.abs]
end Go.Proofs.Ytnhhcmnjfaeliaa.Vm
/- Open exactly; the law's asks at each kind of step, where both worlds stand alike; own text of this session (gen_vs15.py). -/
namespace Go.Proofs.Ytnhhcmnjfaeliaa.Vm
open Wld hiding St Ft Next cellsQ cellsP ReadPost ptrE ptrE_none ptrE_some law zeroP Key key_of info_u8 info_int ne_t ne_blk ne_map grown_below
open Go.RowKit Go.Proofs.YtnhhcmnjfaeliaaW.PrintWords Go.Proofs.YtnhhcmnjfaeliaaW.PrintLast Go.Maps
set_option linter.unusedVariables false
set_option linter.unusedSimpArgs false
section
variable {w : World} {p bm sz : Nat} {Dm : DataW Unit} {vd : Value} {ds : List Int} {L : List Cn} {c : Int}
set_option maxHeartbeats 4000000 in
set_option maxRecDepth 100000 in
theorem open_exact (h : MW w p bm sz Dm vd ds L) (hsz : sz ≤ 1000000000) (hc : (Key c).wf = true) (h0 : ¬ c < 0) (hn : ∀ x ∈ L, x.c ≠ c) : Calls Try.prog 15 #[.pointer (some ⟨p, 0, none⟩), .int .i64 c] w fun e w' => ((opens L).length = 1024 ∧ e = .returned (.int .i64 5) ∧ Below w.heap.size w w') ∨ ((opens L).length ≠ 1024 ∧ e = .returned (.int .i64 0) ∧ ∃ q, w.heap.size ≤ q ∧ MW w' p bm (sz + 1) (Dm.put (Key c) (.lit (.int .i64 (q : Int)))) vd ds (L ++ [fresh c q]) ∧ Stay (fun k => k = bm) w w') := by
  obtain ⟨n, hnl⟩ : ∃ n, n = (opens L).length := ⟨_, rfl⟩
  have H := Aside0.mk h
  have HC := Aside0.mk hc
  have HZ := Aside0.mk hsz
  have HN := Aside0.mk hn
  have HA := Aside0.mk (all_exact h (Nat.le_trans h.own.size_le hsz))
  rw [← hnl] at HA ⊢
  clear hnl
  have hz0 : w.cell? ⟨p, 0, none⟩ = some (.map (some bm)) := (blk_cell h.blkP 0).trans rfl
  have hlk := look_no h.own (h.nokey c hn) hc
  clear h hc hsz hn
  go_enter Try.func15, Try.ntmps15
  go_wp2_with (first
    | (go_at_call 12; refine HA.out.mono ?_; rintro e w1 ⟨A1, c1, rfl, _, hb1⟩; have HB1 := Aside0.mk hb1; have H1 := Aside0.mk (H.out.below hb1); have hy0 : w1.cell? ⟨p, 0, none⟩ = some (.map (some bm)) := (blk_cell H1.out.blkP 0).trans rfl; clear hb1 hz0 hlk)
    | (at_mapUpdate; refine wpList_mapUpdate_own _ rfl _ _ _ 53 rfl 3 64 law Try.underlying53 ptrE bm sz Dm rfl (H1.out.own.alloc _) (by unfold maxLen; have := HZ.out; omega) (.int .i64 c) (.pointer (some ⟨w1.heap.size, 0, none⟩)) (Key c) rfl rfl (key_of HC.out) (.lit (.int .i64 (w1.heap.size : Int))) [] rfl ?_; intro w2 hown2 hgrow2; have HO2 := Aside0.mk hown2; have HG2 := Aside0.mk hgrow2; clear hown2 hgrow2))
  · rename_i hq
    go_ret
    exact .inl ⟨by have h6 : (n : Int) = 1024 := (by simpa using hq); omega, rfl, HB1.out⟩
  · rename_i hq
    go_ret
    exact .inr ⟨by have h6 : ¬ (n : Int) = 1024 := (by simpa using hq); omega, rfl, w1.heap.size, HB1.out.size, MW.add H1.out HC.out HN.out HO2.out HG2.out, (Stay.below HB1.out).trans ((Stay.below (F := fun k => k = bm) (below_alloc (Below.refl w1.heap.size w1) _)).trans (Stay.grown (F := fun k => k = bm) HG2.out (fun k hk => by injection hk with hk; exact hk.symm)) (fun i hi => .inl hi)) (fun i hi => .inl hi)⟩
set_option maxRecDepth 100000 in
theorem sent_none (h : MW w p bm sz Dm vd ds L) (hc : (Key c).wf = true) (hn : ∀ x ∈ L, x.c ≠ c) :
    Calls Try.prog 9 #[.pointer (some ⟨p, 0, none⟩), .int .i64 c] w fun e w' => e = .returned (.slice none 0 0) ∧ Below w.heap.size w w' := by
  have hz0 : w.cell? ⟨p, 0, none⟩ = some (.map (some bm)) := (blk_cell h.blkP 0).trans rfl
  have hlk := look_no h.own (h.nokey c hn) hc
  clear h hc hn
  go_enter Try.func9, Try.ntmps9
  go_wp2
  go_ret
  exact ⟨rfl, by repeat (first | exact Below.refl _ _ | apply below_drew1 | apply pw_below_drewN)⟩
end
section
variable {w0 w w' : World} {p x : Nat} {G G' : Nat → Obj → Prop} {L L1 L2 A B : List Ac} {y : Ac} {ds d1 d2 : List Int} {c : Int}
theorem fresh_abs (c : Int) (q : Nat) : (fresh c q).abs = ⟨c, true, false, [], [], 0⟩ := rfl
theorem rfresh_abs (c : Int) : (rfresh c).abs = ⟨c, true, false, [], [], 0⟩ := rfl
theorem JD.open_new (h : JD w0 w p x G L1 d1 L2 d2) (hc : (Key c).wf = true) (h0 : ¬ c < 0) (hn : ∀ y ∈ L1, y.c ≠ c) (hl : L1.length ≤ 100000000) :
    Calls Try.prog 15 #[.pointer (some ⟨p, 0, none⟩), .int .i64 c] w fun e w' => ((aopens L1).length = 1024 ∧ e = .returned (.int .i64 5) ∧ JD w0 w' p x G L1 d1 L2 d2) ∨ ((aopens L1).length ≠ 1024 ∧ e = .returned (.int .i64 0) ∧ JD w0 w' p x G (L1 ++ [⟨c, true, false, [], [], 0⟩]) d1 L2 d2) := by
  have h7 := h
  obtain ⟨bm, sz, Dm, vd, Lm, vL, vD, Lr, hJ, rfl, e2⟩ := h
  refine (open_exact hJ.m (by rw [hJ.sz_]; rw [List.length_map] at hl; omega) hc h0 (fun m hm => hn m.abs (List.mem_map.2 ⟨m, hm, rfl⟩))).mono ?_
  rw [opens_abs]
  rintro e w' (⟨h1, rfl, hb⟩ | ⟨h1, rfl, q, hq, hm, hs⟩)
  · exact .inl ⟨h1, rfl, h7.low hb⟩
  · refine .inr ⟨h1, rfl, bm, sz + 1, _, vd, _, vL, vD, Lr, hJ.prog hm (fun k hk => ?_) (hs.mono (fun k hk => .inr (.inl hk))) (by rw [hJ.sz_]; simp), by rw [List.map_append]; rfl, e2⟩
    rcases hk with hk | hk | hk | ⟨z, hz, hk⟩
    · exact .inl (.inl hk)
    · exact .inl (.inr (.inl hk))
    · exact .inl (.inr (.inr (.inl hk)))
    · rw [List.mem_append, List.mem_singleton] at hz
      rcases hz with hz | rfl
      · exact .inl (.inr (.inr (.inr ⟨z, hz, hk⟩)))
      · exact .inr (by rw [fresh_own hk]; exact hq)
theorem k0 {C N R : Int} {Ab : Option Addr} {n cb : Nat} (h : JD w0 w p x G L ds L ds)
    (hP : ∀ G W, JD w0 W p x G L ds L ds → Calls Try.prog 15 #[.pointer (some ⟨p, 0, none⟩), .int .i64 C] W fun e w' => e = .returned (.int .i64 R) ∧ JD w0 w' p x G L1 d1 L ds)
    (hR : ∀ G W, JD w0 W p x G L1 d1 L ds → Calls Try.prog 20 #[.pointer (some ⟨x, 0, none⟩), .int .i64 C] W fun e w' => e = .returned (.int .i64 R) ∧ JD w0 w' p x G L1 d1 L1 d1) :
    Calls Try.prog 6 #[.pointer (some ⟨p, 0, none⟩), .pointer (some ⟨x, 0, none⟩), .agg #[.int .i64 0, .int .i64 C, .int .i64 N, .slice Ab n cb]] w fun e w' => e = .returned (.bool true) ∧ JD w0 w' p x G L1 d1 L1 d1 :=
  (sasks0 (Z0 := fun g W => JD w0 W p x (Gx G g (stepB 0 C N Ab n cb)) L ds L ds) (Z1 := fun g W => JD w0 W p x (Gx G g (stepB 0 C N Ab n cb)) L1 d1 L ds) (Z2 := fun g W => JD w0 W p x (Gx G g (stepB 0 C N Ab n cb)) L1 d1 L1 d1)
    (fun g W h => h.at) (fun g W h => h.at) (fun g W h => h.at) (fun g W W' h hb => h.low hb) (fun g W h => hP _ W h) (fun g W h => hR _ W h) (h.alloc _)).mono (fun e w' ⟨g, he, h5⟩ => ⟨he, h5.drop (fun k o hk => .inl hk)⟩)
theorem k1 {C N R : Int} {Ab : Option Addr} {n cb : Nat} (h : JD w0 w p x G L ds L ds)
    (hP : ∀ G W, JD w0 W p x G L ds L ds → Calls Try.prog 21 #[.pointer (some ⟨p, 0, none⟩), .int .i64 C] W fun e w' => e = .returned (.int .i64 R) ∧ JD w0 w' p x G L1 d1 L ds)
    (hR : ∀ G W, JD w0 W p x G L1 d1 L ds → Calls Try.prog 22 #[.pointer (some ⟨x, 0, none⟩), .int .i64 C] W fun e w' => e = .returned (.int .i64 R) ∧ JD w0 w' p x G L1 d1 L1 d1) :
    Calls Try.prog 6 #[.pointer (some ⟨p, 0, none⟩), .pointer (some ⟨x, 0, none⟩), .agg #[.int .i64 1, .int .i64 C, .int .i64 N, .slice Ab n cb]] w fun e w' => e = .returned (.bool true) ∧ JD w0 w' p x G L1 d1 L1 d1 :=
  (sasks1 (Z0 := fun g W => JD w0 W p x (Gx G g (stepB 1 C N Ab n cb)) L ds L ds) (Z1 := fun g W => JD w0 W p x (Gx G g (stepB 1 C N Ab n cb)) L1 d1 L ds) (Z2 := fun g W => JD w0 W p x (Gx G g (stepB 1 C N Ab n cb)) L1 d1 L1 d1)
    (fun g W h => h.at) (fun g W h => h.at) (fun g W h => h.at) (fun g W W' h hb => h.low hb) (fun g W h => hP _ W h) (fun g W h => hR _ W h) (h.alloc _)).mono (fun e w' ⟨g, he, h5⟩ => ⟨he, h5.drop (fun k o hk => .inl hk)⟩)
theorem k2 {C N R : Int} {Ab : Option Addr} {n cb : Nat} (h : JD w0 w p x G L ds L ds)
    (hP : ∀ G W, JD w0 W p x G L ds L ds → Calls Try.prog 17 #[.pointer (some ⟨p, 0, none⟩), .int .i64 C, .slice Ab n cb] W fun e w' => e = .returned (.int .i64 R) ∧ JD w0 w' p x G L1 d1 L ds)
    (hR : ∀ G W, JD w0 W p x G L1 d1 L ds → Calls Try.prog 23 #[.pointer (some ⟨x, 0, none⟩), .int .i64 C, .slice Ab n cb] W fun e w' => e = .returned (.int .i64 R) ∧ JD w0 w' p x G L1 d1 L1 d1) :
    Calls Try.prog 6 #[.pointer (some ⟨p, 0, none⟩), .pointer (some ⟨x, 0, none⟩), .agg #[.int .i64 2, .int .i64 C, .int .i64 N, .slice Ab n cb]] w fun e w' => e = .returned (.bool true) ∧ JD w0 w' p x G L1 d1 L1 d1 :=
  (sasks2 (Z0 := fun g W => JD w0 W p x (Gx G g (stepB 2 C N Ab n cb)) L ds L ds) (Z1 := fun g W => JD w0 W p x (Gx G g (stepB 2 C N Ab n cb)) L1 d1 L ds) (Z2 := fun g W => JD w0 W p x (Gx G g (stepB 2 C N Ab n cb)) L1 d1 L1 d1)
    (fun g W h => h.at) (fun g W h => h.at) (fun g W h => h.at) (fun g W W' h hb => h.low hb) (fun g W h => hP _ W h) (fun g W h => hR _ W h) (h.alloc _)).mono (fun e w' ⟨g, he, h5⟩ => ⟨he, h5.drop (fun k o hk => .inl hk)⟩)
theorem k3 {C N R : Int} {Ab : Option Addr} {n cb : Nat} (h : JD w0 w p x G L ds L ds)
    (hP : ∀ G W, JD w0 W p x G L ds L ds → Calls Try.prog 24 #[.pointer (some ⟨p, 0, none⟩), .int .i64 C] W fun e w' => e = .returned (.int .i64 R) ∧ JD w0 w' p x G L1 d1 L ds)
    (hR : ∀ G W, JD w0 W p x G L1 d1 L ds → Calls Try.prog 25 #[.pointer (some ⟨x, 0, none⟩), .int .i64 C] W fun e w' => e = .returned (.int .i64 R) ∧ JD w0 w' p x G L1 d1 L1 d1) :
    Calls Try.prog 6 #[.pointer (some ⟨p, 0, none⟩), .pointer (some ⟨x, 0, none⟩), .agg #[.int .i64 3, .int .i64 C, .int .i64 N, .slice Ab n cb]] w fun e w' => e = .returned (.bool true) ∧ JD w0 w' p x G L1 d1 L1 d1 :=
  (sasks3 (Z0 := fun g W => JD w0 W p x (Gx G g (stepB 3 C N Ab n cb)) L ds L ds) (Z1 := fun g W => JD w0 W p x (Gx G g (stepB 3 C N Ab n cb)) L1 d1 L ds) (Z2 := fun g W => JD w0 W p x (Gx G g (stepB 3 C N Ab n cb)) L1 d1 L1 d1)
    (fun g W h => h.at) (fun g W h => h.at) (fun g W h => h.at) (fun g W W' h hb => h.low hb) (fun g W h => hP _ W h) (fun g W h => hR _ W h) (h.alloc _)).mono (fun e w' ⟨g, he, h5⟩ => ⟨he, h5.drop (fun k o hk => .inl hk)⟩)
theorem k5 {C N R : Int} {Ab : Option Addr} {n cb : Nat} (h : JD w0 w p x G L ds L ds)
    (hP : ∀ G W, JD w0 W p x G L ds L ds → Calls Try.prog 16 #[.pointer (some ⟨p, 0, none⟩), .int .i64 C, .int .i64 N] W fun e w' => e = .returned (.int .i64 R) ∧ JD w0 w' p x G L1 d1 L ds)
    (hR : ∀ G W, JD w0 W p x G L1 d1 L ds → Calls Try.prog 27 #[.pointer (some ⟨x, 0, none⟩), .int .i64 C, .int .i64 N] W fun e w' => e = .returned (.int .i64 R) ∧ JD w0 w' p x G L1 d1 L1 d1) :
    Calls Try.prog 6 #[.pointer (some ⟨p, 0, none⟩), .pointer (some ⟨x, 0, none⟩), .agg #[.int .i64 5, .int .i64 C, .int .i64 N, .slice Ab n cb]] w fun e w' => e = .returned (.bool true) ∧ JD w0 w' p x G L1 d1 L1 d1 :=
  (sasks5 (Z0 := fun g W => JD w0 W p x (Gx G g (stepB 5 C N Ab n cb)) L ds L ds) (Z1 := fun g W => JD w0 W p x (Gx G g (stepB 5 C N Ab n cb)) L1 d1 L ds) (Z2 := fun g W => JD w0 W p x (Gx G g (stepB 5 C N Ab n cb)) L1 d1 L1 d1)
    (fun g W h => h.at) (fun g W h => h.at) (fun g W h => h.at) (fun g W W' h hb => h.low hb) (fun g W h => hP _ W h) (fun g W h => hR _ W h) (h.alloc _)).mono (fun e w' ⟨g, he, h5⟩ => ⟨he, h5.drop (fun k o hk => .inl hk)⟩)
theorem k7 {C N R : Int} {Ab : Option Addr} {n cb : Nat} (h : JD w0 w p x G L ds L ds)
    (hP : ∀ G W, JD w0 W p x G L ds L ds → Calls Try.prog 29 #[.pointer (some ⟨p, 0, none⟩), .int .i64 N] W fun e w' => e = .returned (.int .i64 R) ∧ JD w0 w' p x G L1 d1 L ds)
    (hR : ∀ G W, JD w0 W p x G L1 d1 L ds → Calls Try.prog 30 #[.pointer (some ⟨x, 0, none⟩), .int .i64 N] W fun e w' => e = .returned (.int .i64 R) ∧ JD w0 w' p x G L1 d1 L1 d1) :
    Calls Try.prog 6 #[.pointer (some ⟨p, 0, none⟩), .pointer (some ⟨x, 0, none⟩), .agg #[.int .i64 7, .int .i64 C, .int .i64 N, .slice Ab n cb]] w fun e w' => e = .returned (.bool true) ∧ JD w0 w' p x G L1 d1 L1 d1 :=
  (sasks7 (Z0 := fun g W => JD w0 W p x (Gx G g (stepB 7 C N Ab n cb)) L ds L ds) (Z1 := fun g W => JD w0 W p x (Gx G g (stepB 7 C N Ab n cb)) L1 d1 L ds) (Z2 := fun g W => JD w0 W p x (Gx G g (stepB 7 C N Ab n cb)) L1 d1 L1 d1)
    (fun g W h => h.at) (fun g W h => h.at) (fun g W h => h.at) (fun g W W' h hb => h.low hb) (fun g W h => hP _ W h) (fun g W h => hR _ W h) (h.alloc _)).mono (fun e w' ⟨g, he, h5⟩ => ⟨he, h5.drop (fun k o hk => .inl hk)⟩)
theorem k6 {C N R S : Int} {Ab : Option Addr} {n cb : Nat} (h : JD w0 w p x G L ds L ds)
    (hP : ∀ G W, JD w0 W p x G L ds L ds → Calls Try.prog 19 #[.pointer (some ⟨p, 0, none⟩), .int .i64 C, .slice Ab n cb] W fun e w' => e = .returned (.tuple #[.int .i64 R, .int .i64 S]) ∧ JD w0 w' p x G L1 d1 L ds)
    (hR : ∀ G W, JD w0 W p x G L1 d1 L ds → Calls Try.prog 28 #[.pointer (some ⟨x, 0, none⟩), .int .i64 C, .slice Ab n cb] W fun e w' => e = .returned (.tuple #[.int .i64 R, .int .i64 S]) ∧ JD w0 w' p x G L1 d1 L1 d1) :
    Calls Try.prog 6 #[.pointer (some ⟨p, 0, none⟩), .pointer (some ⟨x, 0, none⟩), .agg #[.int .i64 6, .int .i64 C, .int .i64 N, .slice Ab n cb]] w fun e w' => e = .returned (.bool true) ∧ JD w0 w' p x G L1 d1 L1 d1 :=
  (sasks6 (Z0 := fun g W => JD w0 W p x (Gx G g (stepB 6 C N Ab n cb)) L ds L ds) (Z1 := fun g W => JD w0 W p x (Gx G g (stepB 6 C N Ab n cb)) L1 d1 L ds) (Z2 := fun g W => JD w0 W p x (Gx G g (stepB 6 C N Ab n cb)) L1 d1 L1 d1)
    (fun g W h => h.at) (fun g W h => hP _ W h) (fun g W h => hR _ W h) (h.alloc _)).mono (fun e w' ⟨g, he, h5⟩ => ⟨he, h5.drop (fun k o hk => .inl hk)⟩)
theorem kD {K C N R S : Int} {Ab : Option Addr} {n cb : Nat} (hK : K < 0 ∨ 7 < K) (h : JD w0 w p x G L ds L ds)
    (hP : ∀ G W, JD w0 W p x G L ds L ds → Calls Try.prog 31 #[.pointer (some ⟨p, 0, none⟩), .int .i64 N] W fun e w' => e = .returned (.tuple #[.int .i64 R, .int .i64 S]) ∧ JD w0 w' p x G L1 d1 L ds)
    (hR : ∀ G W, JD w0 W p x G L1 d1 L ds → Calls Try.prog 32 #[.pointer (some ⟨x, 0, none⟩), .int .i64 N] W fun e w' => e = .returned (.tuple #[.int .i64 R, .int .i64 S]) ∧ JD w0 w' p x G L1 d1 L1 d1) :
    Calls Try.prog 6 #[.pointer (some ⟨p, 0, none⟩), .pointer (some ⟨x, 0, none⟩), .agg #[.int .i64 K, .int .i64 C, .int .i64 N, .slice Ab n cb]] w fun e w' => e = .returned (.bool true) ∧ JD w0 w' p x G L1 d1 L1 d1 :=
  (sasksD hK (Z0 := fun g W => JD w0 W p x (Gx G g (stepB K C N Ab n cb)) L ds L ds) (Z1 := fun g W => JD w0 W p x (Gx G g (stepB K C N Ab n cb)) L1 d1 L ds) (Z2 := fun g W => JD w0 W p x (Gx G g (stepB K C N Ab n cb)) L1 d1 L1 d1)
    (fun g W h => h.at) (fun g W h => hP _ W h) (fun g W h => hR _ W h) (h.alloc _)).mono (fun e w' ⟨g, he, h5⟩ => ⟨he, h5.drop (fun k o hk => .inl hk)⟩)
theorem k4 {C N R : Int} {Ab : Option Addr} {n cb : Nat} {bs : List Int} (h : JD w0 w p x G L ds L ds)
    (hP : ∀ G W, JD w0 W p x G L ds L ds → Calls Try.prog 18 #[.pointer (some ⟨p, 0, none⟩), .int .i64 C, .int .i64 N] W fun e w' => ∃ (A1 : Option Addr) (m c1 : Nat), e = .returned (.tuple #[.slice A1 m c1, .int .i64 R]) ∧ Row .u8 5 w' (.slice A1 m c1) bs ∧ JD w0 w' p x (fun k u => G k u ∨ ((Value.slice A1 m c1).ownBlock = some k ∧ w'.heap[k]? = some u)) L1 d1 L ds)
    (hR : ∀ G W, JD w0 W p x G L1 d1 L ds → Calls Try.prog 26 #[.pointer (some ⟨x, 0, none⟩), .int .i64 C, .int .i64 N] W fun e w' => ∃ (A2 : Option Addr) (m2 c2 : Nat), e = .returned (.tuple #[.slice A2 m2 c2, .int .i64 R]) ∧ Row .u8 5 w' (.slice A2 m2 c2) bs ∧ JD w0 w' p x G L1 d1 L1 d1) :
    Calls Try.prog 6 #[.pointer (some ⟨p, 0, none⟩), .pointer (some ⟨x, 0, none⟩), .agg #[.int .i64 4, .int .i64 C, .int .i64 N, .slice Ab n cb]] w fun e w' => e = .returned (.bool true) ∧ JD w0 w' p x G L1 d1 L1 d1 :=
  (sasks4 (Z0 := fun g W => JD w0 W p x (Gx G g (stepB 4 C N Ab n cb)) L ds L ds) (Z3 := fun A1 m c1 g W => Row .u8 5 W (.slice A1 m c1) bs ∧ JD w0 W p x (fun k u => Gx G g (stepB 4 C N Ab n cb) k u ∨ ((Value.slice A1 m c1).ownBlock = some k ∧ W.heap[k]? = some u)) L1 d1 L ds) (Z2 := fun g W => JD w0 W p x (Gx G g (stepB 4 C N Ab n cb)) L1 d1 L1 d1)
    (fun A1 m c1 g W h => by
      obtain ⟨bm, sz, Dm, vd, Lm, vL, vD, Lr, hJ, e1, e2⟩ := h.2
      exact (hJ.g g _ (.inl (.inr ⟨rfl, rfl⟩))).1)
    (fun g W h => hP _ W h)
    (fun A1 m c1 g W h => (hR _ W h.2).mono (fun e w' ⟨A2, m2, c2, he, hr2, hJ2⟩ => ⟨A2, m2, c2, he, hJ2.drop (fun k o hk => .inl hk), _, Wld.row_str (h.1.keep (fun k hk hl => by
      obtain ⟨bm, sz, Dm, vd, Lm, vL, vD, Lr, hJ, e1, e2⟩ := hJ2
      have e5 := Array.getElem?_eq_getElem hl
      rw [e5]
      exact (hJ.g k _ (.inr ⟨hk, e5⟩)).1)), Wld.row_str hr2⟩))
    (h.alloc _)).mono (fun e w' ⟨g, he, h5⟩ => ⟨he, h5.drop (fun k o hk => .inl hk)⟩)
end
end Go.Proofs.Ytnhhcmnjfaeliaa.Vm
/- asks, of any step, where both worlds stand alike: it is true, and they stand alike behind it; own text of this session. -/
namespace Go.Proofs.Ytnhhcmnjfaeliaa.Vm
open Wld hiding St Ft Next cellsQ cellsP ReadPost ptrE ptrE_none ptrE_some law zeroP Key key_of info_u8 info_int ne_t ne_blk ne_map grown_below
open Go.RowKit Go.Proofs.YtnhhcmnjfaeliaaW.PrintWords Go.Proofs.YtnhhcmnjfaeliaaW.PrintLast Go.Maps
set_option linter.unusedVariables false
set_option linter.unusedSimpArgs false
def numO (L : List Ac) : Nat := (L.filter fun y => y.op).length
theorem aopens_len (L : List Ac) : (aopens L).length = numO L := by unfold aopens numO; rw [List.length_mergeSort, List.length_map]
/-- How great all is. -/
structure Bd (L : List Ac) (ds : List Int) (u i : Nat) : Prop where
  ws : ∀ y ∈ L, y.ws.length ≤ 1048576
  ss : ∀ y ∈ L, y.ss.length ≤ u
  rm : ∀ y ∈ L, 0 ≤ y.room ∧ y.room ≤ 1048576
  dl : ds.length ≤ 4096
  db : ∀ d ∈ ds, 0 ≤ d ∧ d ≤ 4294967295
  ll : L.length ≤ i
  on : numO L ≤ 1024
section
variable {L A B : List Ac} {y y' : Ac} {ds ds' : List Int} {u u' i : Nat} {c : Int}
theorem Bd.same (h : Bd L ds u i) (hu : u ≤ u') : Bd L ds u' (i + 1) := ⟨h.ws, fun y hy => Nat.le_trans (h.ss y hy) hu, h.rm, h.dl, h.db, Nat.le_succ_of_le h.ll, h.on⟩
theorem Bd.nums (h : Bd L ds u i) (hu : u ≤ u') (h1 : ds'.length ≤ 4096) (h2 : ∀ d ∈ ds', 0 ≤ d ∧ d ≤ 4294967295) : Bd L ds' u' (i + 1) := ⟨h.ws, fun y hy => Nat.le_trans (h.ss y hy) hu, h.rm, h1, h2, Nat.le_succ_of_le h.ll, h.on⟩
theorem mid_or {z : Ac} (hz : z ∈ A ++ y' :: B) : z = y' ∨ z ∈ A ++ y :: B := by
  rw [List.mem_append, List.mem_cons] at hz
  rcases hz with hz | hz | hz
  · exact .inr (by simp [hz])
  · exact .inl hz
  · exact .inr (by simp [hz])
theorem Bd.upd (h : Bd (A ++ y :: B) ds u i) (hu : u ≤ u') (h1 : y'.ws.length ≤ 1048576) (h2 : y'.ss.length ≤ u') (h3 : 0 ≤ y'.room ∧ y'.room ≤ 1048576) (ho : y'.op = true → y.op = true) : Bd (A ++ y' :: B) ds u' (i + 1) := by
  refine ⟨fun z hz => ?_, fun z hz => ?_, fun z hz => ?_, h.dl, h.db, ?_, ?_⟩
  · rcases mid_or (y := y) hz with rfl | hz
    · exact h1
    · exact h.ws z hz
  · rcases mid_or (y := y) hz with rfl | hz
    · exact h2
    · exact Nat.le_trans (h.ss z hz) hu
  · rcases mid_or (y := y) hz with rfl | hz
    · exact h3
    · exact h.rm z hz
  · have := h.ll
    rw [List.length_append, List.length_cons] at this ⊢
    omega
  · have h5 := h.on
    unfold numO at h5 ⊢
    rw [List.filter_append, List.filter_cons, List.length_append] at h5 ⊢
    cases hy' : y'.op with
    | false => cases hy : y.op <;> simp [hy] at h5 ⊢ <;> omega
    | true => simp [ho hy'] at h5 ⊢; omega
theorem Bd.add (h : Bd L ds u i) (hn : numO L ≠ 1024) : Bd (L ++ [⟨c, true, false, [], [], 0⟩]) ds u (i + 1) := by
  have sp : ∀ z, z ∈ L ++ [(⟨c, true, false, [], [], 0⟩ : Ac)] → z ∈ L ∨ z = ⟨c, true, false, [], [], 0⟩ := fun z hz => by simpa using hz
  refine ⟨fun z hz => ?_, fun z hz => ?_, fun z hz => ?_, h.dl, h.db, ?_, ?_⟩
  · rcases sp z hz with hz | rfl
    · exact h.ws z hz
    · exact Nat.zero_le _
  · rcases sp z hz with hz | rfl
    · exact h.ss z hz
    · exact Nat.zero_le _
  · rcases sp z hz with hz | rfl
    · exact h.rm z hz
    · exact ⟨Int.le_refl _, (by show (0 : Int) ≤ 1048576; decide)⟩
  · have := h.ll
    rw [List.length_append]
    simp only [List.length_cons, List.length_nil]
    omega
  · have h5 := h.on
    have h6 : numO (L ++ [(⟨c, true, false, [], [], 0⟩ : Ac)]) = numO L + 1 := by unfold numO; rw [List.filter_append]; simp
    omega
theorem no_or (L : List Ac) (c : Int) : NoA L c ∨ ∃ A y B, L = A ++ y :: B ∧ y.c = c ∧ y.op = true := by
  by_cases h : ∃ y ∈ L, y.c = c ∧ y.op = true
  · obtain ⟨y, hy, h1, h2⟩ := h
    obtain ⟨A, B, e⟩ := List.append_of_mem hy
    exact .inr ⟨A, y, B, e, h1, h2⟩
  · refine .inl fun y hy hc => ?_
    cases ho : y.op with
    | false => rfl
    | true => exact (h ⟨y, hy, hc, ho⟩).elim
end
section
variable {w0 w : World} {p x : Nat} {G : Nat → Obj → Prop} {L : List Ac} {ds : List Int} {C N : Int} {Ab : Option Addr} {n cb u i : Nat} {b : List Int}
/-- What asks leaves. -/
def AskPost (w0 : World) (p x : Nat) (G : Nat → Obj → Prop) (u i : Nat) (e : Ending) (w' : World) : Prop := e = .returned (.bool true) ∧ ∃ L' ds', JD w0 w' p x G L' ds' L' ds' ∧ Bd L' ds' u (i + 1)
theorem post {w' : World} {e : Ending} {L' : List Ac} {ds' : List Int} {u' : Nat} (h : e = .returned (.bool true) ∧ JD w0 w' p x G L' ds' L' ds') (hB : Bd L' ds' u' (i + 1)) : AskPost w0 p x G u' i e w' := ⟨h.1, L', ds', h.2, hB⟩
theorem st0 (h : JD w0 w p x G L ds L ds) (hB : Bd L ds u i) (hi : i ≤ 2000000) (hc : (Key C).wf = true) : Calls Try.prog 6 #[.pointer (some ⟨p, 0, none⟩), .pointer (some ⟨x, 0, none⟩), .agg #[.int .i64 0, .int .i64 C, .int .i64 N, .slice Ab n cb]] w (AskPost w0 p x G u i) := by
  have hll := hB.ll
  by_cases h0 : C < 0
  · exact (k0 (R := 1) h (fun G W h => (open_neg p W h0).mono (fun e w' ⟨he, hw⟩ => ⟨he, hw ▸ h⟩)) (fun G W h => (ropen_neg x W C h0).mono (fun e w' ⟨he, hw⟩ => ⟨he, hw ▸ h⟩))).mono (fun e w' hp => post hp (hB.same (Nat.le_refl _)))
  · by_cases hy : ∃ y ∈ L, y.c = C
    · obtain ⟨y, hy, hyc⟩ := hy
      obtain ⟨A, B, rfl⟩ := List.append_of_mem hy
      refine (k0 (R := 7) h (fun G W h => ?_) (fun G W h => ?_)).mono (fun e w' hp => post hp (hB.same (Nat.le_refl _)))
      · have h7 := h
        obtain ⟨bm, sz, Dm, vd, Lm, vL, vD, Lr, hJ, e1, e2⟩ := h
        obtain ⟨Am, m, Bm, rfl, e3, e4, e5⟩ := map_mid e1
        exact (open_has hJ.m hc h0 (x := m) (by simp) (by rw [← hyc, ← e4]; rfl)).mono (fun e w' ⟨he, hw⟩ => ⟨he, hw ▸ h7⟩)
      · obtain ⟨vL, vD, Ar, yr, Br, hr, rfl, hlen, _, _⟩ := h.refYes
        exact (ropen_has hr hyc h0 (by rw [hlen]; omega)).mono (fun e w' ⟨he, hb⟩ => ⟨he, h.low hb⟩)
    · have hn : ∀ y ∈ L, y.c ≠ C := fun y h1 h2 => hy ⟨y, h1, h2⟩
      by_cases hf : numO L = 1024
      · refine (k0 (R := 5) h (fun G W h => ?_) (fun G W h => ?_)).mono (fun e w' hp => post hp (hB.same (Nat.le_refl _)))
        · refine (h.open_new hc h0 hn (by omega)).mono ?_
          rintro e w' (⟨_, he, h5⟩ | ⟨h1, _, _⟩)
          · exact ⟨he, h5⟩
          · exact absurd ((aopens_len L).trans hf) h1
        · obtain ⟨vL, vD, Lr, hr, e2, _, hnx⟩ := h.ref
          exact (ropen_full hr (fun y hy e => hn y.abs (by rw [← e2]; exact List.mem_map.2 ⟨y, hy, rfl⟩) e) h0 (by rw [len_abs e2]; omega) (by rw [ropens_abs, e2, aopens_len]; omega)).mono (fun e w' ⟨he, hb⟩ => ⟨he, h.low hb⟩)
      · refine (k0 (R := 0) (L1 := L ++ [⟨C, true, false, [], [], 0⟩]) h (fun G W h => ?_) (fun G W h => ?_)).mono (fun e w' hp => post hp (hB.add hf))
        · refine (h.open_new hc h0 hn (by omega)).mono ?_
          rintro e w' (⟨h1, _, _⟩ | ⟨_, he, h5⟩)
          · exact absurd ((aopens_len L).symm.trans h1) hf
          · exact ⟨he, h5⟩
        · obtain ⟨vL, vD, Lr, hr, e2, _, hnx⟩ := h.ref
          refine (ropen_ok hr (fun y hy e => hn y.abs (by rw [← e2]; exact List.mem_map.2 ⟨y, hy, rfl⟩) e) h0 (by rw [len_abs e2]; omega) (by rw [ropens_abs, e2, aopens_len]; have := hB.on; omega)).mono (fun e w' ⟨he, hn5⟩ => ⟨he, ?_⟩)
          have h6 := hnx w' _ _ hn5
          rw [List.map_append, e2] at h6
          exact h6
theorem st1 (h : JD w0 w p x G L ds L ds) (hB : Bd L ds u i) (hi : i ≤ 2000000) (hc : (Key C).wf = true) : Calls Try.prog 6 #[.pointer (some ⟨p, 0, none⟩), .pointer (some ⟨x, 0, none⟩), .agg #[.int .i64 1, .int .i64 C, .int .i64 N, .slice Ab n cb]] w (AskPost w0 p x G u i) := by
  have hll := hB.ll
  rcases no_or L C with hno | ⟨A, y, B, rfl, rfl, ho⟩
  · refine (k1 (R := 6) h (fun G W h => (close_no (h.noAt hno hc)).mono (fun e w' ⟨he, hb⟩ => ⟨he, h.low hb⟩)) (fun G W h => ?_)).mono (fun e w' hp => post hp (hB.same (Nat.le_refl _)))
    obtain ⟨vL, vD, Lr, hr, e2, _, _⟩ := h.ref
    exact (rclose_no hr (no_c e2 hno) (by rw [len_abs e2]; omega)).mono (fun e w' ⟨he, hb⟩ => ⟨he, h.low hb⟩)
  · have hy : y ∈ A ++ y :: B := by simp
    refine (k1 (R := 0) (L1 := A ++ { y with op := false } :: B) h (fun G W h => ?_) (fun G W h => ?_)).mono (fun e w' hp => post hp (hB.upd (Nat.le_refl _) (hB.ws y hy) (hB.ss y hy) (hB.rm y hy) (fun h5 => ho)))
    · obtain ⟨bm, sz, Dm, q, vw, vs, vd, hS, hN⟩ := h.yes
      rw [ho] at hS
      exact (close_calls hS hc).mono (fun e w' ⟨he, hn⟩ => ⟨he, hN _ _ _ _ _ _ _ hn⟩)
    · obtain ⟨vL, vD, Ar, yr, Br, hr, rfl, hlen, _, hN⟩ := h.refYes
      exact (rclose_yes hr rfl ho (by rw [hlen]; omega)).mono (fun e w' ⟨he, hn⟩ => ⟨he, hN _ _ _ hn⟩)
theorem st2 (h : JD w0 w p x G L ds L ds) (hB : Bd L ds u i) (hi : i ≤ 2000000) (hc : (Key C).wf = true) (hn : n = b.length) (hb : (Kd.int .u8).C w0 Ab b.length b) (hbl : b.length ≤ 1048576) : Calls Try.prog 6 #[.pointer (some ⟨p, 0, none⟩), .pointer (some ⟨x, 0, none⟩), .agg #[.int .i64 2, .int .i64 C, .int .i64 N, .slice Ab n cb]] w (AskPost w0 p x G u i) := by
  have hll := hB.ll
  rcases no_or L C with hno | ⟨A, y, B, rfl, rfl, ho⟩
  · refine (k2 (R := 6) h (fun G W h => (arrive_no (h.noAt hno hc) _).mono (fun e w' ⟨he, hb⟩ => ⟨he, h.low hb⟩)) (fun G W h => ?_)).mono (fun e w' hp => post hp (hB.same (Nat.le_refl _)))
    obtain ⟨vL, vD, Lr, hr, e2, _, _⟩ := h.ref
    exact (rarrive_no hr (no_c e2 hno) (by rw [len_abs e2]; omega) _).mono (fun e w' ⟨he, hb⟩ => ⟨he, h.low hb⟩)
  · have hy : y ∈ A ++ y :: B := by simp
    have hyw := hB.ws y hy
    cases he : y.en with
    | true =>
      refine (k2 (R := 7) h (fun G W h => ?_) (fun G W h => ?_)).mono (fun e w' hp => post hp (hB.same (Nat.le_refl _)))
      · obtain ⟨bm, sz, Dm, q, vw, vs, vd, hS, hN⟩ := h.yes
        rw [ho, he] at hS
        exact (arrive_ended hS hc _).mono (fun e w' ⟨he, hb⟩ => ⟨he, h.low hb⟩)
      · obtain ⟨vL, vD, Ar, yr, Br, hr, rfl, hlen, _, hN⟩ := h.refYes
        exact (rarrive_ended hr rfl ho he (by rw [hlen]; omega) _).mono (fun e w' ⟨he, hb⟩ => ⟨he, h.low hb⟩)
    | false =>
      by_cases hlg : 1048576 < n + y.ws.length
      · refine (k2 (R := 2) h (fun G W h => ?_) (fun G W h => ?_)).mono (fun e w' hp => post hp (hB.same (Nat.le_refl _)))
        · obtain ⟨bm, sz, Dm, q, vw, vs, vd, hS, hN⟩ := h.yes
          rw [ho, he] at hS
          exact (arrive_long hS hc Ab n cb hyw hlg).mono (fun e w' ⟨he, hw⟩ => ⟨he, hw ▸ h⟩)
        · obtain ⟨vL, vD, Ar, yr, Br, hr, rfl, hlen, _, hN⟩ := h.refYes
          exact (rarrive_long hr rfl ho he (by rw [hlen]; omega) Ab n cb (by omega) hyw hlg).mono (fun e w' ⟨he, hb⟩ => ⟨he, h.low hb⟩)
      · refine (k2 (R := 0) (L1 := A ++ { y with ws := y.ws ++ b } :: B) h (fun G W h => ?_) (fun G W h => ?_)).mono (fun e w' hp => post hp (hB.upd (Nat.le_refl _) (by show (y.ws ++ b).length ≤ _; rw [List.length_append]; omega) (hB.ss y hy) (hB.rm y hy) (fun h5 => ho)))
        · obtain ⟨bm, sz, Dm, q, vw, vs, vd, hS, hN⟩ := h.yes
          rw [ho, he] at hS
          refine (arrive_ok hS hc Ab n cb b hn (Kd.C_below hb h.bl) (by omega)).mono (fun e w' ⟨he5, hn⟩ => ⟨he5, ?_⟩)
          have h6 := hN _ _ _ _ _ _ _ hn
          rw [← ho, ← he] at h6
          exact h6
        · obtain ⟨vL, vD, Ar, yr, Br, hr, rfl, hlen, _, hN⟩ := h.refYes
          exact (rarrive_ok hr rfl ho he (by rw [hlen]; omega) Ab n cb b hn (Kd.C_below hb h.bl) (by have h6 : yr.ws.length = yr.abs.ws.length := rfl; omega)).mono (fun e w' ⟨he5, v1, hn⟩ => ⟨he5, hN _ _ _ hn⟩)
theorem st3 (h : JD w0 w p x G L ds L ds) (hB : Bd L ds u i) (hi : i ≤ 2000000) (hc : (Key C).wf = true) : Calls Try.prog 6 #[.pointer (some ⟨p, 0, none⟩), .pointer (some ⟨x, 0, none⟩), .agg #[.int .i64 3, .int .i64 C, .int .i64 N, .slice Ab n cb]] w (AskPost w0 p x G u i) := by
  have hll := hB.ll
  rcases no_or L C with hno | ⟨A, y, B, rfl, rfl, ho⟩
  · refine (k3 (R := 6) h (fun G W h => (end_no (h.noAt hno hc)).mono (fun e w' ⟨he, hb⟩ => ⟨he, h.low hb⟩)) (fun G W h => ?_)).mono (fun e w' hp => post hp (hB.same (Nat.le_refl _)))
    obtain ⟨vL, vD, Lr, hr, e2, _, _⟩ := h.ref
    exact (rend_no hr (no_c e2 hno) (by rw [len_abs e2]; omega)).mono (fun e w' ⟨he, hb⟩ => ⟨he, h.low hb⟩)
  · have hy : y ∈ A ++ y :: B := by simp
    refine (k3 (R := 0) (L1 := A ++ { y with en := true } :: B) h (fun G W h => ?_) (fun G W h => ?_)).mono (fun e w' hp => post hp (hB.upd (Nat.le_refl _) (hB.ws y hy) (hB.ss y hy) (hB.rm y hy) (fun h5 => ho)))
    · obtain ⟨bm, sz, Dm, q, vw, vs, vd, hS, hN⟩ := h.yes
      rw [ho] at hS
      refine (end_calls hS hc).mono (fun e w' ⟨he, hn⟩ => ⟨he, ?_⟩)
      have h6 := hN w' y.op true y.ws y.ss y.room ds (by rw [ho]; exact hn)
      exact h6
    · obtain ⟨vL, vD, Ar, yr, Br, hr, rfl, hlen, _, hN⟩ := h.refYes
      exact (rend_yes hr rfl ho (by rw [hlen]; omega)).mono (fun e w' ⟨he, hn⟩ => ⟨he, hN _ _ _ hn⟩)
theorem st5 (h : JD w0 w p x G L ds L ds) (hB : Bd L ds u i) (hi : i ≤ 2000000) (hc : (Key C).wf = true) : Calls Try.prog 6 #[.pointer (some ⟨p, 0, none⟩), .pointer (some ⟨x, 0, none⟩), .agg #[.int .i64 5, .int .i64 C, .int .i64 N, .slice Ab n cb]] w (AskPost w0 p x G u i) := by
  have hll := hB.ll
  rcases no_or L C with hno | ⟨A, y, B, rfl, rfl, ho⟩
  · refine (k5 (R := 6) h (fun G W h => (room_no (h.noAt hno hc) N).mono (fun e w' ⟨he, hb⟩ => ⟨he, h.low hb⟩)) (fun G W h => ?_)).mono (fun e w' hp => post hp (hB.same (Nat.le_refl _)))
    obtain ⟨vL, vD, Lr, hr, e2, _, _⟩ := h.ref
    exact (rroom_no hr (no_c e2 hno) (by rw [len_abs e2]; omega) N).mono (fun e w' ⟨he, hb⟩ => ⟨he, h.low hb⟩)
  · have hy : y ∈ A ++ y :: B := by simp
    have hrm := hB.rm y hy
    by_cases hN0 : N < 0
    · refine (k5 (R := 1) h (fun G W h => ?_) (fun G W h => ?_)).mono (fun e w' hp => post hp (hB.same (Nat.le_refl _)))
      · obtain ⟨bm, sz, Dm, q, vw, vs, vd, hS, hN⟩ := h.yes
        rw [ho] at hS
        exact (room_neg hS hc N hN0).mono (fun e w' ⟨he, hb⟩ => ⟨he, h.low hb⟩)
      · obtain ⟨vL, vD, Ar, yr, Br, hr, rfl, hlen, _, hN⟩ := h.refYes
        exact (rroom_neg hr rfl ho (by rw [hlen]; omega) N hN0).mono (fun e w' ⟨he, hb⟩ => ⟨he, h.low hb⟩)
    · refine (k5 (R := 0) (L1 := A ++ { y with room := y.room + min N (1048576 - y.room) } :: B) h (fun G W h => ?_) (fun G W h => ?_)).mono (fun e w' hp => post hp (hB.upd (Nat.le_refl _) (hB.ws y hy) (hB.ss y hy) (by show 0 ≤ y.room + min N (1048576 - y.room) ∧ y.room + min N (1048576 - y.room) ≤ 1048576; omega) (fun h5 => ho)))
      · obtain ⟨bm, sz, Dm, q, vw, vs, vd, hS, hN⟩ := h.yes
        rw [ho] at hS
        refine (room_calls hS hc N (by omega) hrm.1 hrm.2).mono (fun e w' ⟨he, hn⟩ => ⟨he, ?_⟩)
        have h6 := hN _ _ _ _ _ _ _ hn
        rw [← ho] at h6
        exact h6
      · obtain ⟨vL, vD, Ar, yr, Br, hr, rfl, hlen, _, hN⟩ := h.refYes
        exact (rroom_yes hr rfl ho (by rw [hlen]; omega) N hN0 hrm.1 hrm.2).mono (fun e w' ⟨he, hn⟩ => ⟨he, hN _ _ _ hn⟩)
theorem st7 (h : JD w0 w p x G L ds L ds) (hB : Bd L ds u i) : Calls Try.prog 6 #[.pointer (some ⟨p, 0, none⟩), .pointer (some ⟨x, 0, none⟩), .agg #[.int .i64 7, .int .i64 C, .int .i64 N, .slice Ab n cb]] w (AskPost w0 p x G u i) := by
  by_cases hN : N < 0 ∨ 4294967295 < N
  · exact (k7 (R := 1) h (fun G W h => (wgive_arg p W N hN).mono (fun e w' ⟨he, hb⟩ => ⟨he, h.low hb⟩)) (fun G W h => (rgive_arg x W N hN).mono (fun e w' ⟨he, hb⟩ => ⟨he, h.low hb⟩))).mono (fun e w' hp => post hp (hB.same (Nat.le_refl _)))
  · have h0 : 0 ≤ N := by omega
    have h1 : N ≤ 4294967295 := by omega
    by_cases hf : ds.length = 4096
    · refine (k7 (R := 5) h (fun G W h => ?_) (fun G W h => ?_)).mono (fun e w' hp => post hp (hB.same (Nat.le_refl _)))
      · obtain ⟨c0, vd, hd, _⟩ := h.numsP
        exact (wgive_full hd N h0 h1 hf).mono (fun e w' ⟨he, hb⟩ => ⟨he, h.low hb⟩)
      · obtain ⟨c0, vd, hd, _⟩ := h.numsR
        exact (rgive_full hd N h0 h1 hf).mono (fun e w' ⟨he, hb⟩ => ⟨he, h.low hb⟩)
    · have hl : ds.length < 4096 := by have := hB.dl; omega
      refine (k7 (R := 0) (L1 := L) (d1 := ds ++ [N]) h (fun G W h => ?_) (fun G W h => ?_)).mono (fun e w' hp => post hp (hB.nums (Nat.le_refl _) (by rw [List.length_append]; simp only [List.length_cons, List.length_nil]; omega) (fun d hd => by
        rw [List.mem_append, List.mem_singleton] at hd
        rcases hd with hd | rfl
        · exact hB.db d hd
        · exact ⟨h0, h1⟩)))
      · obtain ⟨c0, vd, hd, hn⟩ := h.numsP
        exact (wgive_ok hd N h0 h1 hl).mono (fun e w' ⟨he, hd5⟩ => ⟨he, hn _ _ hd5⟩)
      · obtain ⟨c0, vd, hd, hn⟩ := h.numsR
        exact (rgive_ok hd N h0 h1 hl).mono (fun e w' ⟨he, hd5⟩ => ⟨he, hn _ _ hd5⟩)
theorem st6 (h : JD w0 w p x G L ds L ds) (hB : Bd L ds u i) (hi : i ≤ 2000000) (hc : (Key C).wf = true) (hn : n = b.length) (hcb : n ≤ cb) (hb : (Kd.int .u8).C w0 Ab b.length b) (hu : u + b.length ≤ 1048576) : Calls Try.prog 6 #[.pointer (some ⟨p, 0, none⟩), .pointer (some ⟨x, 0, none⟩), .agg #[.int .i64 6, .int .i64 C, .int .i64 N, .slice Ab n cb]] w (AskPost w0 p x G (u + b.length) i) := by
  have hll := hB.ll
  rcases no_or L C with hno | ⟨A, y, B, rfl, rfl, ho⟩
  · refine (k6 (R := 0) (S := 6) h (fun G W h => (write_no (h.noAt hno hc) _).mono (fun e w' ⟨he, hb⟩ => ⟨he, h.low hb⟩)) (fun G W h => ?_)).mono (fun e w' hp => post hp (hB.same (Nat.le_add_right _ _)))
    obtain ⟨vL, vD, Lr, hr, e2, _, _⟩ := h.ref
    exact (rwrite_no hr (no_c e2 hno) (by rw [len_abs e2]; omega) _).mono (fun e w' ⟨he, hb⟩ => ⟨he, h.low hb⟩)
  · have hy : y ∈ A ++ y :: B := by simp
    have hrm := hB.rm y hy
    have hss := hB.ss y hy
    obtain ⟨m, hm⟩ : ∃ m : Nat, (m : Int) = min (b.length : Int) y.room := ⟨(min (b.length : Int) y.room).toNat, by omega⟩
    refine (k6 (R := (m : Int)) (S := 0) (L1 := A ++ { y with ss := y.ss ++ b.take m, room := y.room - m } :: B) h (fun G W h => ?_) (fun G W h => ?_)).mono (fun e w' hp => post hp (hB.upd (Nat.le_add_right _ _) (hB.ws y hy) (by show (y.ss ++ b.take m).length ≤ _; rw [List.length_append, List.length_take]; omega) (by show 0 ≤ y.room - m ∧ y.room - m ≤ 1048576; omega) (fun h5 => ho)))
    · obtain ⟨bm, sz, Dm, q, vw, vs, vd, hS, hN⟩ := h.yes
      rw [ho] at hS
      refine (write_calls hS hc Ab n cb b hn hcb (Kd.C_below hb h.bl) m hm hrm.1 hrm.2 (by omega)).mono (fun e w' ⟨he, hn⟩ => ⟨he, ?_⟩)
      have h6 := hN _ _ _ _ _ _ _ hn
      rw [← ho] at h6
      exact h6
    · obtain ⟨vL, vD, Ar, yr, Br, hr, rfl, hlen, hsb, hN⟩ := h.refYes
      have hss' : yr.ss.length ≤ u := hss
      exact (rwrite_yes hr rfl ho (by rw [hlen]; omega) Ab n cb b hn hcb (fun w' hs => Kd.C_below hb (hsb w' hs)) m hm hrm.1 hrm.2 (by omega)).mono (fun e w' ⟨he, v1, hn⟩ => ⟨he, hN _ _ _ hn⟩)
theorem stD {K : Int} (hK : K < 0 ∨ 7 < K) (h : JD w0 w p x G L ds L ds) (hB : Bd L ds u i) (hN2 : N ≤ 9223372036854775807) : Calls Try.prog 6 #[.pointer (some ⟨p, 0, none⟩), .pointer (some ⟨x, 0, none⟩), .agg #[.int .i64 K, .int .i64 C, .int .i64 N, .slice Ab n cb]] w (AskPost w0 p x G u i) := by
  by_cases hN : N < 1
  · exact (kD hK (R := 0) (S := 1) h (fun G W h => (wdraw_neg N W p hN).mono (fun e w' ⟨he, hb⟩ => ⟨he, h.low hb⟩)) (fun G W h => (rdraw_neg N W x hN).mono (fun e w' ⟨he, hb⟩ => ⟨he, h.low hb⟩))).mono (fun e w' hp => post hp (hB.same (Nat.le_refl _)))
  · cases ds with
    | nil =>
      refine (kD hK (R := 0) (S := 0) h (fun G W h => ?_) (fun G W h => ?_)).mono (fun e w' hp => post hp (hB.same (Nat.le_refl _)))
      · obtain ⟨c0, vd, hd, _⟩ := h.numsP
        exact (wdraw_none hd N hN).mono (fun e w' ⟨he, hb⟩ => ⟨he, h.low hb⟩)
      · obtain ⟨c0, vd, hd, _⟩ := h.numsR
        exact (rdraw_none hd N hN).mono (fun e w' ⟨he, hb⟩ => ⟨he, h.low hb⟩)
    | cons d r =>
      have hd0 := hB.db d (by simp)
      have hdl : r.length ≤ 4096 := by have := hB.dl; simp only [List.length_cons] at this; omega
      refine (kD hK (R := d % N) (S := 0) (L1 := L) (d1 := r) h (fun G W h => ?_) (fun G W h => ?_)).mono (fun e w' hp => post hp (hB.nums (Nat.le_refl _) hdl (fun d5 hd => hB.db d5 (by simp [hd]))))
      · obtain ⟨c0, vd, hd, hn⟩ := h.numsP
        exact (wdraw_some hd N hN hd0.1 hd0.2 hN2 hdl).mono (fun e w' ⟨he, hd5⟩ => ⟨he, hn _ _ hd5⟩)
      · obtain ⟨c0, vd, hd, hn⟩ := h.numsR
        exact (rdraw_some hd N hN hd0.1 hd0.2 hN2 hdl).mono (fun e w' ⟨he, hd5⟩ => ⟨he, hn _ _ hd5⟩)
theorem st4 (h : JD w0 w p x G L ds L ds) (hB : Bd L ds u i) (hi : i ≤ 2000000) (hc : (Key C).wf = true) : Calls Try.prog 6 #[.pointer (some ⟨p, 0, none⟩), .pointer (some ⟨x, 0, none⟩), .agg #[.int .i64 4, .int .i64 C, .int .i64 N, .slice Ab n cb]] w (AskPost w0 p x G u i) := by
  have hll := hB.ll
  rcases no_or L C with hno | ⟨A, y, B, rfl, rfl, ho⟩
  · refine (k4 (R := 6) (bs := []) h (fun G W h => ?_) (fun G W h => ?_)).mono (fun e w' hp => post hp (hB.same (Nat.le_refl _)))
    · exact (read_no (h.noAt hno hc) N).mono (fun e w' ⟨he, hb⟩ => ⟨none, 0, 0, he, Row.nil _ _ _, (h.low hb).drop (fun k o hk => hk.resolve_right (fun h5 => by simp [Value.ownBlock] at h5))⟩)
    · obtain ⟨vL, vD, Lr, hr, e2, _, _⟩ := h.ref
      exact (rread_no hr (no_c e2 hno) (by rw [len_abs e2]; omega) N).mono (fun e w' ⟨he, hb⟩ => ⟨none, 0, 0, he, Row.nil _ _ _, h.low hb⟩)
  · have hy : y ∈ A ++ y :: B := by simp
    have hyw := hB.ws y hy
    obtain ⟨m, hm⟩ : ∃ m : Nat, (m : Int) = max 0 (min N y.ws.length) := ⟨(max 0 (min N y.ws.length)).toNat, by omega⟩
    refine (k4 (R := 0) (bs := y.ws.take m) (L1 := A ++ { y with ws := y.ws.drop m } :: B) h (fun G W h => ?_) (fun G W h => ?_)).mono (fun e w' hp => post hp (hB.upd (Nat.le_refl _) (by show (y.ws.drop m).length ≤ _; rw [List.length_drop]; omega) (hB.ss y hy) (hB.rm y hy) (fun h5 => ho)))
    · obtain ⟨bm, sz, Dm, q, vw, vs, vd, hS, hN⟩ := h.yesR ho (m := m)
      refine (read_calls hS hc hyw N m hm).mono (fun e w' hp => ?_)
      obtain ⟨A1, c1, he, hrow, hJ⟩ := hN e w' hp
      exact ⟨A1, m, c1, he, hrow, by rw [← ho] at hJ; exact hJ⟩
    · obtain ⟨vL, vD, Ar, yr, Br, hr, rfl, hlen, _, hN⟩ := h.refYes
      exact (rread_yes hr rfl ho (by rw [hlen]; omega) N m hm hyw).mono (fun e w' ⟨A1, c1, v1, he, hn, hrow⟩ => ⟨A1, m, c1, he, hrow, hN _ _ _ hn⟩)
end
end Go.Proofs.Ytnhhcmnjfaeliaa.Vm
/- What both worlds tell where they stand alike: Ints, Sent, All, Waits, At; own text of this session. -/
namespace Go.Proofs.Ytnhhcmnjfaeliaa.Vm
open Wld hiding St Ft Next cellsQ cellsP ReadPost ptrE ptrE_none ptrE_some law zeroP Key key_of info_u8 info_int ne_t ne_blk ne_map grown_below
open Go.RowKit Go.Proofs.YtnhhcmnjfaeliaaW.PrintWords Go.Proofs.YtnhhcmnjfaeliaaW.PrintLast Go.Maps
set_option linter.unusedVariables false
set_option linter.unusedSimpArgs false
set_option maxHeartbeats 4000000 in
set_option maxRecDepth 100000 in
theorem ints_eq (xs : List Int) (A B : Option Addr) (c d n : Nat) (w : World) (hn : n = xs.length) (hl : n ≤ 1000000) (h0 : Row .i64 3 w (.slice A n c) xs) (h1 : Row .i64 3 w (.slice B n d) xs) :
    Calls Try.prog 11 #[.slice A n c, .slice B n d] w fun e w' => e = .returned (.bool true) ∧ Below w.heap.size w w' := by
  have H0 := Aside0.mk h0
  have H1 := Aside0.mk h1
  have HN := Aside0.mk hn
  clear h0 h1 hn
  go_enter Try.func11, Try.ntmps11
  go_wp2
  go_loopw [13] (fun v13 wr => ∃ kk : Nat, kk ≤ n ∧ v13 = .int .i64 kk ∧ Aside0 (Below w.heap.size w wr)) (fun v13 _ => n - (intOf v13).toNat)
  case atStart => exact ⟨0, Nat.zero_le _, rfl, ⟨Below.refl _ _⟩⟩
  case round =>
    obtain ⟨kk, hkk, rfl, HB⟩ := hrel
    by_cases hlt : kk < n
    · have hltz : (kk : Int) < (n : Int) := by omega
      obtain ⟨ad, eA, hx⟩ := row_at (H0.out.below HB.out) kk (by have := HN.out; omega)
      obtain ⟨bd, eB, hy⟩ := row_at (H1.out.below HB.out) kk (by have := HN.out; omega)
      obtain ⟨u, hu⟩ : ∃ u, u = xs.getD kk 0 := ⟨_, rfl⟩
      rw [← hu] at hx hy
      subst eA eB
      clear hu
      have hx2 : ∀ q, (wr.drewN q).cell? (ad.add kk) = some (.int .i64 u) := fun q => hx
      have hy2 : ∀ q, (wr.drewN q).cell? (bd.add kk) = some (.int .i64 u) := fun q => hy
      go_wp2
      go_quiet (fail)
      all_goals
        go_wp2
        go_roundw
        case rel => exact ⟨kk + 1, by omega, by simp, ⟨by repeat (first | exact HB.out | apply below_drew1 | apply pw_below_drewN)⟩⟩
        case measure => simp [intOf]; omega
    · obtain rfl : kk = n := by omega
      go_wp2
      go_ret
      exact ⟨rfl, by repeat (first | exact HB.out | apply below_drew1 | apply pw_below_drewN)⟩
section
variable {w0 w : World} {p x : Nat} {G : Nat → Obj → Prop} {L A B : List Ac} {y : Ac} {ds : List Int} {C : Int} {u i : Nat}
/-- What was sent over a connection, both ways. -/
theorem JD.sent (h : JD w0 w p x G L ds L ds) (hB : Bd L ds u i) (hi : i ≤ 2000000) (hu : u ≤ 1048576) (hc : (Key C).wf = true) : ∃ ss : List Int,
    (Calls Try.prog 9 #[.pointer (some ⟨p, 0, none⟩), .int .i64 C] w fun e w' => ∃ A1 c1, e = .returned (.slice A1 ss.length c1) ∧ Row .u8 5 w' (.slice A1 ss.length c1) ss ∧ Below w.heap.size w w') ∧
    (Calls Try.prog 10 #[.pointer (some ⟨x, 0, none⟩), .int .i64 C] w fun e w' => ∃ A1 c1, e = .returned (.slice A1 ss.length c1) ∧ Row .u8 5 w' (.slice A1 ss.length c1) ss ∧ Below w.heap.size w w') := by
  have hll := hB.ll
  by_cases hy : ∃ y ∈ L, y.c = C
  · obtain ⟨y, hy, rfl⟩ := hy
    have hys := hB.ss y hy
    obtain ⟨A, B, rfl⟩ := List.append_of_mem hy
    refine ⟨y.ss, ?_, ?_⟩
    · obtain ⟨bm, sz, Dm, q, vw, vs, vd, hS, _⟩ := h.yes
      exact (sent_calls hS hc (by omega)).mono (fun e w' ⟨A1, c1, he, hr, _, hb⟩ => ⟨A1, c1, he, hr, hb⟩)
    · obtain ⟨vL, vD, Ar, yr, Br, hr, rfl, hlen, _, _⟩ := h.refYes
      obtain ⟨A1, c1, e1, _⟩ := (hr.rs yr (by simp)).slice
      exact (rsent_some hr rfl (by rw [hlen]; omega)).mono (fun e w' ⟨he, hb⟩ => ⟨A1, c1, by rw [he, e1]; rfl, by have h5 := (hr.rs yr (by simp)).below hb; rw [e1] at h5; exact h5, hb⟩)
  · have hn : ∀ y ∈ L, y.c ≠ C := fun y h1 h2 => hy ⟨y, h1, h2⟩
    refine ⟨[], ?_, ?_⟩
    · obtain ⟨bm, sz, Dm, vd, Lm, vL, vD, Lr, hJ, e1, e2⟩ := h
      exact (sent_none hJ.m hc (fun m hm => hn m.abs (by rw [← e1]; exact List.mem_map.2 ⟨m, hm, rfl⟩))).mono (fun e w' ⟨he, hb⟩ => ⟨none, 0, he, Row.nil _ _ _, hb⟩)
    · obtain ⟨vL, vD, Lr, hr, e2, _, _⟩ := h.ref
      exact (rsent_none hr (fun m hm => hn m.abs (by rw [← e2]; exact List.mem_map.2 ⟨m, hm, rfl⟩)) (by rw [len_abs e2]; omega)).mono (fun e w' ⟨he, hb⟩ => ⟨none, 0, he, Row.nil _ _ _, hb⟩)
theorem JD.allM (h : JD w0 w p x G L ds L ds) (hB : Bd L ds u i) (hi : i ≤ 2000000) :
    Calls Try.prog 12 #[.pointer (some ⟨p, 0, none⟩)] w fun e w' => ∃ A1 c1, e = .returned (.slice A1 (aopens L).length c1) ∧ Row .i64 3 w' (.slice A1 (aopens L).length c1) (aopens L) ∧ Below w.heap.size w w' := by
  have hll := hB.ll
  obtain ⟨bm, sz, Dm, vd, Lm, vL, vD, Lr, hJ, rfl, e2⟩ := h
  rw [← opens_abs]
  refine all_exact hJ.m (Nat.le_trans hJ.m.own.size_le ?_)
  rw [hJ.sz_]
  rw [List.length_map] at hll
  omega
theorem JD.allR (h : JD w0 w p x G L ds L ds) (hB : Bd L ds u i) (hi : i ≤ 2000000) :
    Calls Try.prog 13 #[.pointer (some ⟨x, 0, none⟩)] w fun e w' => ∃ A1 c1, e = .returned (.slice A1 (aopens L).length c1) ∧ Row .i64 3 w' (.slice A1 (aopens L).length c1) (aopens L) ∧ Below w.heap.size w w' := by
  have hll := hB.ll
  obtain ⟨vL, vD, Lr, hr, rfl, _, _⟩ := h.ref
  rw [← ropens_abs]
  exact rall_calls hr (by rw [List.length_map] at hll; omega)
theorem JD.waitsNo (h : JD w0 w p x G L ds L ds) (hno : NoA L C) (hc : (Key C).wf = true) : Calls Try.prog 7 #[.pointer (some ⟨p, 0, none⟩), .int .i64 C] w fun e w' => e = .returned (.tuple #[.int .i64 0, .bool false]) ∧ Below w.heap.size w w' := waits_no (h.noAt hno hc)
theorem JD.waitsYes (h : JD w0 w p x G (A ++ y :: B) ds (A ++ y :: B) ds) (ho : y.op = true) (hc : (Key y.c).wf = true) : Calls Try.prog 7 #[.pointer (some ⟨p, 0, none⟩), .int .i64 y.c] w fun e w' => e = .returned (.tuple #[.int .i64 (y.ws.length : Int), .bool y.en]) ∧ Below w.heap.size w w' := by
  obtain ⟨bm, sz, Dm, q, vw, vs, vd, hS, _⟩ := h.yes
  rw [ho] at hS
  exact waits_calls hS hc
theorem JD.atNo (h : JD w0 w p x G L ds L ds) (hB : Bd L ds u i) (hi : i ≤ 2000000) (hno : NoA L C) : Calls Try.prog 8 #[.pointer (some ⟨x, 0, none⟩), .int .i64 C] w fun e w' => e = .returned (.int .i64 (-1)) ∧ Below w.heap.size w w' := by
  have hll := hB.ll
  obtain ⟨vL, vD, Lr, hr, e2, _, _⟩ := h.ref
  exact rat_no hr (no_c e2 hno) (by rw [len_abs e2]; omega)
/-- The place of an open one, and what stands there. -/
theorem JD.atYes (h : JD w0 w p x G (A ++ y :: B) ds (A ++ y :: B) ds) (hB : Bd (A ++ y :: B) ds u i) (hi : i ≤ 2000000) (ho : y.op = true) : ∃ (ad : Addr) (n cap k : Nat) (Aw : Option Addr) (cw : Nat), k < n ∧
    (∀ W, Below w.heap.size w W → Calls Try.prog 8 #[.pointer (some ⟨x, 0, none⟩), .int .i64 y.c] W fun e w' => e = .returned (.int .i64 (k : Int)) ∧ Below W.heap.size W w') ∧
    (∀ w', Below w.heap.size w w' → w'.cell? ⟨x, 0, none⟩ = some (.slice (some ad) n cap) ∧ w'.cell? ⟨(ad.add (k * 6)).block, (ad.add (k * 6)).off + 2, none⟩ = some (.bool y.en) ∧ w'.cell? ⟨(ad.add (k * 6)).block, (ad.add (k * 6)).off + 3, none⟩ = some (.slice Aw y.ws.length cw)) := by
  have hll := hB.ll
  obtain ⟨vL, vD, Ar, yr, Br, hr, rfl, hlen, _, _⟩ := h.refYes
  obtain ⟨ad, cap, rfl, hadd, _⟩ := hr.conn
  obtain ⟨Aw, cw, ew, _⟩ := (hr.rw yr (by simp)).slice
  refine ⟨ad, (Ar ++ yr :: Br).length, cap, Ar.length, Aw, cw, by rw [List.length_append, List.length_cons]; omega, fun W hb => rat_yes (hr.below hb) rfl ho (by rw [hlen]; omega), fun w' hb => ?_⟩
  have hr' := hr.below hb
  refine ⟨(blk_cell hr'.blk 0).trans rfl, hr'.cellAt 2 _ rfl, ?_⟩
  have h5 := hr'.cellAt 3 _ rfl
  rw [ew] at h5
  exact h5
/-- Two worlds, just made. -/
theorem JD.start {bm : Nat} (h : MW w p bm 0 (.map []) (.slice none 0 0) [] []) (hb : Below w0.heap.size w0 w) (hp : w0.heap.size ≤ p) (hm : w0.heap.size ≤ bm) : JD w0 (w.alloc (.cells #[.slice none 0 0, .slice none 0 0] 29 (0, 0))) p w.heap.size (fun _ _ => False) [] [] [] [] := by
  have hba := below_alloc (Below.refl w.heap.size w) (.cells #[.slice none 0 0, .slice none 0 0] 29 (0, 0))
  have hmf : ∀ k, MFt p bm (.slice none 0 0) [] k → k < w.heap.size ∧ w0.heap.size ≤ k := by
    intro k hk
    have h5 := h.ltM k hk
    rcases hk with rfl | rfl | hk | ⟨z, hz, _⟩
    · exact ⟨h5, hp⟩
    · exact ⟨h5, hm⟩
    · simp [Value.ownBlock] at hk
    · cases hz
  have hrf : ∀ k, RFt w.heap.size (.slice none 0 0) (.slice none 0 0) [] k → k = w.heap.size := by
    intro k hk
    rcases hk with rfl | hk | hk | ⟨z, hz, _⟩
    · rfl
    · simp [Value.ownBlock] at hk
    · simp [Value.ownBlock] at hk
    · cases hz
  refine ⟨bm, 0, _, _, [], .slice none 0 0, .slice none 0 0, [], ⟨h.below hba, ⟨blk_new _ _, ⟨rfl, .inl ⟨rfl, none, rfl, fun a ha => (by cases ha)⟩⟩, fun y hy => (by cases hy), fun y hy => (by cases hy), Row.nil _ _ _, fun y hy => (by cases hy), fun y hy => (by cases hy), List.Pairwise.nil⟩, fun k hk hr => ?_, below_step hb hba, fun k hk => (hmf k hk).2, fun k hk => ?_, fun k o hg => hg.elim, rfl⟩, rfl, rfl⟩
  · have := (hmf k hk).1
    have := hrf k hr
    omega
  · rw [hrf k hk]; exact hb.size
theorem Bd.start : Bd [] [] 0 0 := ⟨fun y hy => (by cases hy), fun y hy => (by cases hy), fun y hy => (by cases hy), Nat.zero_le _, fun y hy => (by cases hy), Nat.le_refl _, Nat.zero_le _⟩
end
end Go.Proofs.Ytnhhcmnjfaeliaa.Vm
