/- The law's asks: a call on the world, and the same on the reference's, by any contracts of the two; own text of this session (gen_asks.py). -/
import Derived.Test.YtnhhcmnjfaeliaaVm12
import Derived.Test.YtnhhcmnjfaeliaaSq
namespace Go.Proofs.Ytnhhcmnjfaeliaa.Vm
open Wld hiding St Ft Next cellsQ cellsP ReadPost ptrE ptrE_none ptrE_some law zeroP Key key_of info_u8 info_int ne_t ne_blk ne_map grown_below
open Go.RowKit Go.Proofs.YtnhhcmnjfaeliaaW.PrintWords Go.Proofs.YtnhhcmnjfaeliaaW.PrintLast Go.Maps
set_option linter.unusedVariables false
set_option linter.unusedSimpArgs false
/-- A step's block. -/
abbrev stepB (K C N : Int) (A : Option Addr) (n cb : Nat) : Obj := .cells #[.int .i64 K, .int .i64 C, .int .i64 N, .slice A n cb] 32 (0, 0)
section
variable {w : World} {p x : Nat} {C N : Int} {A : Option Addr} {n cb : Nat} {Z0 Z1 Z2 : Nat → World → Prop}
set_option maxHeartbeats 8000000 in
set_option maxRecDepth 100000 in
theorem asks0 (hs0 : ∀ g W, Z0 g W → W.heap[g]? = some (stepB 0 C N A n cb)) (hs1 : ∀ g W, Z1 g W → W.heap[g]? = some (stepB 0 C N A n cb)) (hs2 : ∀ g W, Z2 g W → W.heap[g]? = some (stepB 0 C N A n cb)) (hl0 : ∀ g W W', Z0 g W → Below W.heap.size W W' → Z0 g W')
    (h1 : ∀ g W, Z0 g W → Calls Try.prog 15 #[.pointer (some ⟨p, 0, none⟩), .int .i64 C] W fun e w' => ∃ r : Int, e = .returned (.int .i64 r) ∧ Z1 g w')
    (h2 : ∀ g W, Z1 g W → Calls Try.prog 20 #[.pointer (some ⟨x, 0, none⟩), .int .i64 C] W fun e w' => ∃ r : Int, e = .returned (.int .i64 r) ∧ Z2 g w')
    (h0 : Z0 w.heap.size (w.alloc (stepB 0 C N A n cb))) : Calls Try.prog 6 #[.pointer (some ⟨p, 0, none⟩), .pointer (some ⟨x, 0, none⟩), .agg #[.int .i64 0, .int .i64 C, .int .i64 N, .slice A n cb]] w fun e w' => ∃ (b : Bool) (g : Nat), e = .returned (.bool b) ∧ Z2 g w' := by
  have HS0 := Aside0.mk hs0; have HS1 := Aside0.mk hs1; have HS2 := Aside0.mk hs2; have H1 := Aside0.mk h1; have H2 := Aside0.mk h2
  have HZ := Aside0.mk (hl0 _ _ _ h0 (below_drew (Below.refl _ _)))
  clear hs0 hs1 hs2 hl0 h1 h2 h0
  go_enter Try.func6, Try.ntmps6
  go_wp2
  refine start_ (n := 10) (S := fun w' : World => w'.cell? ⟨w.heap.size, 1, none⟩ = some (.int .i64 C) ∧ w'.cell? ⟨w.heap.size, 2, none⟩ = some (.int .i64 N) ∧ w'.cell? ⟨w.heap.size, 3, none⟩ = some (.slice A n cb)) (ds := []) (lb 10 0) (by kernel_rfl) rfl rfl ⟨(blk_cell (HS0.out _ _ HZ.out) 1).trans rfl, (blk_cell (HS0.out _ _ HZ.out) 2).trans rfl, (blk_cell (HS0.out _ _ HZ.out) 3).trans rfl⟩ (fun hHeld => ?_)
  generalize World.drew _ = W0 at HZ hHeld ⊢
  refine pv 0 23 (lb 10 1) ?_
  refine pv 1 24 (lb 10 3) ?_
  refine tv hHeld 2 25 (lb 10 7) ?_
  refine pv 4 27 (lb 10 23) ?_
  refine pv 5 28 (lb 10 55) ?_
  refine tv hHeld 6 29 (lb 10 119) ?_
  refine one_ (i := 3) (N := some 26) (lb 10 127) rfl rfl (by kernel_rfl) (by decide) (fun K hK => ?_)
  refine goes_ Try.func15 (by kernel_rfl) rfl #[.pointer (some ⟨p, 0, none⟩), .int .i64 C] (by rfl) rfl rfl ba ?_
  refine (H1.out _ _ HZ.out).mono ?_
  rintro e W1 ⟨r1, rfl, hz⟩
  refine ⟨_, rfl, ?_⟩
  have HZ1 := Aside0.mk hz; clear hz
  refine hK.out _ _ ⟨(blk_cell (HS1.out _ _ HZ1.out) 1).trans rfl, (blk_cell (HS1.out _ _ HZ1.out) 2).trans rfl, (blk_cell (HS1.out _ _ HZ1.out) 3).trans rfl⟩ (fun hHeld => ?_)
  clear hK K
  refine norm_ (a' := ?_) ?_ ?_
  rotate_left
  · show Act.put _ (some 26) _ = _
    simp only [Act.put, List.setIfInBounds_toArray, List.set_cons_zero, List.set_cons_succ, i64_w, i32_w]
    rfl
  refine one_ (i := 7) (N := some 30) (lb 10 255) rfl rfl (by kernel_rfl) (by decide) (fun K hK => ?_)
  refine goes_ Try.func20 (by kernel_rfl) rfl #[.pointer (some ⟨x, 0, none⟩), .int .i64 C] (by rfl) rfl rfl ba ?_
  refine (H2.out _ _ HZ1.out).mono ?_
  rintro e W2 ⟨r2, rfl, hz⟩
  refine ⟨_, rfl, ?_⟩
  have HZ2 := Aside0.mk hz; clear hz
  refine hK.out _ _ ?hS2 (fun hHeld => ?_)
  case hS2 => exact ⟨(blk_cell (HS2.out _ _ HZ2.out) 1).trans rfl, (blk_cell (HS2.out _ _ HZ2.out) 2).trans rfl, (blk_cell (HS2.out _ _ HZ2.out) 3).trans rfl⟩
  clear hK K
  refine norm_ (a' := ?_) ?_ ?_
  rotate_left
  · show Act.put _ (some 30) _ = _
    simp only [Act.put, List.setIfInBounds_toArray, List.set_cons_zero, List.set_cons_succ, i64_w, i32_w]
    rfl
  refine pv 8 31 (lb 10 511) ?_
  refine pv 9 6 (lb 10 1023) ?_
  refine done_ (by kernel_rfl) ?_
  go_wp2
  go_ret
  exact ⟨_, _, rfl, HZ2.out⟩
set_option maxHeartbeats 8000000 in
set_option maxRecDepth 100000 in
theorem asks1 (hs0 : ∀ g W, Z0 g W → W.heap[g]? = some (stepB 1 C N A n cb)) (hs1 : ∀ g W, Z1 g W → W.heap[g]? = some (stepB 1 C N A n cb)) (hs2 : ∀ g W, Z2 g W → W.heap[g]? = some (stepB 1 C N A n cb)) (hl0 : ∀ g W W', Z0 g W → Below W.heap.size W W' → Z0 g W')
    (h1 : ∀ g W, Z0 g W → Calls Try.prog 21 #[.pointer (some ⟨p, 0, none⟩), .int .i64 C] W fun e w' => ∃ r : Int, e = .returned (.int .i64 r) ∧ Z1 g w')
    (h2 : ∀ g W, Z1 g W → Calls Try.prog 22 #[.pointer (some ⟨x, 0, none⟩), .int .i64 C] W fun e w' => ∃ r : Int, e = .returned (.int .i64 r) ∧ Z2 g w')
    (h0 : Z0 w.heap.size (w.alloc (stepB 1 C N A n cb))) : Calls Try.prog 6 #[.pointer (some ⟨p, 0, none⟩), .pointer (some ⟨x, 0, none⟩), .agg #[.int .i64 1, .int .i64 C, .int .i64 N, .slice A n cb]] w fun e w' => ∃ (b : Bool) (g : Nat), e = .returned (.bool b) ∧ Z2 g w' := by
  have HS0 := Aside0.mk hs0; have HS1 := Aside0.mk hs1; have HS2 := Aside0.mk hs2; have H1 := Aside0.mk h1; have H2 := Aside0.mk h2
  have HZ := Aside0.mk (hl0 _ _ _ h0 (below_drew (Below.refl _ _)))
  clear hs0 hs1 hs2 hl0 h1 h2 h0
  go_enter Try.func6, Try.ntmps6
  go_wp2
  refine start_ (n := 10) (S := fun w' : World => w'.cell? ⟨w.heap.size, 1, none⟩ = some (.int .i64 C) ∧ w'.cell? ⟨w.heap.size, 2, none⟩ = some (.int .i64 N) ∧ w'.cell? ⟨w.heap.size, 3, none⟩ = some (.slice A n cb)) (ds := []) (lb 10 0) (by kernel_rfl) rfl rfl ⟨(blk_cell (HS0.out _ _ HZ.out) 1).trans rfl, (blk_cell (HS0.out _ _ HZ.out) 2).trans rfl, (blk_cell (HS0.out _ _ HZ.out) 3).trans rfl⟩ (fun hHeld => ?_)
  generalize World.drew _ = W0 at HZ hHeld ⊢
  refine pv 0 34 (lb 10 1) ?_
  refine pv 1 35 (lb 10 3) ?_
  refine tv hHeld 2 36 (lb 10 7) ?_
  refine pv 4 38 (lb 10 23) ?_
  refine pv 5 39 (lb 10 55) ?_
  refine tv hHeld 6 40 (lb 10 119) ?_
  refine one_ (i := 3) (N := some 37) (lb 10 127) rfl rfl (by kernel_rfl) (by decide) (fun K hK => ?_)
  refine goes_ Try.func21 (by kernel_rfl) rfl #[.pointer (some ⟨p, 0, none⟩), .int .i64 C] (by rfl) rfl rfl ba ?_
  refine (H1.out _ _ HZ.out).mono ?_
  rintro e W1 ⟨r1, rfl, hz⟩
  refine ⟨_, rfl, ?_⟩
  have HZ1 := Aside0.mk hz; clear hz
  refine hK.out _ _ ⟨(blk_cell (HS1.out _ _ HZ1.out) 1).trans rfl, (blk_cell (HS1.out _ _ HZ1.out) 2).trans rfl, (blk_cell (HS1.out _ _ HZ1.out) 3).trans rfl⟩ (fun hHeld => ?_)
  clear hK K
  refine norm_ (a' := ?_) ?_ ?_
  rotate_left
  · show Act.put _ (some 37) _ = _
    simp only [Act.put, List.setIfInBounds_toArray, List.set_cons_zero, List.set_cons_succ, i64_w, i32_w]
    rfl
  refine one_ (i := 7) (N := some 41) (lb 10 255) rfl rfl (by kernel_rfl) (by decide) (fun K hK => ?_)
  refine goes_ Try.func22 (by kernel_rfl) rfl #[.pointer (some ⟨x, 0, none⟩), .int .i64 C] (by rfl) rfl rfl ba ?_
  refine (H2.out _ _ HZ1.out).mono ?_
  rintro e W2 ⟨r2, rfl, hz⟩
  refine ⟨_, rfl, ?_⟩
  have HZ2 := Aside0.mk hz; clear hz
  refine hK.out _ _ ?hS2 (fun hHeld => ?_)
  case hS2 => exact ⟨(blk_cell (HS2.out _ _ HZ2.out) 1).trans rfl, (blk_cell (HS2.out _ _ HZ2.out) 2).trans rfl, (blk_cell (HS2.out _ _ HZ2.out) 3).trans rfl⟩
  clear hK K
  refine norm_ (a' := ?_) ?_ ?_
  rotate_left
  · show Act.put _ (some 41) _ = _
    simp only [Act.put, List.setIfInBounds_toArray, List.set_cons_zero, List.set_cons_succ, i64_w, i32_w]
    rfl
  refine pv 8 42 (lb 10 511) ?_
  refine pv 9 6 (lb 10 1023) ?_
  refine done_ (by kernel_rfl) ?_
  go_wp2
  go_ret
  exact ⟨_, _, rfl, HZ2.out⟩
set_option maxHeartbeats 8000000 in
set_option maxRecDepth 100000 in
theorem asks2 (hs0 : ∀ g W, Z0 g W → W.heap[g]? = some (stepB 2 C N A n cb)) (hs1 : ∀ g W, Z1 g W → W.heap[g]? = some (stepB 2 C N A n cb)) (hs2 : ∀ g W, Z2 g W → W.heap[g]? = some (stepB 2 C N A n cb)) (hl0 : ∀ g W W', Z0 g W → Below W.heap.size W W' → Z0 g W')
    (h1 : ∀ g W, Z0 g W → Calls Try.prog 17 #[.pointer (some ⟨p, 0, none⟩), .int .i64 C, .slice A n cb] W fun e w' => ∃ r : Int, e = .returned (.int .i64 r) ∧ Z1 g w')
    (h2 : ∀ g W, Z1 g W → Calls Try.prog 23 #[.pointer (some ⟨x, 0, none⟩), .int .i64 C, .slice A n cb] W fun e w' => ∃ r : Int, e = .returned (.int .i64 r) ∧ Z2 g w')
    (h0 : Z0 w.heap.size (w.alloc (stepB 2 C N A n cb))) : Calls Try.prog 6 #[.pointer (some ⟨p, 0, none⟩), .pointer (some ⟨x, 0, none⟩), .agg #[.int .i64 2, .int .i64 C, .int .i64 N, .slice A n cb]] w fun e w' => ∃ (b : Bool) (g : Nat), e = .returned (.bool b) ∧ Z2 g w' := by
  have HS0 := Aside0.mk hs0; have HS1 := Aside0.mk hs1; have HS2 := Aside0.mk hs2; have H1 := Aside0.mk h1; have H2 := Aside0.mk h2
  have HZ := Aside0.mk (hl0 _ _ _ h0 (below_drew (Below.refl _ _)))
  clear hs0 hs1 hs2 hl0 h1 h2 h0
  go_enter Try.func6, Try.ntmps6
  go_wp2
  refine start_ (n := 14) (S := fun w' : World => w'.cell? ⟨w.heap.size, 1, none⟩ = some (.int .i64 C) ∧ w'.cell? ⟨w.heap.size, 2, none⟩ = some (.int .i64 N) ∧ w'.cell? ⟨w.heap.size, 3, none⟩ = some (.slice A n cb)) (ds := []) (lb 14 0) (by kernel_rfl) rfl rfl ⟨(blk_cell (HS0.out _ _ HZ.out) 1).trans rfl, (blk_cell (HS0.out _ _ HZ.out) 2).trans rfl, (blk_cell (HS0.out _ _ HZ.out) 3).trans rfl⟩ (fun hHeld => ?_)
  generalize World.drew _ = W0 at HZ hHeld ⊢
  refine pv 0 45 (lb 14 1) ?_
  refine pv 1 46 (lb 14 3) ?_
  refine tv hHeld 2 47 (lb 14 7) ?_
  refine pv 3 48 (lb 14 15) ?_
  refine tv hHeld 4 49 (lb 14 31) ?_
  refine pv 6 51 (lb 14 95) ?_
  refine pv 7 52 (lb 14 223) ?_
  refine tv hHeld 8 53 (lb 14 479) ?_
  refine pv 9 54 (lb 14 991) ?_
  refine tv hHeld 10 55 (lb 14 2015) ?_
  refine one_ (i := 5) (N := some 50) (lb 14 2047) rfl rfl (by kernel_rfl) (by decide) (fun K hK => ?_)
  refine goes_ Try.func17 (by kernel_rfl) rfl #[.pointer (some ⟨p, 0, none⟩), .int .i64 C, .slice A n cb] (by rfl) rfl rfl ba ?_
  refine (H1.out _ _ HZ.out).mono ?_
  rintro e W1 ⟨r1, rfl, hz⟩
  refine ⟨_, rfl, ?_⟩
  have HZ1 := Aside0.mk hz; clear hz
  refine hK.out _ _ ⟨(blk_cell (HS1.out _ _ HZ1.out) 1).trans rfl, (blk_cell (HS1.out _ _ HZ1.out) 2).trans rfl, (blk_cell (HS1.out _ _ HZ1.out) 3).trans rfl⟩ (fun hHeld => ?_)
  clear hK K
  refine norm_ (a' := ?_) ?_ ?_
  rotate_left
  · show Act.put _ (some 50) _ = _
    simp only [Act.put, List.setIfInBounds_toArray, List.set_cons_zero, List.set_cons_succ, i64_w, i32_w]
    rfl
  refine one_ (i := 11) (N := some 56) (lb 14 4095) rfl rfl (by kernel_rfl) (by decide) (fun K hK => ?_)
  refine goes_ Try.func23 (by kernel_rfl) rfl #[.pointer (some ⟨x, 0, none⟩), .int .i64 C, .slice A n cb] (by rfl) rfl rfl ba ?_
  refine (H2.out _ _ HZ1.out).mono ?_
  rintro e W2 ⟨r2, rfl, hz⟩
  refine ⟨_, rfl, ?_⟩
  have HZ2 := Aside0.mk hz; clear hz
  refine hK.out _ _ ?hS2 (fun hHeld => ?_)
  case hS2 => exact ⟨(blk_cell (HS2.out _ _ HZ2.out) 1).trans rfl, (blk_cell (HS2.out _ _ HZ2.out) 2).trans rfl, (blk_cell (HS2.out _ _ HZ2.out) 3).trans rfl⟩
  clear hK K
  refine norm_ (a' := ?_) ?_ ?_
  rotate_left
  · show Act.put _ (some 56) _ = _
    simp only [Act.put, List.setIfInBounds_toArray, List.set_cons_zero, List.set_cons_succ, i64_w, i32_w]
    rfl
  refine pv 12 57 (lb 14 8191) ?_
  refine pv 13 6 (lb 14 16383) ?_
  refine done_ (by kernel_rfl) ?_
  go_wp2
  go_ret
  exact ⟨_, _, rfl, HZ2.out⟩
set_option maxHeartbeats 8000000 in
set_option maxRecDepth 100000 in
theorem asks3 (hs0 : ∀ g W, Z0 g W → W.heap[g]? = some (stepB 3 C N A n cb)) (hs1 : ∀ g W, Z1 g W → W.heap[g]? = some (stepB 3 C N A n cb)) (hs2 : ∀ g W, Z2 g W → W.heap[g]? = some (stepB 3 C N A n cb)) (hl0 : ∀ g W W', Z0 g W → Below W.heap.size W W' → Z0 g W')
    (h1 : ∀ g W, Z0 g W → Calls Try.prog 24 #[.pointer (some ⟨p, 0, none⟩), .int .i64 C] W fun e w' => ∃ r : Int, e = .returned (.int .i64 r) ∧ Z1 g w')
    (h2 : ∀ g W, Z1 g W → Calls Try.prog 25 #[.pointer (some ⟨x, 0, none⟩), .int .i64 C] W fun e w' => ∃ r : Int, e = .returned (.int .i64 r) ∧ Z2 g w')
    (h0 : Z0 w.heap.size (w.alloc (stepB 3 C N A n cb))) : Calls Try.prog 6 #[.pointer (some ⟨p, 0, none⟩), .pointer (some ⟨x, 0, none⟩), .agg #[.int .i64 3, .int .i64 C, .int .i64 N, .slice A n cb]] w fun e w' => ∃ (b : Bool) (g : Nat), e = .returned (.bool b) ∧ Z2 g w' := by
  have HS0 := Aside0.mk hs0; have HS1 := Aside0.mk hs1; have HS2 := Aside0.mk hs2; have H1 := Aside0.mk h1; have H2 := Aside0.mk h2
  have HZ := Aside0.mk (hl0 _ _ _ h0 (below_drew (Below.refl _ _)))
  clear hs0 hs1 hs2 hl0 h1 h2 h0
  go_enter Try.func6, Try.ntmps6
  go_wp2
  refine start_ (n := 10) (S := fun w' : World => w'.cell? ⟨w.heap.size, 1, none⟩ = some (.int .i64 C) ∧ w'.cell? ⟨w.heap.size, 2, none⟩ = some (.int .i64 N) ∧ w'.cell? ⟨w.heap.size, 3, none⟩ = some (.slice A n cb)) (ds := []) (lb 10 0) (by kernel_rfl) rfl rfl ⟨(blk_cell (HS0.out _ _ HZ.out) 1).trans rfl, (blk_cell (HS0.out _ _ HZ.out) 2).trans rfl, (blk_cell (HS0.out _ _ HZ.out) 3).trans rfl⟩ (fun hHeld => ?_)
  generalize World.drew _ = W0 at HZ hHeld ⊢
  refine pv 0 60 (lb 10 1) ?_
  refine pv 1 61 (lb 10 3) ?_
  refine tv hHeld 2 62 (lb 10 7) ?_
  refine pv 4 64 (lb 10 23) ?_
  refine pv 5 65 (lb 10 55) ?_
  refine tv hHeld 6 66 (lb 10 119) ?_
  refine one_ (i := 3) (N := some 63) (lb 10 127) rfl rfl (by kernel_rfl) (by decide) (fun K hK => ?_)
  refine goes_ Try.func24 (by kernel_rfl) rfl #[.pointer (some ⟨p, 0, none⟩), .int .i64 C] (by rfl) rfl rfl ba ?_
  refine (H1.out _ _ HZ.out).mono ?_
  rintro e W1 ⟨r1, rfl, hz⟩
  refine ⟨_, rfl, ?_⟩
  have HZ1 := Aside0.mk hz; clear hz
  refine hK.out _ _ ⟨(blk_cell (HS1.out _ _ HZ1.out) 1).trans rfl, (blk_cell (HS1.out _ _ HZ1.out) 2).trans rfl, (blk_cell (HS1.out _ _ HZ1.out) 3).trans rfl⟩ (fun hHeld => ?_)
  clear hK K
  refine norm_ (a' := ?_) ?_ ?_
  rotate_left
  · show Act.put _ (some 63) _ = _
    simp only [Act.put, List.setIfInBounds_toArray, List.set_cons_zero, List.set_cons_succ, i64_w, i32_w]
    rfl
  refine one_ (i := 7) (N := some 67) (lb 10 255) rfl rfl (by kernel_rfl) (by decide) (fun K hK => ?_)
  refine goes_ Try.func25 (by kernel_rfl) rfl #[.pointer (some ⟨x, 0, none⟩), .int .i64 C] (by rfl) rfl rfl ba ?_
  refine (H2.out _ _ HZ1.out).mono ?_
  rintro e W2 ⟨r2, rfl, hz⟩
  refine ⟨_, rfl, ?_⟩
  have HZ2 := Aside0.mk hz; clear hz
  refine hK.out _ _ ?hS2 (fun hHeld => ?_)
  case hS2 => exact ⟨(blk_cell (HS2.out _ _ HZ2.out) 1).trans rfl, (blk_cell (HS2.out _ _ HZ2.out) 2).trans rfl, (blk_cell (HS2.out _ _ HZ2.out) 3).trans rfl⟩
  clear hK K
  refine norm_ (a' := ?_) ?_ ?_
  rotate_left
  · show Act.put _ (some 67) _ = _
    simp only [Act.put, List.setIfInBounds_toArray, List.set_cons_zero, List.set_cons_succ, i64_w, i32_w]
    rfl
  refine pv 8 68 (lb 10 511) ?_
  refine pv 9 6 (lb 10 1023) ?_
  refine done_ (by kernel_rfl) ?_
  go_wp2
  go_ret
  exact ⟨_, _, rfl, HZ2.out⟩
set_option maxHeartbeats 8000000 in
set_option maxRecDepth 100000 in
theorem asks5 (hs0 : ∀ g W, Z0 g W → W.heap[g]? = some (stepB 5 C N A n cb)) (hs1 : ∀ g W, Z1 g W → W.heap[g]? = some (stepB 5 C N A n cb)) (hs2 : ∀ g W, Z2 g W → W.heap[g]? = some (stepB 5 C N A n cb)) (hl0 : ∀ g W W', Z0 g W → Below W.heap.size W W' → Z0 g W')
    (h1 : ∀ g W, Z0 g W → Calls Try.prog 16 #[.pointer (some ⟨p, 0, none⟩), .int .i64 C, .int .i64 N] W fun e w' => ∃ r : Int, e = .returned (.int .i64 r) ∧ Z1 g w')
    (h2 : ∀ g W, Z1 g W → Calls Try.prog 27 #[.pointer (some ⟨x, 0, none⟩), .int .i64 C, .int .i64 N] W fun e w' => ∃ r : Int, e = .returned (.int .i64 r) ∧ Z2 g w')
    (h0 : Z0 w.heap.size (w.alloc (stepB 5 C N A n cb))) : Calls Try.prog 6 #[.pointer (some ⟨p, 0, none⟩), .pointer (some ⟨x, 0, none⟩), .agg #[.int .i64 5, .int .i64 C, .int .i64 N, .slice A n cb]] w fun e w' => ∃ (b : Bool) (g : Nat), e = .returned (.bool b) ∧ Z2 g w' := by
  have HS0 := Aside0.mk hs0; have HS1 := Aside0.mk hs1; have HS2 := Aside0.mk hs2; have H1 := Aside0.mk h1; have H2 := Aside0.mk h2
  have HZ := Aside0.mk (hl0 _ _ _ h0 (below_drew (Below.refl _ _)))
  clear hs0 hs1 hs2 hl0 h1 h2 h0
  go_enter Try.func6, Try.ntmps6
  go_wp2
  refine start_ (n := 14) (S := fun w' : World => w'.cell? ⟨w.heap.size, 1, none⟩ = some (.int .i64 C) ∧ w'.cell? ⟨w.heap.size, 2, none⟩ = some (.int .i64 N) ∧ w'.cell? ⟨w.heap.size, 3, none⟩ = some (.slice A n cb)) (ds := []) (lb 14 0) (by kernel_rfl) rfl rfl ⟨(blk_cell (HS0.out _ _ HZ.out) 1).trans rfl, (blk_cell (HS0.out _ _ HZ.out) 2).trans rfl, (blk_cell (HS0.out _ _ HZ.out) 3).trans rfl⟩ (fun hHeld => ?_)
  generalize World.drew _ = W0 at HZ hHeld ⊢
  refine pv 0 101 (lb 14 1) ?_
  refine pv 1 102 (lb 14 3) ?_
  refine tv hHeld 2 103 (lb 14 7) ?_
  refine pv 3 104 (lb 14 15) ?_
  refine tv hHeld 4 105 (lb 14 31) ?_
  refine pv 6 107 (lb 14 95) ?_
  refine pv 7 108 (lb 14 223) ?_
  refine tv hHeld 8 109 (lb 14 479) ?_
  refine pv 9 110 (lb 14 991) ?_
  refine tv hHeld 10 111 (lb 14 2015) ?_
  refine one_ (i := 5) (N := some 106) (lb 14 2047) rfl rfl (by kernel_rfl) (by decide) (fun K hK => ?_)
  refine goes_ Try.func16 (by kernel_rfl) rfl #[.pointer (some ⟨p, 0, none⟩), .int .i64 C, .int .i64 N] (by rfl) rfl rfl ba ?_
  refine (H1.out _ _ HZ.out).mono ?_
  rintro e W1 ⟨r1, rfl, hz⟩
  refine ⟨_, rfl, ?_⟩
  have HZ1 := Aside0.mk hz; clear hz
  refine hK.out _ _ ⟨(blk_cell (HS1.out _ _ HZ1.out) 1).trans rfl, (blk_cell (HS1.out _ _ HZ1.out) 2).trans rfl, (blk_cell (HS1.out _ _ HZ1.out) 3).trans rfl⟩ (fun hHeld => ?_)
  clear hK K
  refine norm_ (a' := ?_) ?_ ?_
  rotate_left
  · show Act.put _ (some 106) _ = _
    simp only [Act.put, List.setIfInBounds_toArray, List.set_cons_zero, List.set_cons_succ, i64_w, i32_w]
    rfl
  refine one_ (i := 11) (N := some 112) (lb 14 4095) rfl rfl (by kernel_rfl) (by decide) (fun K hK => ?_)
  refine goes_ Try.func27 (by kernel_rfl) rfl #[.pointer (some ⟨x, 0, none⟩), .int .i64 C, .int .i64 N] (by rfl) rfl rfl ba ?_
  refine (H2.out _ _ HZ1.out).mono ?_
  rintro e W2 ⟨r2, rfl, hz⟩
  refine ⟨_, rfl, ?_⟩
  have HZ2 := Aside0.mk hz; clear hz
  refine hK.out _ _ ?hS2 (fun hHeld => ?_)
  case hS2 => exact ⟨(blk_cell (HS2.out _ _ HZ2.out) 1).trans rfl, (blk_cell (HS2.out _ _ HZ2.out) 2).trans rfl, (blk_cell (HS2.out _ _ HZ2.out) 3).trans rfl⟩
  clear hK K
  refine norm_ (a' := ?_) ?_ ?_
  rotate_left
  · show Act.put _ (some 112) _ = _
    simp only [Act.put, List.setIfInBounds_toArray, List.set_cons_zero, List.set_cons_succ, i64_w, i32_w]
    rfl
  refine pv 12 113 (lb 14 8191) ?_
  refine pv 13 6 (lb 14 16383) ?_
  refine done_ (by kernel_rfl) ?_
  go_wp2
  go_ret
  exact ⟨_, _, rfl, HZ2.out⟩
end
end Go.Proofs.Ytnhhcmnjfaeliaa.Vm
