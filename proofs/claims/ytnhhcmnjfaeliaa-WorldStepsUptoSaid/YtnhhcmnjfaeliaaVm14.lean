/- The law's asks at Read, Write and Draw, by any contracts of the two; own text of this session. -/
import Derived.Test.YtnhhcmnjfaeliaaVm13
namespace Go.Proofs.Ytnhhcmnjfaeliaa.Vm
open Wld hiding St Ft Next cellsQ cellsP ReadPost ptrE ptrE_none ptrE_some law zeroP Key key_of info_u8 info_int ne_t ne_blk ne_map grown_below
open Go.RowKit Go.Proofs.YtnhhcmnjfaeliaaW.PrintWords Go.Proofs.YtnhhcmnjfaeliaaW.PrintLast Go.Maps
set_option linter.unusedVariables false
set_option linter.unusedSimpArgs false
section
variable {w : World} {p x : Nat} {C N : Int} {A : Option Addr} {n cb : Nat} {Z0 Z1 Z2 : Nat → World → Prop}
set_option maxHeartbeats 8000000 in
set_option maxRecDepth 100000 in
theorem asks6 (hs1 : ∀ g W, Z1 g W → W.heap[g]? = some (stepB 6 C N A n cb))
    (h1 : ∀ g W, Z0 g W → Calls Try.prog 19 #[.pointer (some ⟨p, 0, none⟩), .int .i64 C, .slice A n cb] W fun e w' => ∃ r s : Int, e = .returned (.tuple #[.int .i64 r, .int .i64 s]) ∧ Z1 g w')
    (h2 : ∀ g W, Z1 g W → Calls Try.prog 28 #[.pointer (some ⟨x, 0, none⟩), .int .i64 C, .slice A n cb] W fun e w' => ∃ r s : Int, e = .returned (.tuple #[.int .i64 r, .int .i64 s]) ∧ Z2 g w')
    (h0 : Z0 w.heap.size (w.alloc (stepB 6 C N A n cb))) : Calls Try.prog 6 #[.pointer (some ⟨p, 0, none⟩), .pointer (some ⟨x, 0, none⟩), .agg #[.int .i64 6, .int .i64 C, .int .i64 N, .slice A n cb]] w fun e w' => ∃ (b : Bool) (g : Nat), e = .returned (.bool b) ∧ Z2 g w' := by
  have HS1 := Aside0.mk hs1; have H1 := Aside0.mk h1; have H2 := Aside0.mk h2; have HZ := Aside0.mk h0
  clear hs1 h1 h2 h0
  go_enter Try.func6, Try.ntmps6
  go_wp2_with (first
    | (go_at_call 19; refine (H1.out _ _ HZ.out).mono ?_; rintro e W1 ⟨r1, s1, rfl, hz⟩; have HZ1 := Aside0.mk hz; have hc1 : W1.cell? ⟨w.heap.size, 1, none⟩ = some (.int .i64 C) := (blk_cell (HS1.out _ _ hz) 1).trans rfl; have hc3 : W1.cell? ⟨w.heap.size, 3, none⟩ = some (.slice A n cb) := (blk_cell (HS1.out _ _ hz) 3).trans rfl; have hf1 := blk_frozen (HS1.out _ _ hz) 1; have hf3 := blk_frozen (HS1.out _ _ hz) 3; clear hz)
    | (go_at_call 28; refine (H2.out _ _ HZ1.out).mono ?_; rintro e W2 ⟨r2, s2, rfl, hz⟩; have HZ2 := Aside0.mk hz; clear hz))
  all_goals
    go_ret
    exact ⟨_, _, rfl, HZ2.out⟩
set_option maxHeartbeats 8000000 in
set_option maxRecDepth 100000 in
theorem asksD {K : Int} (hK : K < 0 ∨ 7 < K) (hs1 : ∀ g W, Z1 g W → W.heap[g]? = some (stepB K C N A n cb))
    (h1 : ∀ g W, Z0 g W → Calls Try.prog 31 #[.pointer (some ⟨p, 0, none⟩), .int .i64 N] W fun e w' => ∃ r s : Int, e = .returned (.tuple #[.int .i64 r, .int .i64 s]) ∧ Z1 g w')
    (h2 : ∀ g W, Z1 g W → Calls Try.prog 32 #[.pointer (some ⟨x, 0, none⟩), .int .i64 N] W fun e w' => ∃ r s : Int, e = .returned (.tuple #[.int .i64 r, .int .i64 s]) ∧ Z2 g w')
    (h0 : Z0 w.heap.size (w.alloc (stepB K C N A n cb))) : Calls Try.prog 6 #[.pointer (some ⟨p, 0, none⟩), .pointer (some ⟨x, 0, none⟩), .agg #[.int .i64 K, .int .i64 C, .int .i64 N, .slice A n cb]] w fun e w' => ∃ (b : Bool) (g : Nat), e = .returned (.bool b) ∧ Z2 g w' := by
  have HS1 := Aside0.mk hs1; have H1 := Aside0.mk h1; have H2 := Aside0.mk h2; have HZ := Aside0.mk h0
  clear hs1 h1 h2 h0
  have b0 : (K == 0) = false := by simpa using (show ¬ K = 0 by omega)
  have b1 : (K == 1) = false := by simpa using (show ¬ K = 1 by omega)
  have b2 : (K == 2) = false := by simpa using (show ¬ K = 2 by omega)
  have b3 : (K == 3) = false := by simpa using (show ¬ K = 3 by omega)
  have b4 : (K == 4) = false := by simpa using (show ¬ K = 4 by omega)
  have b5 : (K == 5) = false := by simpa using (show ¬ K = 5 by omega)
  have b6 : (K == 6) = false := by simpa using (show ¬ K = 6 by omega)
  have b7 : (K == 7) = false := by simpa using (show ¬ K = 7 by omega)
  clear hK
  go_enter Try.func6, Try.ntmps6
  go_wp2_with (first
    | (go_at_call 31; refine (H1.out _ _ HZ.out).mono ?_; rintro e W1 ⟨r1, s1, rfl, hz⟩; have HZ1 := Aside0.mk hz; have hc2 : W1.cell? ⟨w.heap.size, 2, none⟩ = some (.int .i64 N) := (blk_cell (HS1.out _ _ hz) 2).trans rfl; have hf2 := blk_frozen (HS1.out _ _ hz) 2; clear hz)
    | (go_at_call 32; refine (H2.out _ _ HZ1.out).mono ?_; rintro e W2 ⟨r2, s2, rfl, hz⟩; have HZ2 := Aside0.mk hz; clear hz))
  all_goals
    go_ret
    exact ⟨_, _, rfl, HZ2.out⟩
set_option maxHeartbeats 8000000 in
set_option maxRecDepth 100000 in
theorem asks4 (hs1 : ∀ g W, Z1 g W → W.heap[g]? = some (stepB 4 C N A n cb))
    (h1 : ∀ g W, Z0 g W → Calls Try.prog 18 #[.pointer (some ⟨p, 0, none⟩), .int .i64 C, .int .i64 N] W fun e w' => ∃ (A1 : Option Addr) (m c1 : Nat) (r : Int), e = .returned (.tuple #[.slice A1 m c1, .int .i64 r]) ∧ Z1 g w' ∧ ∀ W2, Below w'.heap.size w' W2 → ∃ s, (convert 30 9 (.slice A1 m c1)).run Try.prog W2 = Result.ok (.string s) W2)
    (h2 : ∀ g W, Z1 g W → Calls Try.prog 26 #[.pointer (some ⟨x, 0, none⟩), .int .i64 C, .int .i64 N] W fun e w' => e = .returned (.tuple #[.slice none 0 0, .int .i64 6]) ∧ Z2 g w' ∧ Below W.heap.size W w')
    (h0 : Z0 w.heap.size (w.alloc (stepB 4 C N A n cb))) : Calls Try.prog 6 #[.pointer (some ⟨p, 0, none⟩), .pointer (some ⟨x, 0, none⟩), .agg #[.int .i64 4, .int .i64 C, .int .i64 N, .slice A n cb]] w fun e w' => ∃ (b : Bool) (g : Nat), e = .returned (.bool b) ∧ Z2 g w' := by
  have HS1 := Aside0.mk hs1; have H1 := Aside0.mk h1; have H2 := Aside0.mk h2; have HZ := Aside0.mk h0
  clear hs1 h1 h2 h0
  go_enter Try.func6, Try.ntmps6
  go_wp2_with (first
    | (go_at_call 18; refine (H1.out _ _ HZ.out).mono ?_; rintro e W1 ⟨A1, m1, c1, r1, rfl, hz, hcv⟩; have HZ1 := Aside0.mk hz; have HCv := Aside0.mk hcv; have hc1 : W1.cell? ⟨w.heap.size, 1, none⟩ = some (.int .i64 C) := (blk_cell (HS1.out _ _ hz) 1).trans rfl; have hc2 : W1.cell? ⟨w.heap.size, 2, none⟩ = some (.int .i64 N) := (blk_cell (HS1.out _ _ hz) 2).trans rfl; have hf1 := blk_frozen (HS1.out _ _ hz) 1; have hf2 := blk_frozen (HS1.out _ _ hz) 2; clear hz hcv)
    | (go_at_call 26; refine (H2.out _ _ HZ1.out).mono ?_; rintro e W2 ⟨rfl, hz, hb⟩; have HZ2 := Aside0.mk hz; obtain ⟨s, hcv1⟩ := HCv.out W2 hb; have hcv2 : (convert 30 9 (.slice none 0 0)).run Try.prog W2 = Result.ok (.string (strOfNums [])) W2 := Wld.row_str (Row.nil _ _ _); clear hz hb))
  all_goals
    go_ret
    exact ⟨_, _, rfl, HZ2.out⟩
end
end Go.Proofs.Ytnhhcmnjfaeliaa.Vm
