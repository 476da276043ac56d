/- The reference's world, empty: what it tells; own text of this session. -/
import Derived.Test.YtnhhcmnjfaeliaaVmB
namespace Go.Proofs.Ytnhhcmnjfaeliaa.Vm
open Wld hiding St Ft Next cellsQ cellsP ReadPost ptrE ptrE_none ptrE_some law zeroP Key key_of info_u8 info_int ne_t ne_blk ne_map grown_below
open Go.RowKit Go.Proofs.YtnhhcmnjfaeliaaW.PrintWords Go.Proofs.YtnhhcmnjfaeliaaW.PrintLast Go.Maps
set_option linter.unusedVariables false
set_option linter.unusedSimpArgs false
/-- An empty world of the reference's. -/
def Emp (w : World) (x : Nat) : Prop := w.heap[x]? = some (.cells #[.slice none 0 0, .slice none 0 0] 29 (0, 0))
section
variable {w : World} {x : Nat}
set_option maxRecDepth 100000 in
theorem rfind (h : Emp w x) (c : Int) : Calls Try.prog 34 #[.pointer (some ⟨x, 0, none⟩), .int .i64 c] w fun e w' => e = .returned (.int .i64 (-1)) ∧ Below w.heap.size w w' := by
  have hz0 : w.cell? ⟨x, 0, none⟩ = some (.slice none 0 0) := (blk_cell h 0).trans rfl
  have hf0 := blk_frozen h 0
  clear h
  go_enter Try.func34, Try.ntmps34
  go_wp2
  go_loopw [12] (fun v12 wr => v12 = .int .i64 0 ∧ wr = w) (fun _ _ => 0)
  case atStart => exact ⟨rfl, rfl⟩
  case round =>
    obtain ⟨rfl, rfl⟩ := hrel
    go_wp2
    go_ret
    exact ⟨rfl, Below.refl _ _⟩
set_option maxRecDepth 100000 in
theorem rat (h : Emp w x) (c : Int) : Calls Try.prog 8 #[.pointer (some ⟨x, 0, none⟩), .int .i64 c] w fun e w' => e = .returned (.int .i64 (-1)) ∧ Below w.heap.size w w' := by
  have HA := Aside0.mk (rfind h c)
  clear h
  go_enter Try.func8, Try.ntmps8
  go_wp2_with (go_at_call 34; refine HA.out.mono ?_; rintro e w1 ⟨rfl, hb⟩; have HB := Aside0.mk hb; clear hb)
  go_ret
  exact ⟨rfl, HB.out⟩
set_option maxRecDepth 100000 in
theorem rclose (h : Emp w x) (c : Int) : Calls Try.prog 22 #[.pointer (some ⟨x, 0, none⟩), .int .i64 c] w fun e w' => e = .returned (.int .i64 6) ∧ Below w.heap.size w w' := by
  have HA := Aside0.mk (rat h c)
  clear h
  go_enter Try.func22, Try.ntmps22
  go_wp2_with (go_at_call 8; refine HA.out.mono ?_; rintro e w1 ⟨rfl, hb⟩; have HB := Aside0.mk hb; clear hb)
  go_ret
  exact ⟨rfl, by repeat (first | exact HB.out | apply below_drew1 | apply pw_below_drewN)⟩
set_option maxRecDepth 100000 in
theorem rend (h : Emp w x) (c : Int) : Calls Try.prog 25 #[.pointer (some ⟨x, 0, none⟩), .int .i64 c] w fun e w' => e = .returned (.int .i64 6) ∧ Below w.heap.size w w' := by
  have HA := Aside0.mk (rat h c)
  clear h
  go_enter Try.func25, Try.ntmps25
  go_wp2_with (go_at_call 8; refine HA.out.mono ?_; rintro e w1 ⟨rfl, hb⟩; have HB := Aside0.mk hb; clear hb)
  go_ret
  exact ⟨rfl, by repeat (first | exact HB.out | apply below_drew1 | apply pw_below_drewN)⟩
set_option maxRecDepth 100000 in
theorem rarrive (h : Emp w x) (c : Int) (v : Value) : Calls Try.prog 23 #[.pointer (some ⟨x, 0, none⟩), .int .i64 c, v] w fun e w' => e = .returned (.int .i64 6) ∧ Below w.heap.size w w' := by
  have HA := Aside0.mk (rat h c)
  clear h
  go_enter Try.func23, Try.ntmps23
  go_wp2_with (go_at_call 8; refine HA.out.mono ?_; rintro e w1 ⟨rfl, hb⟩; have HB := Aside0.mk hb; clear hb)
  go_ret
  exact ⟨rfl, by repeat (first | exact HB.out | apply below_drew1 | apply pw_below_drewN)⟩
set_option maxRecDepth 100000 in
theorem rroom (h : Emp w x) (c : Int) (n : Int) : Calls Try.prog 27 #[.pointer (some ⟨x, 0, none⟩), .int .i64 c, .int .i64 n] w fun e w' => e = .returned (.int .i64 6) ∧ Below w.heap.size w w' := by
  have HA := Aside0.mk (rat h c)
  clear h
  go_enter Try.func27, Try.ntmps27
  go_wp2_with (go_at_call 8; refine HA.out.mono ?_; rintro e w1 ⟨rfl, hb⟩; have HB := Aside0.mk hb; clear hb)
  go_ret
  exact ⟨rfl, by repeat (first | exact HB.out | apply below_drew1 | apply pw_below_drewN)⟩
set_option maxRecDepth 100000 in
theorem rread (h : Emp w x) (c : Int) (n : Int) : Calls Try.prog 26 #[.pointer (some ⟨x, 0, none⟩), .int .i64 c, .int .i64 n] w fun e w' => e = .returned (.tuple #[.slice none 0 0, .int .i64 6]) ∧ Below w.heap.size w w' := by
  have HA := Aside0.mk (rat h c)
  clear h
  go_enter Try.func26, Try.ntmps26
  go_wp2_with (go_at_call 8; refine HA.out.mono ?_; rintro e w1 ⟨rfl, hb⟩; have HB := Aside0.mk hb; clear hb)
  first | go_ret2 | go_ret
  exact ⟨rfl, by repeat (first | exact HB.out | apply below_drew1 | apply pw_below_drewN)⟩
set_option maxRecDepth 100000 in
theorem rwrite (h : Emp w x) (c : Int) (v : Value) : Calls Try.prog 28 #[.pointer (some ⟨x, 0, none⟩), .int .i64 c, v] w fun e w' => e = .returned (.tuple #[.int .i64 0, .int .i64 6]) ∧ Below w.heap.size w w' := by
  have HA := Aside0.mk (rat h c)
  clear h
  go_enter Try.func28, Try.ntmps28
  go_wp2_with (go_at_call 8; refine HA.out.mono ?_; rintro e w1 ⟨rfl, hb⟩; have HB := Aside0.mk hb; clear hb)
  first | go_ret2 | go_ret
  exact ⟨rfl, by repeat (first | exact HB.out | apply below_drew1 | apply pw_below_drewN)⟩
set_option maxRecDepth 100000 in
theorem rdraw0 (n : Int) (w : World) (x : Nat) (hn : n < 1) : Calls Try.prog 32 #[.pointer (some ⟨x, 0, none⟩), .int .i64 n] w fun e w' => e = .returned (.tuple #[.int .i64 0, .int .i64 1]) ∧ Below w.heap.size w w' := by
  go_enter Try.func32, Try.ntmps32
  go_wp2
  first | go_ret2 | go_ret
  exact ⟨rfl, by repeat (first | exact Below.refl _ _ | apply below_drew1 | apply pw_below_drewN)⟩
set_option maxRecDepth 100000 in
theorem rdraw1 (h : Emp w x) (n : Int) (hn : ¬ n < 1) : Calls Try.prog 32 #[.pointer (some ⟨x, 0, none⟩), .int .i64 n] w fun e w' => e = .returned (.tuple #[.int .i64 0, .int .i64 0]) ∧ Below w.heap.size w w' := by
  have hz1 : w.cell? ⟨x, 1, none⟩ = some (.slice none 0 0) := (blk_cell h 1).trans rfl
  have hf1 := blk_frozen h 1
  clear h
  go_enter Try.func32, Try.ntmps32
  go_wp2
  first | go_ret2 | go_ret
  exact ⟨rfl, by repeat (first | exact Below.refl _ _ | apply below_drew1 | apply pw_below_drewN)⟩
set_option maxRecDepth 100000 in
theorem rall (h : Emp w x) : Calls Try.prog 13 #[.pointer (some ⟨x, 0, none⟩)] w fun e w' => e = .returned (.slice none 0 0) ∧ Below w.heap.size w w' := by
  have hz0 : w.cell? ⟨x, 0, none⟩ = some (.slice none 0 0) := (blk_cell h 0).trans rfl
  have hf0 := blk_frozen h 0
  clear h
  go_enter Try.func13, Try.ntmps13
  go_wp2
  go_loopw [3, 13] (fun v3 v13 wr => v3 = .slice none 0 0 ∧ v13 = .int .i64 0 ∧ wr = w) (fun _ _ _ => 0)
  case atStart => exact ⟨rfl, rfl, rfl⟩
  case round =>
    obtain ⟨rfl, rfl, rfl⟩ := hrel
    go_wp2
    go_ret
    exact ⟨rfl, Below.refl _ _⟩
end
end Go.Proofs.Ytnhhcmnjfaeliaa.Vm
