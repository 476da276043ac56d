/- Package world, by hand: what is left of the calls on any connections; own text of this session. -/
import Derived.Test.YtnhhcmnjfaeliaaVm11
namespace Go.Proofs.Ytnhhcmnjfaeliaa.Vm
open Wld hiding St Ft Next cellsQ cellsP ReadPost ptrE ptrE_none ptrE_some law zeroP Key key_of info_u8 info_int ne_t ne_blk ne_map grown_below
open Go.RowKit Go.Proofs.YtnhhcmnjfaeliaaW.PrintWords Go.Proofs.YtnhhcmnjfaeliaaW.PrintLast Go.Maps
set_option linter.unusedVariables false
set_option linter.unusedSimpArgs false
section
variable {w : World} {p bm sz q : Nat} {Dm : DataW Unit} {vw vs vd : Value} {c : Int} {en : Bool} {ws ss : List Int} {room : Int} {ds : List Int}
set_option maxRecDepth 100000 in
theorem arrive_ended (h : St w p bm sz Dm q vw vs vd c true true ws ss room ds) (hc : (Key c).wf = true) (v : Value) :
    Calls Try.prog 17 #[.pointer (some ⟨p, 0, none⟩), .int .i64 c, v] w fun e w' => e = .returned (.int .i64 7) ∧ Below w.heap.size w w' := by
  have HA := Aside0.mk (at_calls h hc)
  have hz1 : w.cell? ⟨q, 1, none⟩ = some (.bool true) := (blk_cell h.blkQ 1).trans rfl
  have hf1 := blk_frozen h.blkQ 1
  clear h hc
  go_enter Try.func17, Try.ntmps17
  go_wp2_with (go_at_call 33; refine HA.out.mono ?_; rintro e w1 ⟨rfl, rfl⟩)
  go_ret
  exact ⟨rfl, by repeat (first | exact Below.refl _ _ | apply below_drew1 | apply pw_below_drewN)⟩
set_option maxRecDepth 100000 in
theorem room_neg (h : St w p bm sz Dm q vw vs vd c true en ws ss room ds) (hc : (Key c).wf = true) (n : Int) (hn : n < 0) :
    Calls Try.prog 16 #[.pointer (some ⟨p, 0, none⟩), .int .i64 c, .int .i64 n] w fun e w' => e = .returned (.int .i64 1) ∧ Below w.heap.size w w' := by
  have HA := Aside0.mk (at_calls h hc)
  clear h hc
  go_enter Try.func16, Try.ntmps16
  go_wp2_with (go_at_call 33; refine HA.out.mono ?_; rintro e w1 ⟨rfl, rfl⟩)
  go_ret
  exact ⟨rfl, by repeat (first | exact Below.refl _ _ | apply below_drew1 | apply pw_below_drewN)⟩
set_option maxRecDepth 100000 in
theorem draw_neg (n : Int) (w : World) (p : Nat) (hn : n < 1) : Calls Try.prog 31 #[.pointer (some ⟨p, 0, none⟩), .int .i64 n] w fun e w' => e = .returned (.tuple #[.int .i64 0, .int .i64 1]) ∧ Below w.heap.size w w' := by
  go_enter Try.func31, Try.ntmps31
  go_wp2
  first | go_ret2 | go_ret
  exact ⟨rfl, by repeat (first | exact Below.refl _ _ | apply below_drew1 | apply pw_below_drewN)⟩
set_option maxRecDepth 100000 in
theorem draw_none {A : Option Addr} {cd : Nat} (hP : w.heap[p]? = some (.cells (cellsP bm (.slice A 0 cd)) 55 (0, 0))) (n : Int) (hn : ¬ n < 1) : Calls Try.prog 31 #[.pointer (some ⟨p, 0, none⟩), .int .i64 n] w fun e w' => e = .returned (.tuple #[.int .i64 0, .int .i64 0]) ∧ Below w.heap.size w w' := by
  have hz1 : w.cell? ⟨p, 1, none⟩ = some (.slice A 0 cd) := (blk_cell hP 1).trans rfl
  have hf1 := blk_frozen hP 1
  clear hP
  go_enter Try.func31, Try.ntmps31
  go_wp2
  first | go_ret2 | go_ret
  exact ⟨rfl, by repeat (first | exact Below.refl _ _ | apply below_drew1 | apply pw_below_drewN)⟩
end
end Go.Proofs.Ytnhhcmnjfaeliaa.Vm
