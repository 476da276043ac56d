/- Package world, by hand: New, All, Open; the nil world; own text of this session. -/
import Derived.Test.YtnhhcmnjfaeliaaVldA
namespace Go.Proofs.Ytnhhcmnjfaeliaa.Wld
open Go.RowKit Go.Proofs.YtnhhcmnjfaeliaaW.PrintWords Go.Proofs.YtnhhcmnjfaeliaaW.PrintLast Go.Maps
set_option linter.unusedVariables false
set_option linter.unusedSimpArgs false
/-- A world without connections. -/
structure St0 (w : World) (p bm : Nat) : Prop where
  blkP : w.heap[p]? = some (.cells (cellsP bm (.slice none 0 0)) 55 (0, 0))
  own : w.ownsMap Try.prog 3 ptrE bm 0 (.map [])
theorem St0.below {w w' : World} {p bm : Nat} (h : St0 w p bm) (hb : Below w.heap.size w w') : St0 w' p bm :=
  ⟨(hb.block p (blk_lt h.blkP)).trans h.blkP, h.own.kept (grown_below hb none) (by simp)⟩
theorem blk_two (w : World) (o1 o2 : Obj) : ((w.alloc o1).alloc o2).heap[w.heap.size + 1]? = some o2 := by
  have h := blk_new (w.alloc o1) o2
  have e : (w.alloc o1).heap.size = w.heap.size + 1 := by simp
  rwa [e] at h
set_option maxRecDepth 100000 in
theorem new_calls (w : World) :
    Calls Try.prog 5 #[] w fun e w' => ∃ p bm, e = .returned (.pointer (some ⟨p, 0, none⟩)) ∧ St0 w' p bm ∧ w.heap.size ≤ p ∧ w.heap.size ≤ bm ∧ Below w.heap.size w w' := by
  have hmm := @run_makeMap Try.prog
  go_enter Try.func5, Try.ntmps5
  go_wp2
  go_ret
  exact ⟨w.heap.size + 1, w.heap.size, rfl, ⟨blk_two _ _ _, (World.ownsMap_made _ _ _ _).alloc _⟩, Nat.le_succ _, Nat.le_refl _, below_alloc (below_alloc (Below.refl _ _) _) _⟩
set_option maxHeartbeats 4000000 in
set_option maxRecDepth 100000 in
theorem all_none {w : World} {p bm : Nat} (h : St0 w p bm) :
    Calls Try.prog 12 #[.pointer (some ⟨p, 0, none⟩)] w fun e w' => e = .returned (.slice none 0 0) ∧ Below w.heap.size w w' := by
  have H := Aside0.mk h
  have hz0 : w.cell? ⟨p, 0, none⟩ = some (.map (some bm)) := (blk_cell h.blkP 0).trans rfl
  clear h
  go_enter Try.func12, Try.ntmps12
  go_wp2_with (at_range; refine wpList_range_own _ rfl _ 53 rfl 3 64 law Try.underlying53 ptrE bm 0 (.map []) rfl H.out.own ?_; intro w0 hrg0 hg0 hs0; have HR0 := Aside0.mk hrg0; have HG0 := Aside0.mk hg0; clear hrg0 hg0 hs0 hz0)
  go_frame
  obtain ⟨r, hr⟩ : ∃ r, r = w.heap.size := ⟨_, rfl⟩
  have HRr := Aside0.mk hr
  rw [← hr]
  rw [← hr] at HR0
  clear hr
  go_loopw [3] (fun v3 wr => v3 = .slice none 0 0 ∧ Aside0 (∃ left, wr.ranges Try.prog 3 ptrE bm r 0 (.map []) left 0) ∧ Aside0 (Below w.heap.size w wr)) (fun _ wr => wr.rangeLeft bm r)
  case atStart => exact ⟨rfl, ⟨_, HR0.out⟩, ⟨⟨HG0.out.os, HG0.out.tape, HG0.out.output, HG0.out.size, fun k hk => HG0.out.block k hk (by simp)⟩⟩⟩
  case round =>
    obtain ⟨rfl, ⟨left, hrg⟩, HB⟩ := hrel
    have HRg := Aside0.mk hrg
    clear hrg HR0
    have HS := Aside0.mk (sort_small none 0 0 wr (by decide))
    go_wp2_with (first
      | (at_next; refine wpList_next_ranges _ rfl _ rfl 3 law ptrE (Value.int .i64) (fun o : Option Nat => Value.pointer (o.map fun b => ⟨b, 0, none⟩)) ?iK ?iV bm r 0 (.map []) left 0 rfl HRg.out ?_ (fun x cc kl y w1 cnt1 hkey hlk hv hat hrg1 hlt hg1 hs1 hen => absurd hlt (Nat.not_lt_zero _)); (case iK => intro key kl hk; obtain ⟨x, hx, _⟩ := keyOf_int_inv Try.underlying3 hk; exact ⟨x, hx⟩); (case iV => intro v y hv; unfold ptrE at hv; split at hv; exact ⟨none, rfl⟩; exact ⟨some _, rfl⟩; cases hv); intro _ _)
      | (go_at_call 36; refine HS.out.mono ?_; rintro e w2 ⟨rfl, rfl⟩))
    go_ret
    exact ⟨rfl, HB.out⟩
end Go.Proofs.Ytnhhcmnjfaeliaa.Wld
