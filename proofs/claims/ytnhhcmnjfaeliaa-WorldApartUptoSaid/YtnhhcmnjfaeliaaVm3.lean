/- Package world, by hand: slices.Sort of one number at most; slices.Clone; what End, Waits, Arrive, Read come to; own text of this session. -/
import Derived.Test.YtnhhcmnjfaeliaaVld3
import Derived.Test.YtnhhcmnjfaeliaaVm2
import Derived.Test.YtnhhcmnjfaeliaaShelf
import Derived.Handy
namespace Go.Proofs.Ytnhhcmnjfaeliaa.Vm
open Wld hiding St Ft Next cellsQ cellsP
open Go.RowKit Go.Proofs.YtnhhcmnjfaeliaaW.PrintWords Go.Proofs.YtnhhcmnjfaeliaaW.PrintLast Go.Maps
set_option linter.unusedVariables false
set_option linter.unusedSimpArgs false
set_option maxRecDepth 100000 in
set_option maxRecDepth 100000 in
set_option maxRecDepth 100000 in
set_option maxHeartbeats 4000000 in
set_option maxRecDepth 100000 in
section
variable {w : World} {p bm sz q : Nat} {Dm : DataW Unit} {vw vs vd : Value} {c : Int} {en : Bool} {ws ss : List Int} {room : Int} {ds : List Int}
set_option maxRecDepth 100000 in
theorem end_calls (h : St w p bm sz Dm q vw vs vd c true en ws ss room ds) (hc : (Key c).wf = true) :
    Calls Try.prog 24 #[.pointer (some ⟨p, 0, none⟩), .int .i64 c] w fun e w' => e = .returned (.int .i64 0) ∧ Next w p bm sz Dm q vw vs vd c true true ws ss room ds w' := by
  have HA := Aside0.mk (at_calls h hc)
  have H := Aside0.mk h
  have hz1 : w.cell? ⟨q, 1, none⟩ = some (.bool en) := (blk_cell h.blkQ 1).trans rfl
  have hf1 := blk_frozen h.blkQ 1
  clear h hc
  go_enter Try.func24, Try.ntmps24
  go_wp2_with (go_at_call 33; refine HA.out.mono ?_; rintro e w1 ⟨rfl, rfl⟩)
  go_ret
  exact ⟨rfl, vw, vs, vd, H.out.setQ rfl, fun k hk => .inl hk, H.out.stayQ _ _⟩
set_option maxRecDepth 100000 in
theorem waits_calls (h : St w p bm sz Dm q vw vs vd c true en ws ss room ds) (hc : (Key c).wf = true) :
    Calls Try.prog 7 #[.pointer (some ⟨p, 0, none⟩), .int .i64 c] w fun e w' => e = .returned (.tuple #[.int .i64 (ws.length : Int), .bool en]) ∧ Below w.heap.size w w' := by
  have HA := Aside0.mk (at_calls h hc)
  obtain ⟨Aw, cw, rfl, _⟩ := h.rw.slice
  obtain ⟨W, hW⟩ : ∃ W, W = ws.length := ⟨_, rfl⟩
  rw [← hW] at h
  rw [← hW]
  have hz1 : w.cell? ⟨q, 1, none⟩ = some (.bool en) := (blk_cell h.blkQ 1).trans rfl
  have hz2 : w.cell? ⟨q, 2, none⟩ = some (.slice Aw W cw) := (blk_cell h.blkQ 2).trans rfl
  clear h hc hW
  go_enter Try.func7, Try.ntmps7
  go_wp2_with (go_at_call 33; refine HA.out.mono ?_; rintro e w1 ⟨rfl, rfl⟩)
  go_region
  all_goals
    go_wp2
    go_ret2
    exact ⟨rfl, below_drew (Below.refl _ _)⟩
set_option maxHeartbeats 4000000 in
set_option maxRecDepth 100000 in
theorem arrive_ok (h : St w p bm sz Dm q vw vs vd c true false ws ss room ds) (hc : (Key c).wf = true) (A : Option Addr) (n cb : Nat) (b : List Int) (hn : n = b.length) (hb : (Kd.int .u8).C w A b.length b) (hl : b.length + ws.length ≤ 1048576) :
    Calls Try.prog 17 #[.pointer (some ⟨p, 0, none⟩), .int .i64 c, .slice A n cb] w fun e w' => e = .returned (.int .i64 0) ∧ Next w p bm sz Dm q vw vs vd c true false (ws ++ b) ss room ds w' := by
  have HA := Aside0.mk (at_calls h hc)
  obtain ⟨Aw, cw, rfl, _⟩ := h.rw.slice
  obtain ⟨W, hW⟩ : ∃ W, W = ws.length := ⟨_, rfl⟩
  have HW := Aside0.mk hW
  rw [← hW] at h ⊢
  have H := Aside0.mk h
  have HB := Aside0.mk hb
  have Hn := Aside0.mk hn
  have HL := Aside0.mk hl
  have hz1 : w.cell? ⟨q, 1, none⟩ = some (.bool false) := (blk_cell h.blkQ 1).trans rfl
  have hz2 : w.cell? ⟨q, 2, none⟩ = some (.slice Aw W cw) := (blk_cell h.blkQ 2).trans rfl
  have hs0 : 0 ≤ 1048576 - (W : Int) := by omega
  have hs1 : ¬ 1048576 - (W : Int) < (n : Int) := by omega
  have hW0 : (W : Int) ≤ 1048576 := by omega
  clear h hc hW hb hn hl
  go_enter Try.func17, Try.ntmps17
  go_wp2_with (first
    | (go_at_call 33; refine HA.out.mono ?_; rintro e w1 ⟨rfl, rfl⟩)
    | ((with_reducible refine gate_builtin (b := .append) (xs := #[.tmp 33, .tmp 34]) rfl ?_); at_builtin; refine append_row (bytes := 1) rfl (.tmp 33) (.tmp 34) rfl Try.underlying30 info_u8 (by decide) (.slice Aw W cw) ws A n cb b rfl rfl H.out.rw HB.out Hn.out (by have := HL.out; omega) ?_; intro v1 w2 hR hg hat; obtain ⟨A1, c1, e1, _⟩ := hR.slice; obtain ⟨N1, hN1⟩ : ∃ N, N = (ws ++ b).length := ⟨_, rfl⟩; rw [← hN1] at e1; clear hN1; obtain ⟨hq2, hst, hft, hsy⟩ := H.out.toW hg hR (at_to hat); have HSt := Aside0.mk hst; have HFt := Aside0.mk hft; have HSy := Aside0.mk hsy; have hy2 : w2.cell? ⟨q, 2, none⟩ = some (.slice Aw W cw) := (blk_cell hq2 2).trans rfl; have hf2 := blk_frozen hq2 2; clear hR hg hat hq2 hst hft hsy hz1 hz2; subst e1))
  go_ret
  exact ⟨rfl, _, vs, vd, HSt.out, HFt.out, HSy.out⟩
set_option maxRecDepth 100000 in
theorem arrive_long (h : St w p bm sz Dm q vw vs vd c true false ws ss room ds) (hc : (Key c).wf = true) (A : Option Addr) (n cb : Nat) (hw : ws.length ≤ 1048576) (hl : 1048576 < n + ws.length) :
    Calls Try.prog 17 #[.pointer (some ⟨p, 0, none⟩), .int .i64 c, .slice A n cb] w fun e w' => e = .returned (.int .i64 2) ∧ w' = w := by
  have HA := Aside0.mk (at_calls h hc)
  obtain ⟨Aw, cw, rfl, _⟩ := h.rw.slice
  obtain ⟨W, hW⟩ : ∃ W, W = ws.length := ⟨_, rfl⟩
  rw [← hW] at h
  have hz1 : w.cell? ⟨q, 1, none⟩ = some (.bool false) := (blk_cell h.blkQ 1).trans rfl
  have hz2 : w.cell? ⟨q, 2, none⟩ = some (.slice Aw W cw) := (blk_cell h.blkQ 2).trans rfl
  have hs0 : 0 ≤ 1048576 - (W : Int) := by omega
  have hs1 : 1048576 - (W : Int) < (n : Int) := by omega
  have hW0 : (W : Int) ≤ 1048576 := by omega
  clear h hc hW hl hw
  go_enter Try.func17, Try.ntmps17
  go_wp2_with (go_at_call 33; refine HA.out.mono ?_; rintro e w1 ⟨rfl, rfl⟩)
  go_returns
  exact ⟨rfl, rfl⟩
end
end Go.Proofs.Ytnhhcmnjfaeliaa.Vm
