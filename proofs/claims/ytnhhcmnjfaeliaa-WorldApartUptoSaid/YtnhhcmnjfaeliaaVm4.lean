/- Package world, by hand: what Read, Room, Write, Sent come to; own text of this session. -/
import Derived.Test.YtnhhcmnjfaeliaaVld4
import Derived.Test.YtnhhcmnjfaeliaaVm3
import Derived.Deep.RegionWith
namespace Go.Proofs.Ytnhhcmnjfaeliaa.Vm
open Wld hiding St Ft Next cellsQ cellsP ReadPost
open Go.RowKit Go.Proofs.YtnhhcmnjfaeliaaW.PrintWords Go.Proofs.YtnhhcmnjfaeliaaW.PrintLast Go.Maps
set_option linter.unusedVariables false
set_option linter.unusedSimpArgs false
/-- What Read comes to. -/
def ReadPost (w : World) (p bm sz : Nat) (Dm : DataW Unit) (q : Nat) (vw vs vd : Value) (c : Int) (en : Bool) (ws ss : List Int) (room : Int) (ds : List Int) (m : Nat) (e : Ending) (w' : World) : Prop :=
  ∃ (A1 : Option Addr) (c1 : Nat) (vw' : Value), e = .returned (.tuple #[.slice A1 m c1, .int .i64 0]) ∧ St w' p bm sz Dm q vw' vs vd c true en (ws.drop m) ss room ds ∧ (∀ k, Ft p bm q vw' vs vd k → Ft p bm q vw vs vd k) ∧ Stay (Ft p bm q vw vs vd) w w' ∧
    Row .u8 5 w' (.slice A1 m c1) (ws.take m) ∧ (∀ i, (Value.slice A1 m c1).ownBlock = some i → w.heap.size ≤ i)
section
variable {w : World} {p bm sz q : Nat} {Dm : DataW Unit} {vw vs vd : Value} {c : Int} {en : Bool} {ws ss : List Int} {room : Int} {ds : List Int}
set_option maxHeartbeats 4000000 in
set_option maxRecDepth 100000 in
theorem read_calls (h : St w p bm sz Dm q vw vs vd c true en ws ss room ds) (hc : (Key c).wf = true) (hw : ws.length ≤ 1048576) (n : Int) (m : Nat) (hm : (m : Int) = max 0 (min n ws.length)) :
    Calls Try.prog 18 #[.pointer (some ⟨p, 0, none⟩), .int .i64 c, .int .i64 n] w (ReadPost w p bm sz Dm q vw vs vd c en ws ss room ds m) := by
  have HA := Aside0.mk (at_calls h hc)
  obtain ⟨Aw, cw, rfl, hcw⟩ := h.rw.slice
  obtain ⟨W, hW⟩ : ∃ W, W = ws.length := ⟨_, rfl⟩
  have HW := Aside0.mk hW
  rw [← hW] at h hcw hw hm ⊢
  have H := Aside0.mk h
  have hmW : m ≤ W := by omega
  have hz2 : w.cell? ⟨q, 2, none⟩ = some (.slice Aw W cw) := (blk_cell h.blkQ 2).trans rfl
  obtain ⟨i5, hi5, hzz⟩ := Option.map_eq_some_iff.1 info_u8
  simp only [Prod.mk.injEq] at hzz
  have hcut := cut_at 30 5 Try.underlying30 hi5 hzz.2.1 Aw W cw m hmW
  have hdrop := h.rw.drop hmW
  have hown := cut_own (A := Aw) (n := W) (c := cw) (m := m) (n' := W - m) (c' := cw - m)
  obtain ⟨A', hA'⟩ : ∃ A', A' = (if cw = m then Aw else Aw.map (·.add m)) := ⟨_, rfl⟩
  rw [← hA'] at hcut hdrop hown
  obtain ⟨N', hN'⟩ : ∃ x, x = W - m := ⟨_, rfl⟩
  obtain ⟨C', hC'⟩ : ∃ x, x = cw - m := ⟨_, rfl⟩
  rw [← hN', ← hC'] at hcut hdrop hown
  have HDr := Aside0.mk hdrop
  have HOw := Aside0.mk hown
  have htl : m = (ws.take m).length := by rw [List.length_take]; omega
  have Htl := Aside0.mk htl
  have HCl := Aside0.mk (cloneB_calls (ws.take m) m htl Aw cw w (by rw [← htl]; exact C_take (hW ▸ h.rw.C.2.2) m hmW) (by omega) (by omega))
  have hmc : m ≤ cw := by omega
  have hWn : (W : Int) ≤ 1048576 := by omega
  clear h hc hdrop hown hA' hN' hC' hi5 hzz htl hW hcw hw
  by_cases h1 : n < 0
  · obtain rfl : m = 0 := by omega
    have e1 : min n (W : Int) = n := by omega
    have e2 : max 0 n = 0 := by omega
    have h2 : n < (W : Int) := by omega
    have h3 : ¬ 0 < n := by omega
    have h4 : ¬ (W : Int) < n := by omega
    clear hm
    go_enter Try.func18, Try.ntmps18
    go_wp2_with (first
      | (go_at_call 33; refine HA.out.mono ?_; rintro e w1 ⟨rfl, rfl⟩)
      | (go_at_call 35; refine HCl.out.mono ?_; rintro e w2 ⟨v2, rfl, hR2, hb2⟩; obtain ⟨A1, c1, e1'⟩ := Kd.R_slice hR2; rw [← Htl.out] at e1'; subst e1'; have HB2 := Aside0.mk hb2; have HR2 := Aside0.mk (R_row hR2); have H2 := Aside0.mk (H.out.below hb2); have hy2 : w2.cell? ⟨q, 2, none⟩ = some (.slice Aw W cw) := (blk_cell H2.out.blkQ 2).trans rfl; have hf2 := blk_frozen H2.out.blkQ 2; clear hR2 hb2 hz2))
    go_ret2
    obtain ⟨_, hst, hft, hsy⟩ := H2.out.toW (grown_refl _ _) H2.out.rw (fun i hi => .inl hi)
    exact ⟨A1, c1, _, rfl, hst, fun k hk => (hft k hk).elim id (fun h5 => absurd (hst.lt k hk) (by rw [set_size]; omega)), (Stay.below HB2.out).trans hsy (fun k hk => .inl hk),
      HR2.out.1.keep (fun i hi hl => Below.heap_setCell _ _ _ _ (by have := HR2.out.2 i hi; have h6 := H.out.lt q (.inr (.inr (.inl rfl))); show i ≠ q; omega)), HR2.out.2⟩
  · by_cases h5 : n ≤ (W : Int)
    · obtain rfl : n = (m : Int) := by omega
      have e1 : min (m : Int) (W : Int) = (m : Int) := by omega
      have e2 : max 0 (m : Int) = (m : Int) := by omega
      have h4 : ¬ (W : Int) < (m : Int) := by omega
      clear hm h1
      go_enter Try.func18, Try.ntmps18
      go_wp2_with (first
        | (go_at_call 33; refine HA.out.mono ?_; rintro e w1 ⟨rfl, rfl⟩)
        | (go_at_call 35; refine HCl.out.mono ?_; rintro e w2 ⟨v2, rfl, hR2, hb2⟩; obtain ⟨A1, c1, e1'⟩ := Kd.R_slice hR2; rw [← Htl.out] at e1'; subst e1'; have HB2 := Aside0.mk hb2; have HR2 := Aside0.mk (R_row hR2); have H2 := Aside0.mk (H.out.below hb2); have hy2 : w2.cell? ⟨q, 2, none⟩ = some (.slice Aw W cw) := (blk_cell H2.out.blkQ 2).trans rfl; have hf2 := blk_frozen H2.out.blkQ 2; clear hR2 hb2 hz2))
      go_ret2
      obtain ⟨_, hst, hft, hsy⟩ := H2.out.toW (grown_refl _ _) (HDr.out.below HB2.out) (fun i hi => .inl (HOw.out i hi))
      exact ⟨A1, c1, _, rfl, hst, fun k hk => (hft k hk).elim id (fun h5 => absurd (hst.lt k hk) (by rw [set_size]; omega)), (Stay.below HB2.out).trans hsy (fun k hk => .inl hk),
        HR2.out.1.keep (fun i hi hl => Below.heap_setCell _ _ _ _ (by have := HR2.out.2 i hi; have h6 := H.out.lt q (.inr (.inr (.inl rfl))); show i ≠ q; omega)), HR2.out.2⟩
    · obtain rfl : m = W := by omega
      have e1 : min n (m : Int) = (m : Int) := by omega
      have e2 : max 0 (m : Int) = (m : Int) := by omega
      have h4 : (m : Int) < n := by omega
      have h6 : ¬ n < (m : Int) := by omega
      clear hm h1
      go_enter Try.func18, Try.ntmps18
      go_wp2_with (first
        | (go_at_call 33; refine HA.out.mono ?_; rintro e w1 ⟨rfl, rfl⟩)
        | (go_at_call 35; refine HCl.out.mono ?_; rintro e w2 ⟨v2, rfl, hR2, hb2⟩; obtain ⟨A1, c1, e1'⟩ := Kd.R_slice hR2; rw [← Htl.out] at e1'; subst e1'; have HB2 := Aside0.mk hb2; have HR2 := Aside0.mk (R_row hR2); have H2 := Aside0.mk (H.out.below hb2); have hy2 : w2.cell? ⟨q, 2, none⟩ = some (.slice Aw m cw) := (blk_cell H2.out.blkQ 2).trans rfl; have hf2 := blk_frozen H2.out.blkQ 2; clear hR2 hb2 hz2))
      go_ret2
      obtain ⟨_, hst, hft, hsy⟩ := H2.out.toW (grown_refl _ _) (HDr.out.below HB2.out) (fun i hi => .inl (HOw.out i hi))
      exact ⟨A1, c1, _, rfl, hst, fun k hk => (hft k hk).elim id (fun h5 => absurd (hst.lt k hk) (by rw [set_size]; omega)), (Stay.below HB2.out).trans hsy (fun k hk => .inl hk),
        HR2.out.1.keep (fun i hi hl => Below.heap_setCell _ _ _ _ (by have := HR2.out.2 i hi; have h6 := H.out.lt q (.inr (.inr (.inl rfl))); show i ≠ q; omega)), HR2.out.2⟩
set_option maxHeartbeats 4000000 in
set_option maxRecDepth 100000 in
theorem room_calls (h : St w p bm sz Dm q vw vs vd c true en ws ss room ds) (hc : (Key c).wf = true) (n : Int) (hn : 0 ≤ n) (hr0 : 0 ≤ room) (hr1 : room ≤ 1048576) :
    Calls Try.prog 16 #[.pointer (some ⟨p, 0, none⟩), .int .i64 c, .int .i64 n] w fun e w' => e = .returned (.int .i64 0) ∧ Next w p bm sz Dm q vw vs vd c true en ws ss (room + min n (1048576 - room)) ds w' := by
  have HA := Aside0.mk (at_calls h hc)
  have H := Aside0.mk h
  have hz4 : w.cell? ⟨q, 4, none⟩ = some (.int .i64 room) := (blk_cell h.blkQ 4).trans rfl
  have hf4 := blk_frozen h.blkQ 4
  have hn3 : ¬ n < 0 := by omega
  have hw1 : IntKind.i64.wrap (1048576 - room) = 1048576 - room := IntWalk.i64_in _ (by omega)
  obtain ⟨s, hs⟩ : ∃ s, s = room + min n (1048576 - room) := ⟨_, rfl⟩
  rw [← hs]
  clear h hc
  by_cases h1 : n ≤ 1048576 - room
  · have e1 : min n (1048576 - room) = n := by omega
    have e2 : IntKind.i64.wrap (room + n) = s := (IntWalk.i64_in _ (by omega)).trans (by omega)
    have h3 : ¬ 1048576 - room < n := by omega
    clear hs hr0 hr1 hn
    go_enter Try.func16, Try.ntmps16
    go_wp2_with (go_at_call 33; refine HA.out.mono ?_; rintro e w1 ⟨rfl, rfl⟩)
    go_region
    all_goals
      go_wp2
      go_ret
      exact ⟨rfl, vw, vs, vd, (H.out.setQ rfl).below (below_drew (Below.refl _ _)), fun k hk => .inl hk, stay_low (H.out.stayQ _ _) (below_drew (Below.refl _ _))⟩
  · have e1 : min n (1048576 - room) = 1048576 - room := by omega
    have e2 : IntKind.i64.wrap (room + (1048576 - room)) = s := (IntWalk.i64_in _ (by omega)).trans (by omega)
    have h3 : 1048576 - room < n := by omega
    clear hs hr0 hr1 hn
    go_enter Try.func16, Try.ntmps16
    go_wp2_with (go_at_call 33; refine HA.out.mono ?_; rintro e w1 ⟨rfl, rfl⟩)
    go_region
    all_goals
      go_wp2
      go_ret
      exact ⟨rfl, vw, vs, vd, (H.out.setQ rfl).below (below_drew (Below.refl _ _)), fun k hk => .inl hk, stay_low (H.out.stayQ _ _) (below_drew (Below.refl _ _))⟩
end
end Go.Proofs.Ytnhhcmnjfaeliaa.Vm
