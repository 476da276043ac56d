/- Package world, by hand: what Write, Sent, Give, Draw come to; own text of this session. -/
import Derived.Test.YtnhhcmnjfaeliaaVld4
namespace Go.Proofs.Ytnhhcmnjfaeliaa.Wld
open Go.RowKit Go.Proofs.YtnhhcmnjfaeliaaW.PrintWords Go.Proofs.YtnhhcmnjfaeliaaW.PrintLast Go.Maps
set_option linter.unusedVariables false
set_option linter.unusedSimpArgs false
theorem C_blk {k : IntKind} {W : World} {b : Nat} {C : Array Value} {ty : TypeId} {fr : Nat × Nat} {xs : List Int} (h : W.heap[b]? = some (.cells C ty fr))
    (hc : ∀ i, i < xs.length → C[i]? = some (.int k (xs.getD i 0))) (hm : xs.length ≤ 9223372036854775807) : (Kd.int k).C W (some ⟨b, 0, none⟩) xs.length xs := by
  refine Kd.C_of_reads (d := (0 : Int)) (h1 := fun _ => rfl) ⟨rfl, hm, fun _ => ⟨_, rfl, fun j hj => ?_⟩⟩
  rw [add_plain]
  unfold World.cell?
  simp only [h, Option.isSome_none, Bool.false_eq_true, if_false]
  exact hc j hj
section
variable {w : World} {p bm q : Nat} {vw vs vd : Value} {c : Int} {en : Bool} {ws ss : List Int} {room : Int} {ds : List Int}
set_option maxHeartbeats 4000000 in
set_option maxRecDepth 100000 in
theorem write_calls (h : St w p bm q vw vs vd c en ws ss room ds) (hc : (Key c).wf = true) (A : Option Addr) (N cb : Nat) (b : List Int) (hN : N = b.length) (hcb : N ≤ cb) (hb : (Kd.int .u8).C w A b.length b) (n : Nat) (hn : (n : Int) = min (b.length : Int) room)
    (hr0 : 0 ≤ room) (hr1 : room ≤ 1048576) (hl : ss.length + n ≤ 140737488355328) :
    Calls Try.prog 19 #[.pointer (some ⟨p, 0, none⟩), .int .i64 c, .slice A N cb] w fun e w' => e = .returned (.tuple #[.int .i64 (n : Int), .int .i64 0]) ∧ Next w p bm q vw vs vd c en ws (ss ++ b.take n) (room - n) ds w' := by
  have HA := Aside0.mk (at_calls h.blkP h.own h.blkQ hc)
  obtain ⟨As, cs, rfl, hcs⟩ := h.rs.slice
  obtain ⟨S, hS⟩ : ∃ S, S = ss.length := ⟨_, rfl⟩
  have HSl := Aside0.mk hS
  rw [← hS] at h hl ⊢
  rw [← hN] at hn
  have H := Aside0.mk h
  have hnN : n ≤ N := by omega
  have hnc : n ≤ cb := by omega
  have htl : n = (b.take n).length := by rw [List.length_take]; omega
  have Htl := Aside0.mk htl
  have HCt := Aside0.mk (C_take hb n (by omega))
  have hz4 : w.cell? ⟨q, 4, none⟩ = some (.int .i64 room) := (blk_cell h.blkQ 4).trans rfl
  have hz3 : w.cell? ⟨q, 3, none⟩ = some (.slice As S cs) := (blk_cell h.blkQ 3).trans rfl
  have hk0 : 0 ≤ room - (n : Int) := by omega
  have hk1 : room - (n : Int) ≤ 1048576 := by omega
  have HL := Aside0.mk hl
  have hrest : True := trivial
  obtain ⟨T, hT⟩ : ∃ T, T = b.take n := ⟨_, rfl⟩
  rw [← hT] at Htl HCt
  rw [← hT]
  clear h hc htl hb hS hl hN hT
  by_cases h1 : (N : Int) ≤ room
  · obtain rfl : n = N := by omega
    have h3 : ¬ room < (n : Int) := by omega
    have e1 : min (n : Int) room = (n : Int) := by omega
    clear hn
    go_enter Try.func19, Try.ntmps19
    go_wp2_with (go_at_call 33; refine HA.out.mono ?_; rintro e w1 ⟨rfl, rfl⟩)
    go_region_law (refine step_append_row (bytes := 1) (by rfl) (.tmp 26) (.tmp 29) rfl Try.underlying30 info_u8 (by decide) (.slice As S cs) ss A n cb T rfl rfl H.out.drew.rs (by rw [← Htl.out]; exact Kd.C_below HCt.out (below_drew (Below.refl _ _))) Htl.out (by have := HL.out; have := HSl.out; have := Htl.out; omega) ?_; intro v1 w2 hR hg hat; obtain ⟨A1, c1, e1', _⟩ := hR.slice; obtain ⟨N1, hN1⟩ : ∃ N, N = (ss ++ T).length := ⟨_, rfl⟩; rw [← hN1] at e1'; clear hN1; obtain ⟨hq2, hst, hft, hsy⟩ := H.out.drew.toS hg hR (at_to hat); have HSt := Aside0.mk hst; have HFt := Aside0.mk hft; have HSy := Aside0.mk hsy; have hy3 : w2.cell? ⟨q, 3, none⟩ = some (.slice As S cs) := (blk_cell hq2 3).trans rfl; have hy4 : w2.cell? ⟨q, 4, none⟩ = some (.int .i64 room) := (blk_cell hq2 4).trans rfl; have hf3 := blk_frozen hq2 3; have hf4 := blk_frozen hq2 4; clear hR hg hat hq2 hst hft hsy; subst e1')
    all_goals
      go_wp2
      go_ret2
      exact ⟨rfl, _, _, _, HSt.out.setQ rfl, HFt.out, ((Stay.below (below_drew (Below.refl _ _))).trans HSy.out (fun k hk => .inl hk)).set (.inr (.inr (.inl rfl))) _⟩
  · obtain rfl : room = (n : Int) := by omega
    have h3 : (n : Int) < (N : Int) := by omega
    have e1 : min (N : Int) (n : Int) = (n : Int) := by omega
    clear hn h1
    go_enter Try.func19, Try.ntmps19
    go_wp2_with (go_at_call 33; refine HA.out.mono ?_; rintro e w1 ⟨rfl, rfl⟩)
    go_region_law (refine step_append_row (bytes := 1) (by rfl) (.tmp 26) (.tmp 29) rfl Try.underlying30 info_u8 (by decide) (.slice As S cs) ss A n cb T rfl rfl H.out.drew.rs (by rw [← Htl.out]; exact Kd.C_below HCt.out (below_drew (Below.refl _ _))) Htl.out (by have := HL.out; have := HSl.out; have := Htl.out; omega) ?_; intro v1 w2 hR hg hat; obtain ⟨A1, c1, e1', _⟩ := hR.slice; obtain ⟨N1, hN1⟩ : ∃ N, N = (ss ++ T).length := ⟨_, rfl⟩; rw [← hN1] at e1'; clear hN1; obtain ⟨hq2, hst, hft, hsy⟩ := H.out.drew.toS hg hR (at_to hat); have HSt := Aside0.mk hst; have HFt := Aside0.mk hft; have HSy := Aside0.mk hsy; have hy3 : w2.cell? ⟨q, 3, none⟩ = some (.slice As S cs) := (blk_cell hq2 3).trans rfl; have hy4 : w2.cell? ⟨q, 4, none⟩ = some (.int .i64 (n : Int)) := (blk_cell hq2 4).trans rfl; have hf3 := blk_frozen hq2 3; have hf4 := blk_frozen hq2 4; clear hR hg hat hq2 hst hft hsy; subst e1')
    all_goals
      go_wp2
      go_ret2
      exact ⟨rfl, _, _, _, HSt.out.setQ (by simp [cellsQ]), HFt.out, ((Stay.below (below_drew (Below.refl _ _))).trans HSy.out (fun k hk => .inl hk)).set (.inr (.inr (.inl rfl))) _⟩
set_option maxHeartbeats 4000000 in
set_option maxRecDepth 100000 in
theorem sent_calls (h : St w p bm q vw vs vd c en ws ss room ds) (hc : (Key c).wf = true) (hl : ss.length ≤ 4294960000) :
    Calls Try.prog 9 #[.pointer (some ⟨p, 0, none⟩), .int .i64 c] w fun e w' => ∃ (A1 : Option Addr) (c1 : Nat), e = .returned (.slice A1 ss.length c1) ∧ Row .u8 5 w' (.slice A1 ss.length c1) ss ∧ (∀ i, (Value.slice A1 ss.length c1).ownBlock = some i → w.heap.size ≤ i) ∧ Below w.heap.size w w' := by
  obtain ⟨As, cs, rfl, hcs⟩ := h.rs.slice
  obtain ⟨S, hS⟩ : ∃ S, S = ss.length := ⟨_, rfl⟩
  have HSl := Aside0.mk hS
  rw [← hS] at h hcs hl ⊢
  have hz0 : w.cell? ⟨p, 0, none⟩ = some (.map (some bm)) := (blk_cell h.blkP 0).trans rfl
  have hlk := look_one h.own hc
  have hz3 : w.cell? ⟨q, 3, none⟩ = some (.slice As S cs) := (blk_cell h.blkQ 3).trans rfl
  have HCl := Aside0.mk (cloneB_calls ss S hS As cs w (h.rs.C.2.2) hcs hl)
  clear h hc hcs hl hS
  go_enter Try.func9, Try.ntmps9
  go_wp2_with (go_at_call 35; refine HCl.out.mono ?_; rintro e w2 ⟨v2, rfl, hR2, hb2⟩; obtain ⟨A1, c1, e1'⟩ := Kd.R_slice hR2; rw [← HSl.out] at e1'; subst e1'; have HB2 := Aside0.mk hb2; have HR2 := Aside0.mk (R_row hR2); clear hR2 hb2)
  go_ret
  exact ⟨A1, c1, rfl, HR2.out.1, HR2.out.2, HB2.out⟩
set_option maxHeartbeats 4000000 in
set_option maxRecDepth 100000 in
theorem give_calls (h : St w p bm q vw vs vd c en ws ss room ds) (v : Int) (hv0 : 0 ≤ v) (hv1 : v ≤ 4294967295) (hl : ds.length < 4096) :
    Calls Try.prog 29 #[.pointer (some ⟨p, 0, none⟩), .int .i64 v] w fun e w' => e = .returned (.int .i64 0) ∧ Next w p bm q vw vs vd c en ws ss room (ds ++ [v]) w' := by
  obtain ⟨Ad, cd, rfl, hcd⟩ := h.rd.slice
  obtain ⟨D, hD⟩ : ∃ D, D = ds.length := ⟨_, rfl⟩
  have HD := Aside0.mk hD
  rw [← hD] at h hl ⊢
  have H := Aside0.mk h
  have HL := Aside0.mk hl
  have hz1 : w.cell? ⟨p, 1, none⟩ = some (.slice Ad D cd) := (blk_cell h.blkP 1).trans rfl
  have h1 : ¬ v < 0 := by omega
  have h2 : ¬ 4294967295 < v := by omega
  have h3 : ((D : Int) == 4096) = false := by have : ¬ (D : Int) = 4096 := by omega
                                              simpa using this
  have hCv : ∀ W : World, (Kd.int .i64).C (W.alloc (.cells #[.int .i64 v] 3)) (some ⟨W.heap.size, 0, none⟩) [v].length [v] := fun W => C_blk (xs := [v]) (blk_new W (.cells #[.int .i64 v] 3)) (fun i hi => by match i, hi with | 0, _ => rfl) (by simp)
  have HCv := Aside0.mk hCv
  clear h hcd hl hD hv0 hv1 hCv
  go_enter Try.func29, Try.ntmps29
  go_wp2_with ((with_reducible refine gate_builtin (b := .append) (xs := #[.tmp 25, .tmp 27]) rfl ?_); at_builtin; refine append_row (bytes := 8) rfl (.tmp 25) (.tmp 27) rfl Try.underlying27 info_int (by decide) (.slice Ad D cd) ds (some ⟨w.heap.size, 0, none⟩) 1 1 [v] rfl rfl (H.out.rd.below (below_alloc (Below.refl _ _) _)) (HCv.out w) rfl (by have := HL.out; have := HD.out; simp only [List.length_singleton]; omega) ?_; intro v1 w2 hR hg hat; obtain ⟨A1, c1, e1', _⟩ := hR.slice; obtain ⟨N1, hN1⟩ : ∃ N, N = (ds ++ [v]).length := ⟨_, rfl⟩; rw [← hN1] at e1'; clear hN1; obtain ⟨hp2, hst, hft, hsy⟩ := (H.out.below (below_alloc (Below.refl _ _) (.cells #[.int .i64 v] 3))).toD hg hR (at_to hat); have HSt := Aside0.mk hst; have HFt := Aside0.mk hft; have HSy := Aside0.mk hsy; have hy1 : w2.cell? ⟨p, 1, none⟩ = some (.slice Ad D cd) := (blk_cell hp2 1).trans rfl; have hf1 := blk_frozen hp2 1; clear hR hg hat hp2 hst hft hsy; subst e1')
  go_ret
  exact ⟨rfl, vw, vs, _, HSt.out, fun k hk => (HFt.out k hk).imp id (fun h5 => Nat.le_trans (below_size (below_alloc (Below.refl w.heap.size w) _)) h5), (Stay.below (below_alloc (Below.refl _ _) _)).trans HSy.out (fun k hk => .inl hk)⟩
set_option maxHeartbeats 4000000 in
set_option maxRecDepth 100000 in
theorem draw_calls (d : Int) (h : St w p bm q vw vs vd c en ws ss room [d]) (n : Int) (hn : 1 ≤ n) (hd0 : 0 ≤ d) (hd1 : d ≤ 4294967295) (hn2 : n ≤ 4294967295) :
    Calls Try.prog 31 #[.pointer (some ⟨p, 0, none⟩), .int .i64 n] w fun e w' => e = .returned (.tuple #[.int .i64 (d % n), .int .i64 0]) ∧ Next w p bm q vw vs vd c en ws ss room [] w' := by
  obtain ⟨Ad, cd, rfl, hcd⟩ := h.rd.slice
  have hC := h.rd.C.2.2
  obtain ⟨ad, rfl, hx⟩ := Kd.at_int hC (0 : Int) (by decide) (by simp)
  have hx1 : w.cell? (ad.add 0) = some (.int .i64 d) := hx
  have hx2 : w.cell? ad = some (.int .i64 d) := by
    have e : ad.add 0 = ad := if_pos rfl
    rw [← e]; exact hx1
  obtain ⟨i5, hi5, hzz⟩ := Option.map_eq_some_iff.1 info_int
  simp only [Prod.mk.injEq] at hzz
  have hcd2 : 1 ≤ cd := by simpa using hcd
  have hcut := cut_at 27 3 Try.underlying27 hi5 hzz.2.1 (some ad) 1 cd 1 (Nat.le_refl _)
  have hdrop := h.rd.drop (m := 1) (by simp)
  have hown := cut_own (A := some ad) (n := 1) (c := cd) (m := 1) (n' := 1 - 1) (c' := cd - 1)
  obtain ⟨A', hA'⟩ : ∃ A', A' = (if cd = 1 then some ad else (some ad).map (·.add 1)) := ⟨_, rfl⟩
  obtain ⟨C', hC'⟩ : ∃ x, x = cd - 1 := ⟨_, rfl⟩
  have hdrop2 : Row .i64 3 w (.slice A' 0 C') [] := by rw [hA', hC']; exact hdrop
  have hown2 : ∀ i, (Value.slice A' 0 C').ownBlock = some i → (Value.slice (some ad) 1 cd).ownBlock = some i := by rw [hA', hC']; exact hown
  have hcut2 : ∀ W : World, (Instr.slice 27 (.slice (some ad) 1 cd) (some (.int .i64 1)) none none).run Try.prog W = .ok (.slice A' 0 C') W := by intro W; rw [hA', hC']; exact hcut W
  have HDr := Aside0.mk hdrop2
  have HOw := Aside0.mk hown2
  have H : Aside0 (St w p bm q vw vs (.slice (some ad) 1 cd) c en ws ss room [d]) := ⟨h⟩
  have hz1 : w.cell? ⟨p, 1, none⟩ = some (.slice (some ad) 1 cd) := (blk_cell h.blkP 1).trans rfl
  have hf1 := blk_frozen h.blkP 1
  have h1 : ¬ n < 1 := by omega
  have h2 : ¬ n = 0 := by omega
  clear h hcd hC hx hi5 hzz hcut hdrop hown hA' hC' hdrop2 hown2
  go_enter Try.func31, Try.ntmps31
  go_wp2
  go_ret2
  obtain ⟨_, hst, hft, hsy⟩ := H.out.toD (grown_refl _ _) HDr.out (fun i hi => .inl (HOw.out i hi))
  exact ⟨rfl, vw, vs, _, hst, hft, hsy⟩
end
end Go.Proofs.Ytnhhcmnjfaeliaa.Wld
