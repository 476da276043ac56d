/- WorldSteps: the law's walk; own text of this session (gen_vs18.py). -/
import Derived.Test.YtnhhcmnjfaeliaaVsD
namespace Go.Proofs.Ytnhhcmnjfaeliaa.Vm
open Wld hiding St Ft Next cellsQ cellsP ReadPost ptrE ptrE_none ptrE_some law zeroP Key key_of info_u8 info_int ne_t ne_blk ne_map grown_below
open Go.RowKit Go.Proofs.YtnhhcmnjfaeliaaW.PrintWords Go.Proofs.YtnhhcmnjfaeliaaW.PrintLast Go.Maps
set_option linter.unusedVariables false
set_option linter.unusedSimpArgs false
section
variable {w0 w : World} {p x : Nat} {G : Nat → Obj → Prop} {L : List Ac} {ds : List Int} {C N K : Int} {Ab : Option Addr} {n cb u i : Nat} {b : List Int}
theorem Bd.weak {u' : Nat} (h : Bd L ds u i) (hu : u ≤ u') : Bd L ds u' i := ⟨h.ws, fun y hy => Nat.le_trans (h.ss y hy) hu, h.rm, h.dl, h.db, h.ll, h.on⟩
theorem AskPost.weak {u' : Nat} {e : Ending} {w' : World} (h : AskPost w0 p x G u i e w') (hu : u ≤ u') : AskPost w0 p x G u' i e w' := by
  obtain ⟨h1, L', ds', h2, h3⟩ := h
  exact ⟨h1, L', ds', h2, h3.weak hu⟩
/-- asks, of any step. -/
theorem step_any (h : JD w0 w p x G L ds L ds) (hB : Bd L ds u i) (hi : i ≤ 2000000) (hc : (Key C).wf = true) (hN : N ≤ 9223372036854775807) (hn : n = b.length) (hcb : n ≤ cb) (hb : (Kd.int .u8).C w0 Ab b.length b) (hu : u + b.length ≤ 1048576) :
    Calls Try.prog 6 #[.pointer (some ⟨p, 0, none⟩), .pointer (some ⟨x, 0, none⟩), .agg #[.int .i64 K, .int .i64 C, .int .i64 N, .slice Ab n cb]] w (AskPost w0 p x G (u + b.length) i) := by
  have hw : ∀ e w', AskPost w0 p x G u i e w' → AskPost w0 p x G (u + b.length) i e w' := fun e w' h => h.weak (Nat.le_add_right _ _)
  by_cases hK : K < 0 ∨ 7 < K
  · exact (stD hK h hB hN).mono hw
  · have h8 : K = 0 ∨ K = 1 ∨ K = 2 ∨ K = 3 ∨ K = 4 ∨ K = 5 ∨ K = 6 ∨ K = 7 := by omega
    rcases h8 with rfl | rfl | rfl | rfl | rfl | rfl | rfl | rfl
    · exact (st0 h hB hi hc).mono hw
    · exact (st1 h hB hi hc).mono hw
    · exact (st2 h hB hi hc hn hb (by omega)).mono hw
    · exact (st3 h hB hi hc).mono hw
    · exact (st4 h hB hi hc).mono hw
    · exact (st5 h hB hi hc).mono hw
    · exact st6 h hB hi hc hn hcb hb hu
    · exact (st7 h hB).mono hw
/-- What was sent, at any world behind. -/
theorem JD.sentAll (h : JD w0 w p x G L ds L ds) (hB : Bd L ds u i) (hi : i ≤ 2000000) (hu : u ≤ 1048576) (hc : (Key C).wf = true) : ∃ ss : List Int, ∀ W, Below w.heap.size w W →
    (Calls Try.prog 9 #[.pointer (some ⟨p, 0, none⟩), .int .i64 C] W fun e w' => ∃ A1 c1, e = .returned (.slice A1 ss.length c1) ∧ Row .u8 5 w' (.slice A1 ss.length c1) ss ∧ Below W.heap.size W w') ∧
    (Calls Try.prog 10 #[.pointer (some ⟨x, 0, none⟩), .int .i64 C] W fun e w' => ∃ A1 c1, e = .returned (.slice A1 ss.length c1) ∧ Row .u8 5 w' (.slice A1 ss.length c1) ss ∧ Below W.heap.size W w') := by
  have hll := hB.ll
  by_cases hy : ∃ y ∈ L, y.c = C
  · obtain ⟨y, hy, rfl⟩ := hy
    have hys := hB.ss y hy
    obtain ⟨A, B, rfl⟩ := List.append_of_mem hy
    refine ⟨y.ss, fun W hb => ?_⟩
    have h := h.low hb
    refine ⟨?_, ?_⟩
    · obtain ⟨bm, sz, Dm, q, vw, vs, vd, hS, _⟩ := h.yes
      exact (sent_calls hS hc (by omega)).mono (fun e w' ⟨A1, c1, he, hr, _, hb⟩ => ⟨A1, c1, he, hr, hb⟩)
    · obtain ⟨vL, vD, Ar, yr, Br, hr, rfl, hlen, _, _⟩ := h.refYes
      obtain ⟨A1, c1, e1, _⟩ := (hr.rs yr (by simp)).slice
      exact (rsent_some hr rfl (by rw [hlen]; omega)).mono (fun e w' ⟨he, hb⟩ => ⟨A1, c1, by rw [he, e1]; rfl, by have h5 := (hr.rs yr (by simp)).below hb; rw [e1] at h5; exact h5, hb⟩)
  · have hn : ∀ y ∈ L, y.c ≠ C := fun y h1 h2 => hy ⟨y, h1, h2⟩
    refine ⟨[], fun W hb => ?_⟩
    have h := h.low hb
    refine ⟨?_, ?_⟩
    · obtain ⟨bm, sz, Dm, vd, Lm, vL, vD, Lr, hJ, e1, e2⟩ := h
      exact (sent_none hJ.m hc (fun m hm => hn m.abs (by rw [← e1]; exact List.mem_map.2 ⟨m, hm, rfl⟩))).mono (fun e w' ⟨he, hb⟩ => ⟨none, 0, he, Row.nil _ _ _, hb⟩)
    · obtain ⟨vL, vD, Lr, hr, e2, _, _⟩ := h.ref
      exact (rsent_none hr (fun m hm => hn m.abs (by rw [← e2]; exact List.mem_map.2 ⟨m, hm, rfl⟩)) (by rw [len_abs e2]; omega)).mono (fun e w' ⟨he, hb⟩ => ⟨none, 0, he, Row.nil _ _ _, hb⟩)
end
/-- How many bytes the first steps have. -/
def used (l : List Stp) (k : Nat) : Nat := ((l.take k).map fun y => y.b.length + 1).sum
theorem used_step (l : List Stp) (k : Nat) (h : k < l.length) : used l (k + 1) = used l k + ((l.getD k zStp).b.length + 1) := by
  unfold used
  rw [List.take_succ_eq_append_getElem h, List.map_append, List.sum_append, List.getD_eq_getElem?_getD, List.getElem?_eq_getElem h]
  simp
theorem used_le (l : List Stp) (k : Nat) : used l k ≤ (l.map fun y => y.b.length + 1).sum := by
  unfold used
  have e : (l.map fun y => y.b.length + 1).sum = ((l.take k).map fun y => y.b.length + 1).sum + ((l.drop k).map fun y => y.b.length + 1).sum := by rw [← List.sum_append, ← List.map_append, List.take_append_drop]
  omega
theorem used_ge (l : List Stp) (k : Nat) (h : k ≤ l.length) : k ≤ used l k := by
  induction k with
  | zero => exact Nat.zero_le _
  | succ k ih => rw [used_step l k (by omega)]; have := ih (by omega); omega
set_option maxHeartbeats 16000000 in
set_option maxRecDepth 100000 in
theorem steps_calls (A0 : Option Addr) (c0 : Nat) (l : List Stp) (w : World) (hr0 : Kd.C stpK w A0 l.length l) (hc0 : l.length ≤ c0) (hw0 : ∀ y ∈ l, (Key y.c).wf = true ∧ (Key y.n).wf = true ∧ ∀ x ∈ y.b, (Lit.int .u8 x).wf = true) (hl : (l.map fun y => y.b.length + 1).sum ≤ 1048576) :
    Calls Try.prog 3 #[.slice A0 l.length c0] w fun e w' => e = .returned (.bool true) ∧ Below w.heap.size w w' := by
  have HR0 := Aside0.mk hr0
  have HW0 := Aside0.mk hw0
  have HLs := Aside0.mk hl
  obtain ⟨n, hn⟩ : ∃ n, n = l.length := ⟨_, rfl⟩
  have Hn := Aside0.mk hn
  have hnl : n ≤ 1048576 := by have h5 := used_ge l l.length (Nat.le_refl _); have h6 := used_le l l.length; omega
  rw [← hn] at hc0 ⊢
  clear hr0 hw0 hn hl
  go_enter Try.func3, Try.ntmps3
  go_wp2_with (go_at_call 5; refine (new_mw _).mono ?_; rintro e w1 ⟨p, bm, rfl, hmw, hp, hbm, hb1⟩; have HJ0 := Aside0.mk (JD.start hmw hb1 hp hbm); obtain ⟨x, hx⟩ : ∃ x, x = w1.heap.size := ⟨_, rfl⟩; clear hmw hp hbm hb1)
  rw [← hx] at HJ0 ⊢
  clear hx
  go_loopw [19] (fun v19 wr => ∃ kk : Nat, kk ≤ n ∧ v19 = .int .i64 kk ∧ ∃ L ds, JD w wr p x (fun _ _ => False) L ds L ds ∧ Bd L ds (used l kk) kk) (fun v19 _ => n - (intOf v19).toNat)
  case atStart => exact ⟨0, Nat.zero_le _, rfl, [], [], HJ0.out, Bd.start⟩
  case round =>
    obtain ⟨kk, hkk, rfl, L, ds, hJ, hB⟩ := hrel
    have HJ := Aside0.mk hJ
    have HB := Aside0.mk hB
    clear hJ hB HJ0
    by_cases hlt : kk < n
    · have hltz : (kk : Int) < (n : Int) := by omega
      have hus := used_step l kk (by have := Hn.out; omega)
      have hul := used_le l (kk + 1)
      obtain ⟨ad, A3, c3, eA, z0, z1, z2, z3, l3, g3⟩ := at_stp HR0.out (kk : Int) (by omega) (by have := Hn.out; omega)
      rw [Int.toNat_natCast] at z0 z1 z2 z3 l3 g3
      have hy := HW0.out (l.getD kk zStp) (by rw [List.getD_eq_getElem?_getD, List.getElem?_eq_getElem (by have := Hn.out; omega)]; exact List.getElem_mem _)
      generalize l.getD kk zStp = y at z0 z1 z2 z3 l3 g3 hy hus
      obtain ⟨K, C, N, bb⟩ := y
      cases eA
      replace z0 := (HJ.out.bl.cell (World.block_lt_of_cell? w _ z0)).trans z0
      replace z1 := (HJ.out.bl.cell (World.block_lt_of_cell? w _ z1)).trans z1
      replace z2 := (HJ.out.bl.cell (World.block_lt_of_cell? w _ z2)).trans z2
      replace z3 := (HJ.out.bl.cell (World.block_lt_of_cell? w _ z3)).trans z3
      have G3 := Aside0.mk g3
      have HY := Aside0.mk hy
      have L3 := Aside0.mk l3
      have HUs : Aside0 (used l (kk + 1) = used l kk + (bb.length + 1)) := ⟨hus⟩
      have HU : Aside0 (used l kk + bb.length ≤ 1048576) := ⟨by have := HLs.out; have := HUs.out; omega⟩
      clear g3 hy l3 hus hul
      obtain ⟨nb, hnb⟩ : ∃ nb, nb = bb.length := ⟨_, rfl⟩
      have HNb := Aside0.mk hnb
      replace z3 : wr.cell? ⟨(ad.add (kk * 4)).block, (ad.add (kk * 4)).off + 3, none⟩ = some (.slice A3 nb c3) := by rw [hnb]; exact z3
      clear hnb
      have HI0 : Aside0 (kk ≤ 2000000) := ⟨by omega⟩
      have HI : Aside0 (kk + 1 ≤ 2000000) := ⟨by omega⟩
      have HC := Aside0.mk HY.out.1
      have HAs := Aside0.mk (step_any (K := K) (N := N) (n := nb) (cb := c3) (HJ.out.alloc (stepB K C N A3 nb c3)) HB.out HI0.out HC.out (by
        have h5 : (Lit.int .i64 N).wf = true := HY.out.2.1
        simp only [Lit.wf, Bool.and_eq_true, decide_eq_true_eq] at h5
        exact h5.2) HNb.out (by rw [HNb.out]; exact L3.out) G3.out HU.out)
      have HU2 : Aside0 (used l kk + bb.length ≤ 1048576) := HU
      go_wp2_with (go_at_call 6; go_loud (refine HAs.out.mono ?_; rintro e w6 ⟨rfl, L', ds', hJ6, hB6⟩; obtain ⟨g, hg⟩ : ∃ g, g = wr.heap.size := ⟨_, rfl⟩; rw [← hg] at hJ6 ⊢; have HJ6 := Aside0.mk hJ6; have HBd := Aside0.mk hB6; have HBd2 := Aside0.mk (hB6.weak (show used l kk + bb.length ≤ used l (kk + 1) by have := HUs.out; omega)); have hc61 : w6.cell? ⟨g, 1, none⟩ = some (.int .i64 C) := (blk_cell hJ6.at 1).trans rfl; clear hg hJ6 hB6 z0 z1 z2 z3 HAs))
      rcases no_or L' C with hno | ⟨A5, y5, B5, hL5, hC5, ho5⟩
      · have HWt := Aside0.mk (HJ6.out.waitsNo hno HC.out)
        have HAt := Aside0.mk (fun W (hb : Below w6.heap.size w6 W) => (HJ6.out.low hb).atNo HBd.out HI.out hno)
        clear hno
        go_wp2_with (first
          | (go_at_call 7; go_loud (refine HWt.out.mono ?_; rintro e w7 ⟨rfl, hb⟩; have HB7 := Aside0.mk hb; have hc71 : w7.cell? ⟨g, 1, none⟩ = some (.int .i64 C) := (blk_cell (HJ6.out.low hb).at 1).trans rfl; clear hb hc61))
          | (go_at_call 8; go_loud (refine (HAt.out _ HB7.out).mono ?_; rintro e w8 ⟨rfl, hb⟩; have HB8 := Aside0.mk (below_step HB7.out hb); have HJ8 := Aside0.mk (HJ6.out.low HB8.out); clear hb hc71)))
        have HJW := Aside0.mk (HJ8.out.low (below_drew (Below.refl _ _)))
        refine start_ (n := 29) (S := fun w' : World => w'.cell? ⟨g, 1, none⟩ = some (.int .i64 C)) (ds := []) (lb 29 0) (by kernel_rfl) rfl rfl ((blk_cell (JD.at (HJW.out)) 1).trans rfl) (fun hHeld => ?_)
        generalize World.drew _ = W0 at HJW hHeld ⊢
        refine pv 0 58 (lb 29 1) ?_
        refine pv 1 59 (lb 29 3) ?_
        refine pv 2 60 (lb 29 7) ?_
        refine pv 3 61 (lb 29 15) ?_
        refine pv 4 62 (lb 29 31) ?_
        refine pv 5 63 (lb 29 63) ?_
        refine pv 6 64 (lb 29 127) ?_
        refine pv 7 65 (lb 29 255) ?_
        refine pv 8 66 (lb 29 511) ?_
        refine pv 9 67 (lb 29 1023) ?_
        refine pv 10 68 (lb 29 2047) ?_
        refine tv hHeld 11 69 (lb 29 4095) ?_
        refine pv 14 72 (lb 29 20479) ?_
        refine pv 15 73 (lb 29 53247) ?_
        refine tv hHeld 16 74 (lb 29 118783) ?_
        obtain ⟨ss, hse⟩ := HJW.out.sentAll HBd.out HI.out HU.out HC.out
        obtain ⟨ns, hns⟩ : ∃ ns, ns = ss.length := ⟨_, rfl⟩
        rw [← hns] at hse
        have HSe := Aside0.mk hse
        have HNs := Aside0.mk hns
        clear hse hns
        refine one_ (i := 12) (N := some 70) (lb 29 122879) rfl rfl (by kernel_rfl) (by decide) (fun K hK => ?_)
        refine goes_ Try.func9 (by kernel_rfl) rfl #[.pointer (some ⟨p, 0, none⟩), .int .i64 C] (by rfl) rfl rfl ba ?_
        refine ((HSe.out _ (Below.refl _ _)).1).mono ?_
        rintro e W1 ⟨A1, c1, rfl, hrow, hb⟩
        refine ⟨_, rfl, ?_⟩
        have HR1 := Aside0.mk hrow
        have HB1 := Aside0.mk hb
        clear hrow hb
        refine hK.out _ _ ((blk_cell (JD.at (HJW.out.low HB1.out)) 1).trans rfl) (fun hHeld => ?_)
        clear hK K
        refine norm_ (a' := ?_) ?_ ?_
        rotate_left
        · show Act.put _ (some 70) _ = _
          simp only [Act.put, List.setIfInBounds_toArray, List.set_cons_zero, List.set_cons_succ, i64_w, i32_w]
          rfl
        refine join_ (σ := Option Addr × Nat) 10 (lb 29 524287) (fun s_ => [(71, .string (strOfNums ss)), (75, .slice s_.1 ns s_.2), (76, .string (strOfNums ss))]) (fun s_ w' => Below W0.heap.size W0 w' ∧ Row .u8 5 w' (.slice s_.1 ns s_.2) ss) ?_ (fun hCont => ?_)
        rotate_left
        · have hcv1 : (convert 30 9 (.slice A1 ns c1)).run Try.prog W1 = Result.ok (.string (strOfNums ss)) W1 := Wld.row_str HR1.out
          refine two_ (i := 13) (j := 17) (Ni := some 71) (Nj := some 75) (lb 29 131071) (lb 29 253951) rfl rfl rfl rfl (by kernel_rfl) (by decide) (by decide) (fun K hK => ?_) (fun K hK => ?_)
          · skip
            refine event_step (w1 := W1) (v := .string (strOfNums ss)) (by rfl) (by go_simp) ?_
            refine hK.out _ _ ((blk_cell (JD.at (HJW.out.low HB1.out)) 1).trans rfl) (fun hHeld => ?_)
            clear hK K
            refine norm_ (a' := ?_) ?_ ?_
            rotate_left
            · show Act.put _ (some 71) _ = _
              simp only [Act.put, List.setIfInBounds_toArray, List.set_cons_zero, List.set_cons_succ, i64_w, i32_w]
              rfl
            refine one_ (i := 17) (N := some 75) (lb 29 262143) rfl rfl (by kernel_rfl) (by decide) (fun K hK => ?_)
            refine goes_ Try.func10 (by kernel_rfl) rfl #[.pointer (some ⟨x, 0, none⟩), .int .i64 C] (by rfl) rfl rfl ba ?_
            refine ((HSe.out _ HB1.out).2).mono ?_
            rintro e W2 ⟨A2, c2, rfl, hrow, hb⟩
            refine ⟨_, rfl, ?_⟩
            have HR2 := Aside0.mk hrow
            have HB2 := Aside0.mk (below_step HB1.out hb)
            have HBa := Aside0.mk hb
            clear hrow hb
            refine hK.out _ _ ((blk_cell (JD.at (HJW.out.low HB2.out)) 1).trans rfl) (fun hHeld => ?_)
            clear hK K
            refine norm_ (a' := ?_) ?_ ?_
            rotate_left
            · show Act.put _ (some 75) _ = _
              simp only [Act.put, List.setIfInBounds_toArray, List.set_cons_zero, List.set_cons_succ, i64_w, i32_w]
              rfl
            have hcv3 : (convert 30 9 (.slice A2 ns c2)).run Try.prog W2 = Result.ok (.string (strOfNums ss)) W2 := Wld.row_str HR2.out
            refine one_ (i := 18) (N := some 76) (lb 29 524287) rfl rfl (by kernel_rfl) (by decide) (fun K hK => ?_)
            refine event_step (w1 := W2) (v := .string (strOfNums ss)) (by rfl) (by go_simp) ?_
            refine hK.out _ _ ((blk_cell (JD.at (HJW.out.low HB2.out)) 1).trans rfl) (fun hHeld => ?_)
            clear hK K
            refine norm_ (a' := ?_) ?_ ?_
            rotate_left
            · show Act.put _ (some 76) _ = _
              simp only [Act.put, List.setIfInBounds_toArray, List.set_cons_zero, List.set_cons_succ, i64_w, i32_w]
              rfl
            exact norm_ (by simp only [putAll, Act.put, List.setIfInBounds_toArray, List.set_cons_zero, List.set_cons_succ]) (hCont (A2, c2) _ ⟨HB2.out, HR2.out⟩)
          · skip
            refine goes_ Try.func10 (by kernel_rfl) rfl #[.pointer (some ⟨x, 0, none⟩), .int .i64 C] (by rfl) rfl rfl ba ?_
            refine ((HSe.out _ HB1.out).2).mono ?_
            rintro e W2 ⟨A2, c2, rfl, hrow, hb⟩
            refine ⟨_, rfl, ?_⟩
            have HR2 := Aside0.mk hrow
            have HB2 := Aside0.mk (below_step HB1.out hb)
            have HBa := Aside0.mk hb
            clear hrow hb
            refine hK.out _ _ ((blk_cell (JD.at (HJW.out.low HB2.out)) 1).trans rfl) (fun hHeld => ?_)
            clear hK K
            refine norm_ (a' := ?_) ?_ ?_
            rotate_left
            · show Act.put _ (some 75) _ = _
              simp only [Act.put, List.setIfInBounds_toArray, List.set_cons_zero, List.set_cons_succ, i64_w, i32_w]
              rfl
            have hcv2 : (convert 30 9 (.slice A1 ns c1)).run Try.prog W2 = Result.ok (.string (strOfNums ss)) W2 := Wld.row_str (HR1.out.below HBa.out)
            have hcv3 : (convert 30 9 (.slice A2 ns c2)).run Try.prog W2 = Result.ok (.string (strOfNums ss)) W2 := Wld.row_str HR2.out
            refine two_ (i := 13) (j := 18) (Ni := some 71) (Nj := some 76) (lb 29 262143) (lb 29 516095) rfl rfl rfl rfl (by kernel_rfl) (by decide) (by decide) (fun K hK => ?_) (fun K hK => ?_)
            · skip
              refine event_step (w1 := W2) (v := .string (strOfNums ss)) (by rfl) (by go_simp) ?_
              refine hK.out _ _ ((blk_cell (JD.at (HJW.out.low HB2.out)) 1).trans rfl) (fun hHeld => ?_)
              clear hK K
              refine norm_ (a' := ?_) ?_ ?_
              rotate_left
              · show Act.put _ (some 71) _ = _
                simp only [Act.put, List.setIfInBounds_toArray, List.set_cons_zero, List.set_cons_succ, i64_w, i32_w]
                rfl
              refine one_ (i := 18) (N := some 76) (lb 29 524287) rfl rfl (by kernel_rfl) (by decide) (fun K hK => ?_)
              refine event_step (w1 := W2) (v := .string (strOfNums ss)) (by rfl) (by go_simp) ?_
              refine hK.out _ _ ((blk_cell (JD.at (HJW.out.low HB2.out)) 1).trans rfl) (fun hHeld => ?_)
              clear hK K
              refine norm_ (a' := ?_) ?_ ?_
              rotate_left
              · show Act.put _ (some 76) _ = _
                simp only [Act.put, List.setIfInBounds_toArray, List.set_cons_zero, List.set_cons_succ, i64_w, i32_w]
                rfl
              exact norm_ (by simp only [putAll, Act.put, List.setIfInBounds_toArray, List.set_cons_zero, List.set_cons_succ]) (hCont (A2, c2) _ ⟨HB2.out, HR2.out⟩)
            · skip
              refine event_step (w1 := W2) (v := .string (strOfNums ss)) (by rfl) (by go_simp) ?_
              refine hK.out _ _ ((blk_cell (JD.at (HJW.out.low HB2.out)) 1).trans rfl) (fun hHeld => ?_)
              clear hK K
              refine norm_ (a' := ?_) ?_ ?_
              rotate_left
              · show Act.put _ (some 76) _ = _
                simp only [Act.put, List.setIfInBounds_toArray, List.set_cons_zero, List.set_cons_succ, i64_w, i32_w]
                rfl
              refine one_ (i := 13) (N := some 71) (lb 29 524287) rfl rfl (by kernel_rfl) (by decide) (fun K hK => ?_)
              refine event_step (w1 := W2) (v := .string (strOfNums ss)) (by rfl) (by go_simp) ?_
              refine hK.out _ _ ((blk_cell (JD.at (HJW.out.low HB2.out)) 1).trans rfl) (fun hHeld => ?_)
              clear hK K
              refine norm_ (a' := ?_) ?_ ?_
              rotate_left
              · show Act.put _ (some 71) _ = _
                simp only [Act.put, List.setIfInBounds_toArray, List.set_cons_zero, List.set_cons_succ, i64_w, i32_w]
                rfl
              exact norm_ (by simp only [putAll, Act.put, List.setIfInBounds_toArray, List.set_cons_zero, List.set_cons_succ]) (hCont (A2, c2) _ ⟨HB2.out, HR2.out⟩)
        rintro ⟨A2, c2⟩ W2 ⟨hb2, hr2⟩
        simp only at hb2 hr2 ⊢
        have HB2 := Aside0.mk hb2
        have hHeld : W2.cell? ⟨g, 1, none⟩ = some (.int .i64 C) := (blk_cell (JD.at (HJW.out.low hb2)) 1).trans rfl
        obtain ⟨sS, hsS⟩ : ∃ sS, sS = strOfNums ss := ⟨_, rfl⟩
        rw [← hsS]
        clear hb2 hr2 hsS HB1 HR1
        refine norm_ (a' := ?_) ?_ ?_
        rotate_left
        · simp only [putAll, Act.put, List.setIfInBounds_toArray, List.set_cons_zero, List.set_cons_succ]
          rfl
        refine pv 19 77 (lb 29 1048575) ?_
        refine pv 20 78 (lb 29 2097151) ?_
        refine pv 21 79 (lb 29 4194303) ?_
        refine pv 22 80 (lb 29 8388607) ?_
        refine pv 24 82 (lb 29 25165823) ?_
        obtain ⟨na, hna⟩ : ∃ na, na = (aopens L').length := ⟨_, rfl⟩
        have HNa := Aside0.mk hna
        clear hna
        refine one_ (i := 23) (N := some 81) (lb 29 33554431) rfl rfl (by kernel_rfl) (by decide) (fun K hK => ?_)
        refine goes_ Try.func12 (by kernel_rfl) rfl #[.pointer (some ⟨p, 0, none⟩)] (by rfl) rfl rfl ba ?_
        refine ((HJW.out.low HB2.out).allM HBd.out HI.out).mono ?_
        rintro e W3 ⟨A3, c3, rfl, hrow, hb⟩
        refine ⟨_, rfl, ?_⟩
        rw [← HNa.out] at hrow ⊢
        have HR3 := Aside0.mk hrow
        have HB3 := Aside0.mk (below_step HB2.out hb)
        clear hrow hb
        refine hK.out _ _ ((blk_cell (JD.at (HJW.out.low HB3.out)) 1).trans rfl) (fun hHeld => ?_)
        clear hK K
        refine norm_ (a' := ?_) ?_ ?_
        rotate_left
        · show Act.put _ (some 81) _ = _
          simp only [Act.put, List.setIfInBounds_toArray, List.set_cons_zero, List.set_cons_succ, i64_w, i32_w]
          rfl
        refine one_ (i := 25) (N := some 83) (lb 29 67108863) rfl rfl (by kernel_rfl) (by decide) (fun K hK => ?_)
        refine goes_ Try.func13 (by kernel_rfl) rfl #[.pointer (some ⟨x, 0, none⟩)] (by rfl) rfl rfl ba ?_
        refine ((HJW.out.low HB3.out).allR HBd.out HI.out).mono ?_
        rintro e W4 ⟨A4, c4, rfl, hrow, hb⟩
        refine ⟨_, rfl, ?_⟩
        rw [← HNa.out] at hrow ⊢
        have HR4 := Aside0.mk hrow
        have HB4 := Aside0.mk (below_step HB3.out hb)
        have HR3' := Aside0.mk (HR3.out.below hb)
        clear hrow hb
        refine hK.out _ _ ((blk_cell (JD.at (HJW.out.low HB4.out)) 1).trans rfl) (fun hHeld => ?_)
        clear hK K
        refine norm_ (a' := ?_) ?_ ?_
        rotate_left
        · show Act.put _ (some 83) _ = _
          simp only [Act.put, List.setIfInBounds_toArray, List.set_cons_zero, List.set_cons_succ, i64_w, i32_w]
          rfl
        refine one_ (i := 26) (N := some 84) (lb 29 134217727) rfl rfl (by kernel_rfl) (by decide) (fun K hK => ?_)
        refine goes_ Try.func11 (by kernel_rfl) rfl #[.slice A3 na c3, .slice A4 na c4] (by rfl) rfl rfl ba ?_
        refine (ints_eq (aopens L') A3 A4 c3 c4 na _ HNa.out (by rw [HNa.out, aopens_len]; have := HBd.out.on; omega) HR3'.out HR4.out).mono ?_
        rintro e W5 ⟨rfl, hb⟩
        refine ⟨_, rfl, ?_⟩
        have HB5 := Aside0.mk (below_step HB4.out hb)
        clear hb
        refine hK.out _ _ ((blk_cell (JD.at (HJW.out.low HB5.out)) 1).trans rfl) (fun hHeld => ?_)
        clear hK K
        refine norm_ (a' := ?_) ?_ ?_
        rotate_left
        · show Act.put _ (some 84) _ = _
          simp only [Act.put, List.setIfInBounds_toArray, List.set_cons_zero, List.set_cons_succ, i64_w, i32_w]
          rfl
        refine pv 27 85 (lb 29 268435455) ?_
        refine pv 28 86 (lb 29 536870911) ?_
        refine done_ (by kernel_rfl) ?_
        have HJ9 := Aside0.mk (HJW.out.low HB5.out)
        go_wp2
        go_roundw
        case rel => exact ⟨kk + 1, by omega, by simp, L', ds', HJ9.out.drop (fun k o h => h.elim), HBd2.out⟩
        case measure => simp [intOf]; omega
      · have hJ7 := HJ6.out
        have hB7 := HBd.out
        rw [hL5] at hJ7 hB7
        have hwt := hJ7.waitsYes ho5 (by rw [hC5]; exact HC.out)
        obtain ⟨adl, nL, capL, kL, Aw, cw, hkn, hat, hcl⟩ := hJ7.atYes hB7 HI.out ho5
        rw [hC5] at hwt hat
        have hwl := hB7.ws y5 (by simp)
        obtain ⟨wl, hwl2⟩ : ∃ wl, wl = y5.ws.length := ⟨_, rfl⟩
        obtain ⟨en, hen⟩ : ∃ en, en = y5.en := ⟨_, rfl⟩
        rw [← hwl2, ← hen] at hwt
        rw [← hwl2, ← hen] at hcl
        rw [← hwl2] at hwl
        have hknz : (kL : Int) < (nL : Int) := by omega
        have hk0 : (0 : Int) ≤ (kL : Int) := by omega
        have HWt := Aside0.mk hwt
        have HAt := Aside0.mk hat
        have HCl := Aside0.mk hcl
        clear hJ7 hB7 hwt hat hcl hL5 hC5 ho5 hwl2 hen
        go_wp2_with (first
          | (go_at_call 7; go_loud (refine HWt.out.mono ?_; rintro e w7 ⟨rfl, hb⟩; have HB7 := Aside0.mk hb; have hc71 : w7.cell? ⟨g, 1, none⟩ = some (.int .i64 C) := (blk_cell (HJ6.out.low hb).at 1).trans rfl; clear hb hc61))
          | (go_at_call 8; go_loud (refine (HAt.out _ HB7.out).mono ?_; rintro e w8 ⟨rfl, hb⟩; have HB8 := Aside0.mk (below_step HB7.out hb); have HJ8 := Aside0.mk (HJ6.out.low HB8.out); obtain ⟨hv0, hv2, hv3⟩ := HCl.out _ HB8.out; clear hb hc71)))
        have HJW := Aside0.mk (HJ8.out.low (below_drew (Below.refl _ _)))
        refine start_ (n := 29) (S := fun w' : World => w'.cell? ⟨g, 1, none⟩ = some (.int .i64 C)) (ds := []) (lb 29 0) (by kernel_rfl) rfl rfl ((blk_cell (JD.at (HJW.out)) 1).trans rfl) (fun hHeld => ?_)
        generalize World.drew _ = W0 at HJW hHeld ⊢
        refine pv 0 58 (lb 29 1) ?_
        refine pv 1 59 (lb 29 3) ?_
        refine pv 2 60 (lb 29 7) ?_
        refine pv 3 61 (lb 29 15) ?_
        refine pv 4 62 (lb 29 31) ?_
        refine pv 5 63 (lb 29 63) ?_
        refine pv 6 64 (lb 29 127) ?_
        refine pv 7 65 (lb 29 255) ?_
        refine pv 8 66 (lb 29 511) ?_
        refine pv 9 67 (lb 29 1023) ?_
        refine pv 10 68 (lb 29 2047) ?_
        refine tv hHeld 11 69 (lb 29 4095) ?_
        refine pv 14 72 (lb 29 20479) ?_
        refine pv 15 73 (lb 29 53247) ?_
        refine tv hHeld 16 74 (lb 29 118783) ?_
        obtain ⟨ss, hse⟩ := HJW.out.sentAll HBd.out HI.out HU.out HC.out
        obtain ⟨ns, hns⟩ : ∃ ns, ns = ss.length := ⟨_, rfl⟩
        rw [← hns] at hse
        have HSe := Aside0.mk hse
        have HNs := Aside0.mk hns
        clear hse hns
        refine one_ (i := 12) (N := some 70) (lb 29 122879) rfl rfl (by kernel_rfl) (by decide) (fun K hK => ?_)
        refine goes_ Try.func9 (by kernel_rfl) rfl #[.pointer (some ⟨p, 0, none⟩), .int .i64 C] (by rfl) rfl rfl ba ?_
        refine ((HSe.out _ (Below.refl _ _)).1).mono ?_
        rintro e W1 ⟨A1, c1, rfl, hrow, hb⟩
        refine ⟨_, rfl, ?_⟩
        have HR1 := Aside0.mk hrow
        have HB1 := Aside0.mk hb
        clear hrow hb
        refine hK.out _ _ ((blk_cell (JD.at (HJW.out.low HB1.out)) 1).trans rfl) (fun hHeld => ?_)
        clear hK K
        refine norm_ (a' := ?_) ?_ ?_
        rotate_left
        · show Act.put _ (some 70) _ = _
          simp only [Act.put, List.setIfInBounds_toArray, List.set_cons_zero, List.set_cons_succ, i64_w, i32_w]
          rfl
        refine join_ (σ := Option Addr × Nat) 10 (lb 29 524287) (fun s_ => [(71, .string (strOfNums ss)), (75, .slice s_.1 ns s_.2), (76, .string (strOfNums ss))]) (fun s_ w' => Below W0.heap.size W0 w' ∧ Row .u8 5 w' (.slice s_.1 ns s_.2) ss) ?_ (fun hCont => ?_)
        rotate_left
        · have hcv1 : (convert 30 9 (.slice A1 ns c1)).run Try.prog W1 = Result.ok (.string (strOfNums ss)) W1 := Wld.row_str HR1.out
          refine two_ (i := 13) (j := 17) (Ni := some 71) (Nj := some 75) (lb 29 131071) (lb 29 253951) rfl rfl rfl rfl (by kernel_rfl) (by decide) (by decide) (fun K hK => ?_) (fun K hK => ?_)
          · skip
            refine event_step (w1 := W1) (v := .string (strOfNums ss)) (by rfl) (by go_simp) ?_
            refine hK.out _ _ ((blk_cell (JD.at (HJW.out.low HB1.out)) 1).trans rfl) (fun hHeld => ?_)
            clear hK K
            refine norm_ (a' := ?_) ?_ ?_
            rotate_left
            · show Act.put _ (some 71) _ = _
              simp only [Act.put, List.setIfInBounds_toArray, List.set_cons_zero, List.set_cons_succ, i64_w, i32_w]
              rfl
            refine one_ (i := 17) (N := some 75) (lb 29 262143) rfl rfl (by kernel_rfl) (by decide) (fun K hK => ?_)
            refine goes_ Try.func10 (by kernel_rfl) rfl #[.pointer (some ⟨x, 0, none⟩), .int .i64 C] (by rfl) rfl rfl ba ?_
            refine ((HSe.out _ HB1.out).2).mono ?_
            rintro e W2 ⟨A2, c2, rfl, hrow, hb⟩
            refine ⟨_, rfl, ?_⟩
            have HR2 := Aside0.mk hrow
            have HB2 := Aside0.mk (below_step HB1.out hb)
            have HBa := Aside0.mk hb
            clear hrow hb
            refine hK.out _ _ ((blk_cell (JD.at (HJW.out.low HB2.out)) 1).trans rfl) (fun hHeld => ?_)
            clear hK K
            refine norm_ (a' := ?_) ?_ ?_
            rotate_left
            · show Act.put _ (some 75) _ = _
              simp only [Act.put, List.setIfInBounds_toArray, List.set_cons_zero, List.set_cons_succ, i64_w, i32_w]
              rfl
            have hcv3 : (convert 30 9 (.slice A2 ns c2)).run Try.prog W2 = Result.ok (.string (strOfNums ss)) W2 := Wld.row_str HR2.out
            refine one_ (i := 18) (N := some 76) (lb 29 524287) rfl rfl (by kernel_rfl) (by decide) (fun K hK => ?_)
            refine event_step (w1 := W2) (v := .string (strOfNums ss)) (by rfl) (by go_simp) ?_
            refine hK.out _ _ ((blk_cell (JD.at (HJW.out.low HB2.out)) 1).trans rfl) (fun hHeld => ?_)
            clear hK K
            refine norm_ (a' := ?_) ?_ ?_
            rotate_left
            · show Act.put _ (some 76) _ = _
              simp only [Act.put, List.setIfInBounds_toArray, List.set_cons_zero, List.set_cons_succ, i64_w, i32_w]
              rfl
            exact norm_ (by simp only [putAll, Act.put, List.setIfInBounds_toArray, List.set_cons_zero, List.set_cons_succ]) (hCont (A2, c2) _ ⟨HB2.out, HR2.out⟩)
          · skip
            refine goes_ Try.func10 (by kernel_rfl) rfl #[.pointer (some ⟨x, 0, none⟩), .int .i64 C] (by rfl) rfl rfl ba ?_
            refine ((HSe.out _ HB1.out).2).mono ?_
            rintro e W2 ⟨A2, c2, rfl, hrow, hb⟩
            refine ⟨_, rfl, ?_⟩
            have HR2 := Aside0.mk hrow
            have HB2 := Aside0.mk (below_step HB1.out hb)
            have HBa := Aside0.mk hb
            clear hrow hb
            refine hK.out _ _ ((blk_cell (JD.at (HJW.out.low HB2.out)) 1).trans rfl) (fun hHeld => ?_)
            clear hK K
            refine norm_ (a' := ?_) ?_ ?_
            rotate_left
            · show Act.put _ (some 75) _ = _
              simp only [Act.put, List.setIfInBounds_toArray, List.set_cons_zero, List.set_cons_succ, i64_w, i32_w]
              rfl
            have hcv2 : (convert 30 9 (.slice A1 ns c1)).run Try.prog W2 = Result.ok (.string (strOfNums ss)) W2 := Wld.row_str (HR1.out.below HBa.out)
            have hcv3 : (convert 30 9 (.slice A2 ns c2)).run Try.prog W2 = Result.ok (.string (strOfNums ss)) W2 := Wld.row_str HR2.out
            refine two_ (i := 13) (j := 18) (Ni := some 71) (Nj := some 76) (lb 29 262143) (lb 29 516095) rfl rfl rfl rfl (by kernel_rfl) (by decide) (by decide) (fun K hK => ?_) (fun K hK => ?_)
            · skip
              refine event_step (w1 := W2) (v := .string (strOfNums ss)) (by rfl) (by go_simp) ?_
              refine hK.out _ _ ((blk_cell (JD.at (HJW.out.low HB2.out)) 1).trans rfl) (fun hHeld => ?_)
              clear hK K
              refine norm_ (a' := ?_) ?_ ?_
              rotate_left
              · show Act.put _ (some 71) _ = _
                simp only [Act.put, List.setIfInBounds_toArray, List.set_cons_zero, List.set_cons_succ, i64_w, i32_w]
                rfl
              refine one_ (i := 18) (N := some 76) (lb 29 524287) rfl rfl (by kernel_rfl) (by decide) (fun K hK => ?_)
              refine event_step (w1 := W2) (v := .string (strOfNums ss)) (by rfl) (by go_simp) ?_
              refine hK.out _ _ ((blk_cell (JD.at (HJW.out.low HB2.out)) 1).trans rfl) (fun hHeld => ?_)
              clear hK K
              refine norm_ (a' := ?_) ?_ ?_
              rotate_left
              · show Act.put _ (some 76) _ = _
                simp only [Act.put, List.setIfInBounds_toArray, List.set_cons_zero, List.set_cons_succ, i64_w, i32_w]
                rfl
              exact norm_ (by simp only [putAll, Act.put, List.setIfInBounds_toArray, List.set_cons_zero, List.set_cons_succ]) (hCont (A2, c2) _ ⟨HB2.out, HR2.out⟩)
            · skip
              refine event_step (w1 := W2) (v := .string (strOfNums ss)) (by rfl) (by go_simp) ?_
              refine hK.out _ _ ((blk_cell (JD.at (HJW.out.low HB2.out)) 1).trans rfl) (fun hHeld => ?_)
              clear hK K
              refine norm_ (a' := ?_) ?_ ?_
              rotate_left
              · show Act.put _ (some 76) _ = _
                simp only [Act.put, List.setIfInBounds_toArray, List.set_cons_zero, List.set_cons_succ, i64_w, i32_w]
                rfl
              refine one_ (i := 13) (N := some 71) (lb 29 524287) rfl rfl (by kernel_rfl) (by decide) (fun K hK => ?_)
              refine event_step (w1 := W2) (v := .string (strOfNums ss)) (by rfl) (by go_simp) ?_
              refine hK.out _ _ ((blk_cell (JD.at (HJW.out.low HB2.out)) 1).trans rfl) (fun hHeld => ?_)
              clear hK K
              refine norm_ (a' := ?_) ?_ ?_
              rotate_left
              · show Act.put _ (some 71) _ = _
                simp only [Act.put, List.setIfInBounds_toArray, List.set_cons_zero, List.set_cons_succ, i64_w, i32_w]
                rfl
              exact norm_ (by simp only [putAll, Act.put, List.setIfInBounds_toArray, List.set_cons_zero, List.set_cons_succ]) (hCont (A2, c2) _ ⟨HB2.out, HR2.out⟩)
        rintro ⟨A2, c2⟩ W2 ⟨hb2, hr2⟩
        simp only at hb2 hr2 ⊢
        have HB2 := Aside0.mk hb2
        have hHeld : W2.cell? ⟨g, 1, none⟩ = some (.int .i64 C) := (blk_cell (JD.at (HJW.out.low hb2)) 1).trans rfl
        obtain ⟨sS, hsS⟩ : ∃ sS, sS = strOfNums ss := ⟨_, rfl⟩
        rw [← hsS]
        clear hb2 hr2 hsS HB1 HR1
        refine norm_ (a' := ?_) ?_ ?_
        rotate_left
        · simp only [putAll, Act.put, List.setIfInBounds_toArray, List.set_cons_zero, List.set_cons_succ]
          rfl
        refine pv 19 77 (lb 29 1048575) ?_
        refine pv 20 78 (lb 29 2097151) ?_
        refine pv 21 79 (lb 29 4194303) ?_
        refine pv 22 80 (lb 29 8388607) ?_
        refine pv 24 82 (lb 29 25165823) ?_
        obtain ⟨na, hna⟩ : ∃ na, na = (aopens L').length := ⟨_, rfl⟩
        have HNa := Aside0.mk hna
        clear hna
        refine one_ (i := 23) (N := some 81) (lb 29 33554431) rfl rfl (by kernel_rfl) (by decide) (fun K hK => ?_)
        refine goes_ Try.func12 (by kernel_rfl) rfl #[.pointer (some ⟨p, 0, none⟩)] (by rfl) rfl rfl ba ?_
        refine ((HJW.out.low HB2.out).allM HBd.out HI.out).mono ?_
        rintro e W3 ⟨A3, c3, rfl, hrow, hb⟩
        refine ⟨_, rfl, ?_⟩
        rw [← HNa.out] at hrow ⊢
        have HR3 := Aside0.mk hrow
        have HB3 := Aside0.mk (below_step HB2.out hb)
        clear hrow hb
        refine hK.out _ _ ((blk_cell (JD.at (HJW.out.low HB3.out)) 1).trans rfl) (fun hHeld => ?_)
        clear hK K
        refine norm_ (a' := ?_) ?_ ?_
        rotate_left
        · show Act.put _ (some 81) _ = _
          simp only [Act.put, List.setIfInBounds_toArray, List.set_cons_zero, List.set_cons_succ, i64_w, i32_w]
          rfl
        refine one_ (i := 25) (N := some 83) (lb 29 67108863) rfl rfl (by kernel_rfl) (by decide) (fun K hK => ?_)
        refine goes_ Try.func13 (by kernel_rfl) rfl #[.pointer (some ⟨x, 0, none⟩)] (by rfl) rfl rfl ba ?_
        refine ((HJW.out.low HB3.out).allR HBd.out HI.out).mono ?_
        rintro e W4 ⟨A4, c4, rfl, hrow, hb⟩
        refine ⟨_, rfl, ?_⟩
        rw [← HNa.out] at hrow ⊢
        have HR4 := Aside0.mk hrow
        have HB4 := Aside0.mk (below_step HB3.out hb)
        have HR3' := Aside0.mk (HR3.out.below hb)
        clear hrow hb
        refine hK.out _ _ ((blk_cell (JD.at (HJW.out.low HB4.out)) 1).trans rfl) (fun hHeld => ?_)
        clear hK K
        refine norm_ (a' := ?_) ?_ ?_
        rotate_left
        · show Act.put _ (some 83) _ = _
          simp only [Act.put, List.setIfInBounds_toArray, List.set_cons_zero, List.set_cons_succ, i64_w, i32_w]
          rfl
        refine one_ (i := 26) (N := some 84) (lb 29 134217727) rfl rfl (by kernel_rfl) (by decide) (fun K hK => ?_)
        refine goes_ Try.func11 (by kernel_rfl) rfl #[.slice A3 na c3, .slice A4 na c4] (by rfl) rfl rfl ba ?_
        refine (ints_eq (aopens L') A3 A4 c3 c4 na _ HNa.out (by rw [HNa.out, aopens_len]; have := HBd.out.on; omega) HR3'.out HR4.out).mono ?_
        rintro e W5 ⟨rfl, hb⟩
        refine ⟨_, rfl, ?_⟩
        have HB5 := Aside0.mk (below_step HB4.out hb)
        clear hb
        refine hK.out _ _ ((blk_cell (JD.at (HJW.out.low HB5.out)) 1).trans rfl) (fun hHeld => ?_)
        clear hK K
        refine norm_ (a' := ?_) ?_ ?_
        rotate_left
        · show Act.put _ (some 84) _ = _
          simp only [Act.put, List.setIfInBounds_toArray, List.set_cons_zero, List.set_cons_succ, i64_w, i32_w]
          rfl
        refine pv 27 85 (lb 29 268435455) ?_
        refine pv 28 86 (lb 29 536870911) ?_
        refine done_ (by kernel_rfl) ?_
        have HJ9 := Aside0.mk (HJW.out.low HB5.out)
        go_wp2
        go_roundw
        case rel => exact ⟨kk + 1, by omega, by simp, L', ds', HJ9.out.drop (fun k o h => h.elim), HBd2.out⟩
        case measure => simp [intOf]; omega
    · obtain rfl : kk = n := by omega
      go_wp2_with (go_at_call 14; go_loud (refine (Wld.speaks_calls _).mono ?_; rintro e w9 ⟨rfl, hb⟩; have HB9 := Aside0.mk (below_step HJ.out.bl hb); clear hb))
      go_ret
      exact ⟨rfl, HB9.out⟩
end Go.Proofs.Ytnhhcmnjfaeliaa.Vm
