/- The reference's world with any connections: Room, Arrive; own text of this session. -/
import Derived.Test.YtnhhcmnjfaeliaaVsA
namespace Go.Proofs.Ytnhhcmnjfaeliaa.Vm
open Wld hiding St Ft Next cellsQ cellsP ReadPost ptrE ptrE_none ptrE_some law zeroP Key key_of info_u8 info_int ne_t ne_blk ne_map grown_below
open Go.RowKit Go.Proofs.YtnhhcmnjfaeliaaW.PrintWords Go.Proofs.YtnhhcmnjfaeliaaW.PrintLast Go.Maps
set_option linter.unusedVariables false
set_option linter.unusedSimpArgs false
section
variable {w w1 w2 : World} {x n cap : Nat} {vL vD : Value} {L A B : List Rc} {y : Rc} {ds : List Int} {ad : Addr} {c : Int}
theorem own_at {v1 v0 : Value} (hat : v1.ownBlock = v0.ownBlock ∨ ∃ i, v1.ownBlock = some i ∧ w.heap.size ≤ i) (k : Nat) (hk : v1.ownBlock = some k) : v0.ownBlock = some k ∨ w.heap.size ≤ k := by
  rcases hat with e | ⟨i, e, hi⟩
  · exact .inl (e ▸ hk)
  · rw [e] at hk
    injection hk with hk
    exact .inr (hk ▸ hi)
theorem RFt.turn {y' : Rc} {m : Nat} (ho : ∀ k, y'.own k → y.own k ∨ m ≤ k) (k : Nat) (hk : RFt x vL vD (A ++ y' :: B) k) : RFt x vL vD (A ++ y :: B) k ∨ m ≤ k := by
  rcases hk with hk | hk | hk | ⟨z, hz, hk⟩
  · exact .inl (.inl hk)
  · exact .inl (.inr (.inl hk))
  · exact .inl (.inr (.inr (.inl hk)))
  · rw [List.mem_append, List.mem_cons] at hz
    rcases hz with hz | rfl | hz
    · exact .inl (.inr (.inr (.inr ⟨z, by simp [hz], hk⟩)))
    · rcases ho k hk with h5 | h5
      · exact .inl (.inr (.inr (.inr ⟨y, by simp, h5⟩)))
      · exact .inr h5
    · exact .inl (.inr (.inr (.inr ⟨z, by simp [hz], hk⟩)))
/-- The cells, where only a row of the connection turned. -/
theorem RW.after (h : RW w x (.slice (some ad) n cap) vD (A ++ y :: B) ds) {v0 : Option Nat} (hv0 : ∀ k, v0 = some k → y.own k) (hg : w.grownBy w2 v0) :
    w2.cell? ⟨x, 0, none⟩ = some (.slice (some ad) n cap) ∧ (∀ j u, y.cells[j]? = some u → w2.cell? ⟨(ad.add (A.length * 6)).block, (ad.add (A.length * 6)).off + j, none⟩ = some u) := by
  have hyL : y ∈ A ++ y :: B := by simp
  refine ⟨(blk_cell ((hg.block x (blk_lt h.blk) (fun e => h.neY hyL (hv0 x e.symm) rfl)).trans h.blk) 0).trans rfl, fun j u hu => ?_⟩
  have h5 := h.cellAt j u hu
  have hgo : (Value.slice (some ad) n cap).ownBlock = some ad.block := rfl
  have hne : some ad.block ≠ v0 := fun e => (h.neL hgo).2.2 y hyL (hv0 _ e.symm)
  have e1 : w2.heap[ad.block]? = w.heap[ad.block]? := hg.block ad.block (q_lt h.rl _ hgo) hne
  obtain ⟨_, C, hC⟩ := q_typed h.rl _ hgo
  rw [add_block] at h5 ⊢
  rw [blk_cell hC] at h5
  rw [blk_cell (e1.trans hC)]
  exact h5
/-- What waits turned. -/
theorem RW.toW (h : RW w x (.slice (some ad) n cap) vD (A ++ y :: B) ds) {v1 : Value} {ws1 : List Int} (hg : w.grownBy w2 y.vw.ownBlock) (hR : Row .u8 5 w2 v1 ws1) (hat : v1.ownBlock = y.vw.ownBlock ∨ ∃ i, v1.ownBlock = some i ∧ w.heap.size ≤ i) :
    (RW (w2.setCell ⟨(ad.add (A.length * 6)).block, (ad.add (A.length * 6)).off + 3, none⟩ v1) x (.slice (some ad) n cap) vD (A ++ { y with vw := v1, ws := ws1 } :: B) ds ∧ w2.frozen? ⟨(ad.add (A.length * 6)).block, (ad.add (A.length * 6)).off + 3, none⟩ = false) ∧
    (∀ k, RFt x (.slice (some ad) n cap) vD (A ++ { y with vw := v1, ws := ws1 } :: B) k → RFt x (.slice (some ad) n cap) vD (A ++ y :: B) k ∨ w.heap.size ≤ k) ∧
    Stay (RFt x (.slice (some ad) n cap) vD (A ++ y :: B)) w (w2.setCell ⟨(ad.add (A.length * 6)).block, (ad.add (A.length * 6)).off + 3, none⟩ v1) := by
  have hyL : y ∈ A ++ y :: B := by simp
  obtain ⟨ad', cap', e, hadd, _⟩ := h.conn
  injection e with e _ _
  injection e with e
  subst e
  have ho : ∀ k, Rc.own { y with vw := v1, ws := ws1 } k → y.own k ∨ w.heap.size ≤ k := by
    rintro k (hk | hk)
    · exact (own_at hat k hk).imp .inl id
    · exact .inl (.inr hk)
  refine ⟨h.put (y' := { y with vw := v1, ws := ws1 }) rfl hadd rfl (fun k hk hn => hg.block k hk (fun e => hn (.inl e.symm))) (fun k hk hk2 => (ho k hk2).resolve_right (by omega)) hg.size hR ((h.rs y hyL).keep (fun i hi hl => hg.block i hl (fun e => h.self y hyL i e.symm hi))) ?_ 3 (by decide) v1 rfl, RFt.turn ho, ?_⟩
  · intro k hk1 hk2
    rcases own_at hat k hk1 with h5 | h5
    · exact h.self y hyL k h5 hk2
    · have := (h.rs y hyL).lt k hk2; omega
  · exact stay_cell h (add_block _ _) (Stay.grown hg (fun k hk => .inr (.inr (.inr ⟨y, hyL, .inl hk⟩)))) _
/-- What was sent turned. -/
theorem RW.toS (h : RW w x (.slice (some ad) n cap) vD (A ++ y :: B) ds) {v1 : Value} {ss1 : List Int} (hg : w.grownBy w2 y.vs.ownBlock) (hR : Row .u8 5 w2 v1 ss1) (hat : v1.ownBlock = y.vs.ownBlock ∨ ∃ i, v1.ownBlock = some i ∧ w.heap.size ≤ i) :
    (RW (w2.setCell ⟨(ad.add (A.length * 6)).block, (ad.add (A.length * 6)).off + 4, none⟩ v1) x (.slice (some ad) n cap) vD (A ++ { y with vs := v1, ss := ss1 } :: B) ds ∧ w2.frozen? ⟨(ad.add (A.length * 6)).block, (ad.add (A.length * 6)).off + 4, none⟩ = false) ∧
    (∀ k, RFt x (.slice (some ad) n cap) vD (A ++ { y with vs := v1, ss := ss1 } :: B) k → RFt x (.slice (some ad) n cap) vD (A ++ y :: B) k ∨ w.heap.size ≤ k) ∧
    Stay (RFt x (.slice (some ad) n cap) vD (A ++ y :: B)) w (w2.setCell ⟨(ad.add (A.length * 6)).block, (ad.add (A.length * 6)).off + 4, none⟩ v1) := by
  have hyL : y ∈ A ++ y :: B := by simp
  obtain ⟨ad', cap', e, hadd, _⟩ := h.conn
  injection e with e _ _
  injection e with e
  subst e
  have ho : ∀ k, Rc.own { y with vs := v1, ss := ss1 } k → y.own k ∨ w.heap.size ≤ k := by
    rintro k (hk | hk)
    · exact .inl (.inl hk)
    · exact (own_at hat k hk).imp .inr id
  refine ⟨h.put (y' := { y with vs := v1, ss := ss1 }) rfl hadd rfl (fun k hk hn => hg.block k hk (fun e => hn (.inr e.symm))) (fun k hk hk2 => (ho k hk2).resolve_right (by omega)) hg.size ((h.rw y hyL).keep (fun i hi hl => hg.block i hl (fun e => h.self y hyL i hi e.symm))) hR ?_ 4 (by decide) v1 rfl, RFt.turn ho, ?_⟩
  · intro k hk1 hk2
    rcases own_at hat k hk2 with h5 | h5
    · exact h.self y hyL k hk1 h5
    · have := (h.rw y hyL).lt k hk1; omega
  · exact stay_cell h (add_block _ _) (Stay.grown hg (fun k hk => .inr (.inr (.inr ⟨y, hyL, .inr hk⟩)))) _
set_option maxRecDepth 100000 in
theorem rroom_no (h : RW w x vL vD L ds) (hno : NoC L c) (hl : L.length ≤ 1000000000) (N : Int) :
    Calls Try.prog 27 #[.pointer (some ⟨x, 0, none⟩), .int .i64 c, .int .i64 N] w fun e w' => e = .returned (.int .i64 6) ∧ Below w.heap.size w w' := by
  have HF := Aside0.mk (rat_no h hno hl)
  clear h hno hl
  go_enter Try.func27, Try.ntmps27
  go_wp2_with (go_at_call 8; refine HF.out.mono ?_; rintro e w1 ⟨rfl, hb⟩; have HB := Aside0.mk hb; clear hb)
  go_ret
  exact ⟨rfl, by repeat (first | exact HB.out | apply below_drew1 | apply pw_below_drewN)⟩
set_option maxRecDepth 100000 in
theorem rroom_neg (h : RW w x vL vD (A ++ y :: B) ds) (hyc : y.c = c) (ho : y.op = true) (hl : (A ++ y :: B).length ≤ 1000000000) (N : Int) (hN : N < 0) :
    Calls Try.prog 27 #[.pointer (some ⟨x, 0, none⟩), .int .i64 c, .int .i64 N] w fun e w' => e = .returned (.int .i64 1) ∧ Below w.heap.size w w' := by
  have HF := Aside0.mk (rat_yes h hyc ho hl)
  obtain ⟨i, hi2⟩ : ∃ i, i = A.length := ⟨_, rfl⟩
  rw [← hi2] at HF
  have hi0 : ¬ ((i : Int) < 0) := by omega
  clear h hyc ho hl hi2
  go_enter Try.func27, Try.ntmps27
  go_wp2_with (go_at_call 8; refine HF.out.mono ?_; rintro e w1 ⟨rfl, hb⟩; have HB := Aside0.mk hb; clear hb)
  go_ret
  exact ⟨rfl, by repeat (first | exact HB.out | apply below_drew1 | apply pw_below_drewN)⟩
set_option maxHeartbeats 4000000 in
set_option maxRecDepth 100000 in
theorem rroom_yes (h : RW w x vL vD (A ++ y :: B) ds) (hyc : y.c = c) (ho : y.op = true) (hl : (A ++ y :: B).length ≤ 1000000000) (N : Int) (hN : ¬ N < 0) (hr0 : 0 ≤ y.room) (hr1 : y.room ≤ 1048576) :
    Calls Try.prog 27 #[.pointer (some ⟨x, 0, none⟩), .int .i64 c, .int .i64 N] w fun e w' => e = .returned (.int .i64 0) ∧ RNext w x vL vD (A ++ y :: B) ds (A ++ { y with room := y.room + min N (1048576 - y.room) } :: B) ds w' := by
  have HF := Aside0.mk (rat_yes h hyc ho hl)
  obtain ⟨ad, cap, rfl, hadd, _⟩ := h.conn
  have H := Aside0.mk h
  have hi : A.length < (A ++ y :: B).length := by rw [List.length_append, List.length_cons]; omega
  obtain ⟨n, hn⟩ : ∃ n, n = (A ++ y :: B).length := ⟨_, rfl⟩
  rw [← hn] at H hi hl ⊢
  obtain ⟨i, hi2⟩ : ∃ i, i = A.length := ⟨_, rfl⟩
  have HI := Aside0.mk hi2
  rw [← hi2] at HF hi
  have hiz : (i : Int) < (n : Int) := by omega
  have hi0 : ¬ ((i : Int) < 0) := by omega
  obtain ⟨rm, hrm⟩ : ∃ rm, rm = y.room := ⟨_, rfl⟩
  have HRm := Aside0.mk hrm
  rw [← hrm] at hr0 hr1
  clear h hyc ho hadd hn hi2 hrm
  by_cases h1 : 1048576 < N
  · have HE : Aside0 (y.room + min N (1048576 - y.room) = 1048576) := ⟨by have := HRm.out; omega⟩
    go_enter Try.func27, Try.ntmps27
    go_wp2_with (go_at_call 8; refine HF.out.mono ?_; rintro e w1 ⟨rfl, hb⟩; have HB := Aside0.mk hb; have H1 := Aside0.mk (H.out.below hb); have hz0 : w1.cell? ⟨x, 0, none⟩ = some (.slice (some ad) n cap) := (blk_cell H1.out.blk 0).trans rfl; have hz1 := H1.out.cellAt 5 _ rfl; have hp := H1.out.flag (y' := { y with room := 1048576 }) rfl rfl rfl rfl rfl 5 (by decide) (.int .i64 1048576) rfl; rw [← HI.out] at hz1 hp; have HP := Aside0.mk hp.1; have hf := hp.2; clear hb hp)
    go_ret
    rw [HE.out]
    exact ⟨rfl, _, _, HP.out, fun k hk => .inl (RFt.flag (y := y) (y' := { y with room := 1048576 }) rfl rfl k hk), stay_cell H.out (add_block _ _) (Stay.below HB.out) _⟩
  · by_cases h2 : 1048576 < rm + N
    · have HE : Aside0 (y.room + min N (1048576 - y.room) = 1048576) := ⟨by have := HRm.out; omega⟩
      have hs0 : ¬ 9223372036854775807 < rm + N := by omega
      have hs1 : ¬ rm + N < -9223372036854775808 := by omega
      go_enter Try.func27, Try.ntmps27
      go_wp2_with (go_at_call 8; refine HF.out.mono ?_; rintro e w1 ⟨rfl, hb⟩; have HB := Aside0.mk hb; have H1 := Aside0.mk (H.out.below hb); have hz0 : w1.cell? ⟨x, 0, none⟩ = some (.slice (some ad) n cap) := (blk_cell H1.out.blk 0).trans rfl; have hz1 := H1.out.cellAt 5 _ rfl; have hp := H1.out.flag (y' := { y with room := 1048576 }) rfl rfl rfl rfl rfl 5 (by decide) (.int .i64 1048576) rfl; rw [← HI.out] at hz1 hp; rw [← HRm.out] at hz1; have HP := Aside0.mk hp.1; have hf := hp.2; clear hb hp)
      go_ret
      rw [HE.out]
      exact ⟨rfl, _, _, HP.out, fun k hk => .inl (RFt.flag (y := y) (y' := { y with room := 1048576 }) rfl rfl k hk), stay_cell H.out (add_block _ _) (Stay.below HB.out) _⟩
    · have HE : Aside0 (y.room + min N (1048576 - y.room) = rm + N) := ⟨by have := HRm.out; omega⟩
      have e2 : IntKind.i64.wrap (rm + N) = rm + N := IntWalk.i64_in _ (by omega)
      go_enter Try.func27, Try.ntmps27
      go_wp2_with (go_at_call 8; refine HF.out.mono ?_; rintro e w1 ⟨rfl, hb⟩; have HB := Aside0.mk hb; have H1 := Aside0.mk (H.out.below hb); have hz0 : w1.cell? ⟨x, 0, none⟩ = some (.slice (some ad) n cap) := (blk_cell H1.out.blk 0).trans rfl; have hz1 := H1.out.cellAt 5 _ rfl; have hp := H1.out.flag (y' := { y with room := rm + N }) rfl rfl rfl rfl rfl 5 (by decide) (.int .i64 (rm + N)) rfl; rw [← HI.out] at hz1 hp; rw [← HRm.out] at hz1; have HP := Aside0.mk hp.1; have hf := hp.2; clear hb hp)
      go_region
      all_goals
        go_wp2
        go_ret
        rw [HE.out]
        exact ⟨rfl, _, _, HP.out.below (below_drew (Below.refl _ _)), fun k hk => .inl (RFt.flag (y := y) (y' := { y with room := rm + N }) rfl rfl k hk), stay_low (stay_cell H.out (add_block _ _) (Stay.below HB.out) _) (below_drew (Below.refl _ _))⟩
end
end Go.Proofs.Ytnhhcmnjfaeliaa.Vm
/- The reference's world with any connections: Arrive; own text of this session. -/
namespace Go.Proofs.Ytnhhcmnjfaeliaa.Vm
open Wld hiding St Ft Next cellsQ cellsP ReadPost ptrE ptrE_none ptrE_some law zeroP Key key_of info_u8 info_int ne_t ne_blk ne_map grown_below
open Go.RowKit Go.Proofs.YtnhhcmnjfaeliaaW.PrintWords Go.Proofs.YtnhhcmnjfaeliaaW.PrintLast Go.Maps
set_option linter.unusedVariables false
set_option linter.unusedSimpArgs false
section
variable {w w1 w2 : World} {x n cap : Nat} {vL vD : Value} {L A B : List Rc} {y : Rc} {ds : List Int} {ad : Addr} {c : Int}
set_option maxRecDepth 100000 in
theorem rarrive_no (h : RW w x vL vD L ds) (hno : NoC L c) (hl : L.length ≤ 1000000000) (v : Value) :
    Calls Try.prog 23 #[.pointer (some ⟨x, 0, none⟩), .int .i64 c, v] w fun e w' => e = .returned (.int .i64 6) ∧ Below w.heap.size w w' := by
  have HF := Aside0.mk (rat_no h hno hl)
  clear h hno hl
  go_enter Try.func23, Try.ntmps23
  go_wp2_with (go_at_call 8; refine HF.out.mono ?_; rintro e w1 ⟨rfl, hb⟩; have HB := Aside0.mk hb; clear hb)
  go_ret
  exact ⟨rfl, by repeat (first | exact HB.out | apply below_drew1 | apply pw_below_drewN)⟩
set_option maxRecDepth 100000 in
theorem rarrive_ended (h : RW w x vL vD (A ++ y :: B) ds) (hyc : y.c = c) (ho : y.op = true) (he : y.en = true) (hl : (A ++ y :: B).length ≤ 1000000000) (v : Value) :
    Calls Try.prog 23 #[.pointer (some ⟨x, 0, none⟩), .int .i64 c, v] w fun e w' => e = .returned (.int .i64 7) ∧ Below w.heap.size w w' := by
  have HF := Aside0.mk (rat_yes h hyc ho hl)
  obtain ⟨ad, cap, rfl, hadd, _⟩ := h.conn
  have H := Aside0.mk h
  have hi : A.length < (A ++ y :: B).length := by rw [List.length_append, List.length_cons]; omega
  obtain ⟨n, hn⟩ : ∃ n, n = (A ++ y :: B).length := ⟨_, rfl⟩
  rw [← hn] at H hi hl
  obtain ⟨i, hi2⟩ : ∃ i, i = A.length := ⟨_, rfl⟩
  have HI := Aside0.mk hi2
  rw [← hi2] at HF hi
  have hiz : (i : Int) < (n : Int) := by omega
  have hi0 : ¬ ((i : Int) < 0) := by omega
  have He := Aside0.mk he
  clear h hyc ho hadd hn hi2 he
  go_enter Try.func23, Try.ntmps23
  go_wp2_with (go_at_call 8; refine HF.out.mono ?_; rintro e w1 ⟨rfl, hb⟩; have HB := Aside0.mk hb; have H1 := Aside0.mk (H.out.below hb); have hz0 : w1.cell? ⟨x, 0, none⟩ = some (.slice (some ad) n cap) := (blk_cell H1.out.blk 0).trans rfl; have hz1 := H1.out.cellAt 2 (.bool true) (by rw [← He.out]; rfl); rw [← HI.out] at hz1; clear hb)
  go_ret
  exact ⟨rfl, by repeat (first | exact HB.out | apply below_drew1 | apply pw_below_drewN)⟩
set_option maxRecDepth 100000 in
theorem rarrive_long (h : RW w x vL vD (A ++ y :: B) ds) (hyc : y.c = c) (ho : y.op = true) (he : y.en = false) (hl : (A ++ y :: B).length ≤ 1000000000) (Ab : Option Addr) (N cb : Nat) (hN : N ≤ 1048576) (hw : y.ws.length ≤ 1048576) (hlg : 1048576 < N + y.ws.length) :
    Calls Try.prog 23 #[.pointer (some ⟨x, 0, none⟩), .int .i64 c, .slice Ab N cb] w fun e w' => e = .returned (.int .i64 2) ∧ Below w.heap.size w w' := by
  have HF := Aside0.mk (rat_yes h hyc ho hl)
  obtain ⟨ad, cap, rfl, hadd, _⟩ := h.conn
  have H := Aside0.mk h
  have hi : A.length < (A ++ y :: B).length := by rw [List.length_append, List.length_cons]; omega
  obtain ⟨n, hn⟩ : ∃ n, n = (A ++ y :: B).length := ⟨_, rfl⟩
  rw [← hn] at H hi hl
  obtain ⟨i, hi2⟩ : ∃ i, i = A.length := ⟨_, rfl⟩
  have HI := Aside0.mk hi2
  rw [← hi2] at HF hi
  have hiz : (i : Int) < (n : Int) := by omega
  have hi0 : ¬ ((i : Int) < 0) := by omega
  have He := Aside0.mk he
  obtain ⟨Aw, cw, ew, _⟩ := (h.rw y (by simp)).slice
  obtain ⟨W, hW⟩ : ∃ W, W = y.ws.length := ⟨_, rfl⟩
  rw [← hW] at ew hw hlg
  have HW := Aside0.mk ew
  have hs0 : ¬ 9223372036854775807 < (W : Int) + (N : Int) := by omega
  have hs1 : 1048576 < (W : Int) + (N : Int) := by omega
  clear h hyc ho hadd hn hi2 he ew hW
  go_enter Try.func23, Try.ntmps23
  go_wp2_with (go_at_call 8; refine HF.out.mono ?_; rintro e w1 ⟨rfl, hb⟩; have HB := Aside0.mk hb; have H1 := Aside0.mk (H.out.below hb); have hz0 : w1.cell? ⟨x, 0, none⟩ = some (.slice (some ad) n cap) := (blk_cell H1.out.blk 0).trans rfl; have hz1 := H1.out.cellAt 2 (.bool false) (by rw [← He.out]; rfl); have hz2 := H1.out.cellAt 3 _ rfl; rw [← HI.out] at hz1 hz2; rw [HW.out] at hz2; clear hb)
  go_ret
  exact ⟨rfl, by repeat (first | exact HB.out | apply below_drew1 | apply pw_below_drewN)⟩
set_option maxHeartbeats 4000000 in
set_option maxRecDepth 100000 in
theorem rarrive_ok (h : RW w x vL vD (A ++ y :: B) ds) (hyc : y.c = c) (ho : y.op = true) (he : y.en = false) (hl : (A ++ y :: B).length ≤ 1000000000) (Ab : Option Addr) (N cb : Nat) (b : List Int) (hN : N = b.length) (hb : (Kd.int .u8).C w Ab b.length b) (hlg : b.length + y.ws.length ≤ 1048576) :
    Calls Try.prog 23 #[.pointer (some ⟨x, 0, none⟩), .int .i64 c, .slice Ab N cb] w fun e w' => e = .returned (.int .i64 0) ∧ ∃ v1, RNext w x vL vD (A ++ y :: B) ds (A ++ { y with vw := v1, ws := y.ws ++ b } :: B) ds w' := by
  have HF := Aside0.mk (rat_yes h hyc ho hl)
  obtain ⟨ad, cap, rfl, hadd, _⟩ := h.conn
  have H := Aside0.mk h
  have hi : A.length < (A ++ y :: B).length := by rw [List.length_append, List.length_cons]; omega
  obtain ⟨n, hn⟩ : ∃ n, n = (A ++ y :: B).length := ⟨_, rfl⟩
  rw [← hn] at H hi hl ⊢
  obtain ⟨i, hi2⟩ : ∃ i, i = A.length := ⟨_, rfl⟩
  have HI := Aside0.mk hi2
  rw [← hi2] at HF hi
  have hiz : (i : Int) < (n : Int) := by omega
  have hi0 : ¬ ((i : Int) < 0) := by omega
  have He := Aside0.mk he
  obtain ⟨Aw, cw, ew, _⟩ := (h.rw y (by simp)).slice
  obtain ⟨W, hW⟩ : ∃ W, W = y.ws.length := ⟨_, rfl⟩
  have HWl := Aside0.mk hW
  rw [← hW] at ew hlg
  rw [← hN] at hlg
  have HW := Aside0.mk ew
  have hs0 : ¬ 9223372036854775807 < (W : Int) + (N : Int) := by omega
  have hs1 : ¬ 1048576 < (W : Int) + (N : Int) := by omega
  have HBb := Aside0.mk hb
  have HN := Aside0.mk hN
  have HL := Aside0.mk hlg
  clear h hyc ho hadd hn hi2 he ew hW hb hN hlg
  go_enter Try.func23, Try.ntmps23
  go_wp2_with (go_at_call 8; refine HF.out.mono ?_; rintro e w1 ⟨rfl, hb⟩; have HB := Aside0.mk hb; have H1 := Aside0.mk (H.out.below hb); have hz0 : w1.cell? ⟨x, 0, none⟩ = some (.slice (some ad) n cap) := (blk_cell H1.out.blk 0).trans rfl; have hz1 := H1.out.cellAt 2 (.bool false) (by rw [← He.out]; rfl); have hz2 := H1.out.cellAt 3 _ rfl; rw [← HI.out] at hz1 hz2; rw [HW.out] at hz2; clear hb)
  go_region_law (refine step_append_row (bytes := 1) (by rfl) (.tmp 46) (.tmp 47) rfl Try.underlying30 info_u8 (by decide) (.slice Aw W cw) y.ws Ab N cb b rfl rfl (by rw [← HW.out]; exact H1.out.drew.rw y (by simp)) (Kd.C_below HBb.out (below_drew HB.out)) HN.out (by have := HL.out; have := HWl.out; have := HN.out; omega) ?_; intro v1 w2 hR hg hat; rw [← HW.out] at hg hat; obtain ⟨A1, c1, e1', _⟩ := hR.slice; obtain ⟨N1, hN1⟩ : ∃ N, N = (y.ws ++ b).length := ⟨_, rfl⟩; rw [← hN1] at e1'; clear hN1; obtain ⟨hst, hft, hsy⟩ := H1.out.drew.toW hg hR hat; obtain ⟨hx0, hxc⟩ := H1.out.drew.after (fun k hk => .inl hk) hg; have hy3 := hxc 3 _ rfl; rw [HW.out, ← HI.out] at hy3; rw [← HI.out] at hst hsy; have HSt := Aside0.mk hst.1; have hf3 := hst.2; have HFt := Aside0.mk hft; have HSy := Aside0.mk hsy; clear hR hg hat hst hft hsy hxc; subst e1')
  all_goals
    go_wp2
    go_ret
    exact ⟨rfl, _, _, _, HSt.out, fun k hk => (HFt.out k hk).imp id (fun h5 => Nat.le_trans HB.out.size h5), (Stay.below HB.out).trans ((Stay.below (below_drew (Below.refl _ _))).trans HSy.out (fun k hk => .inl hk)) (fun k hk => .inl hk)⟩
end
end Go.Proofs.Ytnhhcmnjfaeliaa.Vm
/- The reference's world with any connections: Read; own text of this session. -/
namespace Go.Proofs.Ytnhhcmnjfaeliaa.Vm
open Wld hiding St Ft Next cellsQ cellsP ReadPost ptrE ptrE_none ptrE_some law zeroP Key key_of info_u8 info_int ne_t ne_blk ne_map grown_below
open Go.RowKit Go.Proofs.YtnhhcmnjfaeliaaW.PrintWords Go.Proofs.YtnhhcmnjfaeliaaW.PrintLast Go.Maps
set_option linter.unusedVariables false
set_option linter.unusedSimpArgs false
theorem row_at {k0 : IntKind} {e : TypeId} {w : World} {A : Option Addr} {n c : Nat} {xs : List Int} (h : Row k0 e w (.slice A n c) xs) (k : Nat) (hk : k < xs.length) : ∃ ad, A = some ad ∧ w.cell? (ad.add k) = some (.int k0 (xs.getD k 0)) := by
  have hC := h.C.2.2
  have hrd := Kd.reads_of_C (enc := Value.int k0) (d := (0 : Int)) (h1 := fun _ => rfl) hC
  obtain ⟨ad, rfl, hcell⟩ := hrd.2.2 (by omega)
  exact ⟨ad, rfl, hcell k hk⟩
/-- Two rows of one's own, side by side. -/
structure TwoR (w wr : World) (v9 v10 : Value) (a b : List Int) : Prop where
  bel : Below w.heap.size w wr
  ra : Row .u8 5 wr v9 a
  rb : Row .u8 5 wr v10 b
  fa : ∀ i, v9.ownBlock = some i → w.heap.size ≤ i
  fb : ∀ i, v10.ownBlock = some i → w.heap.size ≤ i
  ap : ∀ i, v9.ownBlock = some i → v10.ownBlock = some i → False
theorem TwoR.swap {w wr : World} {v9 v10 : Value} {a b : List Int} (h : TwoR w wr v9 v10 a b) : TwoR w wr v10 v9 b a := ⟨h.bel, h.rb, h.ra, h.fb, h.fa, fun i h1 h2 => h.ap i h2 h1⟩
theorem TwoR.left {w wr w2 : World} {v9 v10 v1 : Value} {a b a' : List Int} {o : Obj} (h : TwoR w wr v9 v10 a b) (hR : Row .u8 5 w2 v1 a') (hg : (wr.alloc o).grownBy w2 v9.ownBlock) (hat : v1.ownBlock = v9.ownBlock ∨ ∃ i, v1.ownBlock = some i ∧ (wr.alloc o).heap.size ≤ i) : TwoR w w2 v1 v10 a' b := by
  have hsz := (below_alloc (Below.refl wr.heap.size wr) o).size
  refine ⟨below_grown h.bel hg h.fa, hR, (h.rb.below (below_alloc (Below.refl _ _) o)).keep (fun i hi hl => hg.block i hl (fun e => h.ap i e.symm hi)), fun i hi => ?_, h.fb, fun i h1 h2 => ?_⟩
  · rcases own_at hat i hi with h5 | h5
    · exact h.fa i h5
    · have := h.bel.size; omega
  · rcases own_at hat i h1 with h5 | h5
    · exact h.ap i h5 h2
    · have := h.rb.lt i h2; omega
theorem cut_lt {l : List Int} {u : Int} {m : Nat} (h : l.length < m) : l.take m ++ [u] = (l ++ [u]).take m ∧ l.drop m = (l ++ [u]).drop m := by
  constructor
  · rw [List.take_of_length_le (l := l) (by omega), List.take_of_length_le (l := l ++ [u]) (by rw [List.length_append]; simp only [List.length_cons, List.length_nil]; omega)]
  · rw [List.drop_of_length_le (l := l) (by omega), List.drop_of_length_le (l := l ++ [u]) (by rw [List.length_append]; simp only [List.length_cons, List.length_nil]; omega)]
theorem cut_ge {l : List Int} {u : Int} {m : Nat} (h : m ≤ l.length) : l.take m = (l ++ [u]).take m ∧ l.drop m ++ [u] = (l ++ [u]).drop m :=
  ⟨by rw [List.take_append_of_le_length h], by rw [List.drop_append_of_le_length h]⟩
theorem take_snoc' {xs : List Int} {k : Nat} (h : k < xs.length) : xs.take (k + 1) = xs.take k ++ [xs.getD k 0] := by
  rw [List.take_succ_eq_append_getElem h, List.getD_eq_getElem?_getD, List.getElem?_eq_getElem h]
  rfl
section
variable {w w1 w2 : World} {x n cap : Nat} {vL vD : Value} {L A B : List Rc} {y : Rc} {ds : List Int} {ad : Addr} {c : Int}
set_option maxRecDepth 100000 in
theorem rread_no (h : RW w x vL vD L ds) (hno : NoC L c) (hl : L.length ≤ 1000000000) (N : Int) :
    Calls Try.prog 26 #[.pointer (some ⟨x, 0, none⟩), .int .i64 c, .int .i64 N] w fun e w' => e = .returned (.tuple #[.slice none 0 0, .int .i64 6]) ∧ Below w.heap.size w w' := by
  have HF := Aside0.mk (rat_no h hno hl)
  clear h hno hl
  go_enter Try.func26, Try.ntmps26
  go_wp2_with (go_at_call 8; refine HF.out.mono ?_; rintro e w1 ⟨rfl, hb⟩; have HB := Aside0.mk hb; clear hb)
  first | go_ret2 | go_ret
  exact ⟨rfl, by repeat (first | exact HB.out | apply below_drew1 | apply pw_below_drewN)⟩
/-- Read: what is told, and what still waits. -/
def RReadPost (w : World) (x : Nat) (vL vD : Value) (A B : List Rc) (y : Rc) (ds : List Int) (m : Nat) (e : Ending) (w' : World) : Prop :=
  ∃ (A1 : Option Addr) (c1 : Nat) (v1 : Value), e = .returned (.tuple #[.slice A1 m c1, .int .i64 0]) ∧ RNext w x vL vD (A ++ y :: B) ds (A ++ { y with vw := v1, ws := y.ws.drop m } :: B) ds w' ∧ Row .u8 5 w' (.slice A1 m c1) (y.ws.take m)
set_option maxHeartbeats 8000000 in
set_option maxRecDepth 100000 in
theorem rread_yes (h : RW w x vL vD (A ++ y :: B) ds) (hyc : y.c = c) (ho : y.op = true) (hl : (A ++ y :: B).length ≤ 1000000000) (N : Int) (m : Nat) (hm : (m : Int) = max 0 (min N y.ws.length)) (hw : y.ws.length ≤ 1048576) :
    Calls Try.prog 26 #[.pointer (some ⟨x, 0, none⟩), .int .i64 c, .int .i64 N] w (RReadPost w x vL vD A B y ds m) := by
  have HF := Aside0.mk (rat_yes h hyc ho hl)
  obtain ⟨ad, cap, rfl, hadd, _⟩ := h.conn
  have HADD := Aside0.mk hadd
  have H := Aside0.mk h
  have hi : A.length < (A ++ y :: B).length := by rw [List.length_append, List.length_cons]; omega
  obtain ⟨n, hn⟩ : ∃ n, n = (A ++ y :: B).length := ⟨_, rfl⟩
  rw [← hn] at H hi hl ⊢
  obtain ⟨i, hi2⟩ : ∃ i, i = A.length := ⟨_, rfl⟩
  have HI := Aside0.mk hi2
  rw [← hi2] at HF hi
  have hiz : (i : Int) < (n : Int) := by omega
  have hi0 : ¬ ((i : Int) < 0) := by omega
  obtain ⟨Aw, cw, ew, _⟩ := (h.rw y (by simp)).slice
  obtain ⟨W, hW⟩ : ∃ W, W = y.ws.length := ⟨_, rfl⟩
  have HWl := Aside0.mk hW
  rw [← hW] at ew hw hm
  have HW := Aside0.mk ew
  have hmW : m ≤ W := by omega
  have Hm := Aside0.mk hm
  clear h hyc ho hadd hn hi2 ew hW hm
  go_enter Try.func26, Try.ntmps26
  go_wp2_with (go_at_call 8; refine HF.out.mono ?_; rintro e w1 ⟨rfl, hb⟩; have HB := Aside0.mk hb; have H1 := Aside0.mk (H.out.below hb); have hz0 : w1.cell? ⟨x, 0, none⟩ = some (.slice (some ad) n cap) := (blk_cell H1.out.blk 0).trans rfl; have hz2 := H1.out.cellAt 3 _ rfl; rw [← HI.out] at hz2; rw [HW.out] at hz2; clear hb)
  go_loopw [9, 10, 27] (fun x9 x10 v27 wr => ∃ (kk : Nat) (v9 v10 : Value), kk ≤ W ∧ v9 = x9 ∧ v10 = x10 ∧ v27 = .int .i64 kk ∧ Aside0 (TwoR w wr v9 v10 ((y.ws.take kk).take m) ((y.ws.take kk).drop m))) (fun _ _ v27 _ => W - (intOf v27).toNat)
  case atStart => exact ⟨0, _, _, Nat.zero_le _, rfl, rfl, rfl, ⟨HB.out, by simpa using Row.nil _ _ _, by simpa using Row.nil _ _ _, fun i hi => by simp [Value.ownBlock] at hi, fun i hi => by simp [Value.ownBlock] at hi, fun i hi => by simp [Value.ownBlock] at hi⟩⟩
  case round =>
    obtain ⟨kk, v9, v10, hkk, rfl, rfl, rfl, HT⟩ := hrel
    clear hz0 hz2
    have H2 := Aside0.mk (H.out.below HT.out.bel)
    obtain ⟨A9, c9, e9, _⟩ := HT.out.ra.slice
    obtain ⟨n9, hn9⟩ : ∃ n9, n9 = ((y.ws.take kk).take m).length := ⟨_, rfl⟩
    have HN9 := Aside0.mk hn9
    rw [← hn9] at e9
    obtain ⟨A0, c0, e0, _⟩ := HT.out.rb.slice
    obtain ⟨n0, hn0⟩ : ∃ n0, n0 = ((y.ws.take kk).drop m).length := ⟨_, rfl⟩
    rw [← hn0] at e0
    subst e9 e0
    clear hn9 hn0
    by_cases hlt : kk < W
    · have hltz : (kk : Int) < (W : Int) := by omega
      obtain ⟨adw, eAw, hzk⟩ := row_at (k := kk) (by have h5 := H2.out.rw y (by simp); rw [HW.out] at h5; exact h5) (by have := HWl.out; omega)
      subst eAw
      have HS := Aside0.mk (take_snoc' (xs := y.ws) (k := kk) (by have := HWl.out; omega))
      obtain ⟨u, hu⟩ : ∃ u, u = y.ws.getD kk 0 := ⟨_, rfl⟩
      rw [← hu] at hzk HS
      clear hu
      have HLn := Aside0.mk (show (y.ws.take kk).length = kk by rw [List.length_take]; have := HWl.out; omega)
      by_cases hkm : kk < m
      · have hkN : (kk : Int) < N := by have := Hm.out; omega
        go_wp2_with (first
          | ((with_reducible refine gate_builtin (b := .append) (xs := #[.tmp 35, .tmp 37]) rfl ?_); at_builtin; go_loud (refine append_row (bytes := 1) rfl (.tmp 35) (.tmp 37) rfl Try.underlying30 info_u8 (by decide) (.slice A9 n9 c9) ((y.ws.take kk).take m) (some ⟨wr.heap.size, 0, none⟩) 1 1 [u] rfl rfl (HT.out.ra.below (below_alloc (Below.refl _ _) _)) (C_blk (xs := [u]) (blk_new wr (.cells #[.int .u8 u] 5)) (fun i hi => by match i, hi with | 0, _ => rfl) (by simp)) rfl (by rw [← HN9.out]; have h5 := HN9.out; have h6 := HLn.out; rw [List.length_take] at h5; simp only [List.length_cons, List.length_nil]; omega) ?_; intro v1 w2 hR hg hat; have HT2 := Aside0.mk (HT.out.left hR hg hat); clear hR hg hat)))
        go_roundw
        case rel => exact ⟨kk + 1, _, _, by omega, rfl, rfl, by simp, ⟨by
          have h5 := HT2.out
          have e5 := cut_lt (u := u) (l := y.ws.take kk) (m := m) (by rw [HLn.out]; exact hkm)
          rw [← HS.out] at e5
          rw [e5.1, e5.2] at h5
          exact h5⟩⟩
        case measure => simp [intOf]; omega
      · have hkN : ¬ (kk : Int) < N := by have := Hm.out; omega
        go_wp2_with (first
          | ((with_reducible refine gate_builtin (b := .append) (xs := #[.tmp 39, .tmp 41]) rfl ?_); at_builtin; go_loud (refine append_row (bytes := 1) rfl (.tmp 39) (.tmp 41) rfl Try.underlying30 info_u8 (by decide) (.slice A0 n0 c0) ((y.ws.take kk).drop m) (some ⟨wr.heap.size, 0, none⟩) 1 1 [u] rfl rfl (HT.out.rb.below (below_alloc (Below.refl _ _) _)) (C_blk (xs := [u]) (blk_new wr (.cells #[.int .u8 u] 5)) (fun i hi => by match i, hi with | 0, _ => rfl) (by simp)) rfl (by have h6 := HLn.out; rw [List.length_drop]; simp only [List.length_cons, List.length_nil]; omega) ?_; intro v1 w2 hR hg hat; have HT2 := Aside0.mk (HT.out.swap.left hR hg hat).swap; clear hR hg hat)))
        go_roundw
        case rel => exact ⟨kk + 1, _, _, by omega, rfl, rfl, by simp, ⟨by
          have h5 := HT2.out
          have e5 := cut_ge (u := u) (l := y.ws.take kk) (m := m) (by rw [HLn.out]; omega)
          rw [← HS.out] at e5
          rw [e5.2] at h5
          rw [e5.1] at h5
          exact h5⟩⟩
        case measure => simp [intOf]; omega
    · obtain rfl : kk = W := by omega
      have hy0 : wr.cell? ⟨x, 0, none⟩ = some (.slice (some ad) n cap) := (blk_cell H2.out.blk 0).trans rfl
      have hy3 := H2.out.cellAt 3 _ rfl
      rw [← HI.out, HW.out] at hy3
      have hyL : y ∈ A ++ y :: B := by simp
      have hp := H.out.put (w1 := wr) (y' := { y with vw := .slice A0 n0 c0, ws := y.ws.drop m }) rfl HADD.out rfl (fun k hk _ => HT.out.bel.block k hk)
        (fun k hk hk2 => by
          rcases hk2 with h5 | h5
          · have := HT.out.fb k h5; omega
          · exact .inr h5) HT.out.bel.size (by have h5 := HT.out.rb; rw [List.take_of_length_le (by rw [HWl.out]; exact Nat.le_refl _)] at h5; exact h5) ((H.out.rs y hyL).below HT.out.bel)
        (fun k h1 h2 => by have := HT.out.fb k h1; have := (H.out.rs y hyL).lt k h2; omega) 3 (by decide) (.slice A0 n0 c0) rfl
      rw [← HI.out] at hp
      have HP := Aside0.mk hp.1
      have hf := hp.2
      clear hp
      go_wp2
      go_ret2
      have h9 : n9 = m := by have h5 := HN9.out; rw [List.length_take, List.length_take] at h5; have := HWl.out; omega
      subst h9
      refine ⟨A9, c9, _, rfl, ⟨_, _, HP.out, RFt.turn (y' := { y with vw := .slice A0 n0 c0, ws := y.ws.drop n9 }) (fun k hk => by
          rcases hk with h5 | h5
          · exact .inr (HT.out.fb k h5)
          · exact .inl (.inr h5)), stay_cell H.out (add_block _ _) (Stay.below HT.out.bel) _⟩, ?_⟩
      have h5 := HT.out.ra
      rw [List.take_of_length_le (l := y.ws) (by rw [HWl.out]; exact Nat.le_refl _)] at h5
      refine h5.keep (fun k hk _ => Below.heap_setCell _ _ _ _ (fun e => ?_))
      have h6 := HT.out.fa k hk
      have h7 : ad.block < w.heap.size := q_lt H.out.rl _ rfl
      rw [e] at h6
      have h8 : (ad.add (i * 6)).block = ad.block := add_block _ _
      have h9 : ad.block < (ad.add (i * 6)).block := Nat.lt_of_lt_of_le h7 h6
      omega
end
end Go.Proofs.Ytnhhcmnjfaeliaa.Vm
