/- Package world, by hand: All of one, Open, Ints of one; the nil world; own text of this session. -/
import Derived.Test.YtnhhcmnjfaeliaaVld6
namespace Go.Proofs.Ytnhhcmnjfaeliaa.Wld
open Go.RowKit Go.Proofs.YtnhhcmnjfaeliaaW.PrintWords Go.Proofs.YtnhhcmnjfaeliaaW.PrintLast Go.Maps
set_option linter.unusedVariables false
set_option linter.unusedSimpArgs false
theorem has_one {c x : Int} {q : Nat} (h : Maps.has (D1 c q) (Key x) = true) : x = c := by
  by_cases e : Key x = Key c
  · injection e
  · unfold D1 at h
    rw [has_put_other e] at h
    simp [Maps.has] at h
theorem size_one (c : Int) (q : Nat) : Maps.size (D1 c q) = 1 := by
  unfold D1
  rw [size_put tidy_empty]
  rfl
set_option maxHeartbeats 8000000 in
set_option maxRecDepth 100000 in
theorem all_one {w : World} {p bm q : Nat} {vw vs vd : Value} {c : Int} {en : Bool} {ws ss : List Int} {room : Int} {ds : List Int} (h : St w p bm q vw vs vd c en ws ss room ds) (hc : (Key c).wf = true) :
    Calls Try.prog 12 #[.pointer (some ⟨p, 0, none⟩)] w fun e w' => ∃ (A1 : Option Addr) (c1 : Nat), e = .returned (.slice A1 1 c1) ∧ (Kd.int .i64).C w' A1 1 [c] ∧ Below w.heap.size w w' := by
  have H := Aside0.mk h
  have HC := Aside0.mk hc
  have hz0 : w.cell? ⟨p, 0, none⟩ = some (.map (some bm)) := (blk_cell h.blkP 0).trans rfl
  clear h hc
  go_enter Try.func12, Try.ntmps12
  go_wp2_with (at_range; refine wpList_range_own _ rfl _ 53 rfl 3 64 law Try.underlying53 ptrE bm 1 (D1 c q) rfl H.out.own ?_; intro w0 hrg0 hg0 hs0; have HR0 := Aside0.mk hrg0; have HG0 := Aside0.mk hg0; clear hrg0 hg0 hs0 hz0)
  go_frame
  obtain ⟨r, hr⟩ : ∃ r, r = w.heap.size := ⟨_, rfl⟩
  have HRr := Aside0.mk hr
  rw [← hr]
  rw [← hr, size_one] at HR0
  clear hr
  go_loopw [3] (fun v3 wr => Aside0 (Below w.heap.size w wr) ∧ ∃ v : Value, v = v3 ∧ ((v3 = .slice none 0 0 ∧ Aside0 (wr.ranges Try.prog 3 ptrE bm r 1 (D1 c q) (Maps.has (D1 c q)) 1)) ∨ (Aside0 (∃ left, wr.ranges Try.prog 3 ptrE bm r 1 (D1 c q) left 0) ∧ Aside0 (Row .i64 3 wr v [c])))) (fun _ wr => wr.rangeLeft bm r)
  case atStart => exact ⟨⟨⟨HG0.out.os, HG0.out.tape, HG0.out.output, HG0.out.size, fun k hk => HG0.out.block k hk (by simp)⟩⟩, _, rfl, .inl ⟨rfl, HR0⟩⟩
  case round =>
    obtain ⟨HB, v, rfl, ⟨rfl, HRg⟩ | ⟨⟨left, hrg⟩, HRow⟩⟩ := hrel
    · clear HR0
      go_wp2_with (first
        | (at_next; refine wpList_next_ranges _ rfl _ rfl 3 law ptrE (Value.int .i64) (fun o : Option Nat => Value.pointer (o.map fun b => ⟨b, 0, none⟩)) ?iK ?iV bm r 1 (D1 c q) (Maps.has (D1 c q)) 1 rfl HRg.out (fun h0 _ => absurd h0 (by decide)) ?_; (case iK => intro key kl hk; obtain ⟨x, hx, _⟩ := keyOf_int_inv Try.underlying3 hk; exact ⟨x, hx⟩); (case iV => intro v y hv; unfold ptrE at hv; split at hv; exact ⟨none, rfl⟩; exact ⟨some _, rfl⟩; cases hv); intro x cc kl y w1 cnt1 hkey hlk hv hat hrg1 hlt hg1 hs1 hen;
            obtain ⟨x', ex, hkl, _⟩ := keyOf_int_inv Try.underlying3 hkey; injection ex with _ ex; subst ex; subst hkl; have hxc := (has_one hlk).symm; subst hxc; obtain ⟨y1, y2⟩ := y; have hy := hat .nil; unfold D1 at hy; rw [atKey_put_same isMap_empty (law.key (key_of HC.out))] at hy; replace hy : y1 = .lit (.int .i64 (q : Int)) := hy.symm; subst hy; have hp := ptrE_some hv; rw [hp] at hen; rw [hp]; obtain rfl : cnt1 = 0 := (by omega); have HR1 := Aside0.mk hrg1; have HB1 : Aside0 (Below w.heap.size w w1) := ⟨⟨hg1.os.trans HB.out.os, hg1.tape.trans HB.out.tape, hg1.output.trans HB.out.output, Nat.le_trans HB.out.size hg1.size, fun k hk => (hg1.block k (Nat.lt_of_lt_of_le hk HB.out.size) (by have := HRr.out; intro e; injection e with e; omega)).trans (HB.out.block k hk)⟩⟩; have hq0 : w1.cell? ⟨q, 0, none⟩ = some (.bool true) := (blk_cell ((HB1.out.block q (blk_lt H.out.blkQ)).trans H.out.blkQ) 0).trans rfl; clear hkey hlk hv hat hrg1 hlt hg1 hs1 hp)
        | ((with_reducible refine gate_builtin (b := .append) (xs := #[.tmp 22, .tmp 24]) rfl ?_); at_builtin; refine append_row (bytes := 8) rfl (.tmp 22) (.tmp 24) rfl Try.underlying27 info_int (by decide) (.slice none 0 0) [] (some ⟨w1.heap.size, 0, none⟩) 1 1 [c] rfl rfl (Row.nil _ _ _) (C_blk (xs := [c]) (blk_new w1 (.cells #[.int .i64 c] 3)) (fun i hi => by match i, hi with | 0, _ => rfl) (by simp)) rfl (by simp) ?_; intro v1 w2 hR hg hat; have HRow := Aside0.mk hR; have HR2 := Aside0.mk ((HR1.out.alloc (.cells #[.int .i64 c] 3)).kept hg (by simp [Value.ownBlock]) (by simp [Value.ownBlock])); have HB2 : Aside0 (Below w.heap.size w w2) := ⟨below_then (below_alloc HB1.out (.cells #[.int .i64 c] 3)) (below_size (below_alloc HB1.out _)) ⟨hg.os, hg.tape, hg.output, hg.size, fun k hk => hg.block k hk (by simp [Value.ownBlock])⟩⟩; clear hR hg hat))
      go_roundw
      case rel => exact ⟨HB2, _, rfl, .inr ⟨⟨_, HR2.out⟩, ⟨by have h5 := HRow.out; rw [List.nil_append] at h5; exact h5⟩⟩⟩
      case measure =>
        rw [HR2.out.left_eq, HRg.out.left_eq]
        omega
    · have HRg := Aside0.mk hrg
      clear hrg HR0
      obtain ⟨A1, c1, rfl, _⟩ := HRow.out.slice
      have HS := Aside0.mk (sort_small A1 1 c1 wr (by decide))
      go_wp2_with (first
        | (at_next; refine wpList_next_ranges _ rfl _ rfl 3 law ptrE (Value.int .i64) (fun o : Option Nat => Value.pointer (o.map fun b => ⟨b, 0, none⟩)) ?iK ?iV bm r 1 (D1 c q) left 0 rfl HRg.out ?_ (fun x cc kl y w1 cnt1 hkey hlk hv hat hrg1 hlt hg1 hs1 hen => absurd hlt (Nat.not_lt_zero _)); (case iK => intro key kl hk; obtain ⟨x, hx, _⟩ := keyOf_int_inv Try.underlying3 hk; exact ⟨x, hx⟩); (case iV => intro v y hv; unfold ptrE at hv; split at hv; exact ⟨none, rfl⟩; exact ⟨some _, rfl⟩; cases hv); intro _ _)
        | (go_at_call 36; refine HS.out.mono ?_; rintro e w2 ⟨rfl, rfl⟩))
      go_ret
      exact ⟨A1, c1, rfl, HRow.out.C.2.2, HB.out⟩
set_option maxHeartbeats 4000000 in
set_option maxRecDepth 100000 in
theorem open_calls {w : World} {p bm : Nat} (h : St0 w p bm) (c : Int) (hc : (Key c).wf = true) (h0 : 0 ≤ c) :
    Calls Try.prog 15 #[.pointer (some ⟨p, 0, none⟩), .int .i64 c] w fun e w' => ∃ q, e = .returned (.int .i64 0) ∧ St w' p bm q (.slice none 0 0) (.slice none 0 0) (.slice none 0 0) c false [] [] 0 [] ∧ w.heap.size ≤ q ∧ Stay (fun k => k = bm) w w' := by
  have H := Aside0.mk h
  have HC := Aside0.mk hc
  have HA := Aside0.mk (all_none h)
  have hz0 : w.cell? ⟨p, 0, none⟩ = some (.map (some bm)) := (blk_cell h.blkP 0).trans rfl
  have hlk := look_none h.own hc
  have hn : ¬ c < 0 := by omega
  clear h hc
  go_enter Try.func15, Try.ntmps15
  go_wp2_with (first
    | (go_at_call 12; refine HA.out.mono ?_; rintro e w1 ⟨rfl, hb1⟩; have HB1 := Aside0.mk hb1; have H1 := Aside0.mk (H.out.below hb1); have hy0 : w1.cell? ⟨p, 0, none⟩ = some (.map (some bm)) := (blk_cell H1.out.blkP 0).trans rfl; clear hb1 hz0 hlk)
    | (at_mapUpdate; refine wpList_mapUpdate_own _ rfl _ _ _ 53 rfl 3 64 law Try.underlying53 ptrE bm 0 (.map []) rfl (H1.out.own.alloc _) (by unfold maxLen; omega) (.int .i64 c) (.pointer (some ⟨w1.heap.size, 0, none⟩)) (Key c) rfl rfl (key_of HC.out) (.lit (.int .i64 (w1.heap.size : Int))) [] rfl ?_; intro w2 hown2 hgrow2; have HO2 := Aside0.mk hown2; have HG2 := Aside0.mk hgrow2; clear hown2 hgrow2))
  go_ret
  have hne : p ≠ bm := ne_map H1.out.blkP H1.out.own
  refine ⟨w1.heap.size, rfl, ⟨?_, HO2.out, ?_, Row.nil _ _ _, Row.nil _ _ _, Row.nil _ _ _, fun i hi => by simp [Value.ownBlock] at hi⟩, HB1.out.size, ?_⟩
  · exact (HG2.out.block p (Nat.lt_of_lt_of_le (blk_lt H1.out.blkP) (below_alloc (Below.refl w1.heap.size w1) _).size) (by intro e; injection e with e; exact hne e)).trans ((below_alloc (Below.refl w1.heap.size w1) _).block p (blk_lt H1.out.blkP) |>.trans H1.out.blkP)
  · exact (HG2.out.block w1.heap.size (blk_lt (blk_new w1 _)) (by intro e; injection e with e; have := H1.out.own.lt; omega)).trans (blk_new w1 _)
  · exact (Stay.below HB1.out).trans ((Stay.below (F := fun k => k = bm) (below_alloc (Below.refl w1.heap.size w1) _)).trans (Stay.grown (F := fun k => k = bm) HG2.out (fun k hk => by injection hk with hk; exact hk.symm)) (fun i hi => .inl hi)) (fun i hi => .inl hi)
set_option maxHeartbeats 4000000 in
set_option maxRecDepth 100000 in
theorem ints_one (x : Int) (A B : Option Addr) (c d : Nat) (w : World) (h0 : (Kd.int .i64).C w A 1 [x]) (h1 : (Kd.int .i64).C w B 1 [x]) :
    Calls Try.prog 11 #[.slice A 1 c, .slice B 1 d] w fun e w' => e = .returned (.bool true) ∧ Below w.heap.size w w' := by
  obtain ⟨ad, rfl, hx⟩ := Kd.at_int h0 (0 : Int) (by decide) (by simp)
  obtain ⟨bd, rfl, hy⟩ := Kd.at_int h1 (0 : Int) (by decide) (by simp)
  have hx2 : w.cell? ad = some (.int .i64 x) := by
    have e : ad.add 0 = ad := if_pos rfl
    rw [← e]; exact hx
  have hy2 : w.cell? bd = some (.int .i64 x) := by
    have e : bd.add 0 = bd := if_pos rfl
    rw [← e]; exact hy
  have HX := Aside0.mk hx2
  have HY := Aside0.mk hy2
  clear h0 h1 hx hy hx2 hy2
  go_enter Try.func11, Try.ntmps11
  go_wp2
  go_loopw [13] (fun v13 wr => Aside0 (Below w.heap.size w wr) ∧ (v13 = .int .i64 0 ∨ v13 = .int .i64 1)) (fun v13 _ => 1 - (intOf v13).toNat)
  case atStart => exact ⟨⟨Below.refl _ _⟩, .inl rfl⟩
  case round =>
    obtain ⟨HB, rfl | rfl⟩ := hrel
    · have hx2 : wr.cell? ad = some (.int .i64 x) := (HB.out.cell (World.block_lt_of_cell? w _ HX.out)).trans HX.out
      have hy2 : wr.cell? bd = some (.int .i64 x) := (HB.out.cell (World.block_lt_of_cell? w _ HY.out)).trans HY.out
      go_wp2
      go_region
      all_goals
        go_wp2
        go_roundw
        case rel => exact ⟨⟨below_drew HB.out⟩, .inr rfl⟩
        case measure => simp [intOf]
    · go_wp2
      go_ret
      exact ⟨rfl, HB.out⟩
end Go.Proofs.Ytnhhcmnjfaeliaa.Wld
