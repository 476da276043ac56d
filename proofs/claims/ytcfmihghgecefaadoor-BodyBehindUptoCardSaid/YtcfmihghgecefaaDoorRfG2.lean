/- headraceref11.All (where the connection did not end), by hand; own text of this session (gen_rfg.py). -/
import Derived.Test.YtcfmihghgecefaaDoorRfG1
import Derived.Deep.RegionWith
namespace Go.Proofs.YtcfmihghgecefaaDoor.Bod
open Go.RowKit Go.Proofs.YtcfmihghgecefaaDoorW.PrintWords Go.Proofs.YtcfmihghgecefaaDoorW.PrintLast Chk
set_option linter.unusedVariables false
set_option linter.unusedSimpArgs false
/-- What All hands back. -/
def All11Post (s : Seen11) (w : World) (e : Ending) (w' : World) : Prop :=
  ∃ vO vT, e = .returned (.agg #[vO, vT, .int .i64 (s.n : Int), .bool s.whole, .int .i64 s.e]) ∧ (Kd.int .u8).R 5 w' w.heap.size (fun _ => True) vO s.out ∧ fldK.R 62 w' w.heap.size (fun _ => True) vT s.tr ∧ Below w.heap.size w w'
set_option maxHeartbeats 16000000 in
set_option maxRecDepth 100000 in
theorem all11_none (len : Int) (keep : Bool) (most : Int) (h0 : 0 ≤ most) (h1 : most ≤ 9007199254740992) (b : List Int) (hbl : b.length ≤ 1073741824) (A : Option Addr) (c : Nat) (w : World) (hr : (Kd.int .u8).C w A b.length b) (hc : b.length ≤ c) :
    Calls Tryd.prog 4 #[.agg #[.int .i64 1, .int .i64 len, .bool keep], .int .i64 most, .slice A b.length c, .bool false] w (All11Post (seenB 1 len most b) w) := by
  have HSe : Aside0 (seenB 1 len most b = ⟨[], [], 0, true, 0⟩) := ⟨by unfold seenB; rw [if_pos rfl]⟩
  rw [HSe.out]
  have HBS : Aside0 (b.length ≤ 1073741824) := ⟨hbl⟩
  have HCb := Aside0.mk hr
  have Hc := Aside0.mk hc
  obtain ⟨L, hL⟩ : ∃ L, L = b.length := ⟨_, rfl⟩
  have HL := Aside0.mk hL
  have hLle : (L : Int) ≤ 1073741824 := by omega
  rw [← hL]
  clear hbl hr hc hL
  go_enter Tryd.func4, Tryd.ntmps4
  go_wp2_with (first
    | ((with_reducible refine gate_dst (N := 4) rfl ?_); refine box_event ?hg (N := 4) ?hd (cs := #[.int .i64 1, .int .i64 len, .bool keep]) (t := 23) ?hr ?_; (case hd => rfl); (case hg => rfl); (case hr => first | (go_simp; done) | (go_simp; rfl)); intro gf hgf wf hboxf hbf; have HKf' := Aside0.mk hboxf; have HBf' := Aside0.mk hbf; have HGf := Aside0.mk hgf;  clear hboxf hbf hgf)
    | ((with_reducible refine gate_dst (N := 8) rfl ?_); refine box_event ?hg (N := 8) ?hd (cs := #[.slice none 0 0, .slice none 0 0, .int .i64 0, .bool false, .int .i64 0]) (t := 27) ?hr ?_; (case hd => rfl); (case hg => rfl); (case hr => first | (go_simp; done) | (go_simp; rfl)); intro g4 hg4 w4 hbox4 hb4; have HK4' := Aside0.mk hbox4; have HB4' := Aside0.mk hb4; have HG4 := Aside0.mk hg4; have hltf := blk_lt HKf'.out; have hsz4 := hb4.size; have hnf4 : ¬ gf = g4 := (by omega); have hn4f : ¬ g4 = gf := (fun h => hnf4 h.symm); have hlt4 := blk_lt hbox4; have hne2 : ¬ g4 = w4.heap.size := (by omega); have hne1 : ¬ w4.heap.size = g4 := (by omega); have hnf5 : ¬ gf = w4.heap.size := (by omega); have hn5f : ¬ w4.heap.size = gf := (by omega); have hbx4 := Aside0.mk hbox4; have hkf0 := (hb4.block gf hltf).trans HKf'.out; have hkf := blk_alloc hkf0 (.cells #[.slice none 0 0, .slice none 0 0, .int .i64 0, .bool false, .int .i64 0] 27); have hk4 := blk_alloc hbox4 (.cells #[.slice none 0 0, .slice none 0 0, .int .i64 0, .bool false, .int .i64 0] 27); have hk5 := blk_new w4 (.cells #[.slice none 0 0, .slice none 0 0, .int .i64 0, .bool false, .int .i64 0] 27); have HKf5 := Aside0.mk hkf; have HK45 := Aside0.mk hk4; have HK55 := Aside0.mk hk5;   have sz0 : (w4.alloc (.cells #[.slice none 0 0, .slice none 0 0, .int .i64 0, .bool false, .int .i64 0] 27)).cell? ⟨w4.heap.size, 0, none⟩ = some (.slice none 0 0) := (blk_cell hk5 0).trans rfl; have sz1 : (w4.alloc (.cells #[.slice none 0 0, .slice none 0 0, .int .i64 0, .bool false, .int .i64 0] 27)).cell? ⟨w4.heap.size, 1, none⟩ = some (.slice none 0 0) := (blk_cell hk5 1).trans rfl; have sz2 : (w4.alloc (.cells #[.slice none 0 0, .slice none 0 0, .int .i64 0, .bool false, .int .i64 0] 27)).cell? ⟨w4.heap.size, 2, none⟩ = some (.int .i64 0) := (blk_cell hk5 2).trans rfl; have sz3 : (w4.alloc (.cells #[.slice none 0 0, .slice none 0 0, .int .i64 0, .bool false, .int .i64 0] 27)).cell? ⟨w4.heap.size, 3, none⟩ = some (.bool false) := (blk_cell hk5 3).trans rfl; have sz4 : (w4.alloc (.cells #[.slice none 0 0, .slice none 0 0, .int .i64 0, .bool false, .int .i64 0] 27)).cell? ⟨w4.heap.size, 4, none⟩ = some (.int .i64 0) := (blk_cell hk5 4).trans rfl; have sf0 := blk_frozen hk5 0; have sf1 := blk_frozen hk5 1; have sf2 := blk_frozen hk5 2; have sf3 := blk_frozen hk5 3; have sf4 := blk_frozen hk5 4; have cz0 : (w4.alloc (.cells #[.slice none 0 0, .slice none 0 0, .int .i64 0, .bool false, .int .i64 0] 27)).cell? ⟨g4, 0, none⟩ = some (.slice none 0 0) := (blk_cell hk4 0).trans rfl; have cz1 : (w4.alloc (.cells #[.slice none 0 0, .slice none 0 0, .int .i64 0, .bool false, .int .i64 0] 27)).cell? ⟨g4, 1, none⟩ = some (.slice none 0 0) := (blk_cell hk4 1).trans rfl; have cz2 : (w4.alloc (.cells #[.slice none 0 0, .slice none 0 0, .int .i64 0, .bool false, .int .i64 0] 27)).cell? ⟨g4, 2, none⟩ = some (.int .i64 0) := (blk_cell hk4 2).trans rfl; have cz3 : (w4.alloc (.cells #[.slice none 0 0, .slice none 0 0, .int .i64 0, .bool false, .int .i64 0] 27)).cell? ⟨g4, 3, none⟩ = some (.bool false) := (blk_cell hk4 3).trans rfl; have cz4 : (w4.alloc (.cells #[.slice none 0 0, .slice none 0 0, .int .i64 0, .bool false, .int .i64 0] 27)).cell? ⟨g4, 4, none⟩ = some (.int .i64 0) := (blk_cell hk4 4).trans rfl; have cf0 := blk_frozen hk4 0; have cf1 := blk_frozen hk4 1; have cf2 := blk_frozen hk4 2; have cf3 := blk_frozen hk4 3; have cf4 := blk_frozen hk4 4; have cz0 : ∀ o, (w4.alloc o).cell? ⟨g4, 0, none⟩ = some (.slice none 0 0) := fun o => (blk_cell (blk_alloc hbx4.out o) 0).trans rfl; have cf0 : ∀ o, (w4.alloc o).frozen? ⟨g4, 0, none⟩ = false := fun o => blk_frozen (blk_alloc hbx4.out o) 0; have cz1 : ∀ o, (w4.alloc o).cell? ⟨g4, 1, none⟩ = some (.slice none 0 0) := fun o => (blk_cell (blk_alloc hbx4.out o) 1).trans rfl; have cf1 : ∀ o, (w4.alloc o).frozen? ⟨g4, 1, none⟩ = false := fun o => blk_frozen (blk_alloc hbx4.out o) 1; have cz2 : ∀ o, (w4.alloc o).cell? ⟨g4, 2, none⟩ = some (.int .i64 0) := fun o => (blk_cell (blk_alloc hbx4.out o) 2).trans rfl; have cf2 : ∀ o, (w4.alloc o).frozen? ⟨g4, 2, none⟩ = false := fun o => blk_frozen (blk_alloc hbx4.out o) 2; have cz3 : ∀ o, (w4.alloc o).cell? ⟨g4, 3, none⟩ = some (.bool false) := fun o => (blk_cell (blk_alloc hbx4.out o) 3).trans rfl; have cf3 : ∀ o, (w4.alloc o).frozen? ⟨g4, 3, none⟩ = false := fun o => blk_frozen (blk_alloc hbx4.out o) 3; have cz4 : ∀ o, (w4.alloc o).cell? ⟨g4, 4, none⟩ = some (.int .i64 0) := fun o => (blk_cell (blk_alloc hbx4.out o) 4).trans rfl; have cf4 : ∀ o, (w4.alloc o).frozen? ⟨g4, 4, none⟩ = false := fun o => blk_frozen (blk_alloc hbx4.out o) 4; have fz0 : ∀ o, (w4.alloc o).cell? ⟨gf, 0, none⟩ = some (.int .i64 1) := fun o => (blk_cell (blk_alloc hkf0 o) 0).trans rfl; have fz1 : ∀ o, (w4.alloc o).cell? ⟨gf, 1, none⟩ = some (.int .i64 len) := fun o => (blk_cell (blk_alloc hkf0 o) 1).trans rfl; clear hkf hk4 hk5 hkf0 hltf hsz4 hlt4; clear hbox4 hb4 hg4))
  refine bodyPost_ret (results_cell_row rfl _ _ g4 27 #[.slice none 0 0, .slice none 0 0, .int .i64 0, .bool true, .int .i64 0] (0, 0) _ rfl (blk_five (blk_alloc HK4'.out _)) Tryd.underlying27 rfl (by kernel_rfl)) rfl ?_
  have HGE4 : Aside0 (w.heap.size ≤ g4) := ⟨by rw [HG4.out]; exact HBf'.out.size⟩
  exact ⟨.slice none 0 0, .slice none 0 0, rfl, Kd.R_nil _ _ _ _ _, Kd.R_nil _ _ _ _ _, (((((below_alloc (below_step HBf'.out HB4'.out) _).setCell (p := ⟨g4, 0, none⟩) HGE4.out _).setCell (p := ⟨g4, 1, none⟩) HGE4.out _).setCell (p := ⟨g4, 2, none⟩) HGE4.out _).setCell (p := ⟨g4, 3, none⟩) HGE4.out _).setCell (p := ⟨g4, 4, none⟩) HGE4.out _⟩
set_option maxHeartbeats 16000000 in
set_option maxRecDepth 100000 in
theorem all11_chunk (len : Int) (keep : Bool) (most : Int) (h0 : 0 ≤ most) (h1 : most ≤ 9007199254740992) (b : List Int) (hbl : b.length ≤ 1073741824) (A : Option Addr) (c : Nat) (w : World) (hr : (Kd.int .u8).C w A b.length b) (hc : b.length ≤ c) :
    Calls Tryd.prog 4 #[.agg #[.int .i64 3, .int .i64 len, .bool keep], .int .i64 most, .slice A b.length c, .bool false] w (All11Post (seenB 3 len most b) w) := by
  have HSe : Aside0 (seenB 3 len most b = ⟨(feedGo (newDec most) b 0).1.out, if (feedGo (newDec most) b 0).1.whole = true then (feedGo (newDec most) b 0).1.tr else [], (feedGo (newDec most) b 0).2, (feedGo (newDec most) b 0).1.whole, (feedGo (newDec most) b 0).1.wrong⟩) := ⟨by unfold seenB; rw [if_neg (by decide), if_neg (by decide), if_pos rfl]⟩
  rw [HSe.out]
  have HBS : Aside0 (b.length ≤ 1073741824) := ⟨hbl⟩
  obtain ⟨s, hs⟩ : ∃ s : Seen11, s = ⟨(feedGo (newDec most) b 0).1.out, if (feedGo (newDec most) b 0).1.whole = true then (feedGo (newDec most) b 0).1.tr else [], (feedGo (newDec most) b 0).2, (feedGo (newDec most) b 0).1.whole, (feedGo (newDec most) b 0).1.wrong⟩ := ⟨_, rfl⟩
  have hal : ∀ W, Below w.heap.size w W → Calls Tryd.prog 9 #[.slice A b.length c, .int .i64 most] W (All11Post s W) := fun W hW => by
    rw [hs]
    exact all_ref b hbl most h0 h1 A c W (Kd.C_below hr hW) hc
  have HAL := Aside0.mk hal
  rw [← hs]
  clear hs hal HSe
  have HCb := Aside0.mk hr
  have Hc := Aside0.mk hc
  obtain ⟨L, hL⟩ : ∃ L, L = b.length := ⟨_, rfl⟩
  have HL := Aside0.mk hL
  have hLle : (L : Int) ≤ 1073741824 := by omega
  rw [← hL] at HAL ⊢
  clear hbl hr hc hL
  go_enter Tryd.func4, Tryd.ntmps4
  go_wp2_with (first
    | ((with_reducible refine gate_dst (N := 4) rfl ?_); refine box_event ?hg (N := 4) ?hd (cs := #[.int .i64 3, .int .i64 len, .bool keep]) (t := 23) ?hr ?_; (case hd => rfl); (case hg => rfl); (case hr => first | (go_simp; done) | (go_simp; rfl)); intro gf hgf wf hboxf hbf; have HKf' := Aside0.mk hboxf; have HBf' := Aside0.mk hbf; have HGf := Aside0.mk hgf;  clear hboxf hbf hgf)
    | ((with_reducible refine gate_dst (N := 8) rfl ?_); refine box_event ?hg (N := 8) ?hd (cs := #[.slice none 0 0, .slice none 0 0, .int .i64 0, .bool false, .int .i64 0]) (t := 27) ?hr ?_; (case hd => rfl); (case hg => rfl); (case hr => first | (go_simp; done) | (go_simp; rfl)); intro g4 hg4 w4 hbox4 hb4; have HK4' := Aside0.mk hbox4; have HB4' := Aside0.mk hb4; have HG4 := Aside0.mk hg4; have hltf := blk_lt HKf'.out; have hsz4 := hb4.size; have hnf4 : ¬ gf = g4 := (by omega); have hn4f : ¬ g4 = gf := (fun h => hnf4 h.symm); have hlt4 := blk_lt hbox4; have hne2 : ¬ g4 = w4.heap.size := (by omega); have hne1 : ¬ w4.heap.size = g4 := (by omega); have hnf5 : ¬ gf = w4.heap.size := (by omega); have hn5f : ¬ w4.heap.size = gf := (by omega); have hbx4 := Aside0.mk hbox4; have hkf0 := (hb4.block gf hltf).trans HKf'.out; have hkf := blk_alloc hkf0 (.cells #[.slice none 0 0, .slice none 0 0, .int .i64 0, .bool false, .int .i64 0] 27); have hk4 := blk_alloc hbox4 (.cells #[.slice none 0 0, .slice none 0 0, .int .i64 0, .bool false, .int .i64 0] 27); have hk5 := blk_new w4 (.cells #[.slice none 0 0, .slice none 0 0, .int .i64 0, .bool false, .int .i64 0] 27); have HKf5 := Aside0.mk hkf; have HK45 := Aside0.mk hk4; have HK55 := Aside0.mk hk5;   have sz0 : (w4.alloc (.cells #[.slice none 0 0, .slice none 0 0, .int .i64 0, .bool false, .int .i64 0] 27)).cell? ⟨w4.heap.size, 0, none⟩ = some (.slice none 0 0) := (blk_cell hk5 0).trans rfl; have sz1 : (w4.alloc (.cells #[.slice none 0 0, .slice none 0 0, .int .i64 0, .bool false, .int .i64 0] 27)).cell? ⟨w4.heap.size, 1, none⟩ = some (.slice none 0 0) := (blk_cell hk5 1).trans rfl; have sz2 : (w4.alloc (.cells #[.slice none 0 0, .slice none 0 0, .int .i64 0, .bool false, .int .i64 0] 27)).cell? ⟨w4.heap.size, 2, none⟩ = some (.int .i64 0) := (blk_cell hk5 2).trans rfl; have sz3 : (w4.alloc (.cells #[.slice none 0 0, .slice none 0 0, .int .i64 0, .bool false, .int .i64 0] 27)).cell? ⟨w4.heap.size, 3, none⟩ = some (.bool false) := (blk_cell hk5 3).trans rfl; have sz4 : (w4.alloc (.cells #[.slice none 0 0, .slice none 0 0, .int .i64 0, .bool false, .int .i64 0] 27)).cell? ⟨w4.heap.size, 4, none⟩ = some (.int .i64 0) := (blk_cell hk5 4).trans rfl; have sf0 := blk_frozen hk5 0; have sf1 := blk_frozen hk5 1; have sf2 := blk_frozen hk5 2; have sf3 := blk_frozen hk5 3; have sf4 := blk_frozen hk5 4; have cz0 : (w4.alloc (.cells #[.slice none 0 0, .slice none 0 0, .int .i64 0, .bool false, .int .i64 0] 27)).cell? ⟨g4, 0, none⟩ = some (.slice none 0 0) := (blk_cell hk4 0).trans rfl; have cz1 : (w4.alloc (.cells #[.slice none 0 0, .slice none 0 0, .int .i64 0, .bool false, .int .i64 0] 27)).cell? ⟨g4, 1, none⟩ = some (.slice none 0 0) := (blk_cell hk4 1).trans rfl; have cz2 : (w4.alloc (.cells #[.slice none 0 0, .slice none 0 0, .int .i64 0, .bool false, .int .i64 0] 27)).cell? ⟨g4, 2, none⟩ = some (.int .i64 0) := (blk_cell hk4 2).trans rfl; have cz3 : (w4.alloc (.cells #[.slice none 0 0, .slice none 0 0, .int .i64 0, .bool false, .int .i64 0] 27)).cell? ⟨g4, 3, none⟩ = some (.bool false) := (blk_cell hk4 3).trans rfl; have cz4 : (w4.alloc (.cells #[.slice none 0 0, .slice none 0 0, .int .i64 0, .bool false, .int .i64 0] 27)).cell? ⟨g4, 4, none⟩ = some (.int .i64 0) := (blk_cell hk4 4).trans rfl; have cf0 := blk_frozen hk4 0; have cf1 := blk_frozen hk4 1; have cf2 := blk_frozen hk4 2; have cf3 := blk_frozen hk4 3; have cf4 := blk_frozen hk4 4; have cz0 : ∀ o, (w4.alloc o).cell? ⟨g4, 0, none⟩ = some (.slice none 0 0) := fun o => (blk_cell (blk_alloc hbx4.out o) 0).trans rfl; have cf0 : ∀ o, (w4.alloc o).frozen? ⟨g4, 0, none⟩ = false := fun o => blk_frozen (blk_alloc hbx4.out o) 0; have cz1 : ∀ o, (w4.alloc o).cell? ⟨g4, 1, none⟩ = some (.slice none 0 0) := fun o => (blk_cell (blk_alloc hbx4.out o) 1).trans rfl; have cf1 : ∀ o, (w4.alloc o).frozen? ⟨g4, 1, none⟩ = false := fun o => blk_frozen (blk_alloc hbx4.out o) 1; have cz2 : ∀ o, (w4.alloc o).cell? ⟨g4, 2, none⟩ = some (.int .i64 0) := fun o => (blk_cell (blk_alloc hbx4.out o) 2).trans rfl; have cf2 : ∀ o, (w4.alloc o).frozen? ⟨g4, 2, none⟩ = false := fun o => blk_frozen (blk_alloc hbx4.out o) 2; have cz3 : ∀ o, (w4.alloc o).cell? ⟨g4, 3, none⟩ = some (.bool false) := fun o => (blk_cell (blk_alloc hbx4.out o) 3).trans rfl; have cf3 : ∀ o, (w4.alloc o).frozen? ⟨g4, 3, none⟩ = false := fun o => blk_frozen (blk_alloc hbx4.out o) 3; have cz4 : ∀ o, (w4.alloc o).cell? ⟨g4, 4, none⟩ = some (.int .i64 0) := fun o => (blk_cell (blk_alloc hbx4.out o) 4).trans rfl; have cf4 : ∀ o, (w4.alloc o).frozen? ⟨g4, 4, none⟩ = false := fun o => blk_frozen (blk_alloc hbx4.out o) 4; have fz0 : ∀ o, (w4.alloc o).cell? ⟨gf, 0, none⟩ = some (.int .i64 3) := fun o => (blk_cell (blk_alloc hkf0 o) 0).trans rfl; have fz1 : ∀ o, (w4.alloc o).cell? ⟨gf, 1, none⟩ = some (.int .i64 len) := fun o => (blk_cell (blk_alloc hkf0 o) 1).trans rfl; clear hkf hk4 hk5 hkf0 hltf hsz4 hlt4; clear hbox4 hb4 hg4))
  have HBA : Aside0 (Below w.heap.size w (w4.alloc (.cells #[.slice none 0 0, .slice none 0 0, .int .i64 0, .bool false, .int .i64 0] 27))) := ⟨below_alloc (below_step HBf'.out HB4'.out) _⟩
  have HGE4 : Aside0 (w.heap.size ≤ g4) := ⟨Nat.le_trans HBf'.out.size (Nat.le_of_eq HG4.out.symm)⟩
  have HGE5 : Aside0 (w.heap.size ≤ w4.heap.size) := ⟨Nat.le_trans HBf'.out.size HB4'.out.size⟩
  clear cz0 cz1 cz2 cz3 cz4 cf0 cf1 cf2 cf3 cf4 sz0 sz1 sz2 sz3 sz4 sf0 sf1 sf2 sf3 sf4 fz0 fz1 HKf' HBf' HGf HK4' HB4' HG4 hbx4
  generalize (w4.alloc (.cells #[.slice none 0 0, .slice none 0 0, .int .i64 0, .bool false, .int .i64 0] 27)) = W6 at *
  generalize w4.heap.size = g5 at *
  refine (HAL.out _ HBA.out).mono ?_
  rintro e w7 ⟨vO, vT, rfl, hRO, hRT, hb7⟩
  have HB7 := Aside0.mk (below_step HBA.out hb7)
  obtain ⟨A1, c1, e1⟩ := Kd.R_slice hRO
  obtain ⟨A2, c2, e2⟩ := Kd.R_slice hRT
  subst e1 e2
  have HRO := Aside0.mk hRO
  have HRT := Aside0.mk hRT
  have hk5 := (hb7.block g5 (blk_lt HK55.out)).trans HK55.out
  have hk4 := (hb7.block g4 (blk_lt HK45.out)).trans HK45.out
  have K5 := Aside0.mk hk5
  have K4 := Aside0.mk hk4
  have HLW : Aside0 (W6.heap.size ≤ w7.heap.size ∧ g5 < W6.heap.size ∧ g4 < W6.heap.size ∧ w.heap.size ≤ W6.heap.size) := ⟨⟨hb7.size, blk_lt HK55.out, blk_lt HK45.out, HBA.out.size⟩⟩
  have az0 : w7.cell? ⟨g5, 0, none⟩ = some (.slice none 0 0) := (blk_cell hk5 0).trans rfl
  have az1 : w7.cell? ⟨g5, 1, none⟩ = some (.slice none 0 0) := (blk_cell hk5 1).trans rfl
  have az2 : w7.cell? ⟨g5, 2, none⟩ = some (.int .i64 ((0 : Nat) : Int)) := (blk_cell hk5 2).trans rfl
  have az3 : w7.cell? ⟨g5, 3, none⟩ = some (.bool false) := (blk_cell hk5 3).trans rfl
  have az4 : w7.cell? ⟨g5, 4, none⟩ = some (.int .i64 0) := (blk_cell hk5 4).trans rfl
  have af0 := blk_frozen hk5 0
  have af1 := blk_frozen hk5 1
  have af2 := blk_frozen hk5 2
  have af3 := blk_frozen hk5 3
  have af4 := blk_frozen hk5 4
  have cz0 : w7.cell? ⟨g4, 0, none⟩ = some (.slice none 0 0) := (blk_cell hk4 0).trans rfl
  have cz1 : w7.cell? ⟨g4, 1, none⟩ = some (.slice none 0 0) := (blk_cell hk4 1).trans rfl
  have cz2 : w7.cell? ⟨g4, 2, none⟩ = some (.int .i64 0) := (blk_cell hk4 2).trans rfl
  have cz3 : w7.cell? ⟨g4, 3, none⟩ = some (.bool false) := (blk_cell hk4 3).trans rfl
  have cz4 : w7.cell? ⟨g4, 4, none⟩ = some (.int .i64 0) := (blk_cell hk4 4).trans rfl
  have cf0 := blk_frozen hk4 0
  have cf1 := blk_frozen hk4 1
  have cf2 := blk_frozen hk4 2
  have cf3 := blk_frozen hk4 3
  have cf4 := blk_frozen hk4 4
  clear hb7 hRO hRT hk5 hk4
  obtain ⟨W8, hW8⟩ : ∃ W8, W8 = (((((w7.setCell ⟨g5, 0, none⟩ (.slice A1 s.out.length c1)).setCell ⟨g5, 1, none⟩ (.slice A2 s.tr.length c2)).setCell ⟨g5, 2, none⟩ (.int .i64 (s.n : Int))).setCell ⟨g5, 3, none⟩ (.bool s.whole)).setCell ⟨g5, 4, none⟩ (.int .i64 s.e)) := ⟨_, rfl⟩
  have hk5 : W8.heap[g5]? = some (.cells (rdc (.slice A1 s.out.length c1) (.slice A2 s.tr.length c2) (s.n : Int) s.whole s.e) 27 (0, 0)) := by rw [hW8]; exact blk_five K5.out
  have hk4 : W8.heap[g4]? = some (.cells (rdc (.slice none 0 0) (.slice none 0 0) 0 false 0) 27 (0, 0)) := by rw [hW8]; exact (Below.heap_setCell _ _ _ _ hne2).trans ((Below.heap_setCell _ _ _ _ hne2).trans ((Below.heap_setCell _ _ _ _ hne2).trans ((Below.heap_setCell _ _ _ _ hne2).trans ((Below.heap_setCell _ _ _ _ hne2).trans (K4.out)))))
  have K48 := Aside0.mk hk4
  have HB8 : Aside0 (Below w.heap.size w W8) := ⟨by rw [hW8]; exact ((((HB7.out.setCell (p := ⟨g5, 0, none⟩) HGE5.out _).setCell (p := ⟨g5, 1, none⟩) HGE5.out _).setCell (p := ⟨g5, 2, none⟩) HGE5.out _).setCell (p := ⟨g5, 3, none⟩) HGE5.out _).setCell (p := ⟨g5, 4, none⟩) HGE5.out _⟩
  have HRO8 : Aside0 ((Kd.int .u8).R 5 W8 w.heap.size (fun k => k ≠ g4 ∧ k ≠ g5) (.slice A1 s.out.length c1) s.out) := ⟨by
    rw [hW8]
    refine Kd.R_mono (Kd.R_lower (Kd.R_step (Kd.R_mono (Kd.R_bound HRO.out) (ok' := fun k => k ≠ g4 ∧ k ≠ g5) (fun k hk => ?_)) (fun k hk _ => ?_)) HLW.out.2.2.2) (fun k hk => hk)
    · have h5 := HLW.out
      have h6 := hk.2.1
      exact ⟨by omega, by omega⟩
    · rw [Below.heap_setCell _ _ _ _ hk.2, Below.heap_setCell _ _ _ _ hk.2, Below.heap_setCell _ _ _ _ hk.2, Below.heap_setCell _ _ _ _ hk.2, Below.heap_setCell _ _ _ _ hk.2]⟩
  have HRT8 : Aside0 (fldK.R 62 W8 w.heap.size (fun k => k ≠ g4 ∧ k ≠ g5) (.slice A2 s.tr.length c2) s.tr) := ⟨by
    rw [hW8]
    refine Kd.R_mono (Kd.R_lower (Kd.R_step (Kd.R_mono (Kd.R_bound HRT.out) (ok' := fun k => k ≠ g4 ∧ k ≠ g5) (fun k hk => ?_)) (fun k hk _ => ?_)) HLW.out.2.2.2) (fun k hk => hk)
    · have h5 := HLW.out
      have h6 := hk.2.1
      exact ⟨by omega, by omega⟩
    · rw [Below.heap_setCell _ _ _ _ hk.2, Below.heap_setCell _ _ _ _ hk.2, Below.heap_setCell _ _ _ _ hk.2, Below.heap_setCell _ _ _ _ hk.2, Below.heap_setCell _ _ _ _ hk.2]⟩
  clear cz0 cz1 cz2 cz3 cz4 cf0 cf1 cf2 cf3 cf4
  have dz0 : W8.cell? ⟨g5, 0, none⟩ = some (.slice A1 s.out.length c1) := (blk_cell hk5 0).trans rfl
  have dz1 : W8.cell? ⟨g5, 1, none⟩ = some (.slice A2 s.tr.length c2) := (blk_cell hk5 1).trans rfl
  have dz2 : W8.cell? ⟨g5, 2, none⟩ = some (.int .i64 (s.n : Int)) := (blk_cell hk5 2).trans rfl
  have dz3 : W8.cell? ⟨g5, 3, none⟩ = some (.bool s.whole) := (blk_cell hk5 3).trans rfl
  have dz4 : W8.cell? ⟨g5, 4, none⟩ = some (.int .i64 s.e) := (blk_cell hk5 4).trans rfl
  have df0 := blk_frozen hk5 0
  have df1 := blk_frozen hk5 1
  have df2 := blk_frozen hk5 2
  have df3 := blk_frozen hk5 3
  have df4 := blk_frozen hk5 4
  have cz0 : W8.cell? ⟨g4, 0, none⟩ = some (.slice none 0 0) := (blk_cell hk4 0).trans rfl
  have cz1 : W8.cell? ⟨g4, 1, none⟩ = some (.slice none 0 0) := (blk_cell hk4 1).trans rfl
  have cz2 : W8.cell? ⟨g4, 2, none⟩ = some (.int .i64 0) := (blk_cell hk4 2).trans rfl
  have cz3 : W8.cell? ⟨g4, 3, none⟩ = some (.bool false) := (blk_cell hk4 3).trans rfl
  have cz4 : W8.cell? ⟨g4, 4, none⟩ = some (.int .i64 0) := (blk_cell hk4 4).trans rfl
  have cf0 := blk_frozen hk4 0
  have cf1 := blk_frozen hk4 1
  have cf2 := blk_frozen hk4 2
  have cf3 := blk_frozen hk4 3
  have cf4 := blk_frozen hk4 4
  have HW8 := Aside0.mk hW8
  clear hW8 hk5 hk4
  go_wp2_with (rewrite [← HW8.out])
  refine bodyPost_ret (results_cell_row rfl _ _ g4 27 #[.slice A1 s.out.length c1, .slice A2 s.tr.length c2, .int .i64 (s.n : Int), .bool s.whole, .int .i64 s.e] (0, 0) _ rfl (blk_five (K48.out)) Tryd.underlying27 rfl (by kernel_rfl)) rfl ?_
  refine ⟨.slice A1 s.out.length c1, .slice A2 s.tr.length c2, rfl, ?_, ?_, (((((HB8.out).setCell (p := ⟨g4, 0, none⟩) HGE4.out _).setCell (p := ⟨g4, 1, none⟩) HGE4.out _).setCell (p := ⟨g4, 2, none⟩) HGE4.out _).setCell (p := ⟨g4, 3, none⟩) HGE4.out _).setCell (p := ⟨g4, 4, none⟩) HGE4.out _⟩
  · refine Kd.R_mono (Kd.R_step HRO8.out (fun k hk _ => ?_)) (fun _ _ => trivial)
    rw [Below.heap_setCell _ _ _ _ hk.1, Below.heap_setCell _ _ _ _ hk.1, Below.heap_setCell _ _ _ _ hk.1, Below.heap_setCell _ _ _ _ hk.1, Below.heap_setCell _ _ _ _ hk.1]
  · refine Kd.R_mono (Kd.R_step HRT8.out (fun k hk _ => ?_)) (fun _ _ => trivial)
    rw [Below.heap_setCell _ _ _ _ hk.1, Below.heap_setCell _ _ _ _ hk.1, Below.heap_setCell _ _ _ _ hk.1, Below.heap_setCell _ _ _ _ hk.1, Below.heap_setCell _ _ _ _ hk.1]
set_option maxHeartbeats 16000000 in
set_option maxRecDepth 100000 in
theorem all11_len (len : Int) (keep : Bool) (most : Int) (h0 : 0 ≤ most) (h1 : most ≤ 9007199254740992) (b : List Int) (hbl : b.length ≤ 1073741824) (A : Option Addr) (c : Nat) (w : World) (hr : (Kd.int .u8).C w A b.length b) (hc : b.length ≤ c) :
    Calls Tryd.prog 4 #[.agg #[.int .i64 2, .int .i64 len, .bool keep], .int .i64 most, .slice A b.length c, .bool false] w (All11Post (seenB 2 len most b) w) := by
  have HSe : Aside0 (seenB 2 len most b = ⟨b.take len.toNat, [], min b.length len.toNat, decide (((min b.length len.toNat : Nat) : Int) = len), 0⟩) := ⟨by unfold seenB; rw [if_neg (by decide), if_pos rfl]⟩
  rw [HSe.out]
  have HBS : Aside0 (b.length ≤ 1073741824) := ⟨hbl⟩
  have HCb := Aside0.mk hr
  have Hc := Aside0.mk hc
  obtain ⟨L, hL⟩ : ∃ L, L = b.length := ⟨_, rfl⟩
  have HL := Aside0.mk hL
  have hLle : (L : Int) ≤ 1073741824 := by omega
  rw [← hL]
  clear hbl hr hc hL
  go_enter Tryd.func4, Tryd.ntmps4
  go_wp2_with (first
    | ((with_reducible refine gate_dst (N := 4) rfl ?_); refine box_event ?hg (N := 4) ?hd (cs := #[.int .i64 2, .int .i64 len, .bool keep]) (t := 23) ?hr ?_; (case hd => rfl); (case hg => rfl); (case hr => first | (go_simp; done) | (go_simp; rfl)); intro gf hgf wf hboxf hbf; have HKf' := Aside0.mk hboxf; have HBf' := Aside0.mk hbf; have HGf := Aside0.mk hgf;  clear hboxf hbf hgf)
    | ((with_reducible refine gate_dst (N := 8) rfl ?_); refine box_event ?hg (N := 8) ?hd (cs := #[.slice none 0 0, .slice none 0 0, .int .i64 0, .bool false, .int .i64 0]) (t := 27) ?hr ?_; (case hd => rfl); (case hg => rfl); (case hr => first | (go_simp; done) | (go_simp; rfl)); intro g4 hg4 w4 hbox4 hb4; have HK4' := Aside0.mk hbox4; have HB4' := Aside0.mk hb4; have HG4 := Aside0.mk hg4; have hltf := blk_lt HKf'.out; have hsz4 := hb4.size; have hnf4 : ¬ gf = g4 := (by omega); have hn4f : ¬ g4 = gf := (fun h => hnf4 h.symm); have hlt4 := blk_lt hbox4; have hne2 : ¬ g4 = w4.heap.size := (by omega); have hne1 : ¬ w4.heap.size = g4 := (by omega); have hnf5 : ¬ gf = w4.heap.size := (by omega); have hn5f : ¬ w4.heap.size = gf := (by omega); have hkf0 := (hb4.block gf hltf).trans HKf'.out; have hkf := blk_alloc hkf0 (.cells #[.slice none 0 0, .slice none 0 0, .int .i64 0, .bool false, .int .i64 0] 27); have hk4 := blk_alloc hbox4 (.cells #[.slice none 0 0, .slice none 0 0, .int .i64 0, .bool false, .int .i64 0] 27); have hk5 := blk_new w4 (.cells #[.slice none 0 0, .slice none 0 0, .int .i64 0, .bool false, .int .i64 0] 27); have HKf5 := Aside0.mk hkf; have HK45 := Aside0.mk hk4; have HK55 := Aside0.mk hk5; have fz0 : (w4.alloc (.cells #[.slice none 0 0, .slice none 0 0, .int .i64 0, .bool false, .int .i64 0] 27)).cell? ⟨gf, 0, none⟩ = some (.int .i64 2) := (blk_cell hkf 0).trans rfl; have fz1 : (w4.alloc (.cells #[.slice none 0 0, .slice none 0 0, .int .i64 0, .bool false, .int .i64 0] 27)).cell? ⟨gf, 1, none⟩ = some (.int .i64 len) := (blk_cell hkf 1).trans rfl; have sz0 : (w4.alloc (.cells #[.slice none 0 0, .slice none 0 0, .int .i64 0, .bool false, .int .i64 0] 27)).cell? ⟨w4.heap.size, 0, none⟩ = some (.slice none 0 0) := (blk_cell hk5 0).trans rfl; have sz1 : (w4.alloc (.cells #[.slice none 0 0, .slice none 0 0, .int .i64 0, .bool false, .int .i64 0] 27)).cell? ⟨w4.heap.size, 1, none⟩ = some (.slice none 0 0) := (blk_cell hk5 1).trans rfl; have sz2 : (w4.alloc (.cells #[.slice none 0 0, .slice none 0 0, .int .i64 0, .bool false, .int .i64 0] 27)).cell? ⟨w4.heap.size, 2, none⟩ = some (.int .i64 0) := (blk_cell hk5 2).trans rfl; have sz3 : (w4.alloc (.cells #[.slice none 0 0, .slice none 0 0, .int .i64 0, .bool false, .int .i64 0] 27)).cell? ⟨w4.heap.size, 3, none⟩ = some (.bool false) := (blk_cell hk5 3).trans rfl; have sz4 : (w4.alloc (.cells #[.slice none 0 0, .slice none 0 0, .int .i64 0, .bool false, .int .i64 0] 27)).cell? ⟨w4.heap.size, 4, none⟩ = some (.int .i64 0) := (blk_cell hk5 4).trans rfl; have sf0 := blk_frozen hk5 0; have sf1 := blk_frozen hk5 1; have sf2 := blk_frozen hk5 2; have sf3 := blk_frozen hk5 3; have sf4 := blk_frozen hk5 4; have cz0 : (w4.alloc (.cells #[.slice none 0 0, .slice none 0 0, .int .i64 0, .bool false, .int .i64 0] 27)).cell? ⟨g4, 0, none⟩ = some (.slice none 0 0) := (blk_cell hk4 0).trans rfl; have cz1 : (w4.alloc (.cells #[.slice none 0 0, .slice none 0 0, .int .i64 0, .bool false, .int .i64 0] 27)).cell? ⟨g4, 1, none⟩ = some (.slice none 0 0) := (blk_cell hk4 1).trans rfl; have cz2 : (w4.alloc (.cells #[.slice none 0 0, .slice none 0 0, .int .i64 0, .bool false, .int .i64 0] 27)).cell? ⟨g4, 2, none⟩ = some (.int .i64 0) := (blk_cell hk4 2).trans rfl; have cz3 : (w4.alloc (.cells #[.slice none 0 0, .slice none 0 0, .int .i64 0, .bool false, .int .i64 0] 27)).cell? ⟨g4, 3, none⟩ = some (.bool false) := (blk_cell hk4 3).trans rfl; have cz4 : (w4.alloc (.cells #[.slice none 0 0, .slice none 0 0, .int .i64 0, .bool false, .int .i64 0] 27)).cell? ⟨g4, 4, none⟩ = some (.int .i64 0) := (blk_cell hk4 4).trans rfl; have cf0 := blk_frozen hk4 0; have cf1 := blk_frozen hk4 1; have cf2 := blk_frozen hk4 2; have cf3 := blk_frozen hk4 3; have cf4 := blk_frozen hk4 4; clear hkf hk4 hk5 hkf0 hltf hsz4 hlt4; clear hbox4 hb4 hg4))
  have HGE4 : Aside0 (w.heap.size ≤ g4) := ⟨by rw [HG4.out]; exact HBf'.out.size⟩
  have HGE5 : Aside0 (w.heap.size ≤ w4.heap.size) := ⟨Nat.le_trans HBf'.out.size HB4'.out.size⟩
  have HS5 := HK55
  have HS4 := HK45
  have HSf := HKf5
  have HB5 : Aside0 (Below w.heap.size w (w4.alloc (.cells #[.slice none 0 0, .slice none 0 0, .int .i64 0, .bool false, .int .i64 0] 27))) := ⟨below_alloc (below_step HBf'.out HB4'.out) _⟩
  clear HKf' HBf' HK4' HB4' HGf HG4 HK45 HKf5 HK55 sz0 sz1 sz2 sz3 sz4 sf0 sf1 sf2 sf3 sf4 cz0 cz1 cz2 cz3 cz4 cf0 cf1 cf2 cf3 cf4 fz0 fz1
  generalize (w4.alloc (.cells #[.slice none 0 0, .slice none 0 0, .int .i64 0, .bool false, .int .i64 0] 27)) = W6 at *
  generalize w4.heap.size = g5 at *
  have HS5z : Aside0 (W6.heap[g5]? = some (.cells (rdc (.slice none 0 0) (.slice none 0 0) ((0 : Nat) : Int) false 0) 27 (0, 0))) := HS5
  go_loopw [] (fun wr => ∃ (n : Nat) (o2 : List Int) (v : Value), Aside0 (wr.heap[g5]? = some (.cells (rdc v (.slice none 0 0) (n : Int) false 0) 27 (0, 0))) ∧ Aside0 (wr.heap[g4]? = some (.cells (rdc (.slice none 0 0) (.slice none 0 0) 0 false 0) 27 (0, 0))) ∧ Aside0 (wr.heap[gf]? = some (.cells #[.int .i64 2, .int .i64 len, .bool keep] 23 (0, 0))) ∧
    Aside0 ((Kd.int .u8).R 5 wr w.heap.size (fun k => k ≠ g4 ∧ k ≠ g5 ∧ k ≠ gf) v o2) ∧ Aside0 (Below w.heap.size w wr) ∧ Aside0 (n ≤ b.length) ∧ Aside0 (n ≤ len.toNat) ∧ Aside0 (o2 = b.take n)) (fun wr => b.length - nOf5 wr g5)
  case atStart => exact ⟨0, [], .slice none 0 0, HS5, HS4, HSf, ⟨Kd.R_nil _ _ _ _ _⟩, HB5, ⟨Nat.zero_le _⟩, ⟨Nat.zero_le _⟩, ⟨rfl⟩⟩
  case round =>
    obtain ⟨n, o2, v, HK5, HK4, HKF, HRo, HB, HNl, HNk, HO⟩ := hrel
    clear HS5 HS4 HSf HB5
    obtain ⟨A2, c2, rfl, _⟩ := Kd.R_reads HRo.out
    have HOl : Aside0 (o2.length = n) := ⟨by rw [HO.out, List.length_take]; have := HNl.out; omega⟩
    rw [HOl.out] at HK5 HRo
    have HMe : Aside0 (nOf5 wr g5 = n) := ⟨nOf5_at HK5.out⟩
    rw [HMe.out]
    clear HMe
    have hk5 := HK5.out
    have hk4 := HK4.out
    have hnl : (n : Int) ≤ L := by have := HNl.out; have := HL.out; omega
    have hkf := HKF.out
    have HNF : Aside0 (∀ k, (Value.slice A2 n c2).ownBlock = some k → k = gf → False) := ⟨fun k hk e => (HRo.out.1 k hk).2.2 e⟩
    have az0 : wr.cell? ⟨g5, 0, none⟩ = some (.slice A2 n c2) := (blk_cell hk5 0).trans rfl
    have az1 : wr.cell? ⟨g5, 1, none⟩ = some (.slice none 0 0) := (blk_cell hk5 1).trans rfl
    have az2 : wr.cell? ⟨g5, 2, none⟩ = some (.int .i64 (n : Int)) := (blk_cell hk5 2).trans rfl
    have az3 : wr.cell? ⟨g5, 3, none⟩ = some (.bool false) := (blk_cell hk5 3).trans rfl
    have az4 : wr.cell? ⟨g5, 4, none⟩ = some (.int .i64 0) := (blk_cell hk5 4).trans rfl
    have af0 := blk_frozen hk5 0
    have af1 := blk_frozen hk5 1
    have af2 := blk_frozen hk5 2
    have af3 := blk_frozen hk5 3
    have af4 := blk_frozen hk5 4
    have cz0 : wr.cell? ⟨g4, 0, none⟩ = some (.slice none 0 0) := (blk_cell hk4 0).trans rfl
    have cz1 : wr.cell? ⟨g4, 1, none⟩ = some (.slice none 0 0) := (blk_cell hk4 1).trans rfl
    have cz2 : wr.cell? ⟨g4, 2, none⟩ = some (.int .i64 0) := (blk_cell hk4 2).trans rfl
    have cz3 : wr.cell? ⟨g4, 3, none⟩ = some (.bool false) := (blk_cell hk4 3).trans rfl
    have cz4 : wr.cell? ⟨g4, 4, none⟩ = some (.int .i64 0) := (blk_cell hk4 4).trans rfl
    have cf0 := blk_frozen hk4 0
    have cf1 := blk_frozen hk4 1
    have cf2 := blk_frozen hk4 2
    have cf3 := blk_frozen hk4 3
    have cf4 := blk_frozen hk4 4
    have fz0 : wr.cell? ⟨gf, 0, none⟩ = some (.int .i64 2) := (blk_cell hkf 0).trans rfl
    have fz1 : wr.cell? ⟨gf, 1, none⟩ = some (.int .i64 len) := (blk_cell hkf 1).trans rfl
    clear hkf
    by_cases hin : (n : Int) < L ∧ (n : Int) < len
    · obtain ⟨hi1, hi2⟩ := hin
      obtain ⟨c5, hc⟩ : ∃ c5, c5 = rd b (n : Int) := ⟨_, rfl⟩
      have hlt : n < b.length := by have := HL.out; omega
      have HNX : Aside0 (b.take (n + 1) = o2 ++ [c5]) := ⟨by
        rw [List.take_add_one, HO.out, List.getElem?_eq_getElem hlt, hc]
        simp [rd, hlt]⟩
      have hCw := Kd.C_below HCb.out HB.out
      obtain ⟨ad, eA, hx⟩ := Kd.at_int hCw (n : Int) (by omega) (by omega)
      cases eA
      have hxa : ∀ o, (wr.alloc o).cell? (ad.add n) = some (.int .u8 c5) := fun o => by
        obtain ⟨ad2, eA2, hx2⟩ := Kd.at_int (Kd.C_below hCw (below_alloc (Below.refl _ _) o)) (n : Int) (by omega) (by omega)
        cases eA2
        rw [Int.toNat_natCast, ← hc] at hx2
        exact hx2
      rw [Int.toNat_natCast, ← hc] at hx
      have hya : ∀ o, (wr.alloc o).cell? ⟨g5, 0, none⟩ = some (.slice A2 n c2) := fun o => (blk_cell (blk_alloc HK5.out o) 0).trans rfl
      have hyb : ∀ o, (wr.alloc o).cell? ⟨g5, 2, none⟩ = some (.int .i64 (n : Int)) := fun o => (blk_cell (blk_alloc HK5.out o) 2).trans rfl
      have HLT := Aside0.mk hlt
      clear hc hCw hk5 hk4 hlt
      go_wp2
      go_region_law (refine Kd.R_append_step (Kd.int .u8) (w0 := w) (W := wr.drew) w.heap.size (by rfl) (.tmp 67) (.tmp 73) 24 5 (.int .u8 0) 1 rfl Tryd.underlying24 info_u8 rfl (by decide) (by omega) (.slice A2 n c2) o2 c5 [.int .u8 c5] (fun k => k ≠ g4 ∧ k ≠ g5 ∧ k ≠ gf) (fun _ => False) rfl rfl rfl (fun _ hk => hk.elim) (fun k hk => by have h5 := blk_lt HK5.out; have h6 := blk_lt HK4.out; have h8 := blk_lt HKF.out; have h7 := (below_drew (Below.refl wr.heap.size wr)).size; omega) (by repeat (first | exact HRo.out | apply Kd.R_drew)) (below_drew HB.out) (below_drew HB.out).size (by have := HOl.out; have := HNl.out; have := HBS.out; omega) ?_; intro v7 w7 hR7 hb7 hg7 hat7; have HR7 := Aside0.mk hR7; have HB7 := Aside0.mk hb7; have HG7 := Aside0.mk hg7; obtain ⟨A1, c1, e1⟩ := Kd.R_slice hR7; rw [List.length_append, List.length_singleton] at e1; have hk5 : w7.heap[g5]? = some (.cells (rdc (.slice A2 n c2) (.slice none 0 0) (n : Int) false 0) 27 (0, 0)) := (hg7.block g5 (by first | exact blk_lt HK5.out | exact Nat.lt_of_lt_of_le (blk_lt HK5.out) (below_drew (Below.refl wr.heap.size wr)).size) (fun e => (HRo.out.1 g5 e.symm).2.1 rfl)).trans (by first | exact HK5.out | exact ((below_drew (Below.refl wr.heap.size wr)).block g5 (blk_lt HK5.out)).trans HK5.out); have hk4 : w7.heap[g4]? = some (.cells (rdc (.slice none 0 0) (.slice none 0 0) 0 false 0) 27 (0, 0)) := (hg7.block g4 (by first | exact blk_lt HK4.out | exact Nat.lt_of_lt_of_le (blk_lt HK4.out) (below_drew (Below.refl wr.heap.size wr)).size) (fun e => (HRo.out.1 g4 e.symm).1 rfl)).trans (by first | exact HK4.out | exact ((below_drew (Below.refl wr.heap.size wr)).block g4 (blk_lt HK4.out)).trans HK4.out); have hkf : w7.heap[gf]? = some (.cells #[.int .i64 2, .int .i64 len, .bool keep] 23 (0, 0)) := (hg7.block gf (by first | exact blk_lt HKF.out | exact Nat.lt_of_lt_of_le (blk_lt HKF.out) (below_drew (Below.refl wr.heap.size wr)).size) (fun e => (HNF.out gf e.symm rfl))).trans (by first | exact HKF.out | exact ((below_drew (Below.refl wr.heap.size wr)).block gf (blk_lt HKF.out)).trans HKF.out); have KF7 := Aside0.mk hkf; clear hkf; have K57 := Aside0.mk hk5; have K47 := Aside0.mk hk4; clear az0 az1 az2 az3 az4 af0 af1 af2 af3 af4; have az0 : w7.cell? ⟨g5, 0, none⟩ = some (.slice A2 n c2) := (blk_cell hk5 0).trans rfl; have az1 : w7.cell? ⟨g5, 1, none⟩ = some (.slice none 0 0) := (blk_cell hk5 1).trans rfl; have az2 : w7.cell? ⟨g5, 2, none⟩ = some (.int .i64 (n : Int)) := (blk_cell hk5 2).trans rfl; have az3 : w7.cell? ⟨g5, 3, none⟩ = some (.bool false) := (blk_cell hk5 3).trans rfl; have az4 : w7.cell? ⟨g5, 4, none⟩ = some (.int .i64 0) := (blk_cell hk5 4).trans rfl; have af0 := blk_frozen hk5 0; have af1 := blk_frozen hk5 1; have af2 := blk_frozen hk5 2; have af3 := blk_frozen hk5 3; have af4 := blk_frozen hk5 4; clear hk5 hk4; clear hR7 hb7 hg7 hat7; subst e1)
      all_goals
        go_wp2
        go_roundw
        case rel => exact ⟨n + 1, o2 ++ [c5], .slice A1 (o2.length + 1) c1, ⟨by rw [show ((n + 1 : Nat) : Int) = (n : Int) + 1 by omega]; exact blk_put (blk_put K57.out 0 _ rfl) 2 _ rfl⟩, ⟨(Below.heap_setCell _ _ _ _ hne2).trans ((Below.heap_setCell _ _ _ _ hne2).trans K47.out)⟩, ⟨(Below.heap_setCell _ _ _ _ hnf5).trans ((Below.heap_setCell _ _ _ _ hnf5).trans KF7.out)⟩, ⟨Kd.R_step HR7.out (fun k hk _ => by rw [Below.heap_setCell _ _ _ _ hk.2.1, Below.heap_setCell _ _ _ _ hk.2.1])⟩, ⟨(HB7.out.setCell (p := ⟨g5, 0, none⟩) HGE5.out _).setCell (p := ⟨g5, 2, none⟩) HGE5.out _⟩, ⟨HLT.out⟩, ⟨by omega⟩, ⟨HNX.out.symm⟩⟩
        case measure => rw [nOf5_at (n := n + 1) (by rw [show ((n + 1 : Nat) : Int) = (n : Int) + 1 by omega]; exact blk_put (blk_put K57.out 0 _ rfl) 2 _ rfl)]; have h1 := HLT.out; omega
    · have HM : Aside0 (min L len.toNat = n ∧ b.take len.toNat = o2) := ⟨by
        have h1 := HNl.out
        have h2 := HNk.out
        have h3 := HL.out
        have h4 : min b.length len.toNat = n := by omega
        refine ⟨by rw [h3]; exact h4, ?_⟩
        rw [HO.out, ← h4]
        by_cases h5 : b.length ≤ len.toNat
        · rw [Nat.min_eq_left h5, List.take_length, List.take_of_length_le h5]
        · rw [Nat.min_eq_right (by omega)]⟩
      obtain ⟨wh, hwh⟩ : ∃ wh, wh = decide ((n : Int) = len) := ⟨_, rfl⟩
      have hq : ((n : Int) == len) = wh := by rw [hwh]; rfl
      have HW := Aside0.mk hwh
      clear hwh hk5 hk4
      by_cases hi : (n : Int) < L
      · have hi2 : ¬ (n : Int) < len := fun h => hin ⟨hi, h⟩
        clear hin
        go_wp2
        refine bodyPost_ret (results_cell_row rfl _ _ g4 27 #[.slice A2 n c2, .slice none 0 0, .int .i64 (n : Int), .bool wh, .int .i64 0] (0, 0) _ rfl (blk_five ((Below.heap_setCell _ _ _ _ hne2).trans (HK4.out))) Tryd.underlying27 rfl (by kernel_rfl)) rfl ?_
        refine ⟨.slice A2 n c2, .slice none 0 0, ?_, ?_, Kd.R_nil _ _ _ _ _, ((((((HB.out).setCell (p := ⟨g5, 3, none⟩) HGE5.out _).setCell (p := ⟨g4, 0, none⟩) HGE4.out _).setCell (p := ⟨g4, 1, none⟩) HGE4.out _).setCell (p := ⟨g4, 2, none⟩) HGE4.out _).setCell (p := ⟨g4, 3, none⟩) HGE4.out _).setCell (p := ⟨g4, 4, none⟩) HGE4.out _⟩
        · rw [HM.out.1, HW.out]
        · rw [HM.out.2]
          refine Kd.R_mono (Kd.R_step HRo.out (fun k hk _ => ?_)) (fun _ _ => trivial)
          rw [Below.heap_setCell _ _ _ _ hk.1, Below.heap_setCell _ _ _ _ hk.1, Below.heap_setCell _ _ _ _ hk.1, Below.heap_setCell _ _ _ _ hk.1, Below.heap_setCell _ _ _ _ hk.1, Below.heap_setCell _ _ _ _ hk.2.1]
      · clear hin
        go_wp2
        refine bodyPost_ret (results_cell_row rfl _ _ g4 27 #[.slice A2 n c2, .slice none 0 0, .int .i64 (n : Int), .bool wh, .int .i64 0] (0, 0) _ rfl (blk_five ((Below.heap_setCell _ _ _ _ hne2).trans (HK4.out))) Tryd.underlying27 rfl (by kernel_rfl)) rfl ?_
        refine ⟨.slice A2 n c2, .slice none 0 0, ?_, ?_, Kd.R_nil _ _ _ _ _, ((((((HB.out).setCell (p := ⟨g5, 3, none⟩) HGE5.out _).setCell (p := ⟨g4, 0, none⟩) HGE4.out _).setCell (p := ⟨g4, 1, none⟩) HGE4.out _).setCell (p := ⟨g4, 2, none⟩) HGE4.out _).setCell (p := ⟨g4, 3, none⟩) HGE4.out _).setCell (p := ⟨g4, 4, none⟩) HGE4.out _⟩
        · rw [HM.out.1, HW.out]
        · rw [HM.out.2]
          refine Kd.R_mono (Kd.R_step HRo.out (fun k hk _ => ?_)) (fun _ _ => trivial)
          rw [Below.heap_setCell _ _ _ _ hk.1, Below.heap_setCell _ _ _ _ hk.1, Below.heap_setCell _ _ _ _ hk.1, Below.heap_setCell _ _ _ _ hk.1, Below.heap_setCell _ _ _ _ hk.1, Below.heap_setCell _ _ _ _ hk.2.1]
set_option maxHeartbeats 16000000 in
set_option maxRecDepth 100000 in
theorem all11_close (kind : Int) (len : Int) (keep : Bool) (most : Int) (h0 : 0 ≤ most) (h1 : most ≤ 9007199254740992) (b : List Int) (hbl : b.length ≤ 1073741824) (A : Option Addr) (c : Nat) (w : World) (hr : (Kd.int .u8).C w A b.length b) (hc : b.length ≤ c) (k1 : (kind == 1) = false) (k2 : (kind == 2) = false) (k3 : (kind == 3) = false) :
    Calls Tryd.prog 4 #[.agg #[.int .i64 kind, .int .i64 len, .bool keep], .int .i64 most, .slice A b.length c, .bool false] w (All11Post (seenB kind len most b) w) := by
  have HSe : Aside0 (seenB kind len most b = if b.length ≤ most.toNat then ⟨b, [], b.length, false, 0⟩ else ⟨b.take most.toNat, [], most.toNat + 1, false, 2⟩) := ⟨by unfold seenB; rw [if_neg (by simpa using k1), if_neg (by simpa using k2), if_neg (by simpa using k3)]⟩
  rw [HSe.out]
  have HBS : Aside0 (b.length ≤ 1073741824) := ⟨hbl⟩
  have HCb := Aside0.mk hr
  have Hc := Aside0.mk hc
  obtain ⟨L, hL⟩ : ∃ L, L = b.length := ⟨_, rfl⟩
  have HL := Aside0.mk hL
  have hLle : (L : Int) ≤ 1073741824 := by omega
  rw [← hL]
  clear hbl hr hc hL
  obtain ⟨RS, hRS⟩ : ∃ RS : Seen11, RS = (if L ≤ most.toNat then ⟨b, [], L, false, 0⟩ else ⟨b.take most.toNat, [], most.toNat + 1, false, 2⟩) := ⟨_, rfl⟩
  have HRS := Aside0.mk hRS
  rw [← hRS]
  clear hRS HSe
  have n1 : ¬ kind = 1 := by simpa using k1
  have n2 : ¬ kind = 2 := by simpa using k2
  have n3 : ¬ kind = 3 := by simpa using k3
  go_enter Tryd.func4, Tryd.ntmps4
  go_wp2_with (first
    | ((with_reducible refine gate_dst (N := 4) rfl ?_); refine box_event ?hg (N := 4) ?hd (cs := #[.int .i64 kind, .int .i64 len, .bool keep]) (t := 23) ?hr ?_; (case hd => rfl); (case hg => rfl); (case hr => first | (go_simp; done) | (go_simp; rfl)); intro gf hgf wf hboxf hbf; have HKf' := Aside0.mk hboxf; have HBf' := Aside0.mk hbf; have HGf := Aside0.mk hgf;  clear hboxf hbf hgf)
    | ((with_reducible refine gate_dst (N := 8) rfl ?_); refine box_event ?hg (N := 8) ?hd (cs := #[.slice none 0 0, .slice none 0 0, .int .i64 0, .bool false, .int .i64 0]) (t := 27) ?hr ?_; (case hd => rfl); (case hg => rfl); (case hr => first | (go_simp; done) | (go_simp; rfl)); intro g4 hg4 w4 hbox4 hb4; have HK4' := Aside0.mk hbox4; have HB4' := Aside0.mk hb4; have HG4 := Aside0.mk hg4; have hltf := blk_lt HKf'.out; have hsz4 := hb4.size; have hnf4 : ¬ gf = g4 := (by omega); have hn4f : ¬ g4 = gf := (fun h => hnf4 h.symm); have hlt4 := blk_lt hbox4; have hne2 : ¬ g4 = w4.heap.size := (by omega); have hne1 : ¬ w4.heap.size = g4 := (by omega); have hnf5 : ¬ gf = w4.heap.size := (by omega); have hn5f : ¬ w4.heap.size = gf := (by omega); have hkf0 := (hb4.block gf hltf).trans HKf'.out; have hkf := blk_alloc hkf0 (.cells #[.slice none 0 0, .slice none 0 0, .int .i64 0, .bool false, .int .i64 0] 27); have hk4 := blk_alloc hbox4 (.cells #[.slice none 0 0, .slice none 0 0, .int .i64 0, .bool false, .int .i64 0] 27); have hk5 := blk_new w4 (.cells #[.slice none 0 0, .slice none 0 0, .int .i64 0, .bool false, .int .i64 0] 27); have HKf5 := Aside0.mk hkf; have HK45 := Aside0.mk hk4; have HK55 := Aside0.mk hk5; have fz0 : (w4.alloc (.cells #[.slice none 0 0, .slice none 0 0, .int .i64 0, .bool false, .int .i64 0] 27)).cell? ⟨gf, 0, none⟩ = some (.int .i64 kind) := (blk_cell hkf 0).trans rfl; have fz1 : (w4.alloc (.cells #[.slice none 0 0, .slice none 0 0, .int .i64 0, .bool false, .int .i64 0] 27)).cell? ⟨gf, 1, none⟩ = some (.int .i64 len) := (blk_cell hkf 1).trans rfl; have sz0 : (w4.alloc (.cells #[.slice none 0 0, .slice none 0 0, .int .i64 0, .bool false, .int .i64 0] 27)).cell? ⟨w4.heap.size, 0, none⟩ = some (.slice none 0 0) := (blk_cell hk5 0).trans rfl; have sz1 : (w4.alloc (.cells #[.slice none 0 0, .slice none 0 0, .int .i64 0, .bool false, .int .i64 0] 27)).cell? ⟨w4.heap.size, 1, none⟩ = some (.slice none 0 0) := (blk_cell hk5 1).trans rfl; have sz2 : (w4.alloc (.cells #[.slice none 0 0, .slice none 0 0, .int .i64 0, .bool false, .int .i64 0] 27)).cell? ⟨w4.heap.size, 2, none⟩ = some (.int .i64 0) := (blk_cell hk5 2).trans rfl; have sz3 : (w4.alloc (.cells #[.slice none 0 0, .slice none 0 0, .int .i64 0, .bool false, .int .i64 0] 27)).cell? ⟨w4.heap.size, 3, none⟩ = some (.bool false) := (blk_cell hk5 3).trans rfl; have sz4 : (w4.alloc (.cells #[.slice none 0 0, .slice none 0 0, .int .i64 0, .bool false, .int .i64 0] 27)).cell? ⟨w4.heap.size, 4, none⟩ = some (.int .i64 0) := (blk_cell hk5 4).trans rfl; have sf0 := blk_frozen hk5 0; have sf1 := blk_frozen hk5 1; have sf2 := blk_frozen hk5 2; have sf3 := blk_frozen hk5 3; have sf4 := blk_frozen hk5 4; have cz0 : (w4.alloc (.cells #[.slice none 0 0, .slice none 0 0, .int .i64 0, .bool false, .int .i64 0] 27)).cell? ⟨g4, 0, none⟩ = some (.slice none 0 0) := (blk_cell hk4 0).trans rfl; have cz1 : (w4.alloc (.cells #[.slice none 0 0, .slice none 0 0, .int .i64 0, .bool false, .int .i64 0] 27)).cell? ⟨g4, 1, none⟩ = some (.slice none 0 0) := (blk_cell hk4 1).trans rfl; have cz2 : (w4.alloc (.cells #[.slice none 0 0, .slice none 0 0, .int .i64 0, .bool false, .int .i64 0] 27)).cell? ⟨g4, 2, none⟩ = some (.int .i64 0) := (blk_cell hk4 2).trans rfl; have cz3 : (w4.alloc (.cells #[.slice none 0 0, .slice none 0 0, .int .i64 0, .bool false, .int .i64 0] 27)).cell? ⟨g4, 3, none⟩ = some (.bool false) := (blk_cell hk4 3).trans rfl; have cz4 : (w4.alloc (.cells #[.slice none 0 0, .slice none 0 0, .int .i64 0, .bool false, .int .i64 0] 27)).cell? ⟨g4, 4, none⟩ = some (.int .i64 0) := (blk_cell hk4 4).trans rfl; have cf0 := blk_frozen hk4 0; have cf1 := blk_frozen hk4 1; have cf2 := blk_frozen hk4 2; have cf3 := blk_frozen hk4 3; have cf4 := blk_frozen hk4 4; clear hkf hk4 hk5 hkf0 hltf hsz4 hlt4; clear hbox4 hb4 hg4))
  have HGE4 : Aside0 (w.heap.size ≤ g4) := ⟨by rw [HG4.out]; exact HBf'.out.size⟩
  have HGE5 : Aside0 (w.heap.size ≤ w4.heap.size) := ⟨Nat.le_trans HBf'.out.size HB4'.out.size⟩
  have HS5 := HK55
  have HS4 := HK45
  have HSf := HKf5
  have HB5 : Aside0 (Below w.heap.size w (w4.alloc (.cells #[.slice none 0 0, .slice none 0 0, .int .i64 0, .bool false, .int .i64 0] 27))) := ⟨below_alloc (below_step HBf'.out HB4'.out) _⟩
  clear HKf' HBf' HK4' HB4' HGf HG4 HK45 HKf5 HK55 sz0 sz1 sz2 sz3 sz4 sf0 sf1 sf2 sf3 sf4 cz0 cz1 cz2 cz3 cz4 cf0 cf1 cf2 cf3 cf4 fz0 fz1
  generalize (w4.alloc (.cells #[.slice none 0 0, .slice none 0 0, .int .i64 0, .bool false, .int .i64 0] 27)) = W6 at *
  generalize w4.heap.size = g5 at *
  have HS5z : Aside0 (W6.heap[g5]? = some (.cells (rdc (.slice none 0 0) (.slice none 0 0) ((0 : Nat) : Int) false 0) 27 (0, 0))) := HS5
  go_loopw [] (fun wr => ∃ (n : Nat) (o2 : List Int) (v : Value) (e5 : Int), Aside0 (wr.heap[g5]? = some (.cells (rdc v (.slice none 0 0) (n : Int) false e5) 27 (0, 0))) ∧ Aside0 (wr.heap[g4]? = some (.cells (rdc (.slice none 0 0) (.slice none 0 0) 0 false 0) 27 (0, 0))) ∧
    Aside0 ((Kd.int .u8).R 5 wr w.heap.size (fun k => k ≠ g4 ∧ k ≠ g5) v o2) ∧ Aside0 (Below w.heap.size w wr) ∧ Aside0 (n ≤ b.length) ∧ Aside0 ((e5 = 0 ∧ (n : Int) ≤ most ∧ o2 = b.take n) ∨ (e5 = 2 ∧ (n : Int) = most + 1 ∧ o2 = b.take most.toNat))) (fun wr => b.length - nOf5 wr g5)
  case atStart => exact ⟨0, [], .slice none 0 0, 0, HS5, HS4, ⟨Kd.R_nil _ _ _ _ _⟩, HB5, ⟨Nat.zero_le _⟩, ⟨.inl ⟨rfl, h0, rfl⟩⟩⟩
  case round =>
    obtain ⟨n, o2, v, e5, HK5, HK4, HRo, HB, HNl, HDs⟩ := hrel
    clear HS5 HS4 HSf HB5
    obtain ⟨hds⟩ := HDs
    rcases hds with ⟨rfl, hnm, ho⟩ | ⟨rfl, hnm, ho⟩
    · skip
      have HO := Aside0.mk ho
      obtain ⟨A2, c2, rfl, _⟩ := Kd.R_reads HRo.out
      have HOl : Aside0 (o2.length = n) := ⟨by rw [HO.out, List.length_take]; have := HNl.out; omega⟩
      rw [HOl.out] at HK5 HRo
      have HMe : Aside0 (nOf5 wr g5 = n) := ⟨nOf5_at HK5.out⟩
      rw [HMe.out]
      clear HMe ho
      have hk5 := HK5.out
      have hk4 := HK4.out
      have hnl : (n : Int) ≤ L := by have := HNl.out; have := HL.out; omega
      have az0 : wr.cell? ⟨g5, 0, none⟩ = some (.slice A2 n c2) := (blk_cell hk5 0).trans rfl
      have az1 : wr.cell? ⟨g5, 1, none⟩ = some (.slice none 0 0) := (blk_cell hk5 1).trans rfl
      have az2 : wr.cell? ⟨g5, 2, none⟩ = some (.int .i64 (n : Int)) := (blk_cell hk5 2).trans rfl
      have az3 : wr.cell? ⟨g5, 3, none⟩ = some (.bool false) := (blk_cell hk5 3).trans rfl
      have az4 : wr.cell? ⟨g5, 4, none⟩ = some (.int .i64 0) := (blk_cell hk5 4).trans rfl
      have af0 := blk_frozen hk5 0
      have af1 := blk_frozen hk5 1
      have af2 := blk_frozen hk5 2
      have af3 := blk_frozen hk5 3
      have af4 := blk_frozen hk5 4
      have cz0 : wr.cell? ⟨g4, 0, none⟩ = some (.slice none 0 0) := (blk_cell hk4 0).trans rfl
      have cz1 : wr.cell? ⟨g4, 1, none⟩ = some (.slice none 0 0) := (blk_cell hk4 1).trans rfl
      have cz2 : wr.cell? ⟨g4, 2, none⟩ = some (.int .i64 0) := (blk_cell hk4 2).trans rfl
      have cz3 : wr.cell? ⟨g4, 3, none⟩ = some (.bool false) := (blk_cell hk4 3).trans rfl
      have cz4 : wr.cell? ⟨g4, 4, none⟩ = some (.int .i64 0) := (blk_cell hk4 4).trans rfl
      have cf0 := blk_frozen hk4 0
      have cf1 := blk_frozen hk4 1
      have cf2 := blk_frozen hk4 2
      have cf3 := blk_frozen hk4 3
      have cf4 := blk_frozen hk4 4
      by_cases hi : (n : Int) < L
      · by_cases hm : (n : Int) = most
        · have bm : ((n : Int) == most) = true := by rw [hm]; exact beq_self_eq_true _
          have HHm := Aside0.mk hm
          have HLT : Aside0 (n < b.length) := ⟨by have := HL.out; omega⟩
          clear hm hk5 hk4
          go_wp2
          go_roundw
          case rel => exact ⟨n + 1, o2, .slice A2 n c2, 2, ⟨by rw [show ((n + 1 : Nat) : Int) = (n : Int) + 1 by omega]; exact blk_put (blk_put HK5.out 4 _ rfl) 2 _ rfl⟩, ⟨(Below.heap_setCell _ _ _ _ hne2).trans ((Below.heap_setCell _ _ _ _ hne2).trans HK4.out)⟩, ⟨Kd.R_step HRo.out (fun k hk _ => by rw [Below.heap_setCell _ _ _ _ hk.2, Below.heap_setCell _ _ _ _ hk.2])⟩, ⟨(HB.out.setCell (p := ⟨g5, 4, none⟩) HGE5.out _).setCell (p := ⟨g5, 2, none⟩) HGE5.out _⟩, ⟨HLT.out⟩, ⟨.inr ⟨rfl, by have := HHm.out; omega, by rw [HO.out, ← HHm.out, Int.toNat_natCast]⟩⟩⟩
          case measure => rw [nOf5_at (n := n + 1) (by rw [show ((n + 1 : Nat) : Int) = (n : Int) + 1 by omega]; exact blk_put (blk_put HK5.out 4 _ rfl) 2 _ rfl)]; have h1 := HLT.out; omega
        · have bm : ((n : Int) == most) = false := by simpa using hm
          obtain ⟨c5, hc⟩ : ∃ c5, c5 = rd b (n : Int) := ⟨_, rfl⟩
          have hlt : n < b.length := by have := HL.out; omega
          have HNX : Aside0 (b.take (n + 1) = o2 ++ [c5]) := ⟨by
            rw [List.take_add_one, HO.out, List.getElem?_eq_getElem hlt, hc]
            simp [rd, hlt]⟩
          have hCw := Kd.C_below HCb.out HB.out
          obtain ⟨ad, eA, hx⟩ := Kd.at_int hCw (n : Int) (by omega) (by omega)
          cases eA
          have hxa : ∀ o, (wr.alloc o).cell? (ad.add n) = some (.int .u8 c5) := fun o => by
            obtain ⟨ad2, eA2, hx2⟩ := Kd.at_int (Kd.C_below hCw (below_alloc (Below.refl _ _) o)) (n : Int) (by omega) (by omega)
            cases eA2
            rw [Int.toNat_natCast, ← hc] at hx2
            exact hx2
          rw [Int.toNat_natCast, ← hc] at hx
          have hya : ∀ o, (wr.alloc o).cell? ⟨g5, 0, none⟩ = some (.slice A2 n c2) := fun o => (blk_cell (blk_alloc HK5.out o) 0).trans rfl
          have hyb : ∀ o, (wr.alloc o).cell? ⟨g5, 2, none⟩ = some (.int .i64 (n : Int)) := fun o => (blk_cell (blk_alloc HK5.out o) 2).trans rfl
          have HLT := Aside0.mk hlt
          clear hc hCw hk5 hk4 hlt
          have HM5 : Aside0 ((n : Int) < most) := ⟨by omega⟩
          clear hm
          go_wp2
          go_region_law (refine Kd.R_append_step (Kd.int .u8) (w0 := w) (W := wr.drew) w.heap.size (by rfl) (.tmp 29) (.tmp 35) 24 5 (.int .u8 0) 1 rfl Tryd.underlying24 info_u8 rfl (by decide) (by omega) (.slice A2 n c2) o2 c5 [.int .u8 c5] (fun k => k ≠ g4 ∧ k ≠ g5) (fun _ => False) rfl rfl rfl (fun _ hk => hk.elim) (fun k hk => by have h5 := blk_lt HK5.out; have h6 := blk_lt HK4.out; have h7 := (below_drew (Below.refl wr.heap.size wr)).size; omega) (by repeat (first | exact HRo.out | apply Kd.R_drew)) (below_drew HB.out) (below_drew HB.out).size (by have := HOl.out; have := HNl.out; have := HBS.out; omega) ?_; intro v7 w7 hR7 hb7 hg7 hat7; have HR7 := Aside0.mk hR7; have HB7 := Aside0.mk hb7; have HG7 := Aside0.mk hg7; obtain ⟨A1, c1, e1⟩ := Kd.R_slice hR7; rw [List.length_append, List.length_singleton] at e1; have hk5 : w7.heap[g5]? = some (.cells (rdc (.slice A2 n c2) (.slice none 0 0) (n : Int) false 0) 27 (0, 0)) := (hg7.block g5 (by first | exact blk_lt HK5.out | exact Nat.lt_of_lt_of_le (blk_lt HK5.out) (below_drew (Below.refl wr.heap.size wr)).size) (fun e => (HRo.out.1 g5 e.symm).2 rfl)).trans (by first | exact HK5.out | exact ((below_drew (Below.refl wr.heap.size wr)).block g5 (blk_lt HK5.out)).trans HK5.out); have hk4 : w7.heap[g4]? = some (.cells (rdc (.slice none 0 0) (.slice none 0 0) 0 false 0) 27 (0, 0)) := (hg7.block g4 (by first | exact blk_lt HK4.out | exact Nat.lt_of_lt_of_le (blk_lt HK4.out) (below_drew (Below.refl wr.heap.size wr)).size) (fun e => (HRo.out.1 g4 e.symm).1 rfl)).trans (by first | exact HK4.out | exact ((below_drew (Below.refl wr.heap.size wr)).block g4 (blk_lt HK4.out)).trans HK4.out);  have K57 := Aside0.mk hk5; have K47 := Aside0.mk hk4; clear az0 az1 az2 az3 az4 af0 af1 af2 af3 af4; have az0 : w7.cell? ⟨g5, 0, none⟩ = some (.slice A2 n c2) := (blk_cell hk5 0).trans rfl; have az1 : w7.cell? ⟨g5, 1, none⟩ = some (.slice none 0 0) := (blk_cell hk5 1).trans rfl; have az2 : w7.cell? ⟨g5, 2, none⟩ = some (.int .i64 (n : Int)) := (blk_cell hk5 2).trans rfl; have az3 : w7.cell? ⟨g5, 3, none⟩ = some (.bool false) := (blk_cell hk5 3).trans rfl; have az4 : w7.cell? ⟨g5, 4, none⟩ = some (.int .i64 0) := (blk_cell hk5 4).trans rfl; have af0 := blk_frozen hk5 0; have af1 := blk_frozen hk5 1; have af2 := blk_frozen hk5 2; have af3 := blk_frozen hk5 3; have af4 := blk_frozen hk5 4; clear hk5 hk4; clear hR7 hb7 hg7 hat7; subst e1)
          all_goals
            go_wp2
            go_roundw
            case rel => exact ⟨n + 1, o2 ++ [c5], .slice A1 (o2.length + 1) c1, 0, ⟨by rw [show ((n + 1 : Nat) : Int) = (n : Int) + 1 by omega]; exact blk_put (blk_put K57.out 0 _ rfl) 2 _ rfl⟩, ⟨(Below.heap_setCell _ _ _ _ hne2).trans ((Below.heap_setCell _ _ _ _ hne2).trans K47.out)⟩, ⟨Kd.R_step HR7.out (fun k hk _ => by rw [Below.heap_setCell _ _ _ _ hk.2, Below.heap_setCell _ _ _ _ hk.2])⟩, ⟨(HB7.out.setCell (p := ⟨g5, 0, none⟩) HGE5.out _).setCell (p := ⟨g5, 2, none⟩) HGE5.out _⟩, ⟨HLT.out⟩, ⟨.inl ⟨rfl, by have := HM5.out; omega, HNX.out.symm⟩⟩⟩
            case measure => rw [nOf5_at (n := n + 1) (by rw [show ((n + 1 : Nat) : Int) = (n : Int) + 1 by omega]; exact blk_put (blk_put K57.out 0 _ rfl) 2 _ rfl)]; have h1 := HLT.out; omega
      · have HM : Aside0 (L ≤ most.toNat ∧ L = n ∧ o2 = b) := ⟨by
          have h1 := HNl.out
          have h3 := HL.out
          have h4 : b.length = n := by omega
          exact ⟨by omega, by omega, by rw [HO.out, ← h4, List.take_length]⟩⟩
        clear hk5 hk4
        go_wp2
        refine bodyPost_ret (results_cell_row rfl _ _ g4 27 #[.slice A2 n c2, .slice none 0 0, .int .i64 (n : Int), .bool false, .int .i64 0] (0, 0) _ rfl (blk_five ((Below.heap_setCell _ _ _ _ hne2).trans (HK4.out))) Tryd.underlying27 rfl (by kernel_rfl)) rfl ?_
        rw [HRS.out, if_pos HM.out.1]
        refine ⟨.slice A2 n c2, .slice none 0 0, ?_, ?_, Kd.R_nil _ _ _ _ _, ((((((HB.out).setCell (p := ⟨g5, 3, none⟩) HGE5.out _).setCell (p := ⟨g4, 0, none⟩) HGE4.out _).setCell (p := ⟨g4, 1, none⟩) HGE4.out _).setCell (p := ⟨g4, 2, none⟩) HGE4.out _).setCell (p := ⟨g4, 3, none⟩) HGE4.out _).setCell (p := ⟨g4, 4, none⟩) HGE4.out _⟩
        · rw [HM.out.2.1]
        · show (Kd.int .u8).R _ _ _ _ _ b
          rw [← HM.out.2.2]
          refine Kd.R_mono (Kd.R_step HRo.out (fun k hk _ => ?_)) (fun _ _ => trivial)
          rw [Below.heap_setCell _ _ _ _ hk.1, Below.heap_setCell _ _ _ _ hk.1, Below.heap_setCell _ _ _ _ hk.1, Below.heap_setCell _ _ _ _ hk.1, Below.heap_setCell _ _ _ _ hk.1, Below.heap_setCell _ _ _ _ hk.2]
    · skip
      have HO := Aside0.mk ho
      obtain ⟨A2, c2, rfl, _⟩ := Kd.R_reads HRo.out
      have HOl : Aside0 (o2.length = n - 1) := ⟨by rw [HO.out, List.length_take]; have := HNl.out; omega⟩
      rw [HOl.out] at HK5 HRo
      obtain ⟨n1, hn1⟩ : ∃ x, x = n - 1 := ⟨_, rfl⟩
      rw [← hn1] at HK5 HRo
      have HN1 := Aside0.mk hn1
      have HNm := Aside0.mk hnm
      clear ho hnm hn1
      have hk5 := HK5.out
      have hk4 := HK4.out
      have hnl : (n : Int) ≤ L := by have := HNl.out; have := HL.out; omega
      have az0 : wr.cell? ⟨g5, 0, none⟩ = some (.slice A2 n1 c2) := (blk_cell hk5 0).trans rfl
      have az1 : wr.cell? ⟨g5, 1, none⟩ = some (.slice none 0 0) := (blk_cell hk5 1).trans rfl
      have az2 : wr.cell? ⟨g5, 2, none⟩ = some (.int .i64 (n : Int)) := (blk_cell hk5 2).trans rfl
      have az3 : wr.cell? ⟨g5, 3, none⟩ = some (.bool false) := (blk_cell hk5 3).trans rfl
      have az4 : wr.cell? ⟨g5, 4, none⟩ = some (.int .i64 2) := (blk_cell hk5 4).trans rfl
      have af0 := blk_frozen hk5 0
      have af1 := blk_frozen hk5 1
      have af2 := blk_frozen hk5 2
      have af3 := blk_frozen hk5 3
      have af4 := blk_frozen hk5 4
      have cz0 : wr.cell? ⟨g4, 0, none⟩ = some (.slice none 0 0) := (blk_cell hk4 0).trans rfl
      have cz1 : wr.cell? ⟨g4, 1, none⟩ = some (.slice none 0 0) := (blk_cell hk4 1).trans rfl
      have cz2 : wr.cell? ⟨g4, 2, none⟩ = some (.int .i64 0) := (blk_cell hk4 2).trans rfl
      have cz3 : wr.cell? ⟨g4, 3, none⟩ = some (.bool false) := (blk_cell hk4 3).trans rfl
      have cz4 : wr.cell? ⟨g4, 4, none⟩ = some (.int .i64 0) := (blk_cell hk4 4).trans rfl
      have cf0 := blk_frozen hk4 0
      have cf1 := blk_frozen hk4 1
      have cf2 := blk_frozen hk4 2
      have cf3 := blk_frozen hk4 3
      have cf4 := blk_frozen hk4 4
      clear hk5 hk4
      by_cases hi : (n : Int) < L
      · go_wp2
        refine bodyPost_ret (results_cell_row rfl _ _ g4 27 #[.slice A2 n1 c2, .slice none 0 0, .int .i64 (n : Int), .bool false, .int .i64 2] (0, 0) _ rfl (blk_five ((Below.heap_setCell _ _ _ _ hne2).trans (HK4.out))) Tryd.underlying27 rfl (by kernel_rfl)) rfl ?_
        have h5 : ¬ L ≤ most.toNat := by have := HNm.out; have := HNl.out; have := HL.out; omega
        rw [HRS.out, if_neg h5]
        refine ⟨.slice A2 n1 c2, .slice none 0 0, ?_, ?_, Kd.R_nil _ _ _ _ _, ((((((HB.out).setCell (p := ⟨g5, 3, none⟩) HGE5.out _).setCell (p := ⟨g4, 0, none⟩) HGE4.out _).setCell (p := ⟨g4, 1, none⟩) HGE4.out _).setCell (p := ⟨g4, 2, none⟩) HGE4.out _).setCell (p := ⟨g4, 3, none⟩) HGE4.out _).setCell (p := ⟨g4, 4, none⟩) HGE4.out _⟩
        · rw [show most.toNat + 1 = n by have := HNm.out; omega]
        · show (Kd.int .u8).R _ _ _ _ _ (b.take most.toNat)
          rw [← HO.out]
          refine Kd.R_mono (Kd.R_step HRo.out (fun k hk _ => ?_)) (fun _ _ => trivial)
          rw [Below.heap_setCell _ _ _ _ hk.1, Below.heap_setCell _ _ _ _ hk.1, Below.heap_setCell _ _ _ _ hk.1, Below.heap_setCell _ _ _ _ hk.1, Below.heap_setCell _ _ _ _ hk.1, Below.heap_setCell _ _ _ _ hk.2]
      · go_wp2
        refine bodyPost_ret (results_cell_row rfl _ _ g4 27 #[.slice A2 n1 c2, .slice none 0 0, .int .i64 (n : Int), .bool false, .int .i64 2] (0, 0) _ rfl (blk_five ((Below.heap_setCell _ _ _ _ hne2).trans (HK4.out))) Tryd.underlying27 rfl (by kernel_rfl)) rfl ?_
        have h5 : ¬ L ≤ most.toNat := by have := HNm.out; have := HNl.out; have := HL.out; omega
        rw [HRS.out, if_neg h5]
        refine ⟨.slice A2 n1 c2, .slice none 0 0, ?_, ?_, Kd.R_nil _ _ _ _ _, ((((((HB.out).setCell (p := ⟨g5, 3, none⟩) HGE5.out _).setCell (p := ⟨g4, 0, none⟩) HGE4.out _).setCell (p := ⟨g4, 1, none⟩) HGE4.out _).setCell (p := ⟨g4, 2, none⟩) HGE4.out _).setCell (p := ⟨g4, 3, none⟩) HGE4.out _).setCell (p := ⟨g4, 4, none⟩) HGE4.out _⟩
        · rw [show most.toNat + 1 = n by have := HNm.out; omega]
        · show (Kd.int .u8).R _ _ _ _ _ (b.take most.toNat)
          rw [← HO.out]
          refine Kd.R_mono (Kd.R_step HRo.out (fun k hk _ => ?_)) (fun _ _ => trivial)
          rw [Below.heap_setCell _ _ _ _ hk.1, Below.heap_setCell _ _ _ _ hk.1, Below.heap_setCell _ _ _ _ hk.1, Below.heap_setCell _ _ _ _ hk.1, Below.heap_setCell _ _ _ _ hk.1, Below.heap_setCell _ _ _ _ hk.2]
/-- All, at any framing. -/
theorem all11_calls (kind len : Int) (keep : Bool) (most : Int) (h0 : 0 ≤ most) (h1 : most ≤ 9007199254740992) (b : List Int) (hbl : b.length ≤ 1073741824) (A : Option Addr) (c : Nat) (w : World) (hr : (Kd.int .u8).C w A b.length b) (hc : b.length ≤ c) :
    Calls Tryd.prog 4 #[.agg #[.int .i64 kind, .int .i64 len, .bool keep], .int .i64 most, .slice A b.length c, .bool false] w (All11Post (seenB kind len most b) w) := by
  by_cases k1 : kind = 1
  · subst k1; exact all11_none len keep most h0 h1 b hbl A c w hr hc
  · by_cases k2 : kind = 2
    · subst k2; exact all11_len len keep most h0 h1 b hbl A c w hr hc
    · by_cases k3 : kind = 3
      · subst k3; exact all11_chunk len keep most h0 h1 b hbl A c w hr hc
      · exact all11_close kind len keep most h0 h1 b hbl A c w hr hc (by simpa using k1) (by simpa using k2) (by simpa using k3)
end Go.Proofs.YtcfmihghgecefaaDoor.Bod
