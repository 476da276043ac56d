/- Give and Draw of both worlds; own text of this session. -/
import Derived.Test.YtnhhcmnjfaeliaaVsB
namespace Go.Proofs.Ytnhhcmnjfaeliaa.Vm
open Wld hiding St Ft Next cellsQ cellsP ReadPost ptrE ptrE_none ptrE_some law zeroP Key key_of info_u8 info_int ne_t ne_blk ne_map grown_below
open Go.RowKit Go.Proofs.YtnhhcmnjfaeliaaW.PrintWords Go.Proofs.YtnhhcmnjfaeliaaW.PrintLast Go.Maps
set_option linter.unusedVariables false
set_option linter.unusedSimpArgs false
/-- A block whose second cell is a row of numbers. -/
def DW (w : World) (p : Nat) (T : TypeId) (c0 vd : Value) (ds : List Int) : Prop := w.heap[p]? = some (.cells #[c0, vd] T (0, 0)) ∧ Row .i64 3 w vd ds
def DPost (w : World) (p : Nat) (T : TypeId) (c0 vd : Value) (ds' : List Int) (w' : World) : Prop :=
  ∃ v1, DW w' p T c0 v1 ds' ∧ (∀ k, v1.ownBlock = some k → vd.ownBlock = some k ∨ w.heap.size ≤ k) ∧ Stay (fun k => k = p ∨ vd.ownBlock = some k) w w'
theorem DW.toD {w w1 : World} {p : Nat} {T : TypeId} {c0 vd v1 : Value} {ds ds1 : List Int} (h : DW w p T c0 vd ds) (hT : T ≠ 3) (hg : w.grownBy w1 vd.ownBlock) (hR : Row .i64 3 w1 v1 ds1) (hat : ∀ i, v1.ownBlock = some i → vd.ownBlock = some i ∨ w.heap.size ≤ i) :
    w1.heap[p]? = some (.cells #[c0, vd] T (0, 0)) ∧ DPost w p T c0 vd ds1 (w1.setCell ⟨p, 1, none⟩ v1) := by
  have hp : w1.heap[p]? = some (.cells #[c0, vd] T (0, 0)) := (hg.block p (blk_lt h.1) (fun e => by
    obtain ⟨C, hC⟩ := h.2.typed p e.symm
    rw [h.1] at hC
    injection hC with hC
    injection hC with _ h2 _
    exact hT h2)).trans h.1
  refine ⟨hp, v1, ⟨blk_put hp 1 _ rfl, hR.keep (fun i hi _ => Below.heap_setCell _ _ _ _ (fun e => ?_))⟩, hat, (Stay.grown hg (fun k hk => .inr hk)).set (.inl rfl) _⟩
  obtain ⟨C, hC⟩ := hR.typed i hi
  rw [e, hp] at hC
  injection hC with hC
  injection hC with _ h2 _
  exact hT h2
section
variable {w : World} {p : Nat} {c0 vd : Value} {ds : List Int}
set_option maxRecDepth 100000 in
theorem wgive_arg (p : Nat) (w : World) (v : Int) (hv : v < 0 ∨ 4294967295 < v) :
    Calls Try.prog 29 #[.pointer (some ⟨p, 0, none⟩), .int .i64 v] w fun e w' => e = .returned (.int .i64 1) ∧ Below w.heap.size w w' := by
  by_cases h1 : v < 0
  · clear hv
    go_enter Try.func29, Try.ntmps29
    go_wp2
    go_ret
    exact ⟨rfl, by repeat (first | exact Below.refl _ _ | apply below_drew1 | apply pw_below_drewN)⟩
  · have h2 : 4294967295 < v := hv.resolve_left h1
    clear hv
    go_enter Try.func29, Try.ntmps29
    go_wp2
    go_ret
    exact ⟨rfl, by repeat (first | exact Below.refl _ _ | apply below_drew1 | apply pw_below_drewN)⟩
set_option maxRecDepth 100000 in
theorem wgive_full (h : DW w p 55 c0 vd ds) (v : Int) (hv0 : 0 ≤ v) (hv1 : v ≤ 4294967295) (hl : ds.length = 4096) :
    Calls Try.prog 29 #[.pointer (some ⟨p, 0, none⟩), .int .i64 v] w fun e w' => e = .returned (.int .i64 5) ∧ Below w.heap.size w w' := by
  obtain ⟨Ad, cd, rfl, hcd⟩ := h.2.slice
  have hz1 : w.cell? ⟨p, 1, none⟩ = some (.slice Ad 4096 cd) := (blk_cell h.1 1).trans (by rw [hl]; rfl)
  have h1 : ¬ v < 0 := by omega
  have h2 : ¬ 4294967295 < v := by omega
  clear h hcd hl hv0 hv1
  go_enter Try.func29, Try.ntmps29
  go_wp2
  go_ret
  exact ⟨rfl, by repeat (first | exact Below.refl _ _ | apply below_drew1 | apply pw_below_drewN)⟩
set_option maxHeartbeats 4000000 in
set_option maxRecDepth 100000 in
theorem wgive_ok (h : DW w p 55 c0 vd ds) (v : Int) (hv0 : 0 ≤ v) (hv1 : v ≤ 4294967295) (hl : ds.length < 4096) :
    Calls Try.prog 29 #[.pointer (some ⟨p, 0, none⟩), .int .i64 v] w fun e w' => e = .returned (.int .i64 0) ∧ DPost w p 55 c0 vd (ds ++ [v]) w' := by
  obtain ⟨Ad, cd, rfl, hcd⟩ := h.2.slice
  obtain ⟨D, hD⟩ : ∃ D, D = ds.length := ⟨_, rfl⟩
  have HD := Aside0.mk hD
  rw [← hD] at h hl ⊢
  have H := Aside0.mk h
  have HL := Aside0.mk hl
  have hz1 : w.cell? ⟨p, 1, none⟩ = some (.slice Ad D cd) := (blk_cell h.1 1).trans rfl
  have h1 : ¬ v < 0 := by omega
  have h2 : ¬ 4294967295 < v := by omega
  have h3 : ((D : Int) == 4096) = false := by
    have : ¬ (D : Int) = 4096 := by omega
    simpa using this
  have h4 : ¬ 4096 ≤ (D : Int) := by omega
  clear h hcd hl hD hv0 hv1
  go_enter Try.func29, Try.ntmps29
  go_wp2_with ((with_reducible refine gate_builtin (b := .append) (xs := #[.tmp 25, .tmp 27]) rfl ?_); at_builtin; refine append_row (bytes := 8) rfl (.tmp 25) (.tmp 27) rfl Try.underlying27 info_int (by decide) (.slice Ad D cd) ds (some ⟨w.heap.size, 0, none⟩) 1 1 [v] rfl rfl (H.out.2.below (below_alloc (Below.refl _ _) _)) (C_blk (xs := [v]) (blk_new w (.cells #[.int .i64 v] 3)) (fun i hi => by match i, hi with | 0, _ => rfl) (by simp)) rfl (by have := HL.out; have := HD.out; simp only [List.length_singleton]; omega) ?_; intro v1 w2 hR hg hat; obtain ⟨A1, c1, e1', _⟩ := hR.slice; obtain ⟨N1, hN1⟩ : ∃ N, N = (ds ++ [v]).length := ⟨_, rfl⟩; rw [← hN1] at e1'; clear hN1; obtain ⟨hp2, hst⟩ := H.out.toD (by decide) (World.grownBy.trans (World.grownBy_alloc w (.cells #[.int .i64 v] 3) _) hg) hR (fun i hi => (own_at hat i hi).imp id (fun h5 => Nat.le_trans (below_alloc (Below.refl w.heap.size w) _).size h5)); have HSt := Aside0.mk hst; have hy1 : w2.cell? ⟨p, 1, none⟩ = some (.slice Ad D cd) := (blk_cell hp2 1).trans rfl; have hf1 := blk_frozen hp2 1; clear hR hg hat hp2 hst; subst e1')
  go_ret
  exact ⟨rfl, HSt.out⟩
set_option maxRecDepth 100000 in
theorem wdraw_neg (n : Int) (w : World) (p : Nat) (hn : n < 1) : Calls Try.prog 31 #[.pointer (some ⟨p, 0, none⟩), .int .i64 n] w fun e w' => e = .returned (.tuple #[.int .i64 0, .int .i64 1]) ∧ Below w.heap.size w w' := by
  go_enter Try.func31, Try.ntmps31
  go_wp2
  first | go_ret2 | go_ret
  exact ⟨rfl, by repeat (first | exact Below.refl _ _ | apply below_drew1 | apply pw_below_drewN)⟩
set_option maxRecDepth 100000 in
theorem wdraw_none (h : DW w p 55 c0 vd []) (n : Int) (hn : ¬ n < 1) : Calls Try.prog 31 #[.pointer (some ⟨p, 0, none⟩), .int .i64 n] w fun e w' => e = .returned (.tuple #[.int .i64 0, .int .i64 0]) ∧ Below w.heap.size w w' := by
  obtain ⟨Ad, cd, rfl, hcd⟩ := h.2.slice
  have hz1 : w.cell? ⟨p, 1, none⟩ = some (.slice Ad 0 cd) := (blk_cell h.1 1).trans rfl
  clear h hcd
  go_enter Try.func31, Try.ntmps31
  go_wp2
  first | go_ret2 | go_ret
  exact ⟨rfl, by repeat (first | exact Below.refl _ _ | apply below_drew1 | apply pw_below_drewN)⟩
set_option maxHeartbeats 4000000 in
set_option maxRecDepth 100000 in
theorem wdraw_some {d : Int} (h : DW w p 55 c0 vd (d :: ds)) (n : Int) (hn : ¬ n < 1) (hd0 : 0 ≤ d) (hd1 : d ≤ 4294967295) (hn2 : n ≤ 9223372036854775807) (hl : ds.length ≤ 4096) :
    Calls Try.prog 31 #[.pointer (some ⟨p, 0, none⟩), .int .i64 n] w fun e w' => e = .returned (.tuple #[.int .i64 (d % n), .int .i64 0]) ∧ DPost w p 55 c0 vd ds w' := by
  obtain ⟨Ad, cd, rfl, hcd⟩ := h.2.slice
  have hC := h.2.C.2.2
  obtain ⟨D, hD⟩ : ∃ D, D + 1 = (d :: ds).length := ⟨ds.length, rfl⟩
  have hD2 : D = ds.length := by simpa using hD
  have HD := Aside0.mk hD2
  rw [← hD2] at hl
  have hdrop := h.2.drop (m := 1) (by simp)
  obtain ⟨ad, rfl, hx⟩ := Kd.at_int hC (0 : Int) (by decide) (by simp)
  have hx1 : w.cell? (ad.add 0) = some (.int .i64 d) := hx
  have hx2 : w.cell? ad = some (.int .i64 d) := by
    have e : ad.add 0 = ad := if_pos rfl
    rw [← e]; exact hx1
  obtain ⟨i5, hi5, hzz⟩ := Option.map_eq_some_iff.1 info_int
  simp only [Prod.mk.injEq] at hzz
  rw [← hD] at h hdrop hcd
  rw [← hD]
  have hcut := cut_at 27 3 Try.underlying27 hi5 hzz.2.1 (some ad) (D + 1) cd 1 (by omega)
  have hown := cut_own (A := some ad) (n := D + 1) (c := cd) (m := 1) (n' := D + 1 - 1) (c' := cd - 1)
  obtain ⟨A', hA'⟩ : ∃ A', A' = (if cd = 1 then some ad else (some ad).map (·.add 1)) := ⟨_, rfl⟩
  obtain ⟨C', hC'⟩ : ∃ x, x = cd - 1 := ⟨_, rfl⟩
  have hdrop2 : Row .i64 3 w (.slice A' D C') ds := by rw [hA', hC']; exact hdrop
  have hown2 : ∀ i, (Value.slice A' D C').ownBlock = some i → (Value.slice (some ad) (D + 1) cd).ownBlock = some i := by rw [hA', hC']; exact hown
  have hcut2 : ∀ W : World, (Instr.slice 27 (.slice (some ad) (D + 1) cd) (some (.int .i64 1)) none none).run Try.prog W = .ok (.slice A' D C') W := by intro W; rw [hA', hC']; exact hcut W
  have HDr := Aside0.mk hdrop2
  have HOw := Aside0.mk hown2
  obtain ⟨N, hN⟩ : ∃ N, N = D + 1 := ⟨_, rfl⟩
  rw [← hN] at h hcut2 hown2 ⊢
  rw [← hN] at HOw
  have H : Aside0 (DW w p 55 c0 (.slice (some ad) N cd) (d :: ds)) := ⟨h⟩
  have hz1 : w.cell? ⟨p, 1, none⟩ = some (.slice (some ad) N cd) := (blk_cell h.1 1).trans rfl
  have hf1 := blk_frozen h.1 1
  have h1 : 1 ≤ n := by omega
  have h2 : ¬ n = 0 := by omega
  have h3 : ((N : Int) == 0) = false := by
    have : ¬ (N : Int) = 0 := by omega
    simpa using this
  have h4 : 0 < (N : Int) := by omega
  have h5 : (1 : Int) ≤ (N : Int) := by omega
  clear h hcd hC hx hi5 hzz hcut hdrop hown hA' hC' hdrop2 hown2 hD hD2 hN
  go_enter Try.func31, Try.ntmps31
  go_wp2
  go_ret2
  obtain ⟨_, hst⟩ := H.out.toD (by decide) (grown_refl _ _) HDr.out (fun i hi => .inl (HOw.out i hi))
  exact ⟨rfl, hst⟩
set_option maxRecDepth 100000 in
theorem rgive_arg (p : Nat) (w : World) (v : Int) (hv : v < 0 ∨ 4294967295 < v) :
    Calls Try.prog 30 #[.pointer (some ⟨p, 0, none⟩), .int .i64 v] w fun e w' => e = .returned (.int .i64 1) ∧ Below w.heap.size w w' := by
  by_cases h1 : v < 0
  · clear hv
    go_enter Try.func30, Try.ntmps30
    go_wp2
    go_ret
    exact ⟨rfl, by repeat (first | exact Below.refl _ _ | apply below_drew1 | apply pw_below_drewN)⟩
  · have h2 : 4294967295 < v := hv.resolve_left h1
    clear hv
    go_enter Try.func30, Try.ntmps30
    go_wp2
    go_ret
    exact ⟨rfl, by repeat (first | exact Below.refl _ _ | apply below_drew1 | apply pw_below_drewN)⟩
set_option maxRecDepth 100000 in
theorem rgive_full (h : DW w p 29 c0 vd ds) (v : Int) (hv0 : 0 ≤ v) (hv1 : v ≤ 4294967295) (hl : ds.length = 4096) :
    Calls Try.prog 30 #[.pointer (some ⟨p, 0, none⟩), .int .i64 v] w fun e w' => e = .returned (.int .i64 5) ∧ Below w.heap.size w w' := by
  obtain ⟨Ad, cd, rfl, hcd⟩ := h.2.slice
  have hz1 : w.cell? ⟨p, 1, none⟩ = some (.slice Ad 4096 cd) := (blk_cell h.1 1).trans (by rw [hl]; rfl)
  have h1 : ¬ v < 0 := by omega
  have h2 : ¬ 4294967295 < v := by omega
  clear h hcd hl hv0 hv1
  go_enter Try.func30, Try.ntmps30
  go_wp2
  go_ret
  exact ⟨rfl, by repeat (first | exact Below.refl _ _ | apply below_drew1 | apply pw_below_drewN)⟩
set_option maxHeartbeats 4000000 in
set_option maxRecDepth 100000 in
theorem rgive_ok (h : DW w p 29 c0 vd ds) (v : Int) (hv0 : 0 ≤ v) (hv1 : v ≤ 4294967295) (hl : ds.length < 4096) :
    Calls Try.prog 30 #[.pointer (some ⟨p, 0, none⟩), .int .i64 v] w fun e w' => e = .returned (.int .i64 0) ∧ DPost w p 29 c0 vd (ds ++ [v]) w' := by
  obtain ⟨Ad, cd, rfl, hcd⟩ := h.2.slice
  obtain ⟨D, hD⟩ : ∃ D, D = ds.length := ⟨_, rfl⟩
  have HD := Aside0.mk hD
  rw [← hD] at h hl ⊢
  have H := Aside0.mk h
  have HL := Aside0.mk hl
  have hz1 : w.cell? ⟨p, 1, none⟩ = some (.slice Ad D cd) := (blk_cell h.1 1).trans rfl
  have h1 : ¬ v < 0 := by omega
  have h2 : ¬ 4294967295 < v := by omega
  have h3 : ((D : Int) == 4096) = false := by
    have : ¬ (D : Int) = 4096 := by omega
    simpa using this
  have h4 : ¬ 4096 ≤ (D : Int) := by omega
  clear h hcd hl hD hv0 hv1
  go_enter Try.func30, Try.ntmps30
  go_wp2_with ((with_reducible refine gate_builtin (b := .append) (xs := #[.tmp 21, .tmp 23]) rfl ?_); at_builtin; refine append_row (bytes := 8) rfl (.tmp 21) (.tmp 23) rfl Try.underlying27 info_int (by decide) (.slice Ad D cd) ds (some ⟨w.heap.size, 0, none⟩) 1 1 [v] rfl rfl (H.out.2.below (below_alloc (Below.refl _ _) _)) (C_blk (xs := [v]) (blk_new w (.cells #[.int .i64 v] 3)) (fun i hi => by match i, hi with | 0, _ => rfl) (by simp)) rfl (by have := HL.out; have := HD.out; simp only [List.length_singleton]; omega) ?_; intro v1 w2 hR hg hat; obtain ⟨A1, c1, e1', _⟩ := hR.slice; obtain ⟨N1, hN1⟩ : ∃ N, N = (ds ++ [v]).length := ⟨_, rfl⟩; rw [← hN1] at e1'; clear hN1; obtain ⟨hp2, hst⟩ := H.out.toD (by decide) (World.grownBy.trans (World.grownBy_alloc w (.cells #[.int .i64 v] 3) _) hg) hR (fun i hi => (own_at hat i hi).imp id (fun h5 => Nat.le_trans (below_alloc (Below.refl w.heap.size w) _).size h5)); have HSt := Aside0.mk hst; have hy1 : w2.cell? ⟨p, 1, none⟩ = some (.slice Ad D cd) := (blk_cell hp2 1).trans rfl; have hf1 := blk_frozen hp2 1; clear hR hg hat hp2 hst; subst e1')
  go_ret
  exact ⟨rfl, HSt.out⟩
set_option maxRecDepth 100000 in
theorem rdraw_neg (n : Int) (w : World) (p : Nat) (hn : n < 1) : Calls Try.prog 32 #[.pointer (some ⟨p, 0, none⟩), .int .i64 n] w fun e w' => e = .returned (.tuple #[.int .i64 0, .int .i64 1]) ∧ Below w.heap.size w w' := by
  go_enter Try.func32, Try.ntmps32
  go_wp2
  first | go_ret2 | go_ret
  exact ⟨rfl, by repeat (first | exact Below.refl _ _ | apply below_drew1 | apply pw_below_drewN)⟩
set_option maxRecDepth 100000 in
theorem rdraw_none (h : DW w p 29 c0 vd []) (n : Int) (hn : ¬ n < 1) : Calls Try.prog 32 #[.pointer (some ⟨p, 0, none⟩), .int .i64 n] w fun e w' => e = .returned (.tuple #[.int .i64 0, .int .i64 0]) ∧ Below w.heap.size w w' := by
  obtain ⟨Ad, cd, rfl, hcd⟩ := h.2.slice
  have hz1 : w.cell? ⟨p, 1, none⟩ = some (.slice Ad 0 cd) := (blk_cell h.1 1).trans rfl
  clear h hcd
  go_enter Try.func32, Try.ntmps32
  go_wp2
  first | go_ret2 | go_ret
  exact ⟨rfl, by repeat (first | exact Below.refl _ _ | apply below_drew1 | apply pw_below_drewN)⟩
set_option maxHeartbeats 4000000 in
set_option maxRecDepth 100000 in
theorem rdraw_some {d : Int} (h : DW w p 29 c0 vd (d :: ds)) (n : Int) (hn : ¬ n < 1) (hd0 : 0 ≤ d) (hd1 : d ≤ 4294967295) (hn2 : n ≤ 9223372036854775807) (hl : ds.length ≤ 4096) :
    Calls Try.prog 32 #[.pointer (some ⟨p, 0, none⟩), .int .i64 n] w fun e w' => e = .returned (.tuple #[.int .i64 (d % n), .int .i64 0]) ∧ DPost w p 29 c0 vd ds w' := by
  obtain ⟨Ad, cd, rfl, hcd⟩ := h.2.slice
  have hC := h.2.C.2.2
  obtain ⟨D, hD⟩ : ∃ D, D + 1 = (d :: ds).length := ⟨ds.length, rfl⟩
  have hD2 : D = ds.length := by simpa using hD
  have HD := Aside0.mk hD2
  rw [← hD2] at hl
  have hdrop := h.2.drop (m := 1) (by simp)
  obtain ⟨ad, rfl, hx⟩ := Kd.at_int hC (0 : Int) (by decide) (by simp)
  have hx1 : w.cell? (ad.add 0) = some (.int .i64 d) := hx
  have hx2 : w.cell? ad = some (.int .i64 d) := by
    have e : ad.add 0 = ad := if_pos rfl
    rw [← e]; exact hx1
  obtain ⟨i5, hi5, hzz⟩ := Option.map_eq_some_iff.1 info_int
  simp only [Prod.mk.injEq] at hzz
  rw [← hD] at h hdrop hcd
  rw [← hD]
  have hcut := cut_at 27 3 Try.underlying27 hi5 hzz.2.1 (some ad) (D + 1) cd 1 (by omega)
  have hown := cut_own (A := some ad) (n := D + 1) (c := cd) (m := 1) (n' := D + 1 - 1) (c' := cd - 1)
  obtain ⟨A', hA'⟩ : ∃ A', A' = (if cd = 1 then some ad else (some ad).map (·.add 1)) := ⟨_, rfl⟩
  obtain ⟨C', hC'⟩ : ∃ x, x = cd - 1 := ⟨_, rfl⟩
  have hdrop2 : Row .i64 3 w (.slice A' D C') ds := by rw [hA', hC']; exact hdrop
  have hown2 : ∀ i, (Value.slice A' D C').ownBlock = some i → (Value.slice (some ad) (D + 1) cd).ownBlock = some i := by rw [hA', hC']; exact hown
  have hcut2 : ∀ W : World, (Instr.slice 27 (.slice (some ad) (D + 1) cd) (some (.int .i64 1)) none none).run Try.prog W = .ok (.slice A' D C') W := by intro W; rw [hA', hC']; exact hcut W
  have HDr := Aside0.mk hdrop2
  have HOw := Aside0.mk hown2
  obtain ⟨N, hN⟩ : ∃ N, N = D + 1 := ⟨_, rfl⟩
  rw [← hN] at h hcut2 hown2 ⊢
  rw [← hN] at HOw
  have H : Aside0 (DW w p 29 c0 (.slice (some ad) N cd) (d :: ds)) := ⟨h⟩
  have hz1 : w.cell? ⟨p, 1, none⟩ = some (.slice (some ad) N cd) := (blk_cell h.1 1).trans rfl
  have hf1 := blk_frozen h.1 1
  have h1 : 1 ≤ n := by omega
  have h2 : ¬ n = 0 := by omega
  have h3 : ((N : Int) == 0) = false := by
    have : ¬ (N : Int) = 0 := by omega
    simpa using this
  have h4 : 0 < (N : Int) := by omega
  have h5 : (1 : Int) ≤ (N : Int) := by omega
  clear h hcd hC hx hi5 hzz hcut hdrop hown hA' hC' hdrop2 hown2 hD hD2 hN
  go_enter Try.func32, Try.ntmps32
  go_wp2
  go_ret2
  obtain ⟨_, hst⟩ := H.out.toD (by decide) (grown_refl _ _) HDr.out (fun i hi => .inl (HOw.out i hi))
  exact ⟨rfl, hst⟩
end
end Go.Proofs.Ytnhhcmnjfaeliaa.Vm
