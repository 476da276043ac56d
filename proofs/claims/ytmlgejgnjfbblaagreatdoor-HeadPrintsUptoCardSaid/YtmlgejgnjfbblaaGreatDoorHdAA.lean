/- Package head, by hand: refuse, version, code; own text of this session. -/
import Derived.Test.YtmlgejgnjfbblaaGreatDoorHd1
import Derived.Test.YtmlgejgnjfbblaaGreatDoorHdAs
import Derived.Test.YtmlgejgnjfbblaaGreatDoorPx5
import Derived.Lib.Split
import Derived.Lib.SplitLaws
import Derived.Lib.CountLaws
import Derived.Lib.IndexMore
import Derived.BigRegion
import Derived.Laws.EntriesVeiled
import Derived.Test.YtmlgejgnjfbblaaGreatDoorSq
import Derived.Deep.RegionWith
import Derived.Deep.QuietTactic
import Derived.BigQuiet
import Derived.Test.YtmlgejgnjfbblaaGreatDoorChC
namespace Go.Proofs.YtmlgejgnjfbblaaGreatDoor.Hd
open Go.RowKit Go.Proofs.YtmlgejgnjfbblaaGreatDoorW.PrintWords Go.Proofs.YtmlgejgnjfbblaaGreatDoorW.PrintLast Chk Px Hr
set_option linter.unusedVariables false
set_option linter.unusedSimpArgs false
def rfV (c : Int) : Value := if c = 0 then .nilIface else .iface 80 (.agg #[.int .i64 c])
set_option maxRecDepth 100000 in
theorem refuse_calls (c : Int) (w : World) : Calls Tryz.prog 32 #[.int .i64 c] w fun e w' => e = .returned (.iface 80 (.agg #[.int .i64 c])) ∧ w' = w := by
  go_enter Tryz.func32, Tryz.ntmps32
  go_wp2
  go_ret
  exact ⟨rfl, rfl⟩
set_option maxRecDepth 100000 in
theorem digit_calls (c : Int) (w : World) : Calls Tryz.prog 49 #[.int .u8 c] w fun e w' => e = .returned (.bool (decide (48 ≤ c) && decide (c ≤ 57))) ∧ w' = w := by
  by_cases h : 48 ≤ c
  · go_enter Tryz.func49, Tryz.ntmps49
    go_wp2
    go_ret
    exact ⟨by simp [h], rfl⟩
  · go_enter Tryz.func49, Tryz.ntmps49
    go_wp2
    go_ret
    exact ⟨by simp; omega, rfl⟩
set_option maxHeartbeats 4000000 in
set_option maxRecDepth 100000 in
/-- What an error of a parser says. -/
theorem code_calls (er : Option Er) (w : World) (hG : GInv w) : Calls Tryz.prog 26 #[erV er] w fun e w' => e = .returned (.int .i64 (codeOf er)) ∧ Below w.heap.size w w' := by
  have hA : ∀ (g : Nat) (a b c d : Obj) (x : Int), g = w.heap.size → Below w.heap.size w (((((w.alloc a).alloc b).alloc c).alloc d).setCell ⟨g, 0, none⟩ (.int .i64 x)) := by
    intro g a b c d x hg
    exact (below_alloc (below_alloc (below_alloc (below_alloc (Below.refl w.heap.size w) _) _) _) _).setCell (p := ⟨g, 0, none⟩) (by rw [hg]; exact Nat.le_refl _) _
  cases er with
  | none =>
    show Calls _ _ #[.nilIface] _ _
    go_enter Tryz.func26, Tryz.ntmps26
    go_wp2_with (go_at_call 39; refine (as_nil _ _).mono ?_; rintro e w' ⟨rfl, rfl⟩)
    go_ret
    exact ⟨rfl, below_alloc (Below.refl _ _) _⟩
  | some r =>
    have het := hG.et
    have hlt := World.block_lt_of_cell? w _ het
    have hg0 : (w.alloc (.cells #[.int .i64 0] 80)).cell? ⟨0, 0, none⟩ = some (.iface 129 (.agg #[.pointer (some ⟨9, 41, none⟩)])) := by
      rw [World.cell?_alloc_lt _ _ ⟨0, 0, none⟩ hlt]; exact het
    have ht0 : (w.alloc (.cells #[.int .i64 0] 80)).cell? ⟨w.heap.size, 0, none⟩ = some (.int .i64 0) := by simp
    have hf0 : (w.alloc (.cells #[.int .i64 0] 80)).frozen? ⟨w.heap.size, 0, none⟩ = false := by simp
    have HW := Aside0.mk (Below.refl w.heap.size w)
    clear hG het hlt
    cases r with
    | bare c =>
      have K := Aside0.mk (as_bare c _ _ _ hg0 ht0 hf0)
      clear hg0 ht0 hf0 hA
      show Calls _ _ #[.iface 80 (.agg #[.int .i64 c])] _ _
      go_enter Tryz.func26, Tryz.ntmps26
      go_wp2_with (go_at_call 39; refine K.out.mono ?_; rintro e w' ⟨rfl, hw'⟩; have hc : w'.cell? ⟨w.heap.size, 0, none⟩ = some (.int .i64 c) := (by rw [hw']; exact (blk_cell (blk_set (blk_alloc (blk_alloc (blk_alloc (blk_alloc (blk_new w (.cells #[.int .i64 0] 80)) _) _) _) _) 0 (.int .i64 c)) 0).trans rfl); have HB : Aside0 (Below w.heap.size w w') := ⟨by rw [hw']; exact (below_alloc (below_alloc (below_alloc (below_alloc (below_alloc (Below.refl w.heap.size w) _) _) _) _) _).setCell (p := ⟨w.heap.size, 0, none⟩) (Nat.le_refl _) _⟩; clear hw')
      go_ret
      exact ⟨rfl, HB.out⟩
    | «at» l c =>
      have K := Aside0.mk (as_at l c _ _ _ hg0 ht0 hf0)
      clear hg0 ht0 hf0 hA
      show Calls _ _ #[.iface 78 (.agg #[.int .i64 l, .iface 80 (.agg #[.int .i64 c])])] _ _
      go_enter Tryz.func26, Tryz.ntmps26
      go_wp2_with (go_at_call 39; refine K.out.mono ?_; rintro e w' ⟨rfl, hw'⟩; have hc : w'.cell? ⟨w.heap.size, 0, none⟩ = some (.int .i64 c) := (by rw [hw']; exact (blk_cell (blk_set (blk_alloc (blk_alloc (blk_alloc (blk_alloc (blk_alloc (blk_new w (.cells #[.int .i64 0] 80)) _) _) _) _) _) 0 (.int .i64 c)) 0).trans rfl); have HB : Aside0 (Below w.heap.size w w') := ⟨by rw [hw']; exact (below_alloc (below_alloc (below_alloc (below_alloc (below_alloc (below_alloc (Below.refl w.heap.size w) _) _) _) _) _) _).setCell (p := ⟨w.heap.size, 0, none⟩) (Nat.le_refl _) _⟩; clear hw')
      go_ret
      exact ⟨rfl, HB.out⟩
/-! ### version -/
def verPost (l : Bs) (w : World) (e : Ending) (w' : World) : Prop := e = .returned (.tuple #[.int .i64 (versionS l).1, rfV (versionS l).2]) ∧ w' = w
set_option maxHeartbeats 4000000 in
set_option maxRecDepth 100000 in
theorem version_0 (s : ByteArray) (w : World) (h : s.data.toList = http0) : Calls Tryz.prog 34 #[.string s] w (verPost s.data.toList w) := by
  have b0 : (s.toList == [72, 84, 84, 80, 47, 49, 46, 48]) = true := by rw [tl, h]; rfl
  have hv : versionS s.data.toList = (0, 0) := by unfold versionS; rw [if_pos h]
  unfold verPost
  rw [hv]
  clear h hv
  go_enter Tryz.func34, Tryz.ntmps34
  go_wp2
  go_ret2
  exact ⟨rfl, rfl⟩
set_option maxHeartbeats 4000000 in
set_option maxRecDepth 100000 in
theorem version_1 (s : ByteArray) (w : World) (h : s.data.toList = http1) : Calls Tryz.prog 34 #[.string s] w (verPost s.data.toList w) := by
  have b0 : (s.toList == [72, 84, 84, 80, 47, 49, 46, 48]) = false := by rw [tl, h]; rfl
  have b1 : (s.toList == [72, 84, 84, 80, 47, 49, 46, 49]) = true := by rw [tl, h]; rfl
  have hv : versionS s.data.toList = (1, 0) := by unfold versionS; rw [if_neg (by rw [h]; decide), if_pos h]
  unfold verPost
  rw [hv]
  clear h hv
  go_enter Tryz.func34, Tryz.ntmps34
  go_wp2
  go_ret2
  exact ⟨rfl, rfl⟩
set_option maxHeartbeats 4000000 in
set_option maxRecDepth 100000 in
theorem version_len (s : ByteArray) (w : World) (h0 : ¬ s.data.toList = http0) (h1 : ¬ s.data.toList = http1) (h : ¬ s.size = 8) : Calls Tryz.prog 34 #[.string s] w (verPost s.data.toList w) := by
  have b0 : (s.toList == [72, 84, 84, 80, 47, 49, 46, 48]) = false := by rw [tl]; exact beq_eq_false_iff_ne.mpr h0
  have b1 : (s.toList == [72, 84, 84, 80, 47, 49, 46, 49]) = false := by rw [tl]; exact beq_eq_false_iff_ne.mpr h1
  have b8 : ((s.size : Int) == 8) = false := by simpa using (show ¬ (s.size : Int) = 8 by omega)
  have hv : versionS s.data.toList = (0, 80) := by unfold versionS; rw [if_neg h0, if_neg h1, if_neg (by unfold verLike; rw [decide_eq_false (by rw [← sz]; exact h)]; simp)]
  unfold verPost
  rw [hv]
  clear h h0 h1 hv
  go_enter Tryz.func34, Tryz.ntmps34
  go_wp2_with (go_at_call 32; refine (refuse_calls _ _).mono ?_; rintro e w' ⟨rfl, rfl⟩)
  go_ret2
  exact ⟨rfl, rfl⟩
set_option maxHeartbeats 4000000 in
set_option maxRecDepth 100000 in
theorem version_pre (s : ByteArray) (w : World) (h0 : ¬ s.data.toList = http0) (h1 : ¬ s.data.toList = http1) (h : s.size = 8) (h5 : 5 < s.size) (h6 : 6 < s.size) (h7 : 7 < s.size) (p5 : ((s.extract 0 5).toList == [72, 84, 84, 80, 47]) = false) (r : Int × Int) (hv : versionS s.data.toList = r) (hr : r = (0, 80)) : Calls Tryz.prog 34 #[.string s] w (verPost s.data.toList w) := by
  have b0 : (s.toList == [72, 84, 84, 80, 47, 49, 46, 48]) = false := by rw [tl]; exact beq_eq_false_iff_ne.mpr h0
  have b1 : (s.toList == [72, 84, 84, 80, 47, 49, 46, 49]) = false := by rw [tl]; exact beq_eq_false_iff_ne.mpr h1
  have b8 : ((s.size : Int) == 8) = true := by simpa using (show (s.size : Int) = 8 by omega)
  have hl5 : (5 : Int) ≤ (s.size : Int) := by omega
  have hx5 : (5 : Int) < (s.size : Int) := by omega
  have hx6 : (6 : Int) < (s.size : Int) := by omega
  have hx7 : (7 : Int) < (s.size : Int) := by omega
  subst hr
  unfold verPost
  rw [hv]
  have eg : ∀ args w, (callFunc 49 args).run Tryz.prog w = .ok (.enter 49 args) w := fun _ _ => rfl
  clear h0 h1 h hv
  go_enter Tryz.func34, Tryz.ntmps34
  go_wp2_with (first | (go_at_call 32; refine (refuse_calls _ _).mono ?_; rintro e w' ⟨rfl, rfl⟩) | (go_at_fn 49; first | fail))
  go_ret2
  exact ⟨rfl, rfl⟩
set_option maxHeartbeats 4000000 in
set_option maxRecDepth 100000 in
theorem version_d5 (s : ByteArray) (w : World) (h0 : ¬ s.data.toList = http0) (h1 : ¬ s.data.toList = http1) (h : s.size = 8) (h5 : 5 < s.size) (h6 : 6 < s.size) (h7 : 7 < s.size) (p5 : ((s.extract 0 5).toList == [72, 84, 84, 80, 47]) = true) (k5 : (decide ((48 : Int) ≤ ((s[5]'h5).toNat : Int)) && decide (((s[5]'h5).toNat : Int) ≤ 57)) = false) (r : Int × Int) (hv : versionS s.data.toList = r) (hr : r = (0, 80)) : Calls Tryz.prog 34 #[.string s] w (verPost s.data.toList w) := by
  have b0 : (s.toList == [72, 84, 84, 80, 47, 49, 46, 48]) = false := by rw [tl]; exact beq_eq_false_iff_ne.mpr h0
  have b1 : (s.toList == [72, 84, 84, 80, 47, 49, 46, 49]) = false := by rw [tl]; exact beq_eq_false_iff_ne.mpr h1
  have b8 : ((s.size : Int) == 8) = true := by simpa using (show (s.size : Int) = 8 by omega)
  have hl5 : (5 : Int) ≤ (s.size : Int) := by omega
  have hx5 : (5 : Int) < (s.size : Int) := by omega
  have hx6 : (6 : Int) < (s.size : Int) := by omega
  have hx7 : (7 : Int) < (s.size : Int) := by omega
  have K5 := Aside0.mk (fun W => digit_calls (((s[5]'h5).toNat : Int)) W)
  rw [k5] at K5
  clear k5
  subst hr
  unfold verPost
  rw [hv]
  have eg : ∀ args w, (callFunc 49 args).run Tryz.prog w = .ok (.enter 49 args) w := fun _ _ => rfl
  clear h0 h1 h hv
  go_enter Tryz.func34, Tryz.ntmps34
  go_wp2_with (first | (go_at_call 32; refine (refuse_calls _ _).mono ?_; rintro e w' ⟨rfl, rfl⟩) | (go_at_fn 49; first | (refine (K5.out _).mono ?_; rintro e w' ⟨rfl, rfl⟩)))
  go_ret2
  exact ⟨rfl, rfl⟩
set_option maxHeartbeats 4000000 in
set_option maxRecDepth 100000 in
theorem version_dot (s : ByteArray) (w : World) (h0 : ¬ s.data.toList = http0) (h1 : ¬ s.data.toList = http1) (h : s.size = 8) (h5 : 5 < s.size) (h6 : 6 < s.size) (h7 : 7 < s.size) (p5 : ((s.extract 0 5).toList == [72, 84, 84, 80, 47]) = true) (k5 : (decide ((48 : Int) ≤ ((s[5]'h5).toNat : Int)) && decide (((s[5]'h5).toNat : Int) ≤ 57)) = true) (p6 : (((s[6]'h6).toNat : Int) == 46) = false) (r : Int × Int) (hv : versionS s.data.toList = r) (hr : r = (0, 80)) : Calls Tryz.prog 34 #[.string s] w (verPost s.data.toList w) := by
  have b0 : (s.toList == [72, 84, 84, 80, 47, 49, 46, 48]) = false := by rw [tl]; exact beq_eq_false_iff_ne.mpr h0
  have b1 : (s.toList == [72, 84, 84, 80, 47, 49, 46, 49]) = false := by rw [tl]; exact beq_eq_false_iff_ne.mpr h1
  have b8 : ((s.size : Int) == 8) = true := by simpa using (show (s.size : Int) = 8 by omega)
  have hl5 : (5 : Int) ≤ (s.size : Int) := by omega
  have hx5 : (5 : Int) < (s.size : Int) := by omega
  have hx6 : (6 : Int) < (s.size : Int) := by omega
  have hx7 : (7 : Int) < (s.size : Int) := by omega
  have K5 := Aside0.mk (fun W => digit_calls (((s[5]'h5).toNat : Int)) W)
  rw [k5] at K5
  clear k5
  subst hr
  unfold verPost
  rw [hv]
  have eg : ∀ args w, (callFunc 49 args).run Tryz.prog w = .ok (.enter 49 args) w := fun _ _ => rfl
  clear h0 h1 h hv
  go_enter Tryz.func34, Tryz.ntmps34
  go_wp2_with (first | (go_at_call 32; refine (refuse_calls _ _).mono ?_; rintro e w' ⟨rfl, rfl⟩) | (go_at_fn 49; first | (refine (K5.out _).mono ?_; rintro e w' ⟨rfl, rfl⟩)))
  go_ret2
  exact ⟨rfl, rfl⟩
set_option maxHeartbeats 4000000 in
set_option maxRecDepth 100000 in
theorem version_d7 (s : ByteArray) (w : World) (h0 : ¬ s.data.toList = http0) (h1 : ¬ s.data.toList = http1) (h : s.size = 8) (h5 : 5 < s.size) (h6 : 6 < s.size) (h7 : 7 < s.size) (p5 : ((s.extract 0 5).toList == [72, 84, 84, 80, 47]) = true) (k5 : (decide ((48 : Int) ≤ ((s[5]'h5).toNat : Int)) && decide (((s[5]'h5).toNat : Int) ≤ 57)) = true) (p6 : (((s[6]'h6).toNat : Int) == 46) = true) (k7 : (decide ((48 : Int) ≤ ((s[7]'h7).toNat : Int)) && decide (((s[7]'h7).toNat : Int) ≤ 57)) = false) (r : Int × Int) (hv : versionS s.data.toList = r) (hr : r = (0, 80)) : Calls Tryz.prog 34 #[.string s] w (verPost s.data.toList w) := by
  have b0 : (s.toList == [72, 84, 84, 80, 47, 49, 46, 48]) = false := by rw [tl]; exact beq_eq_false_iff_ne.mpr h0
  have b1 : (s.toList == [72, 84, 84, 80, 47, 49, 46, 49]) = false := by rw [tl]; exact beq_eq_false_iff_ne.mpr h1
  have b8 : ((s.size : Int) == 8) = true := by simpa using (show (s.size : Int) = 8 by omega)
  have hl5 : (5 : Int) ≤ (s.size : Int) := by omega
  have hx5 : (5 : Int) < (s.size : Int) := by omega
  have hx6 : (6 : Int) < (s.size : Int) := by omega
  have hx7 : (7 : Int) < (s.size : Int) := by omega
  have K5 := Aside0.mk (fun W => digit_calls (((s[5]'h5).toNat : Int)) W)
  rw [k5] at K5
  clear k5
  have K7 := Aside0.mk (fun W => digit_calls (((s[7]'h7).toNat : Int)) W)
  rw [k7] at K7
  clear k7
  subst hr
  unfold verPost
  rw [hv]
  have eg : ∀ args w, (callFunc 49 args).run Tryz.prog w = .ok (.enter 49 args) w := fun _ _ => rfl
  clear h0 h1 h hv
  go_enter Tryz.func34, Tryz.ntmps34
  go_wp2_with (first | (go_at_call 32; refine (refuse_calls _ _).mono ?_; rintro e w' ⟨rfl, rfl⟩) | (go_at_fn 49; first | (refine (K5.out _).mono ?_; rintro e w' ⟨rfl, rfl⟩) | (refine (K7.out _).mono ?_; rintro e w' ⟨rfl, rfl⟩)))
  go_ret2
  exact ⟨rfl, rfl⟩
set_option maxHeartbeats 4000000 in
set_option maxRecDepth 100000 in
theorem version_yes (s : ByteArray) (w : World) (h0 : ¬ s.data.toList = http0) (h1 : ¬ s.data.toList = http1) (h : s.size = 8) (h5 : 5 < s.size) (h6 : 6 < s.size) (h7 : 7 < s.size) (p5 : ((s.extract 0 5).toList == [72, 84, 84, 80, 47]) = true) (k5 : (decide ((48 : Int) ≤ ((s[5]'h5).toNat : Int)) && decide (((s[5]'h5).toNat : Int) ≤ 57)) = true) (p6 : (((s[6]'h6).toNat : Int) == 46) = true) (k7 : (decide ((48 : Int) ≤ ((s[7]'h7).toNat : Int)) && decide (((s[7]'h7).toNat : Int) ≤ 57)) = true) (r : Int × Int) (hv : versionS s.data.toList = r) (hr : r = (0, 86)) : Calls Tryz.prog 34 #[.string s] w (verPost s.data.toList w) := by
  have b0 : (s.toList == [72, 84, 84, 80, 47, 49, 46, 48]) = false := by rw [tl]; exact beq_eq_false_iff_ne.mpr h0
  have b1 : (s.toList == [72, 84, 84, 80, 47, 49, 46, 49]) = false := by rw [tl]; exact beq_eq_false_iff_ne.mpr h1
  have b8 : ((s.size : Int) == 8) = true := by simpa using (show (s.size : Int) = 8 by omega)
  have hl5 : (5 : Int) ≤ (s.size : Int) := by omega
  have hx5 : (5 : Int) < (s.size : Int) := by omega
  have hx6 : (6 : Int) < (s.size : Int) := by omega
  have hx7 : (7 : Int) < (s.size : Int) := by omega
  have K5 := Aside0.mk (fun W => digit_calls (((s[5]'h5).toNat : Int)) W)
  rw [k5] at K5
  clear k5
  have K7 := Aside0.mk (fun W => digit_calls (((s[7]'h7).toNat : Int)) W)
  rw [k7] at K7
  clear k7
  subst hr
  unfold verPost
  rw [hv]
  have eg : ∀ args w, (callFunc 49 args).run Tryz.prog w = .ok (.enter 49 args) w := fun _ _ => rfl
  clear h0 h1 h hv
  go_enter Tryz.func34, Tryz.ntmps34
  go_wp2_with (first | (go_at_call 32; refine (refuse_calls _ _).mono ?_; rintro e w' ⟨rfl, rfl⟩) | (go_at_fn 49; first | (refine (K5.out _).mono ?_; rintro e w' ⟨rfl, rfl⟩) | (refine (K7.out _).mono ?_; rintro e w' ⟨rfl, rfl⟩)))
  go_ret2
  exact ⟨rfl, rfl⟩
theorem getB (s : ByteArray) (i : Nat) (h : i < s.size) : s.data.toList.getD i 0 = s[i]'h := by
  have hl : i < s.data.toList.length := by rw [← sz]; exact h
  rw [List.getD_eq_getElem?_getD, List.getElem?_eq_getElem hl]
  rfl
theorem digB_at (s : ByteArray) (i : Nat) (h : i < s.size) : (decide ((48 : Int) ≤ ((s[i]'h).toNat : Int)) && decide (((s[i]'h).toNat : Int) ≤ 57)) = digB (s.data.toList.getD i 0) := by
  rw [getB s i h]
  unfold digB
  congr 1 <;> (rw [decide_eq_decide]; omega)
theorem version_calls (s : ByteArray) (w : World) : Calls Tryz.prog 34 #[.string s] w (verPost s.data.toList w) := by
  by_cases h0 : s.data.toList = http0
  · exact version_0 s w h0
  by_cases h1 : s.data.toList = http1
  · exact version_1 s w h1
  by_cases h : s.size = 8
  · have h5 : 5 < s.size := by omega
    have h6 : 6 < s.size := by omega
    have h7 : 7 < s.size := by omega
    have e5 := digB_at s 5 h5
    have e7 := digB_at s 7 h7
    have e6 : (((s[6]'h6).toNat : Int) == 46) = (s.data.toList.getD 6 0 == 46) := by
      rw [getB s 6 h6, Bool.eq_iff_iff, beq_iff_eq, beq_iff_eq]
      constructor
      · intro h5; exact UInt8.toNat.inj (by show _ = 46; omega)
      · intro h5; rw [h5]; rfl
    have ep : ((s.extract 0 5).toList == [72, 84, 84, 80, 47]) = (s.data.toList.take 5 == [72, 84, 84, 80, 47]) := by
      rw [tl]
      congr 1
      exact Lib.extract_from_zero s 5
    have hno : versionS s.data.toList = if verLike s.data.toList = true then (0, 86) else (0, 80) := by unfold versionS; rw [if_neg h0, if_neg h1]
    have hlen : s.data.toList.length = 8 := by rw [← sz]; exact h
    unfold verLike at hno
    rw [hlen, ← ep, ← e6, ← e5, ← e7] at hno
    cases p5 : ((s.extract 0 5).toList == [72, 84, 84, 80, 47]) with
    | false => exact version_pre s w h0 h1 h h5 h6 h7 p5 _ hno (by rw [p5]; rfl)
    | true =>
      cases k5 : (decide ((48 : Int) ≤ ((s[5]'h5).toNat : Int)) && decide (((s[5]'h5).toNat : Int) ≤ 57)) with
      | false => exact version_d5 s w h0 h1 h h5 h6 h7 p5 k5 _ hno (by rw [p5, k5]; rfl)
      | true =>
        cases p6 : (((s[6]'h6).toNat : Int) == 46) with
        | false => exact version_dot s w h0 h1 h h5 h6 h7 p5 k5 p6 _ hno (by rw [p5, k5, p6]; rfl)
        | true =>
          cases k7 : (decide ((48 : Int) ≤ ((s[7]'h7).toNat : Int)) && decide (((s[7]'h7).toNat : Int) ≤ 57)) with
          | false => exact version_d7 s w h0 h1 h h5 h6 h7 p5 k5 p6 k7 _ hno (by rw [p5, k5, p6, k7]; rfl)
          | true => exact version_yes s w h0 h1 h h5 h6 h7 p5 k5 p6 k7 _ hno (by rw [p5, k5, p6, k7]; rfl)
  · exact version_len s w h0 h1 h
theorem ev_visible_l0 (s : ByteArray) (hs : s.size ≤ 4611686018427387904) (rest : Bs) : ∀ i : Nat, s.data.toList.drop i = rest → Ev (fun k => P.head_visible.l0 k s (s.size : Int) (i : Int)) (rest.all visB && (s.toList != ([] : List UInt8))) := by
  induction rest with
  | nil =>
    intro i hi
    have := drop_nil hi
    have hz := sz s
    refine Ev.step (fun k => rfl) ?_
    simp only [P.head_visible.l0, if_neg (show ¬ (i : Int) < (s.size : Int) by omega)]
    exact Ev.now _
  | cons c r ih =>
    intro i hi
    have hlt := drop_lt hi
    have hz := sz s
    refine Ev.step (fun k => rfl) ?_
    simp only [P.head_visible.l0, if_pos (show (i : Int) < (s.size : Int) by omega), if_pos (show 0 ≤ (i : Int) by omega), bt_nat hi, w64 (show i < 9223372036854775807 by omega), List.all_cons]
    by_cases h1 : (c.toNat : Int) < 33
    · have hv : visB c = false := by unfold visB; rw [decide_eq_true (by omega)]; rfl
      rw [hv]
      simp only [if_pos h1, Bool.false_and]
      exact Ev.now _
    · by_cases h2 : (c.toNat : Int) > 126
      · have hv : visB c = false := by unfold visB; rw [decide_eq_true (show c.toNat > 126 by omega), Bool.or_true]; rfl
        rw [hv]
        simp only [if_neg h1, if_pos h2, Bool.false_and]
        exact Ev.now _
      · have hv : visB c = true := by unfold visB; rw [decide_eq_false (show ¬ c.toNat < 33 by omega), decide_eq_false (show ¬ c.toNat > 126 by omega)]; rfl
        rw [hv]
        simp only [if_neg h1, if_neg h2, Bool.true_and]
        exact ih (i + 1) (drop_succ hi)
theorem visible_calls (s : ByteArray) (w : World) (hs : s.size ≤ 4611686018427387904) : Calls Tryz.prog 38 #[.string s] w fun e w' => e = .returned (.bool (visS s.data.toList)) ∧ Below w.heap.size w w' := by
  obtain ⟨k, hk⟩ := (ev_visible_l0 s hs _ 0 rfl).rounds
  rw [bne_toList] at hk
  exact (P.head_visible.calls k s _ w hk).mono fun e w' h => ⟨h.1, h.2.below⟩
theorem token_calls (s : ByteArray) (w : World) (hs : s.size ≤ 4611686018427387904) : Calls Tryz.prog 37 #[.string s] w fun e w' => e = .returned (.bool (token s.data.toList)) ∧ Below w.heap.size w w' := by
  obtain ⟨k, hk⟩ := (ev_Token s hs).rounds
  exact (P.lexis_Token.calls k s _ w hk).mono fun e w' h => ⟨h.1, h.2.below⟩
end Go.Proofs.YtmlgejgnjfbblaaGreatDoor.Hd
/- Package head, by hand: how Split, SplitN and Cut part a first line; own text of this session. -/
namespace Go.Proofs.YtmlgejgnjfbblaaGreatDoor.Hd
open Go.RowKit Go.Proofs.YtmlgejgnjfbblaaGreatDoorW.PrintWords Go.Proofs.YtmlgejgnjfbblaaGreatDoorW.PrintLast Chk Px Hr
set_option linter.unusedVariables false
set_option linter.unusedSimpArgs false
theorem index_one (l : Bs) (b : UInt8) : Lib.index l [b] = -1 ↔ l.contains b = false := by
  induction l with
  | nil => simp [Lib.index]
  | cons c r ih =>
    unfold Lib.index
    have hge := Lib.index_ge r [b]
    by_cases h : b = c
    · subst h
      simp [List.isPrefixOf]
    · have hp : List.isPrefixOf [b] (c :: r) = false := by simp [List.isPrefixOf, h]
      rw [hp]
      simp only [Bool.false_eq_true, if_false, List.contains_cons]
      have hbc : (b == c) = false := by simpa using h
      rw [hbc, Bool.false_or]
      by_cases hr : Lib.index r [b] = -1
      · rw [hr, ih.1 hr]; simp
      · have h2 : (Lib.index r [b] == -1) = false := by simpa using hr
        rw [h2]
        simp only [Bool.false_eq_true, if_false]
        constructor
        · intro h3; omega
        · intro h3; exact absurd (ih.2 h3) hr
def parts (s : ByteArray) : List ByteArray := Lib.splitB ⟨#[32]⟩ 0 (Lib.countB s ⟨#[32]⟩) s
theorem extract_data (s : ByteArray) (i j : Nat) : (s.extract i j).data.toList = (s.data.toList.take j).drop i := by
  have h := mkB_extract s.data.toList i j
  rw [mkB_of] at h
  rw [h, mkB_data]
theorem cut_cases (s : ByteArray) (b : UInt8) : (Lib.indexB s ⟨#[b]⟩ = -1 ∧ s.data.toList.contains b = false ∧ Lib.cut s.data.toList [b] = (s.data.toList, [], false)) ∨
    ∃ i : Nat, Lib.indexB s ⟨#[b]⟩ = i ∧ i < s.size ∧ s.data.toList.contains b = true ∧ Lib.cut s.data.toList [b] = ((s.extract 0 i).data.toList, (s.extract (i + 1) s.size).data.toList, true) := by
  have hge := Lib.index_ge s.data.toList [b]
  have hi : Lib.indexB s ⟨#[b]⟩ = Lib.index s.data.toList [b] := rfl
  by_cases h : Lib.index s.data.toList [b] = -1
  · refine .inl ⟨hi.trans h, (index_one _ _).1 h, ?_⟩
    unfold Lib.cut
    rw [if_neg (by omega)]
  · have h0 : 0 ≤ Lib.index s.data.toList [b] := by omega
    have hr := Lib.index_room s.data.toList [b] h0
    refine .inr ⟨(Lib.index s.data.toList [b]).toNat, by rw [hi]; omega, by rw [sz]; simp only [List.length_singleton] at hr; omega, ?_, ?_⟩
    · cases hc : s.data.toList.contains b with
      | true => rfl
      | false => exact absurd ((index_one _ _).2 hc) h
    · unfold Lib.cut
      rw [if_pos h0, extract_data, extract_data, sz, List.take_length, List.drop_zero]
      rfl
theorem parts_miss (s : ByteArray) (h : Lib.indexB s ⟨#[32]⟩ = -1) : parts s = [s] := Lib.splitB_miss _ _ _ _ h
theorem parts_hit (s : ByteArray) (i : Nat) (h : Lib.indexB s ⟨#[32]⟩ = i) : parts s = s.extract 0 i :: parts (s.extract (i + 1) s.size) := by
  unfold parts
  rw [Lib.countB_hit s ⟨#[32]⟩ i (by decide) h, Nat.add_comm 1, Lib.splitB_hit _ _ _ _ i h]
  rfl
theorem parts_pos (s : ByteArray) : 1 ≤ (parts s).length := by
  rcases cut_cases s 32 with ⟨h, _, _⟩ | ⟨i, h, _, _, _⟩
  · rw [parts_miss s h]; simp
  · rw [parts_hit s i h]; simp
def parts3 (s : ByteArray) : List ByteArray := Lib.splitB ⟨#[32]⟩ 0 2 s
/-- A text and its parts. -/
theorem three_cases (s : ByteArray) :
    (three s.data.toList = none ∧ ¬ (parts s).length = 3 ∧ ¬ (parts3 s).length = 3) ∨
    ∃ a b c : ByteArray, three s.data.toList = some (a.data.toList, b.data.toList, c.data.toList) ∧ parts3 s = [a, b, c] ∧ a.size + b.size + c.size + 2 = s.size ∧ (c.data.toList.contains 32 = false → parts s = [a, b, c]) ∧ (c.data.toList.contains 32 = true → ¬ (parts s).length = 3) := by
  unfold three parts3
  rcases cut_cases s 32 with ⟨h, hc, he⟩ | ⟨i, h, hi, hc, he⟩
  · refine .inl ⟨?_, ?_, ?_⟩
    · rw [he, if_neg (by simp)]
    · rw [parts_miss s h]; simp
    · rw [Lib.splitB_miss _ _ _ _ h]; simp
  · rw [he, parts_hit s i h, Lib.splitB_hit _ _ _ _ i h]
    generalize hm : s.extract (i + (⟨#[32]⟩ : ByteArray).size) s.size = m
    have hm' : s.extract (i + 1) s.size = m := hm
    rw [hm']
    have hsz : (s.extract 0 (i + 0)).size + m.size + 1 = s.size := by rw [← hm']; simp [ByteArray.size_extract]; omega
    rcases cut_cases m 32 with ⟨h2, hc2, he2⟩ | ⟨j, h2, hj, hc2, he2⟩
    · refine .inl ⟨?_, ?_, ?_⟩
      · rw [he2, if_neg (by simp)]
      · rw [parts_miss m h2]; simp
      · rw [Lib.splitB_miss _ _ _ _ h2]; simp
    · rw [he2, parts_hit m j h2, Lib.splitB_hit _ _ _ _ j h2]
      generalize hq : m.extract (j + (⟨#[32]⟩ : ByteArray).size) m.size = q
      have hq' : m.extract (j + 1) m.size = q := hq
      rw [hq']
      have hsz2 : (m.extract 0 (j + 0)).size + q.size + 1 = m.size := by rw [← hq']; simp [ByteArray.size_extract]; omega
      refine .inr ⟨s.extract 0 i, m.extract 0 j, q, ?_, rfl, ?_, ?_, ?_⟩
      · rw [if_pos ⟨rfl, rfl⟩]
      · simp only [Nat.add_zero] at hsz hsz2; omega
      · intro h3
        rcases cut_cases q 32 with ⟨h4, _, _⟩ | ⟨_, _, _, h5, _⟩
        · rw [parts_miss q h4]
        · rw [h3] at h5; cases h5
      · intro h3
        rcases cut_cases q 32 with ⟨_, h5, _⟩ | ⟨n, h4, _, _, _⟩
        · rw [h3] at h5; cases h5
        · rw [parts_hit q n h4]
          have := parts_pos (q.extract (n + 1) q.size)
          simp only [List.length_cons]
          omega
theorem parts_len (s : ByteArray) : (parts s).length ≤ s.size + 1 := by
  have h := Lib.splitB_length_le ⟨#[32]⟩ 0 (Lib.countB s ⟨#[32]⟩) s
  have h2 := Lib.countB_le ⟨#[32]⟩ (by decide) s.size s (Nat.le_refl _)
  unfold parts
  omega
theorem parts_count (s : ByteArray) : (parts s).length = Lib.countB s ⟨#[32]⟩ + 1 := Lib.splitB_all ⟨#[32]⟩ (by decide) 0 _ s rfl
theorem split_calls (s : ByteArray) (w : World) (hs : s.size < 4294967281) (hG : GInv w) :
    Calls Tryz.prog 36 #[.string s, .string ⟨#[32]⟩] w fun e w' => e = .returned (.slice (some ⟨w.heap.size, 0, none⟩) (parts s).length (parts s).length) ∧ w' = w.alloc (.cells ((parts s).map Value.string).toArray 9) := by
  obtain ⟨n, hn⟩ := hG.ml
  refine (Tryz.strings_Split s ⟨#[32]⟩ n w hs hn (by decide)).mono ?_
  rintro e w' ⟨rfl, rfl⟩
  rw [parts_count]
  exact ⟨rfl, rfl⟩
/-- SplitN at three: how many, and the three. -/
theorem splitN_calls (s : ByteArray) (w : World) (hs : s.size < 4294967281) (hG : GInv w) :
    Calls Tryz.prog 30 #[.string s, .string ⟨#[32]⟩, .int .i64 3] w fun e w' => ∃ (n c : Nat) (o : Obj), e = .returned (.slice (some ⟨w.heap.size, 0, none⟩) n c) ∧ n ≤ 3 ∧ w' = w.alloc o ∧ (three s.data.toList = none → ¬ n = 3) ∧
      (∀ a b c, three s.data.toList = some (a.data.toList, b.data.toList, c.data.toList) → parts3 s = [a, b, c] → n = 3 ∧ o = .cells #[.string a, .string b, .string c] 9) := by
  obtain ⟨m, hm⟩ := hG.ml
  refine (Tryz.strings_SplitN s ⟨#[32]⟩ 3 m w hs hm (by decide) (by decide) (by decide)).mono ?_
  rintro e w' ⟨rfl, rfl⟩
  have hle := Lib.splitB_length_le ⟨#[32]⟩ 0 (min 3 (s.size + 1) - 1) s
  refine ⟨_, _, _, rfl, by omega, rfl, ?_, ?_⟩
  · intro h3 hn
    rcases three_cases s with ⟨_, _, h5⟩ | ⟨a, b, c, h5, _⟩
    · have : min 3 (s.size + 1) - 1 = 2 := by omega
      rw [this] at hn
      exact h5 hn
    · rw [h3] at h5; cases h5
  · intro a b c h3 h4
    rcases three_cases s with ⟨h5, _⟩ | ⟨a', b', c', h5, h6, h7, _⟩
    · rw [h3] at h5; cases h5
    · have : min 3 (s.size + 1) = 3 := by omega
      rw [this]
      show (parts3 s).length = 3 ∧ Obj.cells (Lib.cellsOf (parts3 s) 3) _ = _
      rw [h4]
      exact ⟨rfl, rfl⟩
end Go.Proofs.YtmlgejgnjfbblaaGreatDoor.Hd
/- Package head, by hand: a request's first line; own text of this session. -/
namespace Go.Proofs.YtmlgejgnjfbblaaGreatDoor.Hd
open Go.RowKit Go.Proofs.YtmlgejgnjfbblaaGreatDoorW.PrintWords Go.Proofs.YtmlgejgnjfbblaaGreatDoorW.PrintLast Chk Px Hr
set_option linter.unusedVariables false
set_option linter.unusedSimpArgs false
/-- What a line leaves. -/
def LinePost (w : World) (F : Nat → Prop) (k : Nat) (r : Par × Int) (e : Ending) (w' : World) : Prop :=
  e = .returned (rfV r.2) ∧ (∃ vl vf, Rep w' (fun i => F i ∨ w.heap.size ≤ i) k vl vf r.1) ∧ Stay F w w'
set_option maxHeartbeats 4000000 in
set_option maxRecDepth 100000 in
theorem req_empty (w0 w : World) (F : Nat → Prop) (k : Nat) (vl vf : Value) (p : Par) (s : ByteArray) (h : Rep w F k vl vf p) (hH : Held w0 w F) (hs : s.size ≤ 4294960000) (hse : s.size = 0) (hln : p.lines ≤ 4) :
    Calls Tryz.prog 24 #[.pointer (some ⟨k, 0, none⟩), .string s] w (LinePost w F k (p, 0)) := by
  have hz2 : w.cell? ⟨k, 2, none⟩ = some (.int .i64 p.lines) := (blk_cell h.blk 2).trans rfl
  have hemp : s.toList.isEmpty = true := Lex.emptyB hse
  have HR := Aside0.mk h
  clear h hH hs hse
  go_enter Tryz.func24, Tryz.ntmps24
  go_wp2
  go_ret
  exact ⟨rfl, ⟨_, _, HR.out.mono (fun _ hk => .inl hk)⟩, Stay.refl _ _⟩
set_option maxHeartbeats 4000000 in
set_option maxRecDepth 100000 in
theorem req_no_e (w0 w : World) (F : Nat → Prop) (k : Nat) (vl vf : Value) (p : Par) (s : ByteArray) (h : Rep w F k vl vf p) (hH : Held w0 w F) (hs : s.size ≤ 4294960000) (hse : s.size = 0) (hln : ¬ p.lines ≤ 4) (hn : ¬ (parts s).length = 3) :
    Calls Tryz.prog 24 #[.pointer (some ⟨k, 0, none⟩), .string s] w (LinePost w F k (p, 80)) := by
  have hz2 : w.cell? ⟨k, 2, none⟩ = some (.int .i64 p.lines) := (blk_cell h.blk 2).trans rfl
  have hemp : s.toList.isEmpty = true := Lex.emptyB hse
  have HSp : Aside0 (∀ W, GInv W → Calls Tryz.prog 36 #[.string s, .string ⟨#[32]⟩] W fun e w' => e = .returned (.slice (some ⟨W.heap.size, 0, none⟩) (parts s).length (parts s).length) ∧ w' = W.alloc (.cells ((parts s).map Value.string).toArray 9)) := ⟨fun W hG => split_calls s W (by omega) hG⟩
  have HG := Aside0.mk hH.g
  have HR := Aside0.mk h
  have hpl := parts_len s
  obtain ⟨M, hM⟩ : ∃ M, M = (parts s).length := ⟨_, rfl⟩
  rw [← hM] at hn hpl HSp
  have hMb : (M : Int) ≤ 4294960001 := by omega
  have bm : ((M : Int) != 3) = true := by simpa using (show ¬ (M : Int) = 3 by omega)
  clear h hH hs hse hn hpl hM
  go_enter Tryz.func24, Tryz.ntmps24
  go_wp2_with (first | (go_at_call 32; refine (refuse_calls _ _).mono ?_; rintro e w' ⟨rfl, rfl⟩) | (go_at_call 36; refine (HSp.out _ (GInv.below' HG (by repeat (first | exact Below.refl _ _ | apply below_drew1 | apply pw_below_drewN)))).mono ?_; rintro e w' ⟨rfl, rfl⟩))
  go_ret
  exact ⟨rfl, ⟨_, _, (HR.out.below (below_alloc (Below.refl _ _) _)).mono (fun _ hk => .inl hk)⟩, Stay.below (below_alloc (Below.refl _ _) _)⟩
set_option maxHeartbeats 4000000 in
set_option maxRecDepth 100000 in
theorem req_no (w0 w : World) (F : Nat → Prop) (k : Nat) (vl vf : Value) (p : Par) (s : ByteArray) (h : Rep w F k vl vf p) (hH : Held w0 w F) (hs : s.size ≤ 4294960000) (hse : ¬ s.size = 0) (hn : ¬ (parts s).length = 3) :
    Calls Tryz.prog 24 #[.pointer (some ⟨k, 0, none⟩), .string s] w (LinePost w F k (p, 80)) := by
  have hz2 : w.cell? ⟨k, 2, none⟩ = some (.int .i64 p.lines) := (blk_cell h.blk 2).trans rfl
  have hemp : s.toList.isEmpty = false := Lex.emptyB_no hse
  have HSp : Aside0 (∀ W, GInv W → Calls Tryz.prog 36 #[.string s, .string ⟨#[32]⟩] W fun e w' => e = .returned (.slice (some ⟨W.heap.size, 0, none⟩) (parts s).length (parts s).length) ∧ w' = W.alloc (.cells ((parts s).map Value.string).toArray 9)) := ⟨fun W hG => split_calls s W (by omega) hG⟩
  have HG := Aside0.mk hH.g
  have HR := Aside0.mk h
  have hpl := parts_len s
  obtain ⟨M, hM⟩ : ∃ M, M = (parts s).length := ⟨_, rfl⟩
  rw [← hM] at hn hpl HSp
  have hMb : (M : Int) ≤ 4294960001 := by omega
  have bm : ((M : Int) != 3) = true := by simpa using (show ¬ (M : Int) = 3 by omega)
  clear h hH hs hse hn hpl hM
  go_enter Tryz.func24, Tryz.ntmps24
  go_wp2_with (first | (go_at_call 32; refine (refuse_calls _ _).mono ?_; rintro e w' ⟨rfl, rfl⟩) | (go_at_call 36; refine (HSp.out _ (GInv.below' HG (by repeat (first | exact Below.refl _ _ | apply below_drew1 | apply pw_below_drewN)))).mono ?_; rintro e w' ⟨rfl, rfl⟩))
  go_ret
  exact ⟨rfl, ⟨_, _, (HR.out.below (below_alloc (Below.refl _ _) _)).mono (fun _ hk => .inl hk)⟩, Stay.below (below_alloc (Below.refl _ _) _)⟩
set_option maxHeartbeats 4000000 in
set_option maxRecDepth 100000 in
theorem req_tok (w0 w : World) (F : Nat → Prop) (k : Nat) (vl vf : Value) (p : Par) (s : ByteArray) (h : Rep w F k vl vf p) (hH : Held w0 w F) (hs : s.size ≤ 4294960000) (hse : ¬ s.size = 0) (a b c : ByteArray) (hp : parts s = [a, b, c]) (hsz : a.size + b.size + c.size + 2 = s.size) (ht : token a.data.toList = false) :
    Calls Tryz.prog 24 #[.pointer (some ⟨k, 0, none⟩), .string s] w (LinePost w F k (p, 80)) := by
  have hz2 : w.cell? ⟨k, 2, none⟩ = some (.int .i64 p.lines) := (blk_cell h.blk 2).trans rfl
  have hemp : s.toList.isEmpty = false := Lex.emptyB_no hse
  have HSp : Aside0 (∀ W, GInv W → Calls Tryz.prog 36 #[.string s, .string ⟨#[32]⟩] W fun e w' => e = .returned (.slice (some ⟨W.heap.size, 0, none⟩) 3 3) ∧ w' = W.alloc (.cells #[.string a, .string b, .string c] 9)) := ⟨fun W hG => by have h5 := split_calls s W (by omega) hG; rw [hp] at h5; exact h5⟩
  have HG := Aside0.mk hH.g
  have HR := Aside0.mk h
  obtain ⟨W1, hW1⟩ : ∃ W1, W1 = w.alloc (.cells #[.string a, .string b, .string c] 9) := ⟨_, rfl⟩
  have hB1 : Below w.heap.size w W1 := by rw [hW1]; exact below_alloc (Below.refl _ _) _
  have hbk : W1.heap[w.heap.size]? = some (.cells #[.string a, .string b, .string c] 9 (0, 0)) := by rw [hW1]; exact blk_new _ _
  have HB1 := Aside0.mk hB1
  have HBK := Aside0.mk hbk
  have HTk : Aside0 (∀ W', Calls Tryz.prog 37 #[.string a] W' fun e w2 => e = .returned (.bool (token a.data.toList)) ∧ Below W'.heap.size W' w2) := ⟨fun W' => token_calls a W' (by omega)⟩
  have HVi : Aside0 (∀ W', Calls Tryz.prog 38 #[.string b] W' fun e w2 => e = .returned (.bool (visS b.data.toList)) ∧ Below W'.heap.size W' w2) := ⟨fun W' => visible_calls b W' (by omega)⟩
  have hlt := h.lt
  have HW1 := Aside0.mk hW1
  clear h hH hs hse hp hsz hB1 hbk hW1
  rw [ht] at HTk
  clear ht
  go_enter Tryz.func24, Tryz.ntmps24
  go_wp2_with (first | (go_at_call 32; refine (refuse_calls _ _).mono ?_; rintro e w' ⟨rfl, rfl⟩) | (go_at_call 36; refine (HSp.out _ (GInv.below' HG (by repeat (first | exact Below.refl _ _ | apply below_drew1 | apply pw_below_drewN)))).mono ?_; rintro e w' ⟨rfl, hw'⟩; rw [← HW1.out] at hw'; replace hw' := hw'.symm; subst hw'; have hc0 : W1.cell? ⟨w.heap.size, 0, none⟩ = some (.string a) := (blk_cell HBK.out 0).trans rfl; have hc1 : W1.cell? ⟨w.heap.size, 1, none⟩ = some (.string b) := (blk_cell HBK.out 1).trans rfl) | (go_at_call 37; refine (HTk.out _).mono ?_; rintro e w2 ⟨rfl, hb⟩; have B2 := Aside0.mk hb; have HK2 := Aside0.mk (blk_below HBK.out hb); clear hb; have hd1 : w2.cell? ⟨w.heap.size, 1, none⟩ = some (.string b) := (blk_cell HK2.out 1).trans rfl))
  go_ret
  exact ⟨rfl, ⟨_, _, (HR.out.below (below_step HB1.out B2.out)).mono (fun _ hk => .inl hk)⟩, Stay.below (below_step HB1.out B2.out)⟩
set_option maxHeartbeats 4000000 in
set_option maxRecDepth 100000 in
theorem req_vis (w0 w : World) (F : Nat → Prop) (k : Nat) (vl vf : Value) (p : Par) (s : ByteArray) (h : Rep w F k vl vf p) (hH : Held w0 w F) (hs : s.size ≤ 4294960000) (hse : ¬ s.size = 0) (a b c : ByteArray) (hp : parts s = [a, b, c]) (hsz : a.size + b.size + c.size + 2 = s.size) (ht : token a.data.toList = true) (hv : visS b.data.toList = false) :
    Calls Tryz.prog 24 #[.pointer (some ⟨k, 0, none⟩), .string s] w (LinePost w F k (p, 80)) := by
  have hz2 : w.cell? ⟨k, 2, none⟩ = some (.int .i64 p.lines) := (blk_cell h.blk 2).trans rfl
  have hemp : s.toList.isEmpty = false := Lex.emptyB_no hse
  have HSp : Aside0 (∀ W, GInv W → Calls Tryz.prog 36 #[.string s, .string ⟨#[32]⟩] W fun e w' => e = .returned (.slice (some ⟨W.heap.size, 0, none⟩) 3 3) ∧ w' = W.alloc (.cells #[.string a, .string b, .string c] 9)) := ⟨fun W hG => by have h5 := split_calls s W (by omega) hG; rw [hp] at h5; exact h5⟩
  have HG := Aside0.mk hH.g
  have HR := Aside0.mk h
  obtain ⟨W1, hW1⟩ : ∃ W1, W1 = w.alloc (.cells #[.string a, .string b, .string c] 9) := ⟨_, rfl⟩
  have hB1 : Below w.heap.size w W1 := by rw [hW1]; exact below_alloc (Below.refl _ _) _
  have hbk : W1.heap[w.heap.size]? = some (.cells #[.string a, .string b, .string c] 9 (0, 0)) := by rw [hW1]; exact blk_new _ _
  have HB1 := Aside0.mk hB1
  have HBK := Aside0.mk hbk
  have HTk : Aside0 (∀ W', Calls Tryz.prog 37 #[.string a] W' fun e w2 => e = .returned (.bool (token a.data.toList)) ∧ Below W'.heap.size W' w2) := ⟨fun W' => token_calls a W' (by omega)⟩
  have HVi : Aside0 (∀ W', Calls Tryz.prog 38 #[.string b] W' fun e w2 => e = .returned (.bool (visS b.data.toList)) ∧ Below W'.heap.size W' w2) := ⟨fun W' => visible_calls b W' (by omega)⟩
  have hlt := h.lt
  have HW1 := Aside0.mk hW1
  clear h hH hs hse hp hsz hB1 hbk hW1
  rw [ht] at HTk
  rw [hv] at HVi
  clear ht hv
  go_enter Tryz.func24, Tryz.ntmps24
  go_wp2_with (first | (go_at_call 32; refine (refuse_calls _ _).mono ?_; rintro e w' ⟨rfl, rfl⟩) | (go_at_call 36; refine (HSp.out _ (GInv.below' HG (by repeat (first | exact Below.refl _ _ | apply below_drew1 | apply pw_below_drewN)))).mono ?_; rintro e w' ⟨rfl, hw'⟩; rw [← HW1.out] at hw'; replace hw' := hw'.symm; subst hw'; have hc0 : W1.cell? ⟨w.heap.size, 0, none⟩ = some (.string a) := (blk_cell HBK.out 0).trans rfl; have hc1 : W1.cell? ⟨w.heap.size, 1, none⟩ = some (.string b) := (blk_cell HBK.out 1).trans rfl) | (go_at_call 37; refine (HTk.out _).mono ?_; rintro e w2 ⟨rfl, hb⟩; have B2 := Aside0.mk hb; have HK2 := Aside0.mk (blk_below HBK.out hb); clear hb; have hd1 : w2.cell? ⟨w.heap.size, 1, none⟩ = some (.string b) := (blk_cell HK2.out 1).trans rfl) | (go_at_call 38; refine (HVi.out _).mono ?_; rintro e w3 ⟨rfl, hb⟩; have B3 := Aside0.mk (below_step B2.out hb); have HK3 := Aside0.mk (blk_below HK2.out hb); clear hb; have he0 : w3.cell? ⟨w.heap.size, 0, none⟩ = some (.string a) := (blk_cell HK3.out 0).trans rfl; have he1 : w3.cell? ⟨w.heap.size, 1, none⟩ = some (.string b) := (blk_cell HK3.out 1).trans rfl; have he2 : w3.cell? ⟨w.heap.size, 2, none⟩ = some (.string c) := (blk_cell HK3.out 2).trans rfl))
  go_ret
  exact ⟨rfl, ⟨_, _, (HR.out.below (below_step HB1.out B3.out)).mono (fun _ hk => .inl hk)⟩, Stay.below (below_step HB1.out B3.out)⟩
set_option maxHeartbeats 4000000 in
set_option maxRecDepth 100000 in
theorem req_go (w0 w : World) (F : Nat → Prop) (k : Nat) (vl vf : Value) (p : Par) (s : ByteArray) (h : Rep w F k vl vf p) (hH : Held w0 w F) (hs : s.size ≤ 4294960000) (hse : ¬ s.size = 0) (a b c : ByteArray) (hp : parts s = [a, b, c]) (hsz : a.size + b.size + c.size + 2 = s.size) (ht : token a.data.toList = true) (hv : visS b.data.toList = true) :
    Calls Tryz.prog 24 #[.pointer (some ⟨k, 0, none⟩), .string s] w (LinePost w F k ({ p with hd := ⟨p.hd.f0, a, b, (versionS c.data.toList).1, p.hd.f4, p.hd.f5, p.hd.f6⟩, st := 2 }, (versionS c.data.toList).2)) := by
  have hz2 : w.cell? ⟨k, 2, none⟩ = some (.int .i64 p.lines) := (blk_cell h.blk 2).trans rfl
  have hemp : s.toList.isEmpty = false := Lex.emptyB_no hse
  have HSp : Aside0 (∀ W, GInv W → Calls Tryz.prog 36 #[.string s, .string ⟨#[32]⟩] W fun e w' => e = .returned (.slice (some ⟨W.heap.size, 0, none⟩) 3 3) ∧ w' = W.alloc (.cells #[.string a, .string b, .string c] 9)) := ⟨fun W hG => by have h5 := split_calls s W (by omega) hG; rw [hp] at h5; exact h5⟩
  have HG := Aside0.mk hH.g
  have HR := Aside0.mk h
  obtain ⟨W1, hW1⟩ : ∃ W1, W1 = w.alloc (.cells #[.string a, .string b, .string c] 9) := ⟨_, rfl⟩
  have hB1 : Below w.heap.size w W1 := by rw [hW1]; exact below_alloc (Below.refl _ _) _
  have hbk : W1.heap[w.heap.size]? = some (.cells #[.string a, .string b, .string c] 9 (0, 0)) := by rw [hW1]; exact blk_new _ _
  have HB1 := Aside0.mk hB1
  have HBK := Aside0.mk hbk
  have HTk : Aside0 (∀ W', Calls Tryz.prog 37 #[.string a] W' fun e w2 => e = .returned (.bool (token a.data.toList)) ∧ Below W'.heap.size W' w2) := ⟨fun W' => token_calls a W' (by omega)⟩
  have HVi : Aside0 (∀ W', Calls Tryz.prog 38 #[.string b] W' fun e w2 => e = .returned (.bool (visS b.data.toList)) ∧ Below W'.heap.size W' w2) := ⟨fun W' => visible_calls b W' (by omega)⟩
  have hlt := h.lt
  have HW1 := Aside0.mk hW1
  clear h hH hs hse hp hsz hB1 hbk hW1
  rw [ht] at HTk
  rw [hv] at HVi
  clear ht hv
  obtain ⟨m, hm⟩ : ∃ m, m = (versionS c.data.toList).1 := ⟨_, rfl⟩
  obtain ⟨er, her⟩ : ∃ er, er = (versionS c.data.toList).2 := ⟨_, rfl⟩
  have HVe := Aside0.mk (fun W => version_calls c W)
  unfold verPost at HVe
  rw [← hm, ← her] at HVe ⊢
  clear hm her
  go_enter Tryz.func24, Tryz.ntmps24
  go_wp2_with (first | (go_at_call 32; refine (refuse_calls _ _).mono ?_; rintro e w' ⟨rfl, rfl⟩) | (go_at_call 36; refine (HSp.out _ (GInv.below' HG (by repeat (first | exact Below.refl _ _ | apply below_drew1 | apply pw_below_drewN)))).mono ?_; rintro e w' ⟨rfl, hw'⟩; rw [← HW1.out] at hw'; replace hw' := hw'.symm; subst hw'; have hc0 : W1.cell? ⟨w.heap.size, 0, none⟩ = some (.string a) := (blk_cell HBK.out 0).trans rfl; have hc1 : W1.cell? ⟨w.heap.size, 1, none⟩ = some (.string b) := (blk_cell HBK.out 1).trans rfl) | (go_at_call 37; refine (HTk.out _).mono ?_; rintro e w2 ⟨rfl, hb⟩; have B2 := Aside0.mk hb; have HK2 := Aside0.mk (blk_below HBK.out hb); clear hb; have hd1 : w2.cell? ⟨w.heap.size, 1, none⟩ = some (.string b) := (blk_cell HK2.out 1).trans rfl) | (go_at_call 38; refine (HVi.out _).mono ?_; rintro e w3 ⟨rfl, hb⟩; have B3 := Aside0.mk (below_step B2.out hb); have HK3 := Aside0.mk (blk_below HK2.out hb); clear hb; have he0 : w3.cell? ⟨w.heap.size, 0, none⟩ = some (.string a) := (blk_cell HK3.out 0).trans rfl; have he1 : w3.cell? ⟨w.heap.size, 1, none⟩ = some (.string b) := (blk_cell HK3.out 1).trans rfl; have he2 : w3.cell? ⟨w.heap.size, 2, none⟩ = some (.string c) := (blk_cell HK3.out 2).trans rfl) | (go_at_call 34; refine (HVe.out _).mono ?_; rintro e w4 ⟨rfl, hw4⟩; subst w4; have HR3 := Aside0.mk (HR.out.below (below_step HB1.out B3.out)); have hy6 : w3.cell? ⟨k, 6, none⟩ = some (.string p.hd.f1) := (blk_cell HR3.out.blk 6).trans rfl; have hy7 : w3.cell? ⟨k, 7, none⟩ = some (.string p.hd.f2) := (blk_cell HR3.out.blk 7).trans rfl; have hy8 : w3.cell? ⟨k, 8, none⟩ = some (.int .i64 p.hd.f3) := (blk_cell HR3.out.blk 8).trans rfl; have hy4 : w3.cell? ⟨k, 4, none⟩ = some (.func (.func (stF p.st)) #[.pointer (some ⟨k, 0, none⟩)] #[]) := (blk_cell HR3.out.blk 4).trans rfl; have hf6 := blk_frozen HR3.out.blk 6; have hf7 := blk_frozen HR3.out.blk 7; have hf8 := blk_frozen HR3.out.blk 8; have hf4 := blk_frozen HR3.out.blk 4))
  clear HSp HTk HVi HVe
  go_region
  go_wp2
  go_ret
  have hk : k ≠ w.heap.size := by have := HR.out.lt; omega
  refine ⟨rfl, ⟨vl, vf, ?_⟩, ?_⟩
  · refine Rep.mono ?_ (fun _ hk => .inl hk)
    have e1 := HR3.out.scal (i := 6) (v := .string a) (p' := { p with hd := ⟨p.hd.f0, a, p.hd.f2, p.hd.f3, p.hd.f4, p.hd.f5, p.hd.f6⟩ }) rfl rfl rfl
    have e2 := e1.scal (i := 7) (v := .string b) (p' := { p with hd := ⟨p.hd.f0, a, b, p.hd.f3, p.hd.f4, p.hd.f5, p.hd.f6⟩ }) rfl rfl rfl
    have e3 := e2.scal (i := 8) (v := .int .i64 m) (p' := { p with hd := ⟨p.hd.f0, a, b, m, p.hd.f4, p.hd.f5, p.hd.f6⟩ }) rfl rfl rfl
    have e4 := e3.scal (i := 4) (v := .func (.func (stF 2)) #[.pointer (some ⟨k, 0, none⟩)] #[]) (p' := { p with hd := ⟨p.hd.f0, a, b, m, p.hd.f4, p.hd.f5, p.hd.f6⟩, st := 2 }) rfl rfl rfl
    exact e4.below (below_drew (Below.refl _ _))
  · have s0 := Stay.below (F := F) (below_step HB1.out B3.out)
    have s1 := ((s0.set (p := ⟨k, 6, none⟩) HR.out.inF (.string a)).set (p := ⟨k, 7, none⟩) HR.out.inF (.string b)).set (p := ⟨k, 8, none⟩) HR.out.inF (.int .i64 m)
    exact stay_low (s1.set (p := ⟨k, 4, none⟩) HR.out.inF _) (below_drew (Below.refl _ _))
theorem empty_iff (s : ByteArray) : s.size = 0 ↔ s.data.toList = [] := by rw [sz]; exact List.length_eq_zero_iff
theorem request_calls (w0 w : World) (F : Nat → Prop) (k : Nat) (vl vf : Value) (p : Par) (s : ByteArray) (h : Rep w F k vl vf p) (hH : Held w0 w F) (hs : s.size ≤ 4294960000) :
    Calls Tryz.prog 24 #[.pointer (some ⟨k, 0, none⟩), .string s] w (LinePost w F k (reqS p s.data.toList)) := by
  unfold reqS
  by_cases hse : s.size = 0
  · have hl := (empty_iff s).1 hse
    by_cases hln : p.lines ≤ 4
    · rw [if_pos ⟨hl, hln⟩]
      exact req_empty w0 w F k vl vf p s h hH hs hse hln
    · rw [if_neg (fun h5 => hln h5.2)]
      rcases three_cases s with ⟨h3, hn, _⟩ | ⟨a, b, c, _, _, hsz, _, _⟩
      · rw [h3]
        exact req_no_e w0 w F k vl vf p s h hH hs hse hln hn
      · omega
  · rw [if_neg (fun h5 => hse ((empty_iff s).2 h5.1))]
    rcases three_cases s with ⟨h3, hn, _⟩ | ⟨a, b, c, h3, _, hsz, hp, hn⟩
    · rw [h3]
      exact req_no w0 w F k vl vf p s h hH hs hse hn
    · rw [h3]
      show Calls _ _ _ _ (LinePost w F k (if c.data.toList.contains 32 = true ∨ token a.data.toList = false ∨ visS b.data.toList = false then (p, 80) else ({ p with hd := ⟨p.hd.f0, mkB a.data.toList, mkB b.data.toList, (versionS c.data.toList).1, p.hd.f4, p.hd.f5, p.hd.f6⟩, st := 2 }, (versionS c.data.toList).2)))
      cases hc : c.data.toList.contains 32 with
      | true =>
        rw [if_pos (.inl rfl)]
        exact req_no w0 w F k vl vf p s h hH hs hse (hn hc)
      | false =>
        cases ht : token a.data.toList with
        | false =>
          rw [if_pos (.inr (.inl rfl))]
          exact req_tok w0 w F k vl vf p s h hH hs hse a b c (hp hc) hsz ht
        | true =>
          cases hv : visS b.data.toList with
          | false =>
            rw [if_pos (.inr (.inr rfl))]
            exact req_vis w0 w F k vl vf p s h hH hs hse a b c (hp hc) hsz ht hv
          | true =>
            rw [if_neg (by simp), mkB_of, mkB_of]
            exact req_go w0 w F k vl vf p s h hH hs hse a b c (hp hc) hsz ht hv
end Go.Proofs.YtmlgejgnjfbblaaGreatDoor.Hd
/- Package head, by hand: a response's first line; own text of this session. -/
namespace Go.Proofs.YtmlgejgnjfbblaaGreatDoor.Hd
open Go.RowKit Go.Proofs.YtmlgejgnjfbblaaGreatDoorW.PrintWords Go.Proofs.YtmlgejgnjfbblaaGreatDoorW.PrintLast Chk Px Hr
set_option linter.unusedVariables false
set_option linter.unusedSimpArgs false
theorem number_calls (s : ByteArray) (n f : Int) (w : World) (hs : s.size ≤ 281474976710656) (h : Hr.digits 10 s.data.toList = (n, f)) (hG : GInv w) :
  Calls Tryz.prog 33 #[.string s] w fun e w' => e = .returned (.tuple #[.int .i64 n, .int .i64 f]) ∧ Below w.heap.size w w' :=
 P.lexis_Number.calls s n f w (by rw [Px.lNumber s hs, h]) hG
theorem split3_calls (s a b c : ByteArray) (w : World) (hs : s.size < 4294967281) (hG : GInv w) (h3 : three s.data.toList = some (a.data.toList, b.data.toList, c.data.toList)) (hp : parts3 s = [a, b, c]) :
  Calls Tryz.prog 30 #[.string s, .string ⟨#[32]⟩, .int .i64 3] w fun e w' => ∃ m : Nat, e = .returned (.slice (some ⟨w.heap.size, 0, none⟩) 3 m) ∧ w' = w.alloc (.cells #[.string a, .string b, .string c] 9) := by
 refine (splitN_calls s w hs hG).mono ?_
 rintro e w' ⟨n, m, o, rfl, _, rfl, _, h5⟩
 obtain ⟨rfl, rfl⟩ := h5 a b c h3 hp
 exact ⟨m, rfl, rfl⟩
theorem split0_calls (s : ByteArray) (w : World) (hs : s.size < 4294967281) (hG : GInv w) (h3 : three s.data.toList = none) :
  Calls Tryz.prog 30 #[.string s, .string ⟨#[32]⟩, .int .i64 3] w fun e w' => ∃ (n m : Nat) (o : Obj), e = .returned (.slice (some ⟨w.heap.size, 0, none⟩) n m) ∧ n ≤ 3 ∧ ¬ n = 3 ∧ w' = w.alloc o := by
 refine (splitN_calls s w hs hG).mono ?_
 rintro e w' ⟨n, m, o, rfl, hle, rfl, h4, _⟩
 exact ⟨n, m, o, rfl, hle, h4 h3, rfl⟩
set_option maxHeartbeats 4000000 in
set_option maxRecDepth 100000 in
theorem resp_no (w0 w : World) (F : Nat → Prop) (k : Nat) (vl vf : Value) (p : Par) (s : ByteArray) (h : Rep w F k vl vf p) (hH : Held w0 w F) (hs : s.size ≤ 4294960000) (h3 : three s.data.toList = none) :
  Calls Tryz.prog 23 #[.pointer (some ⟨k, 0, none⟩), .string s] w (LinePost w F k (p, 80)) := by
 have HSp := Aside0.mk (fun W hG => split0_calls s W (by omega) hG h3)
 have HG := Aside0.mk hH.g
 have HR := Aside0.mk h
 clear h hH hs h3
 go_enter Tryz.func23, Tryz.ntmps23
 go_wp2_with (first | (go_at_call 32; refine (refuse_calls _ _).mono ?_; rintro e w' ⟨rfl, rfl⟩) | (go_at_call 30; refine (HSp.out _ (GInv.below' HG (by repeat (first | exact Below.refl _ _ | apply below_drew1 | apply pw_below_drewN)))).mono ?_; rintro e w' ⟨M, m2, ob, rfl, hM1, hM2, rfl⟩; have bm : ((M : Int) != 3) = true := (by simpa using (show ¬ (M : Int) = 3 by omega)); have hMb : (M : Int) ≤ 3 := (by omega); clear hM1 hM2))
 go_ret
 exact ⟨rfl, ⟨_, _, (HR.out.below (below_alloc (Below.refl _ _) _)).mono (fun _ hk => .inl hk)⟩, Stay.below (below_alloc (Below.refl _ _) _)⟩
set_option maxHeartbeats 4000000 in
set_option maxRecDepth 100000 in
theorem resp_len (w0 w : World) (F : Nat → Prop) (k : Nat) (vl vf : Value) (p : Par) (s : ByteArray) (h : Rep w F k vl vf p) (hH : Held w0 w F) (hs : s.size ≤ 4294960000) (a b c : ByteArray) (h3 : three s.data.toList = some (a.data.toList, b.data.toList, c.data.toList)) (hp : parts3 s = [a, b, c]) (hsz : a.size + b.size + c.size + 2 = s.size) (hl : ¬ b.size = 3) :
  Calls Tryz.prog 23 #[.pointer (some ⟨k, 0, none⟩), .string s] w (LinePost w F k (p, 80)) := by
 have HSp := Aside0.mk (fun W hG => split3_calls s a b c W (by omega) hG h3 hp)
 have HG := Aside0.mk hH.g
 have HR := Aside0.mk h
 obtain ⟨W1, hW1⟩ : ∃ W1, W1 = w.alloc (.cells #[.string a, .string b, .string c] 9) := ⟨_, rfl⟩
 have hB1 : Below w.heap.size w W1 := by rw [hW1]; exact below_alloc (Below.refl _ _) _
 have hbk : W1.heap[w.heap.size]? = some (.cells #[.string a, .string b, .string c] 9 (0, 0)) := by rw [hW1]; exact blk_new _ _
 have HB1 := Aside0.mk hB1
 have HBK := Aside0.mk hbk
 have HW1 := Aside0.mk hW1
 have HVa : Aside0 (∀ W', Calls Tryz.prog 31 #[.string ((⟨#[97]⟩ : ByteArray) ++ c ++ (⟨#[97]⟩ : ByteArray))] W' fun e w2 => e = .returned (.bool (value ([97] ++ c.data.toList ++ [97]))) ∧ Below W'.heap.size W' w2) := ⟨fun W' => value_calls _ _ W' (by simp only [ByteArray.size_append]; show 1 + c.size + 1 ≤ _; omega) (by simp [ByteArray.data_append])⟩
 have HNu : Aside0 (∀ W', GInv W' → Calls Tryz.prog 33 #[.string b] W' fun e w2 => e = .returned (.tuple #[.int .i64 (digits 10 b.data.toList).1, .int .i64 (digits 10 b.data.toList).2]) ∧ Below W'.heap.size W' w2) := ⟨fun W' hG => number_calls b _ _ W' (by omega) rfl hG⟩
 have HVe := Aside0.mk (fun W => version_calls a W)
 unfold verPost at HVe
 have hlt := h.lt
 have hca : (c.size : Int) ≤ 4294960000 := by omega
 have bl : ((b.size : Int) != 3) = true := by simpa using (show ¬ (b.size : Int) = 3 by omega)
 clear h hH hs h3 hp hsz hB1 hbk hW1 hl
 go_enter Tryz.func23, Tryz.ntmps23
 go_wp2_with (first | (go_at_call 32; refine (refuse_calls _ _).mono ?_; rintro e w' ⟨rfl, rfl⟩) | (go_at_call 30; refine (HSp.out _ (GInv.below' HG (by repeat (first | exact Below.refl _ _ | apply below_drew1 | apply pw_below_drewN)))).mono ?_; rintro e w' ⟨m2, rfl, hw'⟩; rw [← HW1.out] at hw'; subst w'; have hc0 : W1.cell? ⟨w.heap.size, 0, none⟩ = some (.string a) := (blk_cell HBK.out 0).trans rfl; have hc1 : W1.cell? ⟨w.heap.size, 1, none⟩ = some (.string b) := (blk_cell HBK.out 1).trans rfl; have hc2 : W1.cell? ⟨w.heap.size, 2, none⟩ = some (.string c) := (blk_cell HBK.out 2).trans rfl))
 go_ret
 exact ⟨rfl, ⟨_, _, (HR.out.below HB1.out).mono (fun _ hk => .inl hk)⟩, Stay.below HB1.out⟩
set_option maxHeartbeats 4000000 in
set_option maxRecDepth 100000 in
theorem resp_val (w0 w : World) (F : Nat → Prop) (k : Nat) (vl vf : Value) (p : Par) (s : ByteArray) (h : Rep w F k vl vf p) (hH : Held w0 w F) (hs : s.size ≤ 4294960000) (a b c : ByteArray) (h3 : three s.data.toList = some (a.data.toList, b.data.toList, c.data.toList)) (hp : parts3 s = [a, b, c]) (hsz : a.size + b.size + c.size + 2 = s.size) (hl : b.size = 3) (hv : value ([97] ++ c.data.toList ++ [97]) = false) :
  Calls Tryz.prog 23 #[.pointer (some ⟨k, 0, none⟩), .string s] w (LinePost w F k (p, 80)) := by
 have HSp := Aside0.mk (fun W hG => split3_calls s a b c W (by omega) hG h3 hp)
 have HG := Aside0.mk hH.g
 have HR := Aside0.mk h
 obtain ⟨W1, hW1⟩ : ∃ W1, W1 = w.alloc (.cells #[.string a, .string b, .string c] 9) := ⟨_, rfl⟩
 have hB1 : Below w.heap.size w W1 := by rw [hW1]; exact below_alloc (Below.refl _ _) _
 have hbk : W1.heap[w.heap.size]? = some (.cells #[.string a, .string b, .string c] 9 (0, 0)) := by rw [hW1]; exact blk_new _ _
 have HB1 := Aside0.mk hB1
 have HBK := Aside0.mk hbk
 have HW1 := Aside0.mk hW1
 have HVa : Aside0 (∀ W', Calls Tryz.prog 31 #[.string ((⟨#[97]⟩ : ByteArray) ++ c ++ (⟨#[97]⟩ : ByteArray))] W' fun e w2 => e = .returned (.bool (value ([97] ++ c.data.toList ++ [97]))) ∧ Below W'.heap.size W' w2) := ⟨fun W' => value_calls _ _ W' (by simp only [ByteArray.size_append]; show 1 + c.size + 1 ≤ _; omega) (by simp [ByteArray.data_append])⟩
 have HNu : Aside0 (∀ W', GInv W' → Calls Tryz.prog 33 #[.string b] W' fun e w2 => e = .returned (.tuple #[.int .i64 (digits 10 b.data.toList).1, .int .i64 (digits 10 b.data.toList).2]) ∧ Below W'.heap.size W' w2) := ⟨fun W' hG => number_calls b _ _ W' (by omega) rfl hG⟩
 have HVe := Aside0.mk (fun W => version_calls a W)
 unfold verPost at HVe
 have hlt := h.lt
 have hca : (c.size : Int) ≤ 4294960000 := by omega
 have bl : ((b.size : Int) != 3) = false := by simpa using (show (b.size : Int) = 3 by omega)
 rw [hv] at HVa
 clear h hH hs h3 hp hsz hB1 hbk hW1 hl hv
 go_enter Tryz.func23, Tryz.ntmps23
 go_wp2_with (first | (go_at_call 32; refine (refuse_calls _ _).mono ?_; rintro e w' ⟨rfl, rfl⟩) | (go_at_call 30; refine (HSp.out _ (GInv.below' HG (by repeat (first | exact Below.refl _ _ | apply below_drew1 | apply pw_below_drewN)))).mono ?_; rintro e w' ⟨m2, rfl, hw'⟩; rw [← HW1.out] at hw'; subst w'; have hc0 : W1.cell? ⟨w.heap.size, 0, none⟩ = some (.string a) := (blk_cell HBK.out 0).trans rfl; have hc1 : W1.cell? ⟨w.heap.size, 1, none⟩ = some (.string b) := (blk_cell HBK.out 1).trans rfl; have hc2 : W1.cell? ⟨w.heap.size, 2, none⟩ = some (.string c) := (blk_cell HBK.out 2).trans rfl) | (go_at_call 31; refine (HVa.out _).mono ?_; rintro e w2 ⟨rfl, hb⟩; have B2 := Aside0.mk (below_step HB1.out hb); have HK2 := Aside0.mk (blk_below HBK.out hb); clear hb; have hd1 : w2.cell? ⟨w.heap.size, 1, none⟩ = some (.string b) := (blk_cell HK2.out 1).trans rfl))
 go_ret
 exact ⟨rfl, ⟨_, _, (HR.out.below B2.out).mono (fun _ hk => .inl hk)⟩, Stay.below B2.out⟩
set_option maxHeartbeats 4000000 in
set_option maxRecDepth 100000 in
theorem resp_num (w0 w : World) (F : Nat → Prop) (k : Nat) (vl vf : Value) (p : Par) (s : ByteArray) (h : Rep w F k vl vf p) (hH : Held w0 w F) (hs : s.size ≤ 4294960000) (a b c : ByteArray) (h3 : three s.data.toList = some (a.data.toList, b.data.toList, c.data.toList)) (hp : parts3 s = [a, b, c]) (hsz : a.size + b.size + c.size + 2 = s.size) (hl : b.size = 3) (hv : value ([97] ++ c.data.toList ++ [97]) = true) (hx : ¬ (digits 10 b.data.toList).2 = 0) :
  Calls Tryz.prog 23 #[.pointer (some ⟨k, 0, none⟩), .string s] w (LinePost w F k (p, 80)) := by
 have HSp := Aside0.mk (fun W hG => split3_calls s a b c W (by omega) hG h3 hp)
 have HG := Aside0.mk hH.g
 have HR := Aside0.mk h
 obtain ⟨W1, hW1⟩ : ∃ W1, W1 = w.alloc (.cells #[.string a, .string b, .string c] 9) := ⟨_, rfl⟩
 have hB1 : Below w.heap.size w W1 := by rw [hW1]; exact below_alloc (Below.refl _ _) _
 have hbk : W1.heap[w.heap.size]? = some (.cells #[.string a, .string b, .string c] 9 (0, 0)) := by rw [hW1]; exact blk_new _ _
 have HB1 := Aside0.mk hB1
 have HBK := Aside0.mk hbk
 have HW1 := Aside0.mk hW1
 have HVa : Aside0 (∀ W', Calls Tryz.prog 31 #[.string ((⟨#[97]⟩ : ByteArray) ++ c ++ (⟨#[97]⟩ : ByteArray))] W' fun e w2 => e = .returned (.bool (value ([97] ++ c.data.toList ++ [97]))) ∧ Below W'.heap.size W' w2) := ⟨fun W' => value_calls _ _ W' (by simp only [ByteArray.size_append]; show 1 + c.size + 1 ≤ _; omega) (by simp [ByteArray.data_append])⟩
 have HNu : Aside0 (∀ W', GInv W' → Calls Tryz.prog 33 #[.string b] W' fun e w2 => e = .returned (.tuple #[.int .i64 (digits 10 b.data.toList).1, .int .i64 (digits 10 b.data.toList).2]) ∧ Below W'.heap.size W' w2) := ⟨fun W' hG => number_calls b _ _ W' (by omega) rfl hG⟩
 have HVe := Aside0.mk (fun W => version_calls a W)
 unfold verPost at HVe
 have hlt := h.lt
 have hca : (c.size : Int) ≤ 4294960000 := by omega
 have bl : ((b.size : Int) != 3) = false := by simpa using (show (b.size : Int) = 3 by omega)
 rw [hv] at HVa
 obtain ⟨m, hm⟩ : ∃ m, m = (versionS a.data.toList).1 := ⟨_, rfl⟩
 obtain ⟨er, her⟩ : ∃ er, er = (versionS a.data.toList).2 := ⟨_, rfl⟩
 rw [← hm, ← her] at HVe
 obtain ⟨N, hN⟩ : ∃ N, N = (digits 10 b.data.toList).1 := ⟨_, rfl⟩
 obtain ⟨f, hf⟩ : ∃ f, f = (digits 10 b.data.toList).2 := ⟨_, rfl⟩
 rw [← hN, ← hf] at HNu
 rw [← hf] at hx
 have bf : (f != 0) = true := by simpa using hx
 clear h hH hs h3 hp hsz hB1 hbk hW1 hl hv hm her hN hf hx
 go_enter Tryz.func23, Tryz.ntmps23
 go_wp2_with (first | (go_at_call 32; refine (refuse_calls _ _).mono ?_; rintro e w' ⟨rfl, rfl⟩) | (go_at_call 30; refine (HSp.out _ (GInv.below' HG (by repeat (first | exact Below.refl _ _ | apply below_drew1 | apply pw_below_drewN)))).mono ?_; rintro e w' ⟨m2, rfl, hw'⟩; rw [← HW1.out] at hw'; subst w'; have hc0 : W1.cell? ⟨w.heap.size, 0, none⟩ = some (.string a) := (blk_cell HBK.out 0).trans rfl; have hc1 : W1.cell? ⟨w.heap.size, 1, none⟩ = some (.string b) := (blk_cell HBK.out 1).trans rfl; have hc2 : W1.cell? ⟨w.heap.size, 2, none⟩ = some (.string c) := (blk_cell HBK.out 2).trans rfl) | (go_at_call 31; refine (HVa.out _).mono ?_; rintro e w2 ⟨rfl, hb⟩; have B2 := Aside0.mk (below_step HB1.out hb); have HK2 := Aside0.mk (blk_below HBK.out hb); clear hb; have hd1 : w2.cell? ⟨w.heap.size, 1, none⟩ = some (.string b) := (blk_cell HK2.out 1).trans rfl) | (go_at_call 33; refine (HNu.out _ (HG.out.below B2.out)).mono ?_; rintro e w3 ⟨rfl, hb⟩; have B3 := Aside0.mk (below_step B2.out hb); have HK3 := Aside0.mk (blk_below HK2.out hb); clear hb; have he0 : w3.cell? ⟨w.heap.size, 0, none⟩ = some (.string a) := (blk_cell HK3.out 0).trans rfl; have he2 : w3.cell? ⟨w.heap.size, 2, none⟩ = some (.string c) := (blk_cell HK3.out 2).trans rfl) | (go_at_call 34; refine (HVe.out _).mono ?_; rintro e w4 ⟨rfl, hw4⟩; subst w4))
 go_ret
 exact ⟨rfl, ⟨_, _, (HR.out.below B3.out).mono (fun _ hk => .inl hk)⟩, Stay.below B3.out⟩
set_option maxHeartbeats 4000000 in
set_option maxRecDepth 100000 in
theorem resp_lo (w0 w : World) (F : Nat → Prop) (k : Nat) (vl vf : Value) (p : Par) (s : ByteArray) (h : Rep w F k vl vf p) (hH : Held w0 w F) (hs : s.size ≤ 4294960000) (a b c : ByteArray) (h3 : three s.data.toList = some (a.data.toList, b.data.toList, c.data.toList)) (hp : parts3 s = [a, b, c]) (hsz : a.size + b.size + c.size + 2 = s.size) (hl : b.size = 3) (hv : value ([97] ++ c.data.toList ++ [97]) = true) (hx : (digits 10 b.data.toList).2 = 0) (hlo : (digits 10 b.data.toList).1 < 100) :
  Calls Tryz.prog 23 #[.pointer (some ⟨k, 0, none⟩), .string s] w (LinePost w F k (p, 80)) := by
 have HSp := Aside0.mk (fun W hG => split3_calls s a b c W (by omega) hG h3 hp)
 have HG := Aside0.mk hH.g
 have HR := Aside0.mk h
 obtain ⟨W1, hW1⟩ : ∃ W1, W1 = w.alloc (.cells #[.string a, .string b, .string c] 9) := ⟨_, rfl⟩
 have hB1 : Below w.heap.size w W1 := by rw [hW1]; exact below_alloc (Below.refl _ _) _
 have hbk : W1.heap[w.heap.size]? = some (.cells #[.string a, .string b, .string c] 9 (0, 0)) := by rw [hW1]; exact blk_new _ _
 have HB1 := Aside0.mk hB1
 have HBK := Aside0.mk hbk
 have HW1 := Aside0.mk hW1
 have HVa : Aside0 (∀ W', Calls Tryz.prog 31 #[.string ((⟨#[97]⟩ : ByteArray) ++ c ++ (⟨#[97]⟩ : ByteArray))] W' fun e w2 => e = .returned (.bool (value ([97] ++ c.data.toList ++ [97]))) ∧ Below W'.heap.size W' w2) := ⟨fun W' => value_calls _ _ W' (by simp only [ByteArray.size_append]; show 1 + c.size + 1 ≤ _; omega) (by simp [ByteArray.data_append])⟩
 have HNu : Aside0 (∀ W', GInv W' → Calls Tryz.prog 33 #[.string b] W' fun e w2 => e = .returned (.tuple #[.int .i64 (digits 10 b.data.toList).1, .int .i64 (digits 10 b.data.toList).2]) ∧ Below W'.heap.size W' w2) := ⟨fun W' hG => number_calls b _ _ W' (by omega) rfl hG⟩
 have HVe := Aside0.mk (fun W => version_calls a W)
 unfold verPost at HVe
 have hlt := h.lt
 have hca : (c.size : Int) ≤ 4294960000 := by omega
 have bl : ((b.size : Int) != 3) = false := by simpa using (show (b.size : Int) = 3 by omega)
 rw [hv] at HVa
 obtain ⟨m, hm⟩ : ∃ m, m = (versionS a.data.toList).1 := ⟨_, rfl⟩
 obtain ⟨er, her⟩ : ∃ er, er = (versionS a.data.toList).2 := ⟨_, rfl⟩
 rw [← hm, ← her] at HVe
 obtain ⟨N, hN⟩ : ∃ N, N = (digits 10 b.data.toList).1 := ⟨_, rfl⟩
 obtain ⟨f, hf⟩ : ∃ f, f = (digits 10 b.data.toList).2 := ⟨_, rfl⟩
 rw [← hN, ← hf] at HNu
 rw [← hf] at hx
 have bf : (f != 0) = false := by simpa using hx
 rw [← hN] at hlo
 clear h hH hs h3 hp hsz hB1 hbk hW1 hl hv hm her hN hf hx
 go_enter Tryz.func23, Tryz.ntmps23
 go_wp2_with (first | (go_at_call 32; refine (refuse_calls _ _).mono ?_; rintro e w' ⟨rfl, rfl⟩) | (go_at_call 30; refine (HSp.out _ (GInv.below' HG (by repeat (first | exact Below.refl _ _ | apply below_drew1 | apply pw_below_drewN)))).mono ?_; rintro e w' ⟨m2, rfl, hw'⟩; rw [← HW1.out] at hw'; subst w'; have hc0 : W1.cell? ⟨w.heap.size, 0, none⟩ = some (.string a) := (blk_cell HBK.out 0).trans rfl; have hc1 : W1.cell? ⟨w.heap.size, 1, none⟩ = some (.string b) := (blk_cell HBK.out 1).trans rfl; have hc2 : W1.cell? ⟨w.heap.size, 2, none⟩ = some (.string c) := (blk_cell HBK.out 2).trans rfl) | (go_at_call 31; refine (HVa.out _).mono ?_; rintro e w2 ⟨rfl, hb⟩; have B2 := Aside0.mk (below_step HB1.out hb); have HK2 := Aside0.mk (blk_below HBK.out hb); clear hb; have hd1 : w2.cell? ⟨w.heap.size, 1, none⟩ = some (.string b) := (blk_cell HK2.out 1).trans rfl) | (go_at_call 33; refine (HNu.out _ (HG.out.below B2.out)).mono ?_; rintro e w3 ⟨rfl, hb⟩; have B3 := Aside0.mk (below_step B2.out hb); have HK3 := Aside0.mk (blk_below HK2.out hb); clear hb; have he0 : w3.cell? ⟨w.heap.size, 0, none⟩ = some (.string a) := (blk_cell HK3.out 0).trans rfl; have he2 : w3.cell? ⟨w.heap.size, 2, none⟩ = some (.string c) := (blk_cell HK3.out 2).trans rfl) | (go_at_call 34; refine (HVe.out _).mono ?_; rintro e w4 ⟨rfl, hw4⟩; subst w4))
 go_ret
 exact ⟨rfl, ⟨_, _, (HR.out.below B3.out).mono (fun _ hk => .inl hk)⟩, Stay.below B3.out⟩
set_option maxHeartbeats 4000000 in
set_option maxRecDepth 100000 in
theorem resp_hi (w0 w : World) (F : Nat → Prop) (k : Nat) (vl vf : Value) (p : Par) (s : ByteArray) (h : Rep w F k vl vf p) (hH : Held w0 w F) (hs : s.size ≤ 4294960000) (a b c : ByteArray) (h3 : three s.data.toList = some (a.data.toList, b.data.toList, c.data.toList)) (hp : parts3 s = [a, b, c]) (hsz : a.size + b.size + c.size + 2 = s.size) (hl : b.size = 3) (hv : value ([97] ++ c.data.toList ++ [97]) = true) (hx : (digits 10 b.data.toList).2 = 0) (hlo : ¬ (digits 10 b.data.toList).1 < 100) (hhi : 599 < (digits 10 b.data.toList).1) :
  Calls Tryz.prog 23 #[.pointer (some ⟨k, 0, none⟩), .string s] w (LinePost w F k (p, 80)) := by
 have HSp := Aside0.mk (fun W hG => split3_calls s a b c W (by omega) hG h3 hp)
 have HG := Aside0.mk hH.g
 have HR := Aside0.mk h
 obtain ⟨W1, hW1⟩ : ∃ W1, W1 = w.alloc (.cells #[.string a, .string b, .string c] 9) := ⟨_, rfl⟩
 have hB1 : Below w.heap.size w W1 := by rw [hW1]; exact below_alloc (Below.refl _ _) _
 have hbk : W1.heap[w.heap.size]? = some (.cells #[.string a, .string b, .string c] 9 (0, 0)) := by rw [hW1]; exact blk_new _ _
 have HB1 := Aside0.mk hB1
 have HBK := Aside0.mk hbk
 have HW1 := Aside0.mk hW1
 have HVa : Aside0 (∀ W', Calls Tryz.prog 31 #[.string ((⟨#[97]⟩ : ByteArray) ++ c ++ (⟨#[97]⟩ : ByteArray))] W' fun e w2 => e = .returned (.bool (value ([97] ++ c.data.toList ++ [97]))) ∧ Below W'.heap.size W' w2) := ⟨fun W' => value_calls _ _ W' (by simp only [ByteArray.size_append]; show 1 + c.size + 1 ≤ _; omega) (by simp [ByteArray.data_append])⟩
 have HNu : Aside0 (∀ W', GInv W' → Calls Tryz.prog 33 #[.string b] W' fun e w2 => e = .returned (.tuple #[.int .i64 (digits 10 b.data.toList).1, .int .i64 (digits 10 b.data.toList).2]) ∧ Below W'.heap.size W' w2) := ⟨fun W' hG => number_calls b _ _ W' (by omega) rfl hG⟩
 have HVe := Aside0.mk (fun W => version_calls a W)
 unfold verPost at HVe
 have hlt := h.lt
 have hca : (c.size : Int) ≤ 4294960000 := by omega
 have bl : ((b.size : Int) != 3) = false := by simpa using (show (b.size : Int) = 3 by omega)
 rw [hv] at HVa
 obtain ⟨m, hm⟩ : ∃ m, m = (versionS a.data.toList).1 := ⟨_, rfl⟩
 obtain ⟨er, her⟩ : ∃ er, er = (versionS a.data.toList).2 := ⟨_, rfl⟩
 rw [← hm, ← her] at HVe
 obtain ⟨N, hN⟩ : ∃ N, N = (digits 10 b.data.toList).1 := ⟨_, rfl⟩
 obtain ⟨f, hf⟩ : ∃ f, f = (digits 10 b.data.toList).2 := ⟨_, rfl⟩
 rw [← hN, ← hf] at HNu
 rw [← hf] at hx
 have bf : (f != 0) = false := by simpa using hx
 rw [← hN] at hlo hhi
 clear h hH hs h3 hp hsz hB1 hbk hW1 hl hv hm her hN hf hx
 go_enter Tryz.func23, Tryz.ntmps23
 go_wp2_with (first | (go_at_call 32; refine (refuse_calls _ _).mono ?_; rintro e w' ⟨rfl, rfl⟩) | (go_at_call 30; refine (HSp.out _ (GInv.below' HG (by repeat (first | exact Below.refl _ _ | apply below_drew1 | apply pw_below_drewN)))).mono ?_; rintro e w' ⟨m2, rfl, hw'⟩; rw [← HW1.out] at hw'; subst w'; have hc0 : W1.cell? ⟨w.heap.size, 0, none⟩ = some (.string a) := (blk_cell HBK.out 0).trans rfl; have hc1 : W1.cell? ⟨w.heap.size, 1, none⟩ = some (.string b) := (blk_cell HBK.out 1).trans rfl; have hc2 : W1.cell? ⟨w.heap.size, 2, none⟩ = some (.string c) := (blk_cell HBK.out 2).trans rfl) | (go_at_call 31; refine (HVa.out _).mono ?_; rintro e w2 ⟨rfl, hb⟩; have B2 := Aside0.mk (below_step HB1.out hb); have HK2 := Aside0.mk (blk_below HBK.out hb); clear hb; have hd1 : w2.cell? ⟨w.heap.size, 1, none⟩ = some (.string b) := (blk_cell HK2.out 1).trans rfl) | (go_at_call 33; refine (HNu.out _ (HG.out.below B2.out)).mono ?_; rintro e w3 ⟨rfl, hb⟩; have B3 := Aside0.mk (below_step B2.out hb); have HK3 := Aside0.mk (blk_below HK2.out hb); clear hb; have he0 : w3.cell? ⟨w.heap.size, 0, none⟩ = some (.string a) := (blk_cell HK3.out 0).trans rfl; have he2 : w3.cell? ⟨w.heap.size, 2, none⟩ = some (.string c) := (blk_cell HK3.out 2).trans rfl) | (go_at_call 34; refine (HVe.out _).mono ?_; rintro e w4 ⟨rfl, hw4⟩; subst w4))
 go_ret
 exact ⟨rfl, ⟨_, _, (HR.out.below B3.out).mono (fun _ hk => .inl hk)⟩, Stay.below B3.out⟩
set_option maxHeartbeats 4000000 in
set_option maxRecDepth 100000 in
theorem resp_go (w0 w : World) (F : Nat → Prop) (k : Nat) (vl vf : Value) (p : Par) (s : ByteArray) (h : Rep w F k vl vf p) (hH : Held w0 w F) (hs : s.size ≤ 4294960000) (a b c : ByteArray) (h3 : three s.data.toList = some (a.data.toList, b.data.toList, c.data.toList)) (hp : parts3 s = [a, b, c]) (hsz : a.size + b.size + c.size + 2 = s.size) (hl : b.size = 3) (hv : value ([97] ++ c.data.toList ++ [97]) = true) (hx : (digits 10 b.data.toList).2 = 0) (hlo : ¬ (digits 10 b.data.toList).1 < 100) (hhi : ¬ 599 < (digits 10 b.data.toList).1) :
  Calls Tryz.prog 23 #[.pointer (some ⟨k, 0, none⟩), .string s] w (LinePost w F k ({ p with hd := ⟨p.hd.f0, p.hd.f1, p.hd.f2, (versionS a.data.toList).1, (digits 10 b.data.toList).1, c, p.hd.f6⟩, st := 2 }, (versionS a.data.toList).2)) := by
 have HSp := Aside0.mk (fun W hG => split3_calls s a b c W (by omega) hG h3 hp)
 have HG := Aside0.mk hH.g
 have HR := Aside0.mk h
 obtain ⟨W1, hW1⟩ : ∃ W1, W1 = w.alloc (.cells #[.string a, .string b, .string c] 9) := ⟨_, rfl⟩
 have hB1 : Below w.heap.size w W1 := by rw [hW1]; exact below_alloc (Below.refl _ _) _
 have hbk : W1.heap[w.heap.size]? = some (.cells #[.string a, .string b, .string c] 9 (0, 0)) := by rw [hW1]; exact blk_new _ _
 have HB1 := Aside0.mk hB1
 have HBK := Aside0.mk hbk
 have HW1 := Aside0.mk hW1
 have HVa : Aside0 (∀ W', Calls Tryz.prog 31 #[.string ((⟨#[97]⟩ : ByteArray) ++ c ++ (⟨#[97]⟩ : ByteArray))] W' fun e w2 => e = .returned (.bool (value ([97] ++ c.data.toList ++ [97]))) ∧ Below W'.heap.size W' w2) := ⟨fun W' => value_calls _ _ W' (by simp only [ByteArray.size_append]; show 1 + c.size + 1 ≤ _; omega) (by simp [ByteArray.data_append])⟩
 have HNu : Aside0 (∀ W', GInv W' → Calls Tryz.prog 33 #[.string b] W' fun e w2 => e = .returned (.tuple #[.int .i64 (digits 10 b.data.toList).1, .int .i64 (digits 10 b.data.toList).2]) ∧ Below W'.heap.size W' w2) := ⟨fun W' hG => number_calls b _ _ W' (by omega) rfl hG⟩
 have HVe := Aside0.mk (fun W => version_calls a W)
 unfold verPost at HVe
 have hlt := h.lt
 have hca : (c.size : Int) ≤ 4294960000 := by omega
 have bl : ((b.size : Int) != 3) = false := by simpa using (show (b.size : Int) = 3 by omega)
 rw [hv] at HVa
 obtain ⟨m, hm⟩ : ∃ m, m = (versionS a.data.toList).1 := ⟨_, rfl⟩
 obtain ⟨er, her⟩ : ∃ er, er = (versionS a.data.toList).2 := ⟨_, rfl⟩
 rw [← hm, ← her] at HVe ⊢
 obtain ⟨N, hN⟩ : ∃ N, N = (digits 10 b.data.toList).1 := ⟨_, rfl⟩
 obtain ⟨f, hf⟩ : ∃ f, f = (digits 10 b.data.toList).2 := ⟨_, rfl⟩
 rw [← hN, ← hf] at HNu
 rw [← hN]
 rw [← hf] at hx
 have bf : (f != 0) = false := by simpa using hx
 rw [← hN] at hlo hhi
 clear h hH hs h3 hp hsz hB1 hbk hW1 hl hv hm her hN hf hx
 go_enter Tryz.func23, Tryz.ntmps23
 go_wp2_with (first | (go_at_call 32; refine (refuse_calls _ _).mono ?_; rintro e w' ⟨rfl, rfl⟩) | (go_at_call 30; refine (HSp.out _ (GInv.below' HG (by repeat (first | exact Below.refl _ _ | apply below_drew1 | apply pw_below_drewN)))).mono ?_; rintro e w' ⟨m2, rfl, hw'⟩; rw [← HW1.out] at hw'; subst w'; have hc0 : W1.cell? ⟨w.heap.size, 0, none⟩ = some (.string a) := (blk_cell HBK.out 0).trans rfl; have hc1 : W1.cell? ⟨w.heap.size, 1, none⟩ = some (.string b) := (blk_cell HBK.out 1).trans rfl; have hc2 : W1.cell? ⟨w.heap.size, 2, none⟩ = some (.string c) := (blk_cell HBK.out 2).trans rfl) | (go_at_call 31; refine (HVa.out _).mono ?_; rintro e w2 ⟨rfl, hb⟩; have B2 := Aside0.mk (below_step HB1.out hb); have HK2 := Aside0.mk (blk_below HBK.out hb); clear hb; have hd1 : w2.cell? ⟨w.heap.size, 1, none⟩ = some (.string b) := (blk_cell HK2.out 1).trans rfl) | (go_at_call 33; refine (HNu.out _ (HG.out.below B2.out)).mono ?_; rintro e w3 ⟨rfl, hb⟩; have B3 := Aside0.mk (below_step B2.out hb); have HK3 := Aside0.mk (blk_below HK2.out hb); clear hb; have he0 : w3.cell? ⟨w.heap.size, 0, none⟩ = some (.string a) := (blk_cell HK3.out 0).trans rfl; have he2 : w3.cell? ⟨w.heap.size, 2, none⟩ = some (.string c) := (blk_cell HK3.out 2).trans rfl) | (go_at_call 34; refine (HVe.out _).mono ?_; rintro e w4 ⟨rfl, hw4⟩; subst w4; have HR3 := Aside0.mk (HR.out.below B3.out); have hy8 : w3.cell? ⟨k, 8, none⟩ = some (.int .i64 p.hd.f3) := (blk_cell HR3.out.blk 8).trans rfl; have hf8 := blk_frozen HR3.out.blk 8; have hy9 : w3.cell? ⟨k, 9, none⟩ = some (.int .i64 p.hd.f4) := (blk_cell HR3.out.blk 9).trans rfl; have hf9 := blk_frozen HR3.out.blk 9; have hy10 : w3.cell? ⟨k, 10, none⟩ = some (.string p.hd.f5) := (blk_cell HR3.out.blk 10).trans rfl; have hf10 := blk_frozen HR3.out.blk 10; have hy4 : w3.cell? ⟨k, 4, none⟩ = some (.func (.func (stF p.st)) #[.pointer (some ⟨k, 0, none⟩)] #[]) := (blk_cell HR3.out.blk 4).trans rfl; have hf4 := blk_frozen HR3.out.blk 4))
 go_ret
 refine ⟨rfl, ⟨vl, vf, ?_⟩, ?_⟩
 ·refine Rep.mono ?_ (fun _ hk => .inl hk)
  have e1 := HR3.out.scal (i := 9) (v := .int .i64 N) (p' := { p with hd := ⟨p.hd.f0, p.hd.f1, p.hd.f2, p.hd.f3, N, p.hd.f5, p.hd.f6⟩ }) rfl rfl rfl
  have e2 := e1.scal (i := 10) (v := .string c) (p' := { p with hd := ⟨p.hd.f0, p.hd.f1, p.hd.f2, p.hd.f3, N, c, p.hd.f6⟩ }) rfl rfl rfl
  have e3 := e2.scal (i := 8) (v := .int .i64 m) (p' := { p with hd := ⟨p.hd.f0, p.hd.f1, p.hd.f2, m, N, c, p.hd.f6⟩ }) rfl rfl rfl
  have e4 := e3.scal (i := 4) (v := .func (.func (stF 2)) #[.pointer (some ⟨k, 0, none⟩)] #[]) (p' := { p with hd := ⟨p.hd.f0, p.hd.f1, p.hd.f2, m, N, c, p.hd.f6⟩, st := 2 }) rfl rfl rfl
  exact e4
 ·have s0 := Stay.below (F := F) B3.out
  have s1 := ((s0.set (p := ⟨k, 9, none⟩) HR.out.inF (.int .i64 N)).set (p := ⟨k, 10, none⟩) HR.out.inF (.string c)).set (p := ⟨k, 8, none⟩) HR.out.inF (.int .i64 m)
  exact s1.set (p := ⟨k, 4, none⟩) HR.out.inF _
theorem response_calls (w0 w : World) (F : Nat → Prop) (k : Nat) (vl vf : Value) (p : Par) (s : ByteArray) (h : Rep w F k vl vf p) (hH : Held w0 w F) (hs : s.size ≤ 4294960000) :
  Calls Tryz.prog 23 #[.pointer (some ⟨k, 0, none⟩), .string s] w (LinePost w F k (respS p s.data.toList)) := by
 unfold respS
 rcases three_cases s with ⟨h3, _, _⟩ | ⟨a, b, c, h3, hp, hsz, _, _⟩
 ·rw [h3]
  exact resp_no w0 w F k vl vf p s h hH hs h3
 ·rw [h3]
  show Calls _ _ _ _ (LinePost w F k (if ¬ b.data.toList.length = 3 ∨ value ([97] ++ c.data.toList ++ [97]) = false ∨ ¬ (digits 10 b.data.toList).2 = 0 ∨ (digits 10 b.data.toList).1 < 100 ∨ 599 < (digits 10 b.data.toList).1 then (p, 80) else ({ p with hd := ⟨p.hd.f0, p.hd.f1, p.hd.f2, (versionS a.data.toList).1, (digits 10 b.data.toList).1, mkB c.data.toList, p.hd.f6⟩, st := 2 }, (versionS a.data.toList).2)))
  rw [← sz, mkB_of]
  by_cases hl : b.size = 3
  ·cases hv : value ([97] ++ c.data.toList ++ [97]) with
   | false => rw [if_pos (.inr (.inl rfl))]; exact resp_val w0 w F k vl vf p s h hH hs a b c h3 hp hsz hl hv
   | true =>
    by_cases hx : (digits 10 b.data.toList).2 = 0
    ·by_cases hlo : (digits 10 b.data.toList).1 < 100
     ·rw [if_pos (.inr (.inr (.inr (.inl hlo))))]; exact resp_lo w0 w F k vl vf p s h hH hs a b c h3 hp hsz hl hv hx hlo
     ·by_cases hhi : 599 < (digits 10 b.data.toList).1
      ·rw [if_pos (.inr (.inr (.inr (.inr hhi))))]; exact resp_hi w0 w F k vl vf p s h hH hs a b c h3 hp hsz hl hv hx hlo hhi
      ·rw [if_neg (by simp only [hl, hx]; simp; omega)]; exact resp_go w0 w F k vl vf p s h hH hs a b c h3 hp hsz hl hv hx hlo hhi
    ·rw [if_pos (.inr (.inr (.inl hx)))]; exact resp_num w0 w F k vl vf p s h hH hs a b c h3 hp hsz hl hv hx
  ·rw [if_pos (.inl hl)]; exact resp_len w0 w F k vl vf p s h hH hs a b c h3 hp hsz hl
end Go.Proofs.YtmlgejgnjfbblaaGreatDoor.Hd
/- Package head, by hand: a field line; a line, whatever the state; own text of this session. -/
namespace Go.Proofs.YtmlgejgnjfbblaaGreatDoor.Hd
open Go.RowKit Go.Proofs.YtmlgejgnjfbblaaGreatDoorW.PrintWords Go.Proofs.YtmlgejgnjfbblaaGreatDoorW.PrintLast Chk Px Hr
set_option linter.unusedVariables false
set_option linter.unusedSimpArgs false
theorem blank_calls (c : UInt8) (n : Int) (hn : n = (c.toNat : Int)) (w : World) : Calls Tryz.prog 51 #[.int .u8 n] w fun e w' => e = .returned (.bool (isBlank c)) ∧ Below w.heap.size w w' := by
 subst hn
 have h : P.head_blank.f (c.toNat : Int) = some (isBlank c) := byte_of (fun c => P.head_blank.f (c.toNat : Int) = some (isBlank c)) (by decide +kernel) c
 exact (P.head_blank.calls _ _ w h).mono fun e w' h => ⟨h.1, h.2.below⟩
set_option maxHeartbeats 4000000 in
set_option maxRecDepth 100000 in
theorem fld_end (w0 w : World) (F : Nat → Prop) (k : Nat) (vl vf : Value) (p : Par) (s : ByteArray) (h : Rep w F k vl vf p) (hH : Held w0 w F) (hs : s.size ≤ 4294960000) (hse : s.size = 0) :
  Calls Tryz.prog 35 #[.pointer (some ⟨k, 0, none⟩), .string s] w (LinePost w F k ({ p with whole := true }, 0)) := by
 have hemp : s.toList.isEmpty = true := Lex.emptyB hse
 have hz12 : w.cell? ⟨k, 12, none⟩ = some (.bool p.whole) := (blk_cell h.blk 12).trans rfl
 have hf12 := blk_frozen h.blk 12
 have HR := Aside0.mk h
 clear h hH hs hse
 go_enter Tryz.func35, Tryz.ntmps35
 go_wp2
 go_ret
 exact ⟨rfl, ⟨vl, vf, (HR.out.scal (i := 12) (v := .bool true) (p' := { p with whole := true }) rfl rfl rfl).mono (fun _ hk => .inl hk)⟩, (Stay.refl _ _).set (p := ⟨k, 12, none⟩) HR.out.inF _⟩
theorem last_blank (l : Bs) (hl : ¬ l = []) (hq : (mkB l).size - 1 < (mkB l).size) (W : World) : Calls Tryz.prog 51 #[.int .u8 (((mkB l)[(mkB l).size - 1]'hq).toNat : Int)] W fun e w2 => e = .returned (.bool (lastBlank l)) ∧ Below W.heap.size W w2 := by
 have hlb : lastBlank l = isBlank (l.getLast hl) := by
  unfold lastBlank
  rcases List.eq_nil_or_concat l with h | ⟨l', c, h⟩
  ·exact absurd h hl
  ·subst h; simp
 have hb : (mkB l)[(mkB l).size - 1]'hq = l.getLast hl := by
  rw [← getB (mkB l) _ hq, mkB_data, mkB_size, List.getLast_eq_getElem, List.getD_eq_getElem?_getD, List.getElem?_eq_getElem (by have := List.length_pos_iff.2 hl; omega)]
  rfl
 rw [hlb]
 exact blank_calls _ _ (by rw [hb]) W
set_option maxHeartbeats 4000000 in
set_option maxRecDepth 100000 in
theorem fld_fold (w0 w : World) (F : Nat → Prop) (k : Nat) (vl vf : Value) (p : Par) (s : ByteArray) (h : Rep w F k vl vf p) (hH : Held w0 w F) (hs : s.size ≤ 4294960000) (hse : ¬ s.size = 0) (hp0 : 0 < s.size) (hb0 : isBlank (s.data.toList.getD 0 0) = true) :
  Calls Tryz.prog 35 #[.pointer (some ⟨k, 0, none⟩), .string s] w (LinePost w F k (p, 82)) := by
 have hemp : s.toList.isEmpty = false := Lex.emptyB_no hse
 have hs0 : (0 : Int) < (s.size : Int) := by omega
 have hcl := cut_len s.data.toList 58
 rw [← Px.sz] at hcl
 have htl : (Hr.trim (Lib.cut s.data.toList [58]).2.1).length ≤ (Lib.cut s.data.toList [58]).2.1.length := trim_len _
 have HCu : Aside0 (∀ W', GInv W' → Calls Tryz.prog 50 #[.string s, .string ⟨#[58]⟩] W' fun e w2 => e = .returned (.tuple #[.string (mkB (Lib.cut s.data.toList [58]).1), .string (mkB (Lib.cut s.data.toList [58]).2.1), .bool (Lib.cut s.data.toList [58]).2.2]) ∧ Below W'.heap.size W' w2) := ⟨fun W' hG => cut_calls s 58 W' (by omega) hG⟩
 have HTr : Aside0 (∀ W', Calls Tryz.prog 47 #[.string (mkB (Lib.cut s.data.toList [58]).2.1)] W' fun e w2 => e = .returned (.string (mkB (trim (Lib.cut s.data.toList [58]).2.1))) ∧ Below W'.heap.size W' w2) := ⟨fun W' => by have h5 := trim_calls (mkB (Lib.cut s.data.toList [58]).2.1) W' (by rw [mkB_size]; omega); rw [mkB_data] at h5; exact h5⟩
 have HTk : Aside0 (∀ W', Calls Tryz.prog 37 #[.string (mkB (Lib.cut s.data.toList [58]).1)] W' fun e w2 => e = .returned (.bool (token (Lib.cut s.data.toList [58]).1)) ∧ Below W'.heap.size W' w2) := ⟨fun W' => by have h5 := token_calls (mkB (Lib.cut s.data.toList [58]).1) W' (by rw [mkB_size]; omega); rw [mkB_data] at h5; exact h5⟩
 have HVa : Aside0 (∀ W', Calls Tryz.prog 31 #[.string (mkB (trim (Lib.cut s.data.toList [58]).2.1))] W' fun e w2 => e = .returned (.bool (value (trim (Lib.cut s.data.toList [58]).2.1))) ∧ Below W'.heap.size W' w2) := ⟨fun W' => value_calls _ _ W' (by rw [mkB_size]; omega) (by rw [mkB_data])⟩
 have HB0 : Aside0 (∀ W', Calls Tryz.prog 51 #[.int .u8 ((s[0]'hp0).toNat : Int)] W' fun e w2 => e = .returned (.bool (isBlank (s.data.toList.getD 0 0))) ∧ Below W'.heap.size W' w2) := ⟨fun W' => blank_calls _ _ (by rw [getB s 0 hp0]) W'⟩
 have HG := Aside0.mk hH.g
 have HR := Aside0.mk h
 have hasz : (mkB (Lib.cut s.data.toList [58]).1).size ≤ 4294960000 := by rw [mkB_size]; omega
 rw [hb0] at HB0
 clear h hH hs hse hcl htl
 generalize mkB (Lib.cut s.data.toList [58]).1 = a at *
 generalize mkB (trim (Lib.cut s.data.toList [58]).2.1) = t at *
 generalize mkB (Lib.cut s.data.toList [58]).2.1 = m at *
 go_enter Tryz.func35, Tryz.ntmps35
 go_wp2_with (first | (go_at_call 32; refine (refuse_calls _ _).mono ?_; rintro e w' ⟨rfl, rfl⟩) | (go_at_call 50; refine (HCu.out _ (GInv.below' HG (by repeat (first | exact Below.refl _ _ | apply below_drew1 | apply pw_below_drewN)))).mono ?_; rintro e w1 ⟨rfl, hb⟩; have B1 := Aside0.mk (below_step (by repeat (first | exact Below.refl _ _ | apply below_drew1 | apply pw_below_drewN)) hb); clear hb) | (go_at_call 47; refine (HTr.out _).mono ?_; rintro e w2 ⟨rfl, hb⟩; have B2 := Aside0.mk (below_step (by repeat (first | exact B1.out | apply below_drew1 | apply pw_below_drewN)) hb); clear hb) | (go_at_call 51; first | (with_reducible refine (HB0.out _).mono ?_; rintro e w3 ⟨rfl, hb⟩; have B3 := Aside0.mk (below_step (by repeat (first | exact B2.out | apply below_drew1 | apply pw_below_drewN)) hb); clear hb)))
 go_ret
 exact ⟨rfl, ⟨vl, vf, (HR.out.below (by repeat (first | exact B3.out | apply below_drew1 | apply pw_below_drewN))).mono (fun _ hk => .inl hk)⟩, Stay.below (by repeat (first | exact B3.out | apply below_drew1 | apply pw_below_drewN))⟩
set_option maxHeartbeats 4000000 in
set_option maxRecDepth 100000 in
theorem fld_colon (w0 w : World) (F : Nat → Prop) (k : Nat) (vl vf : Value) (p : Par) (s : ByteArray) (h : Rep w F k vl vf p) (hH : Held w0 w F) (hs : s.size ≤ 4294960000) (hse : ¬ s.size = 0) (hp0 : 0 < s.size) (hb0 : isBlank (s.data.toList.getD 0 0) = false) (hok : (Lib.cut s.data.toList [58]).2.2 = false) :
  Calls Tryz.prog 35 #[.pointer (some ⟨k, 0, none⟩), .string s] w (LinePost w F k (p, 84)) := by
 have hemp : s.toList.isEmpty = false := Lex.emptyB_no hse
 have hs0 : (0 : Int) < (s.size : Int) := by omega
 have hcl := cut_len s.data.toList 58
 rw [← Px.sz] at hcl
 have htl : (Hr.trim (Lib.cut s.data.toList [58]).2.1).length ≤ (Lib.cut s.data.toList [58]).2.1.length := trim_len _
 have HCu : Aside0 (∀ W', GInv W' → Calls Tryz.prog 50 #[.string s, .string ⟨#[58]⟩] W' fun e w2 => e = .returned (.tuple #[.string (mkB (Lib.cut s.data.toList [58]).1), .string (mkB (Lib.cut s.data.toList [58]).2.1), .bool (Lib.cut s.data.toList [58]).2.2]) ∧ Below W'.heap.size W' w2) := ⟨fun W' hG => cut_calls s 58 W' (by omega) hG⟩
 have HTr : Aside0 (∀ W', Calls Tryz.prog 47 #[.string (mkB (Lib.cut s.data.toList [58]).2.1)] W' fun e w2 => e = .returned (.string (mkB (trim (Lib.cut s.data.toList [58]).2.1))) ∧ Below W'.heap.size W' w2) := ⟨fun W' => by have h5 := trim_calls (mkB (Lib.cut s.data.toList [58]).2.1) W' (by rw [mkB_size]; omega); rw [mkB_data] at h5; exact h5⟩
 have HTk : Aside0 (∀ W', Calls Tryz.prog 37 #[.string (mkB (Lib.cut s.data.toList [58]).1)] W' fun e w2 => e = .returned (.bool (token (Lib.cut s.data.toList [58]).1)) ∧ Below W'.heap.size W' w2) := ⟨fun W' => by have h5 := token_calls (mkB (Lib.cut s.data.toList [58]).1) W' (by rw [mkB_size]; omega); rw [mkB_data] at h5; exact h5⟩
 have HVa : Aside0 (∀ W', Calls Tryz.prog 31 #[.string (mkB (trim (Lib.cut s.data.toList [58]).2.1))] W' fun e w2 => e = .returned (.bool (value (trim (Lib.cut s.data.toList [58]).2.1))) ∧ Below W'.heap.size W' w2) := ⟨fun W' => value_calls _ _ W' (by rw [mkB_size]; omega) (by rw [mkB_data])⟩
 have HB0 : Aside0 (∀ W', Calls Tryz.prog 51 #[.int .u8 ((s[0]'hp0).toNat : Int)] W' fun e w2 => e = .returned (.bool (isBlank (s.data.toList.getD 0 0))) ∧ Below W'.heap.size W' w2) := ⟨fun W' => blank_calls _ _ (by rw [getB s 0 hp0]) W'⟩
 have HG := Aside0.mk hH.g
 have HR := Aside0.mk h
 have hasz : (mkB (Lib.cut s.data.toList [58]).1).size ≤ 4294960000 := by rw [mkB_size]; omega
 rw [hb0] at HB0
 rw [hok] at HCu
 clear h hH hs hse hcl htl
 generalize mkB (Lib.cut s.data.toList [58]).1 = a at *
 generalize mkB (trim (Lib.cut s.data.toList [58]).2.1) = t at *
 generalize mkB (Lib.cut s.data.toList [58]).2.1 = m at *
 go_enter Tryz.func35, Tryz.ntmps35
 go_wp2_with (first | (go_at_call 32; refine (refuse_calls _ _).mono ?_; rintro e w' ⟨rfl, rfl⟩) | (go_at_call 50; refine (HCu.out _ (GInv.below' HG (by repeat (first | exact Below.refl _ _ | apply below_drew1 | apply pw_below_drewN)))).mono ?_; rintro e w1 ⟨rfl, hb⟩; have B1 := Aside0.mk (below_step (by repeat (first | exact Below.refl _ _ | apply below_drew1 | apply pw_below_drewN)) hb); clear hb) | (go_at_call 47; refine (HTr.out _).mono ?_; rintro e w2 ⟨rfl, hb⟩; have B2 := Aside0.mk (below_step (by repeat (first | exact B1.out | apply below_drew1 | apply pw_below_drewN)) hb); clear hb) | (go_at_call 51; first | (with_reducible refine (HB0.out _).mono ?_; rintro e w3 ⟨rfl, hb⟩; have B3 := Aside0.mk (below_step (by repeat (first | exact B2.out | apply below_drew1 | apply pw_below_drewN)) hb); clear hb)))
 go_ret
 exact ⟨rfl, ⟨vl, vf, (HR.out.below (by repeat (first | exact B3.out | apply below_drew1 | apply pw_below_drewN))).mono (fun _ hk => .inl hk)⟩, Stay.below (by repeat (first | exact B3.out | apply below_drew1 | apply pw_below_drewN))⟩
set_option maxHeartbeats 4000000 in
set_option maxRecDepth 100000 in
theorem fld_space (w0 w : World) (F : Nat → Prop) (k : Nat) (vl vf : Value) (p : Par) (s : ByteArray) (h : Rep w F k vl vf p) (hH : Held w0 w F) (hs : s.size ≤ 4294960000) (hse : ¬ s.size = 0) (hp0 : 0 < s.size) (hb0 : isBlank (s.data.toList.getD 0 0) = false) (hok : (Lib.cut s.data.toList [58]).2.2 = true) (ha : ¬ (Lib.cut s.data.toList [58]).1 = []) (hlb : lastBlank (Lib.cut s.data.toList [58]).1 = true) :
  Calls Tryz.prog 35 #[.pointer (some ⟨k, 0, none⟩), .string s] w (LinePost w F k (p, 83)) := by
 have hemp : s.toList.isEmpty = false := Lex.emptyB_no hse
 have hs0 : (0 : Int) < (s.size : Int) := by omega
 have hcl := cut_len s.data.toList 58
 rw [← Px.sz] at hcl
 have htl : (Hr.trim (Lib.cut s.data.toList [58]).2.1).length ≤ (Lib.cut s.data.toList [58]).2.1.length := trim_len _
 have HCu : Aside0 (∀ W', GInv W' → Calls Tryz.prog 50 #[.string s, .string ⟨#[58]⟩] W' fun e w2 => e = .returned (.tuple #[.string (mkB (Lib.cut s.data.toList [58]).1), .string (mkB (Lib.cut s.data.toList [58]).2.1), .bool (Lib.cut s.data.toList [58]).2.2]) ∧ Below W'.heap.size W' w2) := ⟨fun W' hG => cut_calls s 58 W' (by omega) hG⟩
 have HTr : Aside0 (∀ W', Calls Tryz.prog 47 #[.string (mkB (Lib.cut s.data.toList [58]).2.1)] W' fun e w2 => e = .returned (.string (mkB (trim (Lib.cut s.data.toList [58]).2.1))) ∧ Below W'.heap.size W' w2) := ⟨fun W' => by have h5 := trim_calls (mkB (Lib.cut s.data.toList [58]).2.1) W' (by rw [mkB_size]; omega); rw [mkB_data] at h5; exact h5⟩
 have HTk : Aside0 (∀ W', Calls Tryz.prog 37 #[.string (mkB (Lib.cut s.data.toList [58]).1)] W' fun e w2 => e = .returned (.bool (token (Lib.cut s.data.toList [58]).1)) ∧ Below W'.heap.size W' w2) := ⟨fun W' => by have h5 := token_calls (mkB (Lib.cut s.data.toList [58]).1) W' (by rw [mkB_size]; omega); rw [mkB_data] at h5; exact h5⟩
 have HVa : Aside0 (∀ W', Calls Tryz.prog 31 #[.string (mkB (trim (Lib.cut s.data.toList [58]).2.1))] W' fun e w2 => e = .returned (.bool (value (trim (Lib.cut s.data.toList [58]).2.1))) ∧ Below W'.heap.size W' w2) := ⟨fun W' => value_calls _ _ W' (by rw [mkB_size]; omega) (by rw [mkB_data])⟩
 have HB0 : Aside0 (∀ W', Calls Tryz.prog 51 #[.int .u8 ((s[0]'hp0).toNat : Int)] W' fun e w2 => e = .returned (.bool (isBlank (s.data.toList.getD 0 0))) ∧ Below W'.heap.size W' w2) := ⟨fun W' => blank_calls _ _ (by rw [getB s 0 hp0]) W'⟩
 have HG := Aside0.mk hH.g
 have HR := Aside0.mk h
 have hasz : (mkB (Lib.cut s.data.toList [58]).1).size ≤ 4294960000 := by rw [mkB_size]; omega
 have hna : (mkB (Lib.cut s.data.toList [58]).1).toList.isEmpty = false := Lex.emptyB_no (by rw [mkB_size]; exact fun h5 => ha (List.length_eq_zero_iff.1 h5))
 have hpos : 0 < (mkB (Lib.cut s.data.toList [58]).1).size := by rw [mkB_size]; exact List.length_pos_iff.2 ha
 have hi0 : (0 : Int) ≤ ((mkB (Lib.cut s.data.toList [58]).1).size : Int) - 1 := by omega
 have hi1 : ((mkB (Lib.cut s.data.toList [58]).1).size : Int) - 1 < ((mkB (Lib.cut s.data.toList [58]).1).size : Int) := by omega
 have hq : (mkB (Lib.cut s.data.toList [58]).1).size - 1 < (mkB (Lib.cut s.data.toList [58]).1).size := by omega
 have HB1 : Aside0 (∀ W', Calls Tryz.prog 51 #[.int .u8 (((mkB (Lib.cut s.data.toList [58]).1)[(mkB (Lib.cut s.data.toList [58]).1).size - 1]'hq).toNat : Int)] W' fun e w2 => e = .returned (.bool (lastBlank (Lib.cut s.data.toList [58]).1)) ∧ Below W'.heap.size W' w2) := ⟨fun W' => last_blank _ ha hq W'⟩
 rw [hb0] at HB0
 rw [hok] at HCu
 rw [hlb] at HB1
 clear h hH hs hse hcl htl
 generalize mkB (Lib.cut s.data.toList [58]).1 = a at *
 generalize mkB (trim (Lib.cut s.data.toList [58]).2.1) = t at *
 generalize mkB (Lib.cut s.data.toList [58]).2.1 = m at *
 go_enter Tryz.func35, Tryz.ntmps35
 go_wp2_with (first | (go_at_call 32; refine (refuse_calls _ _).mono ?_; rintro e w' ⟨rfl, rfl⟩) | (go_at_call 50; refine (HCu.out _ (GInv.below' HG (by repeat (first | exact Below.refl _ _ | apply below_drew1 | apply pw_below_drewN)))).mono ?_; rintro e w1 ⟨rfl, hb⟩; have B1 := Aside0.mk (below_step (by repeat (first | exact Below.refl _ _ | apply below_drew1 | apply pw_below_drewN)) hb); clear hb) | (go_at_call 47; refine (HTr.out _).mono ?_; rintro e w2 ⟨rfl, hb⟩; have B2 := Aside0.mk (below_step (by repeat (first | exact B1.out | apply below_drew1 | apply pw_below_drewN)) hb); clear hb) | (go_at_call 51; first | (with_reducible refine (HB0.out _).mono ?_; rintro e w3 ⟨rfl, hb⟩; have B3 := Aside0.mk (below_step (by repeat (first | exact B2.out | apply below_drew1 | apply pw_below_drewN)) hb); clear hb) | (with_reducible refine (HB1.out _).mono ?_; rintro e w4 ⟨rfl, hb⟩; have B4 := Aside0.mk (below_step (by repeat (first | exact B3.out | apply below_drew1 | apply pw_below_drewN)) hb); clear hb)))
 go_ret
 exact ⟨rfl, ⟨vl, vf, (HR.out.below (by repeat (first | exact B4.out | apply below_drew1 | apply pw_below_drewN))).mono (fun _ hk => .inl hk)⟩, Stay.below (by repeat (first | exact B4.out | apply below_drew1 | apply pw_below_drewN))⟩
set_option maxHeartbeats 4000000 in
set_option maxRecDepth 100000 in
theorem fld_name_e (w0 w : World) (F : Nat → Prop) (k : Nat) (vl vf : Value) (p : Par) (s : ByteArray) (h : Rep w F k vl vf p) (hH : Held w0 w F) (hs : s.size ≤ 4294960000) (hse : ¬ s.size = 0) (hp0 : 0 < s.size) (hb0 : isBlank (s.data.toList.getD 0 0) = false) (hok : (Lib.cut s.data.toList [58]).2.2 = true) (ha : (Lib.cut s.data.toList [58]).1 = []) (htk : token (Lib.cut s.data.toList [58]).1 = false) :
  Calls Tryz.prog 35 #[.pointer (some ⟨k, 0, none⟩), .string s] w (LinePost w F k (p, 70)) := by
 have hemp : s.toList.isEmpty = false := Lex.emptyB_no hse
 have hs0 : (0 : Int) < (s.size : Int) := by omega
 have hcl := cut_len s.data.toList 58
 rw [← Px.sz] at hcl
 have htl : (Hr.trim (Lib.cut s.data.toList [58]).2.1).length ≤ (Lib.cut s.data.toList [58]).2.1.length := trim_len _
 have HCu : Aside0 (∀ W', GInv W' → Calls Tryz.prog 50 #[.string s, .string ⟨#[58]⟩] W' fun e w2 => e = .returned (.tuple #[.string (mkB (Lib.cut s.data.toList [58]).1), .string (mkB (Lib.cut s.data.toList [58]).2.1), .bool (Lib.cut s.data.toList [58]).2.2]) ∧ Below W'.heap.size W' w2) := ⟨fun W' hG => cut_calls s 58 W' (by omega) hG⟩
 have HTr : Aside0 (∀ W', Calls Tryz.prog 47 #[.string (mkB (Lib.cut s.data.toList [58]).2.1)] W' fun e w2 => e = .returned (.string (mkB (trim (Lib.cut s.data.toList [58]).2.1))) ∧ Below W'.heap.size W' w2) := ⟨fun W' => by have h5 := trim_calls (mkB (Lib.cut s.data.toList [58]).2.1) W' (by rw [mkB_size]; omega); rw [mkB_data] at h5; exact h5⟩
 have HTk : Aside0 (∀ W', Calls Tryz.prog 37 #[.string (mkB (Lib.cut s.data.toList [58]).1)] W' fun e w2 => e = .returned (.bool (token (Lib.cut s.data.toList [58]).1)) ∧ Below W'.heap.size W' w2) := ⟨fun W' => by have h5 := token_calls (mkB (Lib.cut s.data.toList [58]).1) W' (by rw [mkB_size]; omega); rw [mkB_data] at h5; exact h5⟩
 have HVa : Aside0 (∀ W', Calls Tryz.prog 31 #[.string (mkB (trim (Lib.cut s.data.toList [58]).2.1))] W' fun e w2 => e = .returned (.bool (value (trim (Lib.cut s.data.toList [58]).2.1))) ∧ Below W'.heap.size W' w2) := ⟨fun W' => value_calls _ _ W' (by rw [mkB_size]; omega) (by rw [mkB_data])⟩
 have HB0 : Aside0 (∀ W', Calls Tryz.prog 51 #[.int .u8 ((s[0]'hp0).toNat : Int)] W' fun e w2 => e = .returned (.bool (isBlank (s.data.toList.getD 0 0))) ∧ Below W'.heap.size W' w2) := ⟨fun W' => blank_calls _ _ (by rw [getB s 0 hp0]) W'⟩
 have HG := Aside0.mk hH.g
 have HR := Aside0.mk h
 have hasz : (mkB (Lib.cut s.data.toList [58]).1).size ≤ 4294960000 := by rw [mkB_size]; omega
 have hna : (mkB (Lib.cut s.data.toList [58]).1).toList.isEmpty = true := Lex.emptyB (by rw [mkB_size, ha]; rfl)
 rw [hb0] at HB0
 rw [hok] at HCu
 rw [htk] at HTk
 clear h hH hs hse hcl htl
 generalize mkB (Lib.cut s.data.toList [58]).1 = a at *
 generalize mkB (trim (Lib.cut s.data.toList [58]).2.1) = t at *
 generalize mkB (Lib.cut s.data.toList [58]).2.1 = m at *
 go_enter Tryz.func35, Tryz.ntmps35
 go_wp2_with (first | (go_at_call 32; refine (refuse_calls _ _).mono ?_; rintro e w' ⟨rfl, rfl⟩) | (go_at_call 50; refine (HCu.out _ (GInv.below' HG (by repeat (first | exact Below.refl _ _ | apply below_drew1 | apply pw_below_drewN)))).mono ?_; rintro e w1 ⟨rfl, hb⟩; have B1 := Aside0.mk (below_step (by repeat (first | exact Below.refl _ _ | apply below_drew1 | apply pw_below_drewN)) hb); clear hb) | (go_at_call 47; refine (HTr.out _).mono ?_; rintro e w2 ⟨rfl, hb⟩; have B2 := Aside0.mk (below_step (by repeat (first | exact B1.out | apply below_drew1 | apply pw_below_drewN)) hb); clear hb) | (go_at_call 51; first | (with_reducible refine (HB0.out _).mono ?_; rintro e w3 ⟨rfl, hb⟩; have B3 := Aside0.mk (below_step (by repeat (first | exact B2.out | apply below_drew1 | apply pw_below_drewN)) hb); clear hb)) | (go_at_call 37; refine (HTk.out _).mono ?_; rintro e w5 ⟨rfl, hb⟩; have B5 := Aside0.mk (below_step (by repeat (first | exact B3.out | apply below_drew1 | apply pw_below_drewN)) hb); clear hb))
 go_ret
 exact ⟨rfl, ⟨vl, vf, (HR.out.below (by repeat (first | exact B5.out | apply below_drew1 | apply pw_below_drewN))).mono (fun _ hk => .inl hk)⟩, Stay.below (by repeat (first | exact B5.out | apply below_drew1 | apply pw_below_drewN))⟩
set_option maxHeartbeats 4000000 in
set_option maxRecDepth 100000 in
theorem fld_name (w0 w : World) (F : Nat → Prop) (k : Nat) (vl vf : Value) (p : Par) (s : ByteArray) (h : Rep w F k vl vf p) (hH : Held w0 w F) (hs : s.size ≤ 4294960000) (hse : ¬ s.size = 0) (hp0 : 0 < s.size) (hb0 : isBlank (s.data.toList.getD 0 0) = false) (hok : (Lib.cut s.data.toList [58]).2.2 = true) (ha : ¬ (Lib.cut s.data.toList [58]).1 = []) (hlb : lastBlank (Lib.cut s.data.toList [58]).1 = false) (htk : token (Lib.cut s.data.toList [58]).1 = false) :
  Calls Tryz.prog 35 #[.pointer (some ⟨k, 0, none⟩), .string s] w (LinePost w F k (p, 70)) := by
 have hemp : s.toList.isEmpty = false := Lex.emptyB_no hse
 have hs0 : (0 : Int) < (s.size : Int) := by omega
 have hcl := cut_len s.data.toList 58
 rw [← Px.sz] at hcl
 have htl : (Hr.trim (Lib.cut s.data.toList [58]).2.1).length ≤ (Lib.cut s.data.toList [58]).2.1.length := trim_len _
 have HCu : Aside0 (∀ W', GInv W' → Calls Tryz.prog 50 #[.string s, .string ⟨#[58]⟩] W' fun e w2 => e = .returned (.tuple #[.string (mkB (Lib.cut s.data.toList [58]).1), .string (mkB (Lib.cut s.data.toList [58]).2.1), .bool (Lib.cut s.data.toList [58]).2.2]) ∧ Below W'.heap.size W' w2) := ⟨fun W' hG => cut_calls s 58 W' (by omega) hG⟩
 have HTr : Aside0 (∀ W', Calls Tryz.prog 47 #[.string (mkB (Lib.cut s.data.toList [58]).2.1)] W' fun e w2 => e = .returned (.string (mkB (trim (Lib.cut s.data.toList [58]).2.1))) ∧ Below W'.heap.size W' w2) := ⟨fun W' => by have h5 := trim_calls (mkB (Lib.cut s.data.toList [58]).2.1) W' (by rw [mkB_size]; omega); rw [mkB_data] at h5; exact h5⟩
 have HTk : Aside0 (∀ W', Calls Tryz.prog 37 #[.string (mkB (Lib.cut s.data.toList [58]).1)] W' fun e w2 => e = .returned (.bool (token (Lib.cut s.data.toList [58]).1)) ∧ Below W'.heap.size W' w2) := ⟨fun W' => by have h5 := token_calls (mkB (Lib.cut s.data.toList [58]).1) W' (by rw [mkB_size]; omega); rw [mkB_data] at h5; exact h5⟩
 have HVa : Aside0 (∀ W', Calls Tryz.prog 31 #[.string (mkB (trim (Lib.cut s.data.toList [58]).2.1))] W' fun e w2 => e = .returned (.bool (value (trim (Lib.cut s.data.toList [58]).2.1))) ∧ Below W'.heap.size W' w2) := ⟨fun W' => value_calls _ _ W' (by rw [mkB_size]; omega) (by rw [mkB_data])⟩
 have HB0 : Aside0 (∀ W', Calls Tryz.prog 51 #[.int .u8 ((s[0]'hp0).toNat : Int)] W' fun e w2 => e = .returned (.bool (isBlank (s.data.toList.getD 0 0))) ∧ Below W'.heap.size W' w2) := ⟨fun W' => blank_calls _ _ (by rw [getB s 0 hp0]) W'⟩
 have HG := Aside0.mk hH.g
 have HR := Aside0.mk h
 have hasz : (mkB (Lib.cut s.data.toList [58]).1).size ≤ 4294960000 := by rw [mkB_size]; omega
 have hna : (mkB (Lib.cut s.data.toList [58]).1).toList.isEmpty = false := Lex.emptyB_no (by rw [mkB_size]; exact fun h5 => ha (List.length_eq_zero_iff.1 h5))
 have hpos : 0 < (mkB (Lib.cut s.data.toList [58]).1).size := by rw [mkB_size]; exact List.length_pos_iff.2 ha
 have hi0 : (0 : Int) ≤ ((mkB (Lib.cut s.data.toList [58]).1).size : Int) - 1 := by omega
 have hi1 : ((mkB (Lib.cut s.data.toList [58]).1).size : Int) - 1 < ((mkB (Lib.cut s.data.toList [58]).1).size : Int) := by omega
 have hq : (mkB (Lib.cut s.data.toList [58]).1).size - 1 < (mkB (Lib.cut s.data.toList [58]).1).size := by omega
 have HB1 : Aside0 (∀ W', Calls Tryz.prog 51 #[.int .u8 (((mkB (Lib.cut s.data.toList [58]).1)[(mkB (Lib.cut s.data.toList [58]).1).size - 1]'hq).toNat : Int)] W' fun e w2 => e = .returned (.bool (lastBlank (Lib.cut s.data.toList [58]).1)) ∧ Below W'.heap.size W' w2) := ⟨fun W' => last_blank _ ha hq W'⟩
 rw [hb0] at HB0
 rw [hok] at HCu
 rw [hlb] at HB1
 rw [htk] at HTk
 clear h hH hs hse hcl htl
 generalize mkB (Lib.cut s.data.toList [58]).1 = a at *
 generalize mkB (trim (Lib.cut s.data.toList [58]).2.1) = t at *
 generalize mkB (Lib.cut s.data.toList [58]).2.1 = m at *
 go_enter Tryz.func35, Tryz.ntmps35
 go_wp2_with (first | (go_at_call 32; refine (refuse_calls _ _).mono ?_; rintro e w' ⟨rfl, rfl⟩) | (go_at_call 50; refine (HCu.out _ (GInv.below' HG (by repeat (first | exact Below.refl _ _ | apply below_drew1 | apply pw_below_drewN)))).mono ?_; rintro e w1 ⟨rfl, hb⟩; have B1 := Aside0.mk (below_step (by repeat (first | exact Below.refl _ _ | apply below_drew1 | apply pw_below_drewN)) hb); clear hb) | (go_at_call 47; refine (HTr.out _).mono ?_; rintro e w2 ⟨rfl, hb⟩; have B2 := Aside0.mk (below_step (by repeat (first | exact B1.out | apply below_drew1 | apply pw_below_drewN)) hb); clear hb) | (go_at_call 51; first | (with_reducible refine (HB0.out _).mono ?_; rintro e w3 ⟨rfl, hb⟩; have B3 := Aside0.mk (below_step (by repeat (first | exact B2.out | apply below_drew1 | apply pw_below_drewN)) hb); clear hb) | (with_reducible refine (HB1.out _).mono ?_; rintro e w4 ⟨rfl, hb⟩; have B4 := Aside0.mk (below_step (by repeat (first | exact B3.out | apply below_drew1 | apply pw_below_drewN)) hb); clear hb)) | (go_at_call 37; refine (HTk.out _).mono ?_; rintro e w5 ⟨rfl, hb⟩; have B5 := Aside0.mk (below_step (by repeat (first | exact B4.out | apply below_drew1 | apply pw_below_drewN)) hb); clear hb))
 go_ret
 exact ⟨rfl, ⟨vl, vf, (HR.out.below (by repeat (first | exact B5.out | apply below_drew1 | apply pw_below_drewN))).mono (fun _ hk => .inl hk)⟩, Stay.below (by repeat (first | exact B5.out | apply below_drew1 | apply pw_below_drewN))⟩
set_option maxHeartbeats 4000000 in
set_option maxRecDepth 100000 in
theorem fld_value (w0 w : World) (F : Nat → Prop) (k : Nat) (vl vf : Value) (p : Par) (s : ByteArray) (h : Rep w F k vl vf p) (hH : Held w0 w F) (hs : s.size ≤ 4294960000) (hse : ¬ s.size = 0) (hp0 : 0 < s.size) (hb0 : isBlank (s.data.toList.getD 0 0) = false) (hok : (Lib.cut s.data.toList [58]).2.2 = true) (ha : ¬ (Lib.cut s.data.toList [58]).1 = []) (hlb : lastBlank (Lib.cut s.data.toList [58]).1 = false) (htk : token (Lib.cut s.data.toList [58]).1 = true) (hvl : value (trim (Lib.cut s.data.toList [58]).2.1) = false) :
  Calls Tryz.prog 35 #[.pointer (some ⟨k, 0, none⟩), .string s] w (LinePost w F k (p, 71)) := by
 have hemp : s.toList.isEmpty = false := Lex.emptyB_no hse
 have hs0 : (0 : Int) < (s.size : Int) := by omega
 have hcl := cut_len s.data.toList 58
 rw [← Px.sz] at hcl
 have htl : (Hr.trim (Lib.cut s.data.toList [58]).2.1).length ≤ (Lib.cut s.data.toList [58]).2.1.length := trim_len _
 have HCu : Aside0 (∀ W', GInv W' → Calls Tryz.prog 50 #[.string s, .string ⟨#[58]⟩] W' fun e w2 => e = .returned (.tuple #[.string (mkB (Lib.cut s.data.toList [58]).1), .string (mkB (Lib.cut s.data.toList [58]).2.1), .bool (Lib.cut s.data.toList [58]).2.2]) ∧ Below W'.heap.size W' w2) := ⟨fun W' hG => cut_calls s 58 W' (by omega) hG⟩
 have HTr : Aside0 (∀ W', Calls Tryz.prog 47 #[.string (mkB (Lib.cut s.data.toList [58]).2.1)] W' fun e w2 => e = .returned (.string (mkB (trim (Lib.cut s.data.toList [58]).2.1))) ∧ Below W'.heap.size W' w2) := ⟨fun W' => by have h5 := trim_calls (mkB (Lib.cut s.data.toList [58]).2.1) W' (by rw [mkB_size]; omega); rw [mkB_data] at h5; exact h5⟩
 have HTk : Aside0 (∀ W', Calls Tryz.prog 37 #[.string (mkB (Lib.cut s.data.toList [58]).1)] W' fun e w2 => e = .returned (.bool (token (Lib.cut s.data.toList [58]).1)) ∧ Below W'.heap.size W' w2) := ⟨fun W' => by have h5 := token_calls (mkB (Lib.cut s.data.toList [58]).1) W' (by rw [mkB_size]; omega); rw [mkB_data] at h5; exact h5⟩
 have HVa : Aside0 (∀ W', Calls Tryz.prog 31 #[.string (mkB (trim (Lib.cut s.data.toList [58]).2.1))] W' fun e w2 => e = .returned (.bool (value (trim (Lib.cut s.data.toList [58]).2.1))) ∧ Below W'.heap.size W' w2) := ⟨fun W' => value_calls _ _ W' (by rw [mkB_size]; omega) (by rw [mkB_data])⟩
 have HB0 : Aside0 (∀ W', Calls Tryz.prog 51 #[.int .u8 ((s[0]'hp0).toNat : Int)] W' fun e w2 => e = .returned (.bool (isBlank (s.data.toList.getD 0 0))) ∧ Below W'.heap.size W' w2) := ⟨fun W' => blank_calls _ _ (by rw [getB s 0 hp0]) W'⟩
 have HG := Aside0.mk hH.g
 have HR := Aside0.mk h
 have hasz : (mkB (Lib.cut s.data.toList [58]).1).size ≤ 4294960000 := by rw [mkB_size]; omega
 have hna : (mkB (Lib.cut s.data.toList [58]).1).toList.isEmpty = false := Lex.emptyB_no (by rw [mkB_size]; exact fun h5 => ha (List.length_eq_zero_iff.1 h5))
 have hpos : 0 < (mkB (Lib.cut s.data.toList [58]).1).size := by rw [mkB_size]; exact List.length_pos_iff.2 ha
 have hi0 : (0 : Int) ≤ ((mkB (Lib.cut s.data.toList [58]).1).size : Int) - 1 := by omega
 have hi1 : ((mkB (Lib.cut s.data.toList [58]).1).size : Int) - 1 < ((mkB (Lib.cut s.data.toList [58]).1).size : Int) := by omega
 have hq : (mkB (Lib.cut s.data.toList [58]).1).size - 1 < (mkB (Lib.cut s.data.toList [58]).1).size := by omega
 have HB1 : Aside0 (∀ W', Calls Tryz.prog 51 #[.int .u8 (((mkB (Lib.cut s.data.toList [58]).1)[(mkB (Lib.cut s.data.toList [58]).1).size - 1]'hq).toNat : Int)] W' fun e w2 => e = .returned (.bool (lastBlank (Lib.cut s.data.toList [58]).1)) ∧ Below W'.heap.size W' w2) := ⟨fun W' => last_blank _ ha hq W'⟩
 rw [hb0] at HB0
 rw [hok] at HCu
 rw [hlb] at HB1
 rw [htk] at HTk
 rw [hvl] at HVa
 clear h hH hs hse hcl htl
 generalize mkB (Lib.cut s.data.toList [58]).1 = a at *
 generalize mkB (trim (Lib.cut s.data.toList [58]).2.1) = t at *
 generalize mkB (Lib.cut s.data.toList [58]).2.1 = m at *
 go_enter Tryz.func35, Tryz.ntmps35
 go_wp2_with (first | (go_at_call 32; refine (refuse_calls _ _).mono ?_; rintro e w' ⟨rfl, rfl⟩) | (go_at_call 50; refine (HCu.out _ (GInv.below' HG (by repeat (first | exact Below.refl _ _ | apply below_drew1 | apply pw_below_drewN)))).mono ?_; rintro e w1 ⟨rfl, hb⟩; have B1 := Aside0.mk (below_step (by repeat (first | exact Below.refl _ _ | apply below_drew1 | apply pw_below_drewN)) hb); clear hb) | (go_at_call 47; refine (HTr.out _).mono ?_; rintro e w2 ⟨rfl, hb⟩; have B2 := Aside0.mk (below_step (by repeat (first | exact B1.out | apply below_drew1 | apply pw_below_drewN)) hb); clear hb) | (go_at_call 51; first | (with_reducible refine (HB0.out _).mono ?_; rintro e w3 ⟨rfl, hb⟩; have B3 := Aside0.mk (below_step (by repeat (first | exact B2.out | apply below_drew1 | apply pw_below_drewN)) hb); clear hb) | (with_reducible refine (HB1.out _).mono ?_; rintro e w4 ⟨rfl, hb⟩; have B4 := Aside0.mk (below_step (by repeat (first | exact B3.out | apply below_drew1 | apply pw_below_drewN)) hb); clear hb)) | (go_at_call 37; refine (HTk.out _).mono ?_; rintro e w5 ⟨rfl, hb⟩; have B5 := Aside0.mk (below_step (by repeat (first | exact B4.out | apply below_drew1 | apply pw_below_drewN)) hb); clear hb) | (go_at_call 31; refine (HVa.out _).mono ?_; rintro e w6 ⟨rfl, hb⟩; have B6 := Aside0.mk (below_step (by repeat (first | exact B5.out | apply below_drew1 | apply pw_below_drewN)) hb); clear hb))
 go_ret
 exact ⟨rfl, ⟨vl, vf, (HR.out.below (by repeat (first | exact B6.out | apply below_drew1 | apply pw_below_drewN))).mono (fun _ hk => .inl hk)⟩, Stay.below (by repeat (first | exact B6.out | apply below_drew1 | apply pw_below_drewN))⟩
set_option maxHeartbeats 4000000 in
set_option maxRecDepth 100000 in
theorem fld_many (w0 w : World) (F : Nat → Prop) (k : Nat) (vl vf : Value) (p : Par) (s : ByteArray) (h : Rep w F k vl vf p) (hH : Held w0 w F) (hs : s.size ≤ 4294960000) (hse : ¬ s.size = 0) (hp0 : 0 < s.size) (hb0 : isBlank (s.data.toList.getD 0 0) = false) (hok : (Lib.cut s.data.toList [58]).2.2 = true) (ha : ¬ (Lib.cut s.data.toList [58]).1 = []) (hlb : lastBlank (Lib.cut s.data.toList [58]).1 = false) (htk : token (Lib.cut s.data.toList [58]).1 = true) (hvl : value (trim (Lib.cut s.data.toList [58]).2.1) = true) (hn : p.hd.f6.length = 100) :
  Calls Tryz.prog 35 #[.pointer (some ⟨k, 0, none⟩), .string s] w (LinePost w F k (p, 85)) := by
 have hemp : s.toList.isEmpty = false := Lex.emptyB_no hse
 have hs0 : (0 : Int) < (s.size : Int) := by omega
 have hcl := cut_len s.data.toList 58
 rw [← Px.sz] at hcl
 have htl : (Hr.trim (Lib.cut s.data.toList [58]).2.1).length ≤ (Lib.cut s.data.toList [58]).2.1.length := trim_len _
 have HCu : Aside0 (∀ W', GInv W' → Calls Tryz.prog 50 #[.string s, .string ⟨#[58]⟩] W' fun e w2 => e = .returned (.tuple #[.string (mkB (Lib.cut s.data.toList [58]).1), .string (mkB (Lib.cut s.data.toList [58]).2.1), .bool (Lib.cut s.data.toList [58]).2.2]) ∧ Below W'.heap.size W' w2) := ⟨fun W' hG => cut_calls s 58 W' (by omega) hG⟩
 have HTr : Aside0 (∀ W', Calls Tryz.prog 47 #[.string (mkB (Lib.cut s.data.toList [58]).2.1)] W' fun e w2 => e = .returned (.string (mkB (trim (Lib.cut s.data.toList [58]).2.1))) ∧ Below W'.heap.size W' w2) := ⟨fun W' => by have h5 := trim_calls (mkB (Lib.cut s.data.toList [58]).2.1) W' (by rw [mkB_size]; omega); rw [mkB_data] at h5; exact h5⟩
 have HTk : Aside0 (∀ W', Calls Tryz.prog 37 #[.string (mkB (Lib.cut s.data.toList [58]).1)] W' fun e w2 => e = .returned (.bool (token (Lib.cut s.data.toList [58]).1)) ∧ Below W'.heap.size W' w2) := ⟨fun W' => by have h5 := token_calls (mkB (Lib.cut s.data.toList [58]).1) W' (by rw [mkB_size]; omega); rw [mkB_data] at h5; exact h5⟩
 have HVa : Aside0 (∀ W', Calls Tryz.prog 31 #[.string (mkB (trim (Lib.cut s.data.toList [58]).2.1))] W' fun e w2 => e = .returned (.bool (value (trim (Lib.cut s.data.toList [58]).2.1))) ∧ Below W'.heap.size W' w2) := ⟨fun W' => value_calls _ _ W' (by rw [mkB_size]; omega) (by rw [mkB_data])⟩
 have HB0 : Aside0 (∀ W', Calls Tryz.prog 51 #[.int .u8 ((s[0]'hp0).toNat : Int)] W' fun e w2 => e = .returned (.bool (isBlank (s.data.toList.getD 0 0))) ∧ Below W'.heap.size W' w2) := ⟨fun W' => blank_calls _ _ (by rw [getB s 0 hp0]) W'⟩
 have HG := Aside0.mk hH.g
 have HR := Aside0.mk h
 have hasz : (mkB (Lib.cut s.data.toList [58]).1).size ≤ 4294960000 := by rw [mkB_size]; omega
 have hna : (mkB (Lib.cut s.data.toList [58]).1).toList.isEmpty = false := Lex.emptyB_no (by rw [mkB_size]; exact fun h5 => ha (List.length_eq_zero_iff.1 h5))
 have hpos : 0 < (mkB (Lib.cut s.data.toList [58]).1).size := by rw [mkB_size]; exact List.length_pos_iff.2 ha
 have hi0 : (0 : Int) ≤ ((mkB (Lib.cut s.data.toList [58]).1).size : Int) - 1 := by omega
 have hi1 : ((mkB (Lib.cut s.data.toList [58]).1).size : Int) - 1 < ((mkB (Lib.cut s.data.toList [58]).1).size : Int) := by omega
 have hq : (mkB (Lib.cut s.data.toList [58]).1).size - 1 < (mkB (Lib.cut s.data.toList [58]).1).size := by omega
 have HB1 : Aside0 (∀ W', Calls Tryz.prog 51 #[.int .u8 (((mkB (Lib.cut s.data.toList [58]).1)[(mkB (Lib.cut s.data.toList [58]).1).size - 1]'hq).toNat : Int)] W' fun e w2 => e = .returned (.bool (lastBlank (Lib.cut s.data.toList [58]).1)) ∧ Below W'.heap.size W' w2) := ⟨fun W' => last_blank _ ha hq W'⟩
 rw [hb0] at HB0
 rw [hok] at HCu
 rw [hlb] at HB1
 rw [htk] at HTk
 rw [hvl] at HVa
 obtain ⟨Af, cf, hvf, hcf, hCf⟩ := Kd.R_reads h.flds
 obtain ⟨M, hM⟩ : ∃ M, M = p.hd.f6.length := ⟨_, rfl⟩
 have HM := Aside0.mk hM
 rw [← hM] at hvf hn
 subst hvf
 clear hcf hCf hM
 have bn : ((M : Int) == 100) = true := by simpa using (show  (M : Int) = 100 by omega)
 clear h hH hs hse hcl htl
 generalize mkB (Lib.cut s.data.toList [58]).1 = a at *
 generalize mkB (trim (Lib.cut s.data.toList [58]).2.1) = t at *
 generalize mkB (Lib.cut s.data.toList [58]).2.1 = m at *
 go_enter Tryz.func35, Tryz.ntmps35
 go_wp2_with (first | (go_at_call 32; refine (refuse_calls _ _).mono ?_; rintro e w' ⟨rfl, rfl⟩) | (go_at_call 50; refine (HCu.out _ (GInv.below' HG (by repeat (first | exact Below.refl _ _ | apply below_drew1 | apply pw_below_drewN)))).mono ?_; rintro e w1 ⟨rfl, hb⟩; have B1 := Aside0.mk (below_step (by repeat (first | exact Below.refl _ _ | apply below_drew1 | apply pw_below_drewN)) hb); clear hb) | (go_at_call 47; refine (HTr.out _).mono ?_; rintro e w2 ⟨rfl, hb⟩; have B2 := Aside0.mk (below_step (by repeat (first | exact B1.out | apply below_drew1 | apply pw_below_drewN)) hb); clear hb) | (go_at_call 51; first | (with_reducible refine (HB0.out _).mono ?_; rintro e w3 ⟨rfl, hb⟩; have B3 := Aside0.mk (below_step (by repeat (first | exact B2.out | apply below_drew1 | apply pw_below_drewN)) hb); clear hb) | (with_reducible refine (HB1.out _).mono ?_; rintro e w4 ⟨rfl, hb⟩; have B4 := Aside0.mk (below_step (by repeat (first | exact B3.out | apply below_drew1 | apply pw_below_drewN)) hb); clear hb)) | (go_at_call 37; refine (HTk.out _).mono ?_; rintro e w5 ⟨rfl, hb⟩; have B5 := Aside0.mk (below_step (by repeat (first | exact B4.out | apply below_drew1 | apply pw_below_drewN)) hb); clear hb) | (go_at_call 31; refine (HVa.out _).mono ?_; rintro e w6 ⟨rfl, hb⟩; have B6 := Aside0.mk (below_step (by repeat (first | exact B5.out | apply below_drew1 | apply pw_below_drewN)) hb); clear hb; have HR6 := Aside0.mk (HR.out.below B6.out); have hz11 : w6.cell? ⟨k, 11, none⟩ = some (.slice Af M cf) := (blk_cell HR6.out.blk 11).trans rfl; have hf11 := blk_frozen HR6.out.blk 11))
 go_ret
 exact ⟨rfl, ⟨vl, _, (HR.out.below (by repeat (first | exact B6.out | apply below_drew1 | apply pw_below_drewN))).mono (fun _ hk => .inl hk)⟩, Stay.below (by repeat (first | exact B6.out | apply below_drew1 | apply pw_below_drewN))⟩
set_option maxHeartbeats 4000000 in
set_option maxRecDepth 100000 in
theorem fld_go (w0 w : World) (F : Nat → Prop) (k : Nat) (vl vf : Value) (p : Par) (s : ByteArray) (h : Rep w F k vl vf p) (hH : Held w0 w F) (hs : s.size ≤ 4294960000) (hse : ¬ s.size = 0) (hp0 : 0 < s.size) (hb0 : isBlank (s.data.toList.getD 0 0) = false) (hok : (Lib.cut s.data.toList [58]).2.2 = true) (ha : ¬ (Lib.cut s.data.toList [58]).1 = []) (hlb : lastBlank (Lib.cut s.data.toList [58]).1 = false) (htk : token (Lib.cut s.data.toList [58]).1 = true) (hvl : value (trim (Lib.cut s.data.toList [58]).2.1) = true) (hn : ¬ p.hd.f6.length = 100) (hn9 : p.hd.f6.length ≤ 4294960000) :
  Calls Tryz.prog 35 #[.pointer (some ⟨k, 0, none⟩), .string s] w (LinePost w F k ({ p with hd := ⟨p.hd.f0, p.hd.f1, p.hd.f2, p.hd.f3, p.hd.f4, p.hd.f5, p.hd.f6 ++ [fieldF s.data.toList]⟩ }, 0)) := by
 have hemp : s.toList.isEmpty = false := Lex.emptyB_no hse
 have hs0 : (0 : Int) < (s.size : Int) := by omega
 have hcl := cut_len s.data.toList 58
 rw [← Px.sz] at hcl
 have htl : (Hr.trim (Lib.cut s.data.toList [58]).2.1).length ≤ (Lib.cut s.data.toList [58]).2.1.length := trim_len _
 have HCu : Aside0 (∀ W', GInv W' → Calls Tryz.prog 50 #[.string s, .string ⟨#[58]⟩] W' fun e w2 => e = .returned (.tuple #[.string (mkB (Lib.cut s.data.toList [58]).1), .string (mkB (Lib.cut s.data.toList [58]).2.1), .bool (Lib.cut s.data.toList [58]).2.2]) ∧ Below W'.heap.size W' w2) := ⟨fun W' hG => cut_calls s 58 W' (by omega) hG⟩
 have HTr : Aside0 (∀ W', Calls Tryz.prog 47 #[.string (mkB (Lib.cut s.data.toList [58]).2.1)] W' fun e w2 => e = .returned (.string (mkB (trim (Lib.cut s.data.toList [58]).2.1))) ∧ Below W'.heap.size W' w2) := ⟨fun W' => by have h5 := trim_calls (mkB (Lib.cut s.data.toList [58]).2.1) W' (by rw [mkB_size]; omega); rw [mkB_data] at h5; exact h5⟩
 have HTk : Aside0 (∀ W', Calls Tryz.prog 37 #[.string (mkB (Lib.cut s.data.toList [58]).1)] W' fun e w2 => e = .returned (.bool (token (Lib.cut s.data.toList [58]).1)) ∧ Below W'.heap.size W' w2) := ⟨fun W' => by have h5 := token_calls (mkB (Lib.cut s.data.toList [58]).1) W' (by rw [mkB_size]; omega); rw [mkB_data] at h5; exact h5⟩
 have HVa : Aside0 (∀ W', Calls Tryz.prog 31 #[.string (mkB (trim (Lib.cut s.data.toList [58]).2.1))] W' fun e w2 => e = .returned (.bool (value (trim (Lib.cut s.data.toList [58]).2.1))) ∧ Below W'.heap.size W' w2) := ⟨fun W' => value_calls _ _ W' (by rw [mkB_size]; omega) (by rw [mkB_data])⟩
 have HB0 : Aside0 (∀ W', Calls Tryz.prog 51 #[.int .u8 ((s[0]'hp0).toNat : Int)] W' fun e w2 => e = .returned (.bool (isBlank (s.data.toList.getD 0 0))) ∧ Below W'.heap.size W' w2) := ⟨fun W' => blank_calls _ _ (by rw [getB s 0 hp0]) W'⟩
 have HG := Aside0.mk hH.g
 have HR := Aside0.mk h
 have hasz : (mkB (Lib.cut s.data.toList [58]).1).size ≤ 4294960000 := by rw [mkB_size]; omega
 have hna : (mkB (Lib.cut s.data.toList [58]).1).toList.isEmpty = false := Lex.emptyB_no (by rw [mkB_size]; exact fun h5 => ha (List.length_eq_zero_iff.1 h5))
 have hpos : 0 < (mkB (Lib.cut s.data.toList [58]).1).size := by rw [mkB_size]; exact List.length_pos_iff.2 ha
 have hi0 : (0 : Int) ≤ ((mkB (Lib.cut s.data.toList [58]).1).size : Int) - 1 := by omega
 have hi1 : ((mkB (Lib.cut s.data.toList [58]).1).size : Int) - 1 < ((mkB (Lib.cut s.data.toList [58]).1).size : Int) := by omega
 have hq : (mkB (Lib.cut s.data.toList [58]).1).size - 1 < (mkB (Lib.cut s.data.toList [58]).1).size := by omega
 have HB1 : Aside0 (∀ W', Calls Tryz.prog 51 #[.int .u8 (((mkB (Lib.cut s.data.toList [58]).1)[(mkB (Lib.cut s.data.toList [58]).1).size - 1]'hq).toNat : Int)] W' fun e w2 => e = .returned (.bool (lastBlank (Lib.cut s.data.toList [58]).1)) ∧ Below W'.heap.size W' w2) := ⟨fun W' => last_blank _ ha hq W'⟩
 rw [hb0] at HB0
 rw [hok] at HCu
 rw [hlb] at HB1
 rw [htk] at HTk
 rw [hvl] at HVa
 obtain ⟨Af, cf, hvf, hcf, hCf⟩ := Kd.R_reads h.flds
 obtain ⟨M, hM⟩ : ∃ M, M = p.hd.f6.length := ⟨_, rfl⟩
 have HM := Aside0.mk hM
 rw [← hM] at hvf hn hn9
 subst hvf
 clear hcf hCf hM
 have bn : ((M : Int) == 100) = false := by simpa using (show ¬ (M : Int) = 100 by omega)
 obtain ⟨f, hf⟩ : ∃ f, f = fieldF s.data.toList := ⟨_, rfl⟩
 rw [← hf]
 have hf0 : f.f0 = mkB (Lib.cut s.data.toList [58]).1 := by rw [hf]; rfl
 have hf1 : f.f1 = mkB (trim (Lib.cut s.data.toList [58]).2.1) := by rw [hf]; rfl
 clear hf
 clear h hH hs hse hcl htl
 generalize mkB (Lib.cut s.data.toList [58]).1 = a at *
 generalize mkB (trim (Lib.cut s.data.toList [58]).2.1) = t at *
 generalize mkB (Lib.cut s.data.toList [58]).2.1 = m at *
 have HFF : Aside0 (f = ⟨a, t⟩) := ⟨by cases f; simp only at hf0 hf1; rw [hf0, hf1]⟩
 clear hf0 hf1
 go_enter Tryz.func35, Tryz.ntmps35
 go_wp2_with (first | (go_at_call 32; refine (refuse_calls _ _).mono ?_; rintro e w' ⟨rfl, rfl⟩) | (go_at_call 50; refine (HCu.out _ (GInv.below' HG (by repeat (first | exact Below.refl _ _ | apply below_drew1 | apply pw_below_drewN)))).mono ?_; rintro e w1 ⟨rfl, hb⟩; have B1 := Aside0.mk (below_step (by repeat (first | exact Below.refl _ _ | apply below_drew1 | apply pw_below_drewN)) hb); clear hb) | (go_at_call 47; refine (HTr.out _).mono ?_; rintro e w2 ⟨rfl, hb⟩; have B2 := Aside0.mk (below_step (by repeat (first | exact B1.out | apply below_drew1 | apply pw_below_drewN)) hb); clear hb) | (go_at_call 51; first | (with_reducible refine (HB0.out _).mono ?_; rintro e w3 ⟨rfl, hb⟩; have B3 := Aside0.mk (below_step (by repeat (first | exact B2.out | apply below_drew1 | apply pw_below_drewN)) hb); clear hb) | (with_reducible refine (HB1.out _).mono ?_; rintro e w4 ⟨rfl, hb⟩; have B4 := Aside0.mk (below_step (by repeat (first | exact B3.out | apply below_drew1 | apply pw_below_drewN)) hb); clear hb)) | (go_at_call 37; refine (HTk.out _).mono ?_; rintro e w5 ⟨rfl, hb⟩; have B5 := Aside0.mk (below_step (by repeat (first | exact B4.out | apply below_drew1 | apply pw_below_drewN)) hb); clear hb) | (go_at_call 31; refine (HVa.out _).mono ?_; rintro e w6 ⟨rfl, hb⟩; have B6 := Aside0.mk (below_step (by repeat (first | exact B5.out | apply below_drew1 | apply pw_below_drewN)) hb); clear hb; have HR6 := Aside0.mk (HR.out.below B6.out); have hz11 : w6.cell? ⟨k, 11, none⟩ = some (.slice Af M cf) := (blk_cell HR6.out.blk 11).trans rfl; have hf11 := blk_frozen HR6.out.blk 11) | (at_builtin; refine Kd.R_append fldK (w0 := w6) 0 rfl (.tmp 65) (.tmp 69) 22 45 (.agg #[.string ⟨#[]⟩, .string ⟨#[]⟩]) 32 rfl Tryz.underlying22 info_fld rfl (by decide) (by omega) _ p.hd.f6 (⟨a, t⟩ : Fld) [.string a, .string t] (fun i => F i ∨ w6.heap.size ≤ i) (fun _ => False) rfl rfl (P.k45_mkM _ _ _ (⟨a, t⟩ : Fld)) (fun _ hk => hk.elim) (fun i hk => .inr hk) (Kd.R_mono HR6.out.flds (fun i hk => .inl hk)) (Below.refl _ _) (Nat.zero_le _) (by have := HM.out; omega) ?_; intro v1 w7 hR hb7 hg7 hat7; obtain ⟨hb8, hrep, hst⟩ := HR6.out.fldTo hg7 hR; have HR7 := Aside0.mk hrep; have HS7 := Aside0.mk hst; obtain ⟨A1, c1, e1⟩ := Kd.R_slice hR; rw [List.length_append, List.length_singleton] at e1; have hz11 : w7.cell? ⟨k, 11, none⟩ = some (.slice Af M cf) := (blk_cell hb8 11).trans rfl; have hf11 := blk_frozen hb8 11; clear hR hb7 hg7 hat7 hb8 hrep hst; subst e1))
 go_ret
 rw [HFF.out]
 exact ⟨rfl, ⟨_, _, HR7.out.mono (fun i hk => hk.elim .inl (fun h2 => .inr (Nat.le_trans B6.out.size h2)))⟩, (Stay.below B6.out).trans HS7.out (fun i hi => .inl hi)⟩
theorem value_nonempty (l : Bs) (h : token l = true) : ¬ l = [] := by
 intro h2
 subst h2
 exact absurd h (by decide)
theorem field_calls (w0 w : World) (F : Nat → Prop) (k : Nat) (vl vf : Value) (p : Par) (s : ByteArray) (h : Rep w F k vl vf p) (hH : Held w0 w F) (hs : s.size ≤ 4294960000) (hn9 : p.hd.f6.length ≤ 4294960000) :
  Calls Tryz.prog 35 #[.pointer (some ⟨k, 0, none⟩), .string s] w (LinePost w F k (fldS p s.data.toList)) := by
 unfold fldS
 by_cases hse : s.size = 0
 ·rw [if_pos ((empty_iff s).1 hse)]
  exact fld_end w0 w F k vl vf p s h hH hs hse
 ·rw [if_neg (fun h5 => hse ((empty_iff s).2 h5))]
  have hp0 : 0 < s.size := by omega
  cases hb0 : isBlank (s.data.toList.getD 0 0) with
  | true =>
   have he : fieldE s.data.toList = 82 := by unfold fieldE; rw [if_pos hb0]
   rw [he, if_pos (by decide)]; exact fld_fold w0 w F k vl vf p s h hH hs hse hp0 hb0
  | false =>
   have n0 : ¬ isBlank (s.data.toList.getD 0 0) = true := by rw [hb0]; decide
   cases hok : (Lib.cut s.data.toList [58]).2.2 with
   | false =>
    have he : fieldE s.data.toList = 84 := by unfold fieldE; rw [if_neg n0, if_pos hok]
    rw [he, if_pos (by decide)]; exact fld_colon w0 w F k vl vf p s h hH hs hse hp0 hb0 hok
   | true =>
    have n1 : ¬ (Lib.cut s.data.toList [58]).2.2 = false := by rw [hok]; decide
    cases hlb : lastBlank (Lib.cut s.data.toList [58]).1 with
    | true =>
     have he : fieldE s.data.toList = 83 := by unfold fieldE; rw [if_neg n0, if_neg n1, if_pos hlb]
     rw [he, if_pos (by decide)]
     exact fld_space w0 w F k vl vf p s h hH hs hse hp0 hb0 hok (fun h5 => by rw [h5] at hlb; exact absurd hlb (by decide)) hlb
    | false =>
     have n2 : ¬ lastBlank (Lib.cut s.data.toList [58]).1 = true := by rw [hlb]; decide
     cases htk : token (Lib.cut s.data.toList [58]).1 with
     | false =>
      have he : fieldE s.data.toList = 70 := by unfold fieldE; rw [if_neg n0, if_neg n1, if_neg n2, if_pos htk]
      rw [he, if_pos (by decide)]
      by_cases ha : (Lib.cut s.data.toList [58]).1 = []
      ·exact fld_name_e w0 w F k vl vf p s h hH hs hse hp0 hb0 hok ha htk
      ·exact fld_name w0 w F k vl vf p s h hH hs hse hp0 hb0 hok ha hlb htk
     | true =>
      have ha := value_nonempty _ htk
      have n3 : ¬ token (Lib.cut s.data.toList [58]).1 = false := by rw [htk]; decide
      cases hvl : value (trim (Lib.cut s.data.toList [58]).2.1) with
      | false =>
       have he : fieldE s.data.toList = 71 := by unfold fieldE; rw [if_neg n0, if_neg n1, if_neg n2, if_neg n3, if_pos hvl]
       rw [he, if_pos (by decide)]; exact fld_value w0 w F k vl vf p s h hH hs hse hp0 hb0 hok ha hlb htk hvl
      | true =>
       have he : fieldE s.data.toList = 0 := by unfold fieldE; rw [if_neg n0, if_neg n1, if_neg n2, if_neg n3, if_neg (by rw [hvl]; decide)]
       rw [he, if_neg (by decide)]
       by_cases hn : p.hd.f6.length = 100
       ·rw [if_pos hn]; exact fld_many w0 w F k vl vf p s h hH hs hse hp0 hb0 hok ha hlb htk hvl hn
       ·rw [if_neg hn]; exact fld_go w0 w F k vl vf p s h hH hs hse hp0 hb0 hok ha hlb htk hvl hn hn9
theorem line_calls (w0 w : World) (F : Nat → Prop) (k : Nat) (vl vf : Value) (p : Par) (s : ByteArray) (h : Rep w F k vl vf p) (hH : Held w0 w F) (hs : s.size ≤ 4294960000) (hn9 : p.hd.f6.length ≤ 4294960000) :
  Calls Tryz.prog (stF p.st) #[.pointer (some ⟨k, 0, none⟩), .string s] w (LinePost w F k (lineS p s.data.toList)) := by
 unfold lineS
 match hst : p.st with
 | 0 => exact request_calls w0 w F k vl vf p s h hH hs
 | 1 => exact response_calls w0 w F k vl vf p s h hH hs
 | n + 2 => exact field_calls w0 w F k vl vf p s h hH hs hn9
end Go.Proofs.YtmlgejgnjfbblaaGreatDoor.Hd
/- Package head, by hand: one byte; own text of this session. -/
namespace Go.Proofs.YtmlgejgnjfbblaaGreatDoor.Hd
open Go.RowKit Go.Proofs.YtmlgejgnjfbblaaGreatDoorW.PrintWords Go.Proofs.YtmlgejgnjfbblaaGreatDoorW.PrintLast Chk Px Hr
set_option linter.unusedVariables false
set_option linter.unusedSimpArgs false
def TakePost (w : World) (F : Nat → Prop) (k : Nat) (r : Par × Option Er) (e : Ending) (w' : World) : Prop :=
 e = .returned (erV r.2) ∧ (∃ vl vf, Rep w' (fun i => F i ∨ w.heap.size ≤ i) k vl vf r.1) ∧ Stay F w w'
/-- Numbers that the walks may reckon with. -/
structure Sane (p : Par) : Prop where
 rd0 : 0 ≤ p.rd
 rd1 : p.rd ≤ 1099511627776
 mo0 : 0 ≤ p.most
 mo1 : p.most ≤ 1099511627776
 li0 : 0 ≤ p.lines
 li1 : p.lines ≤ 1099511627776
 ln : p.line.length ≤ 4294950000
 fl : p.hd.f6.length ≤ 4294950000
set_option maxRecDepth 100000 in
theorem stF_enters (n : Nat) : ∀ args w, (callFunc (stF n) args).run Tryz.prog w = .ok (.enter (stF n) args) w := by
 intro args w
 match n with
 | 0 => rfl
 | 1 => rfl
 | n + 2 => rfl
theorem lineS_keeps (p : Par) (l : Bs) : (lineS p l).1.lines = p.lines ∧ (lineS p l).1.rd = p.rd ∧ (lineS p l).1.most = p.most ∧ (lineS p l).1.line = p.line ∧ (lineS p l).1.err = p.err := by
 unfold lineS
 split
 ·unfold reqS
  split
  ·exact ⟨rfl, rfl, rfl, rfl, rfl⟩
  ·split
   ·exact ⟨rfl, rfl, rfl, rfl, rfl⟩
   ·split <;> exact ⟨rfl, rfl, rfl, rfl, rfl⟩
 ·unfold respS
  split
  ·exact ⟨rfl, rfl, rfl, rfl, rfl⟩
  ·split <;> exact ⟨rfl, rfl, rfl, rfl, rfl⟩
 ·unfold fldS
  split
  ·exact ⟨rfl, rfl, rfl, rfl, rfl⟩
  ·split
   ·exact ⟨rfl, rfl, rfl, rfl, rfl⟩
   ·split <;> exact ⟨rfl, rfl, rfl, rfl, rfl⟩
set_option maxHeartbeats 4000000 in
set_option maxRecDepth 100000 in
theorem take_e10 (w0 w : World) (F : Nat → Prop) (k : Nat) (vl vf : Value) (p : Par) (c : Int) (h : Rep w F k vl vf p) (hH : Held w0 w F) (hs : Sane p) (hn : p.line.length = 0) (hc : c = 10) :
  Calls Tryz.prog 25 #[.pointer (some ⟨k, 0, none⟩), .int .u8 c] w (TakePost w F k (p, some (.bare 81))) := by
 have hz0 : w.cell? ⟨k, 0, none⟩ = some (.int .i64 p.most) := (blk_cell h.blk 0).trans rfl
 have hz1 : w.cell? ⟨k, 1, none⟩ = some (.int .i64 p.rd) := (blk_cell h.blk 1).trans rfl
 have hz2 : w.cell? ⟨k, 2, none⟩ = some (.int .i64 p.lines) := (blk_cell h.blk 2).trans rfl
 have hz3 : w.cell? ⟨k, 3, none⟩ = some vl := (blk_cell h.blk 3).trans rfl
 have hf1 := blk_frozen h.blk 1
 have hf2 := blk_frozen h.blk 2
 have hf3 := blk_frozen h.blk 3
 obtain ⟨A, n, hv, hcap, hC⟩ := Kd.R_reads h.line
 have HR := Aside0.mk h
 have HH := Aside0.mk hH
 have HSa := Aside0.mk hs
 have hr0 := hs.rd0
 have hr1 := hs.rd1
 have hm1 := hs.mo1
 have hm0 := hs.mo0
 have hl0 := hs.li0
 have hl1 := hs.li1
 have hnl := hs.ln
 obtain ⟨N, hN⟩ : ∃ N, N = p.line.length := ⟨_, rfl⟩
 rw [← hN] at hv hC hcap hnl hn
 have HNN := Aside0.mk hN
 clear h hN hs hH
 subst hv
 subst hn
 have hcast : ((0 : Nat) : Int) = 0 := rfl
 clear hC hcap hnl
 subst hc
 go_enter Tryz.func25, Tryz.ntmps25
 go_wp2_with (go_at_call 32; refine (refuse_calls _ _).mono ?_; rintro e w' ⟨rfl, rfl⟩)
 go_ret
 exact ⟨rfl, ⟨_, _, HR.out.mono (fun _ hk => .inl hk)⟩, Stay.refl _ _⟩
set_option maxHeartbeats 4000000 in
set_option maxRecDepth 100000 in
theorem take_n10 (w0 w : World) (F : Nat → Prop) (k : Nat) (vl vf : Value) (p : Par) (c : Int) (h : Rep w F k vl vf p) (hH : Held w0 w F) (hs : Sane p) (hn : 0 < p.line.length) (X : Int) (hX : rd p.line ((p.line.length : Int) - 1) = X) (hx13 : ¬ X = 13) (hc : c = 10) :
  Calls Tryz.prog 25 #[.pointer (some ⟨k, 0, none⟩), .int .u8 c] w (TakePost w F k (p, some (.bare 81))) := by
 have hz0 : w.cell? ⟨k, 0, none⟩ = some (.int .i64 p.most) := (blk_cell h.blk 0).trans rfl
 have hz1 : w.cell? ⟨k, 1, none⟩ = some (.int .i64 p.rd) := (blk_cell h.blk 1).trans rfl
 have hz2 : w.cell? ⟨k, 2, none⟩ = some (.int .i64 p.lines) := (blk_cell h.blk 2).trans rfl
 have hz3 : w.cell? ⟨k, 3, none⟩ = some vl := (blk_cell h.blk 3).trans rfl
 have hf1 := blk_frozen h.blk 1
 have hf2 := blk_frozen h.blk 2
 have hf3 := blk_frozen h.blk 3
 obtain ⟨A, n, hv, hcap, hC⟩ := Kd.R_reads h.line
 have HR := Aside0.mk h
 have HH := Aside0.mk hH
 have HSa := Aside0.mk hs
 have hr0 := hs.rd0
 have hr1 := hs.rd1
 have hm1 := hs.mo1
 have hm0 := hs.mo0
 have hl0 := hs.li0
 have hl1 := hs.li1
 have hnl := hs.ln
 obtain ⟨N, hN⟩ : ∃ N, N = p.line.length := ⟨_, rfl⟩
 rw [← hN] at hv hC hcap hnl hn
 have HNN := Aside0.mk hN
 clear h hN hs hH
 subst hv
 have hpos : (0 : Int) < (N : Int) := by omega
 have hNle : (N : Int) ≤ 4294950000 := by omega
 have hi0 : (0 : Int) ≤ (N : Int) - 1 := by omega
 have hi1 : (N : Int) - 1 < (N : Int) := by omega
 obtain ⟨ad, eA, hx⟩ := Kd.at_int hC ((N : Int) - 1) (by omega) (by omega)
 cases eA
 have hxr : rd p.line ((N : Int) - 1) = X := by rw [HNN.out]; exact hX
 rw [hxr, show ((N : Int) - 1).toNat = N - 1 from by omega] at hx
 clear hxr hX hcap hnl hn
 have b13 : (X == 13) = false := by simpa using hx13
 subst hc
 go_enter Tryz.func25, Tryz.ntmps25
 go_wp2_with (go_at_call 32; refine (refuse_calls _ _).mono ?_; rintro e w' ⟨rfl, rfl⟩)
 go_ret
 exact ⟨rfl, ⟨_, _, HR.out.mono (fun _ hk => .inl hk)⟩, Stay.refl _ _⟩
set_option maxHeartbeats 4000000 in
set_option maxRecDepth 100000 in
theorem take_x (w0 w : World) (F : Nat → Prop) (k : Nat) (vl vf : Value) (p : Par) (c : Int) (h : Rep w F k vl vf p) (hH : Held w0 w F) (hs : Sane p) (hn : 0 < p.line.length) (hX : rd p.line ((p.line.length : Int) - 1) = 13) (hc : ¬ c = 10) :
  Calls Tryz.prog 25 #[.pointer (some ⟨k, 0, none⟩), .int .u8 c] w (TakePost w F k (p, some (.bare 81))) := by
 have hz0 : w.cell? ⟨k, 0, none⟩ = some (.int .i64 p.most) := (blk_cell h.blk 0).trans rfl
 have hz1 : w.cell? ⟨k, 1, none⟩ = some (.int .i64 p.rd) := (blk_cell h.blk 1).trans rfl
 have hz2 : w.cell? ⟨k, 2, none⟩ = some (.int .i64 p.lines) := (blk_cell h.blk 2).trans rfl
 have hz3 : w.cell? ⟨k, 3, none⟩ = some vl := (blk_cell h.blk 3).trans rfl
 have hf1 := blk_frozen h.blk 1
 have hf2 := blk_frozen h.blk 2
 have hf3 := blk_frozen h.blk 3
 obtain ⟨A, n, hv, hcap, hC⟩ := Kd.R_reads h.line
 have HR := Aside0.mk h
 have HH := Aside0.mk hH
 have HSa := Aside0.mk hs
 have hr0 := hs.rd0
 have hr1 := hs.rd1
 have hm1 := hs.mo1
 have hm0 := hs.mo0
 have hl0 := hs.li0
 have hl1 := hs.li1
 have hnl := hs.ln
 obtain ⟨N, hN⟩ : ∃ N, N = p.line.length := ⟨_, rfl⟩
 rw [← hN] at hv hC hcap hnl hn
 have HNN := Aside0.mk hN
 clear h hN hs hH
 subst hv
 have hpos : (0 : Int) < (N : Int) := by omega
 have hNle : (N : Int) ≤ 4294950000 := by omega
 have hi0 : (0 : Int) ≤ (N : Int) - 1 := by omega
 have hi1 : (N : Int) - 1 < (N : Int) := by omega
 obtain ⟨ad, eA, hx⟩ := Kd.at_int hC ((N : Int) - 1) (by omega) (by omega)
 cases eA
 have hxr : rd p.line ((N : Int) - 1) = 13 := by rw [HNN.out]; exact hX
 rw [hxr, show ((N : Int) - 1).toNat = N - 1 from by omega] at hx
 clear hxr hX hcap hnl hn
 have bc : (c == 10) = false := by simpa using hc
 have bc' : (c != 10) = true := by simpa using hc
 go_enter Tryz.func25, Tryz.ntmps25
 go_wp2_with (go_at_call 32; refine (refuse_calls _ _).mono ?_; rintro e w' ⟨rfl, rfl⟩)
 go_ret
 exact ⟨rfl, ⟨_, _, HR.out.mono (fun _ hk => .inl hk)⟩, Stay.refl _ _⟩
set_option maxHeartbeats 4000000 in
set_option maxRecDepth 100000 in
theorem take_e_most_a (w0 w : World) (F : Nat → Prop) (k : Nat) (vl vf : Value) (p : Par) (c : Int) (h : Rep w F k vl vf p) (hH : Held w0 w F) (hs : Sane p) (hn : p.line.length = 0) (hc : ¬ c = 10) (hc3 : c = 13) (hmo : p.rd + 1 > p.most) :
  Calls Tryz.prog 25 #[.pointer (some ⟨k, 0, none⟩), .int .u8 c] w (TakePost w F k ({ p with rd := p.rd + 1 }, some (.bare 85))) := by
 have hz0 : w.cell? ⟨k, 0, none⟩ = some (.int .i64 p.most) := (blk_cell h.blk 0).trans rfl
 have hz1 : w.cell? ⟨k, 1, none⟩ = some (.int .i64 p.rd) := (blk_cell h.blk 1).trans rfl
 have hz2 : w.cell? ⟨k, 2, none⟩ = some (.int .i64 p.lines) := (blk_cell h.blk 2).trans rfl
 have hz3 : w.cell? ⟨k, 3, none⟩ = some vl := (blk_cell h.blk 3).trans rfl
 have hf1 := blk_frozen h.blk 1
 have hf2 := blk_frozen h.blk 2
 have hf3 := blk_frozen h.blk 3
 obtain ⟨A, n, hv, hcap, hC⟩ := Kd.R_reads h.line
 have HR := Aside0.mk h
 have HH := Aside0.mk hH
 have HSa := Aside0.mk hs
 have hr0 := hs.rd0
 have hr1 := hs.rd1
 have hm1 := hs.mo1
 have hm0 := hs.mo0
 have hl0 := hs.li0
 have hl1 := hs.li1
 have hnl := hs.ln
 obtain ⟨N, hN⟩ : ∃ N, N = p.line.length := ⟨_, rfl⟩
 rw [← hN] at hv hC hcap hnl hn
 have HNN := Aside0.mk hN
 clear h hN hs hH
 subst hv
 subst hn
 have hcast : ((0 : Nat) : Int) = 0 := rfl
 clear hC hcap hnl
 subst hc3
 clear hc
 have hmo' : p.most < p.rd + 1 := by omega
 go_enter Tryz.func25, Tryz.ntmps25
 go_wp2_with (go_at_call 32; refine (refuse_calls _ _).mono ?_; rintro e w' ⟨rfl, rfl⟩)
 go_region
 all_goals
  go_wp2_with (go_at_call 32; refine (refuse_calls _ _).mono ?_; rintro e w' ⟨rfl, rfl⟩)
  go_ret
  exact ⟨rfl, ⟨_, _, ((HR.out.scal (i := 1) (v := .int .i64 (p.rd + 1)) (p' := { p with rd := p.rd + 1 }) rfl rfl rfl).below (below_drew (Below.refl _ _))).mono (fun _ hk => .inl hk)⟩, stay_low ((Stay.refl F w).set (p := ⟨k, 1, none⟩) HR.out.inF (.int .i64 (p.rd + 1))) (below_drew (Below.refl _ _))⟩
set_option maxHeartbeats 4000000 in
set_option maxRecDepth 100000 in
theorem take_n_most_a (w0 w : World) (F : Nat → Prop) (k : Nat) (vl vf : Value) (p : Par) (c : Int) (h : Rep w F k vl vf p) (hH : Held w0 w F) (hs : Sane p) (hn : 0 < p.line.length) (X : Int) (hX : rd p.line ((p.line.length : Int) - 1) = X) (hx13 : ¬ X = 13) (hc : ¬ c = 10) (hc3 : c = 13) (hmo : p.rd + 1 > p.most) :
  Calls Tryz.prog 25 #[.pointer (some ⟨k, 0, none⟩), .int .u8 c] w (TakePost w F k ({ p with rd := p.rd + 1 }, some (.bare 85))) := by
 have hz0 : w.cell? ⟨k, 0, none⟩ = some (.int .i64 p.most) := (blk_cell h.blk 0).trans rfl
 have hz1 : w.cell? ⟨k, 1, none⟩ = some (.int .i64 p.rd) := (blk_cell h.blk 1).trans rfl
 have hz2 : w.cell? ⟨k, 2, none⟩ = some (.int .i64 p.lines) := (blk_cell h.blk 2).trans rfl
 have hz3 : w.cell? ⟨k, 3, none⟩ = some vl := (blk_cell h.blk 3).trans rfl
 have hf1 := blk_frozen h.blk 1
 have hf2 := blk_frozen h.blk 2
 have hf3 := blk_frozen h.blk 3
 obtain ⟨A, n, hv, hcap, hC⟩ := Kd.R_reads h.line
 have HR := Aside0.mk h
 have HH := Aside0.mk hH
 have HSa := Aside0.mk hs
 have hr0 := hs.rd0
 have hr1 := hs.rd1
 have hm1 := hs.mo1
 have hm0 := hs.mo0
 have hl0 := hs.li0
 have hl1 := hs.li1
 have hnl := hs.ln
 obtain ⟨N, hN⟩ : ∃ N, N = p.line.length := ⟨_, rfl⟩
 rw [← hN] at hv hC hcap hnl hn
 have HNN := Aside0.mk hN
 clear h hN hs hH
 subst hv
 have hpos : (0 : Int) < (N : Int) := by omega
 have hNle : (N : Int) ≤ 4294950000 := by omega
 have hi0 : (0 : Int) ≤ (N : Int) - 1 := by omega
 have hi1 : (N : Int) - 1 < (N : Int) := by omega
 obtain ⟨ad, eA, hx⟩ := Kd.at_int hC ((N : Int) - 1) (by omega) (by omega)
 cases eA
 have hxr : rd p.line ((N : Int) - 1) = X := by rw [HNN.out]; exact hX
 rw [hxr, show ((N : Int) - 1).toNat = N - 1 from by omega] at hx
 clear hxr hX hcap hnl hn
 have b13 : (X == 13) = false := by simpa using hx13
 subst hc3
 clear hc
 have hmo' : p.most < p.rd + 1 := by omega
 go_enter Tryz.func25, Tryz.ntmps25
 go_wp2_with (go_at_call 32; refine (refuse_calls _ _).mono ?_; rintro e w' ⟨rfl, rfl⟩)
 go_region
 all_goals
  go_wp2_with (go_at_call 32; refine (refuse_calls _ _).mono ?_; rintro e w' ⟨rfl, rfl⟩)
  go_ret
  exact ⟨rfl, ⟨_, _, ((HR.out.scal (i := 1) (v := .int .i64 (p.rd + 1)) (p' := { p with rd := p.rd + 1 }) rfl rfl rfl).below (below_drew (Below.refl _ _))).mono (fun _ hk => .inl hk)⟩, stay_low ((Stay.refl F w).set (p := ⟨k, 1, none⟩) HR.out.inF (.int .i64 (p.rd + 1))) (below_drew (Below.refl _ _))⟩
set_option maxHeartbeats 4000000 in
set_option maxRecDepth 100000 in
theorem take_e_most_b (w0 w : World) (F : Nat → Prop) (k : Nat) (vl vf : Value) (p : Par) (c : Int) (h : Rep w F k vl vf p) (hH : Held w0 w F) (hs : Sane p) (hn : p.line.length = 0) (hc : ¬ c = 10) (hc3 : ¬ c = 13) (hmo : p.rd + 1 > p.most) :
  Calls Tryz.prog 25 #[.pointer (some ⟨k, 0, none⟩), .int .u8 c] w (TakePost w F k ({ p with rd := p.rd + 1 }, some (.bare 85))) := by
 have hz0 : w.cell? ⟨k, 0, none⟩ = some (.int .i64 p.most) := (blk_cell h.blk 0).trans rfl
 have hz1 : w.cell? ⟨k, 1, none⟩ = some (.int .i64 p.rd) := (blk_cell h.blk 1).trans rfl
 have hz2 : w.cell? ⟨k, 2, none⟩ = some (.int .i64 p.lines) := (blk_cell h.blk 2).trans rfl
 have hz3 : w.cell? ⟨k, 3, none⟩ = some vl := (blk_cell h.blk 3).trans rfl
 have hf1 := blk_frozen h.blk 1
 have hf2 := blk_frozen h.blk 2
 have hf3 := blk_frozen h.blk 3
 obtain ⟨A, n, hv, hcap, hC⟩ := Kd.R_reads h.line
 have HR := Aside0.mk h
 have HH := Aside0.mk hH
 have HSa := Aside0.mk hs
 have hr0 := hs.rd0
 have hr1 := hs.rd1
 have hm1 := hs.mo1
 have hm0 := hs.mo0
 have hl0 := hs.li0
 have hl1 := hs.li1
 have hnl := hs.ln
 obtain ⟨N, hN⟩ : ∃ N, N = p.line.length := ⟨_, rfl⟩
 rw [← hN] at hv hC hcap hnl hn
 have HNN := Aside0.mk hN
 clear h hN hs hH
 subst hv
 subst hn
 have hcast : ((0 : Nat) : Int) = 0 := rfl
 clear hC hcap hnl
 have bc : (c == 10) = false := by simpa using hc
 have bc' : (c != 10) = true := by simpa using hc
 have bc3 : (c != 13) = true := by simpa using hc3
 have hmo' : p.most < p.rd + 1 := by omega
 go_enter Tryz.func25, Tryz.ntmps25
 go_wp2_with (go_at_call 32; refine (refuse_calls _ _).mono ?_; rintro e w' ⟨rfl, rfl⟩)
 go_region
 all_goals
  go_wp2_with (go_at_call 32; refine (refuse_calls _ _).mono ?_; rintro e w' ⟨rfl, rfl⟩)
  go_ret
  exact ⟨rfl, ⟨_, _, ((HR.out.scal (i := 1) (v := .int .i64 (p.rd + 1)) (p' := { p with rd := p.rd + 1 }) rfl rfl rfl).below (below_drew (Below.refl _ _))).mono (fun _ hk => .inl hk)⟩, stay_low ((Stay.refl F w).set (p := ⟨k, 1, none⟩) HR.out.inF (.int .i64 (p.rd + 1))) (below_drew (Below.refl _ _))⟩
set_option maxHeartbeats 4000000 in
set_option maxRecDepth 100000 in
theorem take_n_most_b (w0 w : World) (F : Nat → Prop) (k : Nat) (vl vf : Value) (p : Par) (c : Int) (h : Rep w F k vl vf p) (hH : Held w0 w F) (hs : Sane p) (hn : 0 < p.line.length) (X : Int) (hX : rd p.line ((p.line.length : Int) - 1) = X) (hx13 : ¬ X = 13) (hc : ¬ c = 10) (hc3 : ¬ c = 13) (hmo : p.rd + 1 > p.most) :
  Calls Tryz.prog 25 #[.pointer (some ⟨k, 0, none⟩), .int .u8 c] w (TakePost w F k ({ p with rd := p.rd + 1 }, some (.bare 85))) := by
 have hz0 : w.cell? ⟨k, 0, none⟩ = some (.int .i64 p.most) := (blk_cell h.blk 0).trans rfl
 have hz1 : w.cell? ⟨k, 1, none⟩ = some (.int .i64 p.rd) := (blk_cell h.blk 1).trans rfl
 have hz2 : w.cell? ⟨k, 2, none⟩ = some (.int .i64 p.lines) := (blk_cell h.blk 2).trans rfl
 have hz3 : w.cell? ⟨k, 3, none⟩ = some vl := (blk_cell h.blk 3).trans rfl
 have hf1 := blk_frozen h.blk 1
 have hf2 := blk_frozen h.blk 2
 have hf3 := blk_frozen h.blk 3
 obtain ⟨A, n, hv, hcap, hC⟩ := Kd.R_reads h.line
 have HR := Aside0.mk h
 have HH := Aside0.mk hH
 have HSa := Aside0.mk hs
 have hr0 := hs.rd0
 have hr1 := hs.rd1
 have hm1 := hs.mo1
 have hm0 := hs.mo0
 have hl0 := hs.li0
 have hl1 := hs.li1
 have hnl := hs.ln
 obtain ⟨N, hN⟩ : ∃ N, N = p.line.length := ⟨_, rfl⟩
 rw [← hN] at hv hC hcap hnl hn
 have HNN := Aside0.mk hN
 clear h hN hs hH
 subst hv
 have hpos : (0 : Int) < (N : Int) := by omega
 have hNle : (N : Int) ≤ 4294950000 := by omega
 have hi0 : (0 : Int) ≤ (N : Int) - 1 := by omega
 have hi1 : (N : Int) - 1 < (N : Int) := by omega
 obtain ⟨ad, eA, hx⟩ := Kd.at_int hC ((N : Int) - 1) (by omega) (by omega)
 cases eA
 have hxr : rd p.line ((N : Int) - 1) = X := by rw [HNN.out]; exact hX
 rw [hxr, show ((N : Int) - 1).toNat = N - 1 from by omega] at hx
 clear hxr hX hcap hnl hn
 have b13 : (X == 13) = false := by simpa using hx13
 have bc : (c == 10) = false := by simpa using hc
 have bc' : (c != 10) = true := by simpa using hc
 have bc3 : (c != 13) = true := by simpa using hc3
 have hmo' : p.most < p.rd + 1 := by omega
 go_enter Tryz.func25, Tryz.ntmps25
 go_wp2_with (go_at_call 32; refine (refuse_calls _ _).mono ?_; rintro e w' ⟨rfl, rfl⟩)
 go_region
 all_goals
  go_wp2_with (go_at_call 32; refine (refuse_calls _ _).mono ?_; rintro e w' ⟨rfl, rfl⟩)
  go_ret
  exact ⟨rfl, ⟨_, _, ((HR.out.scal (i := 1) (v := .int .i64 (p.rd + 1)) (p' := { p with rd := p.rd + 1 }) rfl rfl rfl).below (below_drew (Below.refl _ _))).mono (fun _ hk => .inl hk)⟩, stay_low ((Stay.refl F w).set (p := ⟨k, 1, none⟩) HR.out.inF (.int .i64 (p.rd + 1))) (below_drew (Below.refl _ _))⟩
set_option maxHeartbeats 4000000 in
set_option maxRecDepth 100000 in
theorem take_x_most (w0 w : World) (F : Nat → Prop) (k : Nat) (vl vf : Value) (p : Par) (c : Int) (h : Rep w F k vl vf p) (hH : Held w0 w F) (hs : Sane p) (hn : 0 < p.line.length) (hX : rd p.line ((p.line.length : Int) - 1) = 13) (hc : c = 10) (hmo : p.rd + 1 > p.most) :
  Calls Tryz.prog 25 #[.pointer (some ⟨k, 0, none⟩), .int .u8 c] w (TakePost w F k ({ p with rd := p.rd + 1 }, some (.bare 85))) := by
 have hz0 : w.cell? ⟨k, 0, none⟩ = some (.int .i64 p.most) := (blk_cell h.blk 0).trans rfl
 have hz1 : w.cell? ⟨k, 1, none⟩ = some (.int .i64 p.rd) := (blk_cell h.blk 1).trans rfl
 have hz2 : w.cell? ⟨k, 2, none⟩ = some (.int .i64 p.lines) := (blk_cell h.blk 2).trans rfl
 have hz3 : w.cell? ⟨k, 3, none⟩ = some vl := (blk_cell h.blk 3).trans rfl
 have hf1 := blk_frozen h.blk 1
 have hf2 := blk_frozen h.blk 2
 have hf3 := blk_frozen h.blk 3
 obtain ⟨A, n, hv, hcap, hC⟩ := Kd.R_reads h.line
 have HR := Aside0.mk h
 have HH := Aside0.mk hH
 have HSa := Aside0.mk hs
 have hr0 := hs.rd0
 have hr1 := hs.rd1
 have hm1 := hs.mo1
 have hm0 := hs.mo0
 have hl0 := hs.li0
 have hl1 := hs.li1
 have hnl := hs.ln
 obtain ⟨N, hN⟩ : ∃ N, N = p.line.length := ⟨_, rfl⟩
 rw [← hN] at hv hC hcap hnl hn
 have HNN := Aside0.mk hN
 clear h hN hs hH
 subst hv
 have hpos : (0 : Int) < (N : Int) := by omega
 have hNle : (N : Int) ≤ 4294950000 := by omega
 have hi0 : (0 : Int) ≤ (N : Int) - 1 := by omega
 have hi1 : (N : Int) - 1 < (N : Int) := by omega
 obtain ⟨ad, eA, hx⟩ := Kd.at_int hC ((N : Int) - 1) (by omega) (by omega)
 cases eA
 have hxr : rd p.line ((N : Int) - 1) = 13 := by rw [HNN.out]; exact hX
 rw [hxr, show ((N : Int) - 1).toNat = N - 1 from by omega] at hx
 clear hxr hX hcap hnl hn
 subst hc
 have hmo' : p.most < p.rd + 1 := by omega
 go_enter Tryz.func25, Tryz.ntmps25
 go_wp2_with (go_at_call 32; refine (refuse_calls _ _).mono ?_; rintro e w' ⟨rfl, rfl⟩)
 go_region
 all_goals
  go_wp2_with (go_at_call 32; refine (refuse_calls _ _).mono ?_; rintro e w' ⟨rfl, rfl⟩)
  go_ret
  exact ⟨rfl, ⟨_, _, ((HR.out.scal (i := 1) (v := .int .i64 (p.rd + 1)) (p' := { p with rd := p.rd + 1 }) rfl rfl rfl).below (below_drew (Below.refl _ _))).mono (fun _ hk => .inl hk)⟩, stay_low ((Stay.refl F w).set (p := ⟨k, 1, none⟩) HR.out.inF (.int .i64 (p.rd + 1))) (below_drew (Below.refl _ _))⟩
set_option maxHeartbeats 4000000 in
set_option maxRecDepth 100000 in
theorem take_long_a (w0 w : World) (F : Nat → Prop) (k : Nat) (vl vf : Value) (p : Par) (c : Int) (h : Rep w F k vl vf p) (hH : Held w0 w F) (hs : Sane p) (hn : 0 < p.line.length) (X : Int) (hX : rd p.line ((p.line.length : Int) - 1) = X) (hx13 : ¬ X = 13) (hc : ¬ c = 10) (hc3 : c = 13) (hmo : ¬ p.rd + 1 > p.most) (hlo : 8192 < p.line.length) :
  Calls Tryz.prog 25 #[.pointer (some ⟨k, 0, none⟩), .int .u8 c] w (TakePost w F k ({ p with rd := p.rd + 1 }, some (.bare 85))) := by
 have hz0 : w.cell? ⟨k, 0, none⟩ = some (.int .i64 p.most) := (blk_cell h.blk 0).trans rfl
 have hz1 : w.cell? ⟨k, 1, none⟩ = some (.int .i64 p.rd) := (blk_cell h.blk 1).trans rfl
 have hz2 : w.cell? ⟨k, 2, none⟩ = some (.int .i64 p.lines) := (blk_cell h.blk 2).trans rfl
 have hz3 : w.cell? ⟨k, 3, none⟩ = some vl := (blk_cell h.blk 3).trans rfl
 have hf1 := blk_frozen h.blk 1
 have hf2 := blk_frozen h.blk 2
 have hf3 := blk_frozen h.blk 3
 obtain ⟨A, n, hv, hcap, hC⟩ := Kd.R_reads h.line
 have HR := Aside0.mk h
 have HH := Aside0.mk hH
 have HSa := Aside0.mk hs
 have hr0 := hs.rd0
 have hr1 := hs.rd1
 have hm1 := hs.mo1
 have hm0 := hs.mo0
 have hl0 := hs.li0
 have hl1 := hs.li1
 have hnl := hs.ln
 obtain ⟨N, hN⟩ : ∃ N, N = p.line.length := ⟨_, rfl⟩
 rw [← hN] at hv hC hcap hnl hn
 have HNN := Aside0.mk hN
 clear h hN hs hH
 subst hv
 rw [← HNN.out] at hlo
 have hpos : (0 : Int) < (N : Int) := by omega
 have hNle : (N : Int) ≤ 4294950000 := by omega
 have hi0 : (0 : Int) ≤ (N : Int) - 1 := by omega
 have hi1 : (N : Int) - 1 < (N : Int) := by omega
 obtain ⟨ad, eA, hx⟩ := Kd.at_int hC ((N : Int) - 1) (by omega) (by omega)
 cases eA
 have hxr : rd p.line ((N : Int) - 1) = X := by rw [HNN.out]; exact hX
 rw [hxr, show ((N : Int) - 1).toNat = N - 1 from by omega] at hx
 clear hxr hX hcap hnl hn
 have b13 : (X == 13) = false := by simpa using hx13
 subst hc3
 clear hc
 have hmo' : ¬ p.most < p.rd + 1 := by omega
 have hmoB : decide (p.most < p.rd + 1) = false := decide_eq_false hmo'
 have hlo' : (8192 : Int) < (N : Int) := by omega
 go_enter Tryz.func25, Tryz.ntmps25
 go_wp2_with (go_at_call 32; refine (refuse_calls _ _).mono ?_; rintro e w' ⟨rfl, rfl⟩)
 go_quiet (fail)
 go_wp2_with (go_at_call 32; refine (refuse_calls _ _).mono ?_; rintro e w' ⟨rfl, rfl⟩)
 go_ret
 exact ⟨rfl, ⟨_, _, ((HR.out.scal (i := 1) (v := .int .i64 (p.rd + 1)) (p' := { p with rd := p.rd + 1 }) rfl rfl rfl).below (pw_below_drewN (Below.refl _ _) _)).mono (fun _ hk => .inl hk)⟩, stay_low ((Stay.refl F w).set (p := ⟨k, 1, none⟩) HR.out.inF (.int .i64 (p.rd + 1))) (pw_below_drewN (Below.refl _ _) _)⟩
set_option maxHeartbeats 4000000 in
set_option maxRecDepth 100000 in
theorem take_long_b (w0 w : World) (F : Nat → Prop) (k : Nat) (vl vf : Value) (p : Par) (c : Int) (h : Rep w F k vl vf p) (hH : Held w0 w F) (hs : Sane p) (hn : 0 < p.line.length) (X : Int) (hX : rd p.line ((p.line.length : Int) - 1) = X) (hx13 : ¬ X = 13) (hc : ¬ c = 10) (hc3 : ¬ c = 13) (hmo : ¬ p.rd + 1 > p.most) (hlo : 8191 < p.line.length) :
  Calls Tryz.prog 25 #[.pointer (some ⟨k, 0, none⟩), .int .u8 c] w (TakePost w F k ({ p with rd := p.rd + 1 }, some (.bare 85))) := by
 have hz0 : w.cell? ⟨k, 0, none⟩ = some (.int .i64 p.most) := (blk_cell h.blk 0).trans rfl
 have hz1 : w.cell? ⟨k, 1, none⟩ = some (.int .i64 p.rd) := (blk_cell h.blk 1).trans rfl
 have hz2 : w.cell? ⟨k, 2, none⟩ = some (.int .i64 p.lines) := (blk_cell h.blk 2).trans rfl
 have hz3 : w.cell? ⟨k, 3, none⟩ = some vl := (blk_cell h.blk 3).trans rfl
 have hf1 := blk_frozen h.blk 1
 have hf2 := blk_frozen h.blk 2
 have hf3 := blk_frozen h.blk 3
 obtain ⟨A, n, hv, hcap, hC⟩ := Kd.R_reads h.line
 have HR := Aside0.mk h
 have HH := Aside0.mk hH
 have HSa := Aside0.mk hs
 have hr0 := hs.rd0
 have hr1 := hs.rd1
 have hm1 := hs.mo1
 have hm0 := hs.mo0
 have hl0 := hs.li0
 have hl1 := hs.li1
 have hnl := hs.ln
 obtain ⟨N, hN⟩ : ∃ N, N = p.line.length := ⟨_, rfl⟩
 rw [← hN] at hv hC hcap hnl hn
 have HNN := Aside0.mk hN
 clear h hN hs hH
 subst hv
 rw [← HNN.out] at hlo
 have hpos : (0 : Int) < (N : Int) := by omega
 have hNle : (N : Int) ≤ 4294950000 := by omega
 have hi0 : (0 : Int) ≤ (N : Int) - 1 := by omega
 have hi1 : (N : Int) - 1 < (N : Int) := by omega
 obtain ⟨ad, eA, hx⟩ := Kd.at_int hC ((N : Int) - 1) (by omega) (by omega)
 cases eA
 have hxr : rd p.line ((N : Int) - 1) = X := by rw [HNN.out]; exact hX
 rw [hxr, show ((N : Int) - 1).toNat = N - 1 from by omega] at hx
 clear hxr hX hcap hnl hn
 have b13 : (X == 13) = false := by simpa using hx13
 have bc : (c == 10) = false := by simpa using hc
 have bc' : (c != 10) = true := by simpa using hc
 have bc3 : (c != 13) = true := by simpa using hc3
 have hmo' : ¬ p.most < p.rd + 1 := by omega
 have hmoB : decide (p.most < p.rd + 1) = false := decide_eq_false hmo'
 have hlo' : (8192 : Int) < (N : Int) + 1 := by omega
 go_enter Tryz.func25, Tryz.ntmps25
 go_wp2_with (go_at_call 32; refine (refuse_calls _ _).mono ?_; rintro e w' ⟨rfl, rfl⟩)
 go_quiet (fail)
 go_wp2_with (go_at_call 32; refine (refuse_calls _ _).mono ?_; rintro e w' ⟨rfl, rfl⟩)
 go_ret
 exact ⟨rfl, ⟨_, _, ((HR.out.scal (i := 1) (v := .int .i64 (p.rd + 1)) (p' := { p with rd := p.rd + 1 }) rfl rfl rfl).below (pw_below_drewN (Below.refl _ _) _)).mono (fun _ hk => .inl hk)⟩, stay_low ((Stay.refl F w).set (p := ⟨k, 1, none⟩) HR.out.inF (.int .i64 (p.rd + 1))) (pw_below_drewN (Below.refl _ _) _)⟩
set_option maxHeartbeats 4000000 in
set_option maxRecDepth 100000 in
theorem take_e_app_a (w0 w : World) (F : Nat → Prop) (k : Nat) (vl vf : Value) (p : Par) (c : Int) (h : Rep w F k vl vf p) (hH : Held w0 w F) (hs : Sane p) (hn : p.line.length = 0) (hc : c = 13) (hmo : ¬ p.rd + 1 > p.most) :
  Calls Tryz.prog 25 #[.pointer (some ⟨k, 0, none⟩), .int .u8 c] w (TakePost w F k ({ p with rd := p.rd + 1, line := p.line ++ [13] }, none)) := by
 have hz0 : w.cell? ⟨k, 0, none⟩ = some (.int .i64 p.most) := (blk_cell h.blk 0).trans rfl
 have hz1 : w.cell? ⟨k, 1, none⟩ = some (.int .i64 p.rd) := (blk_cell h.blk 1).trans rfl
 have hz2 : w.cell? ⟨k, 2, none⟩ = some (.int .i64 p.lines) := (blk_cell h.blk 2).trans rfl
 have hz3 : w.cell? ⟨k, 3, none⟩ = some vl := (blk_cell h.blk 3).trans rfl
 have hf1 := blk_frozen h.blk 1
 have hf2 := blk_frozen h.blk 2
 have hf3 := blk_frozen h.blk 3
 obtain ⟨A, n, hv, hcap, hC⟩ := Kd.R_reads h.line
 have HR := Aside0.mk h
 have HH := Aside0.mk hH
 have HSa := Aside0.mk hs
 have hr0 := hs.rd0
 have hr1 := hs.rd1
 have hm1 := hs.mo1
 have hm0 := hs.mo0
 have hl0 := hs.li0
 have hl1 := hs.li1
 have hnl := hs.ln
 obtain ⟨N, hN⟩ : ∃ N, N = p.line.length := ⟨_, rfl⟩
 rw [← hN] at hv hC hcap hnl hn
 have HNN := Aside0.mk hN
 clear h hN hs hH
 subst hv
 subst hn
 have hcast : ((0 : Nat) : Int) = 0 := rfl
 clear hC hcap hnl
 subst hc
 have hmo' : ¬ p.most < p.rd + 1 := by omega
 have hmoB : decide (p.most < p.rd + 1) = false := decide_eq_false hmo'
 have HR1q := Aside0.mk (fun nq : Nat => (HR.out.scal (i := 1) (v := .int .i64 (p.rd + 1)) (p' := { p with rd := p.rd + 1 }) rfl rfl rfl).below (pw_below_drewN (Below.refl _ _) nq))
 have HS1q : Aside0 (∀ nq, Stay F w ((w.setCell ⟨k, 1, none⟩ (.int .i64 (p.rd + 1))).drewN nq)) := ⟨fun nq => stay_low ((Stay.refl F w).set (p := ⟨k, 1, none⟩) HR.out.inF _) (pw_below_drewN (Below.refl _ _) nq)⟩
 go_enter Tryz.func25, Tryz.ntmps25
 go_wp2_with fail
 go_quiet (fail)
 obtain ⟨Wd, hWd⟩ : ∃ Wd, Wd = (w.setCell ⟨k, 1, none⟩ (.int .i64 (p.rd + 1))).drewN nq := ⟨_, rfl⟩
 have HR1 := Aside0.mk (HR1q.out nq)
 have HS1 := Aside0.mk (HS1q.out nq)
 rw [← hWd] at HR1 HS1 ⊢
 have hy3 : Wd.cell? ⟨k, 3, none⟩ = some (.slice A 0 n) := (blk_cell HR1.out.blk 3).trans rfl
 have hg3 := blk_frozen HR1.out.blk 3
 clear hWd
 go_wp2_with (at_builtin; refine Kd.R_append (Kd.int .u8) (w0 := Wd) 0 rfl (.tmp 73) (.tmp 75) 33 5 (.int .u8 0) 1 rfl Tryz.underlying33 info_u8 rfl (by decide) (by omega) _ p.line 13 [.int .u8 13] (fun i => F i ∨ Wd.heap.size ≤ i) (fun _ => False) rfl rfl ?aP (fun _ hk => hk.elim) ?aF ?aO ?aB ?aS ?aL ?_)
 case aP => rfl
 case aF => exact fun i hk => .inr hk
 case aO => exact Kd.R_mono HR1.out.line (fun i hk => .inl hk)
 case aB => exact Below.refl _ _
 try (case aS => exact Nat.zero_le _)
 case aL => have := HSa.out.ln; omega
 intro v1 w1 hR hb hg hat
 obtain ⟨hb1, hrep, hst⟩ := HR1.out.lineTo hg hR
 obtain ⟨A1, c1, e1⟩ := Kd.R_slice hR
 rw [List.length_append, List.length_singleton] at e1
 have hz3 : w1.cell? ⟨k, 3, none⟩ = some (.slice A 0 n) := (blk_cell hb1 3).trans rfl
 have hf3 := blk_frozen hb1 3
 have HP := Aside0.mk hrep
 have HS := Aside0.mk (HS1.out.trans hst (fun i hi => .inl hi))
 have HSz := Aside0.mk HS1.out.size
 clear hR hb hg hat hb1 hrep hst
 subst e1
 go_wp2
 go_ret
 exact ⟨rfl, ⟨_, _, HP.out.mono (fun i hk => hk.elim .inl (fun h2 => .inr (Nat.le_trans HSz.out h2)))⟩, HS.out⟩
set_option maxHeartbeats 4000000 in
set_option maxRecDepth 100000 in
theorem take_e_app_b (w0 w : World) (F : Nat → Prop) (k : Nat) (vl vf : Value) (p : Par) (c : Int) (h : Rep w F k vl vf p) (hH : Held w0 w F) (hs : Sane p) (hn : p.line.length = 0) (hc : ¬ c = 10) (hc3 : ¬ c = 13) (hmo : ¬ p.rd + 1 > p.most) :
  Calls Tryz.prog 25 #[.pointer (some ⟨k, 0, none⟩), .int .u8 c] w (TakePost w F k ({ p with rd := p.rd + 1, line := p.line ++ [c] }, none)) := by
 have hz0 : w.cell? ⟨k, 0, none⟩ = some (.int .i64 p.most) := (blk_cell h.blk 0).trans rfl
 have hz1 : w.cell? ⟨k, 1, none⟩ = some (.int .i64 p.rd) := (blk_cell h.blk 1).trans rfl
 have hz2 : w.cell? ⟨k, 2, none⟩ = some (.int .i64 p.lines) := (blk_cell h.blk 2).trans rfl
 have hz3 : w.cell? ⟨k, 3, none⟩ = some vl := (blk_cell h.blk 3).trans rfl
 have hf1 := blk_frozen h.blk 1
 have hf2 := blk_frozen h.blk 2
 have hf3 := blk_frozen h.blk 3
 obtain ⟨A, n, hv, hcap, hC⟩ := Kd.R_reads h.line
 have HR := Aside0.mk h
 have HH := Aside0.mk hH
 have HSa := Aside0.mk hs
 have hr0 := hs.rd0
 have hr1 := hs.rd1
 have hm1 := hs.mo1
 have hm0 := hs.mo0
 have hl0 := hs.li0
 have hl1 := hs.li1
 have hnl := hs.ln
 obtain ⟨N, hN⟩ : ∃ N, N = p.line.length := ⟨_, rfl⟩
 rw [← hN] at hv hC hcap hnl hn
 have HNN := Aside0.mk hN
 clear h hN hs hH
 subst hv
 subst hn
 have hcast : ((0 : Nat) : Int) = 0 := rfl
 clear hC hcap hnl
 have bc : (c == 10) = false := by simpa using hc
 have bc' : (c != 10) = true := by simpa using hc
 have bc3 : (c != 13) = true := by simpa using hc3
 have hmo' : ¬ p.most < p.rd + 1 := by omega
 have hmoB : decide (p.most < p.rd + 1) = false := decide_eq_false hmo'
 have HR1q := Aside0.mk (fun nq : Nat => (HR.out.scal (i := 1) (v := .int .i64 (p.rd + 1)) (p' := { p with rd := p.rd + 1 }) rfl rfl rfl).below (pw_below_drewN (Below.refl _ _) nq))
 have HS1q : Aside0 (∀ nq, Stay F w ((w.setCell ⟨k, 1, none⟩ (.int .i64 (p.rd + 1))).drewN nq)) := ⟨fun nq => stay_low ((Stay.refl F w).set (p := ⟨k, 1, none⟩) HR.out.inF _) (pw_below_drewN (Below.refl _ _) nq)⟩
 go_enter Tryz.func25, Tryz.ntmps25
 go_wp2_with fail
 go_quiet (fail)
 obtain ⟨Wd, hWd⟩ : ∃ Wd, Wd = (w.setCell ⟨k, 1, none⟩ (.int .i64 (p.rd + 1))).drewN nq := ⟨_, rfl⟩
 have HR1 := Aside0.mk (HR1q.out nq)
 have HS1 := Aside0.mk (HS1q.out nq)
 rw [← hWd] at HR1 HS1 ⊢
 have hy3 : Wd.cell? ⟨k, 3, none⟩ = some (.slice A 0 n) := (blk_cell HR1.out.blk 3).trans rfl
 have hg3 := blk_frozen HR1.out.blk 3
 clear hWd
 go_wp2_with (at_builtin; refine Kd.R_append (Kd.int .u8) (w0 := Wd) 0 rfl (.tmp 73) (.tmp 75) 33 5 (.int .u8 0) 1 rfl Tryz.underlying33 info_u8 rfl (by decide) (by omega) _ p.line c [.int .u8 c] (fun i => F i ∨ Wd.heap.size ≤ i) (fun _ => False) rfl rfl ?aP (fun _ hk => hk.elim) ?aF ?aO ?aB ?aS ?aL ?_)
 case aP => rfl
 case aF => exact fun i hk => .inr hk
 case aO => exact Kd.R_mono HR1.out.line (fun i hk => .inl hk)
 case aB => exact Below.refl _ _
 try (case aS => exact Nat.zero_le _)
 case aL => have := HSa.out.ln; omega
 intro v1 w1 hR hb hg hat
 obtain ⟨hb1, hrep, hst⟩ := HR1.out.lineTo hg hR
 obtain ⟨A1, c1, e1⟩ := Kd.R_slice hR
 rw [List.length_append, List.length_singleton] at e1
 have hz3 : w1.cell? ⟨k, 3, none⟩ = some (.slice A 0 n) := (blk_cell hb1 3).trans rfl
 have hf3 := blk_frozen hb1 3
 have HP := Aside0.mk hrep
 have HS := Aside0.mk (HS1.out.trans hst (fun i hi => .inl hi))
 have HSz := Aside0.mk HS1.out.size
 clear hR hb hg hat hb1 hrep hst
 subst e1
 go_wp2
 go_ret
 exact ⟨rfl, ⟨_, _, HP.out.mono (fun i hk => hk.elim .inl (fun h2 => .inr (Nat.le_trans HSz.out h2)))⟩, HS.out⟩
set_option maxHeartbeats 4000000 in
set_option maxRecDepth 100000 in
theorem take_n_app_a (w0 w : World) (F : Nat → Prop) (k : Nat) (vl vf : Value) (p : Par) (c : Int) (h : Rep w F k vl vf p) (hH : Held w0 w F) (hs : Sane p) (hn : 0 < p.line.length) (X : Int) (hX : rd p.line ((p.line.length : Int) - 1) = X) (hx13 : ¬ X = 13) (hc : c = 13) (hmo : ¬ p.rd + 1 > p.most) (hlo : ¬ 8192 < p.line.length) :
  Calls Tryz.prog 25 #[.pointer (some ⟨k, 0, none⟩), .int .u8 c] w (TakePost w F k ({ p with rd := p.rd + 1, line := p.line ++ [13] }, none)) := by
 have hz0 : w.cell? ⟨k, 0, none⟩ = some (.int .i64 p.most) := (blk_cell h.blk 0).trans rfl
 have hz1 : w.cell? ⟨k, 1, none⟩ = some (.int .i64 p.rd) := (blk_cell h.blk 1).trans rfl
 have hz2 : w.cell? ⟨k, 2, none⟩ = some (.int .i64 p.lines) := (blk_cell h.blk 2).trans rfl
 have hz3 : w.cell? ⟨k, 3, none⟩ = some vl := (blk_cell h.blk 3).trans rfl
 have hf1 := blk_frozen h.blk 1
 have hf2 := blk_frozen h.blk 2
 have hf3 := blk_frozen h.blk 3
 obtain ⟨A, n, hv, hcap, hC⟩ := Kd.R_reads h.line
 have HR := Aside0.mk h
 have HH := Aside0.mk hH
 have HSa := Aside0.mk hs
 have hr0 := hs.rd0
 have hr1 := hs.rd1
 have hm1 := hs.mo1
 have hm0 := hs.mo0
 have hl0 := hs.li0
 have hl1 := hs.li1
 have hnl := hs.ln
 obtain ⟨N, hN⟩ : ∃ N, N = p.line.length := ⟨_, rfl⟩
 rw [← hN] at hv hC hcap hnl hn
 have HNN := Aside0.mk hN
 clear h hN hs hH
 subst hv
 rw [← HNN.out] at hlo
 have hpos : (0 : Int) < (N : Int) := by omega
 have hNle : (N : Int) ≤ 4294950000 := by omega
 have hi0 : (0 : Int) ≤ (N : Int) - 1 := by omega
 have hi1 : (N : Int) - 1 < (N : Int) := by omega
 obtain ⟨ad, eA, hx⟩ := Kd.at_int hC ((N : Int) - 1) (by omega) (by omega)
 cases eA
 have hxr : rd p.line ((N : Int) - 1) = X := by rw [HNN.out]; exact hX
 rw [hxr, show ((N : Int) - 1).toNat = N - 1 from by omega] at hx
 clear hxr hX hcap hnl hn
 have b13 : (X == 13) = false := by simpa using hx13
 subst hc
 have hmo' : ¬ p.most < p.rd + 1 := by omega
 have hmoB : decide (p.most < p.rd + 1) = false := decide_eq_false hmo'
 have hlo' : ¬ (8192 : Int) < (N : Int) := by omega
 have HR1q := Aside0.mk (fun nq : Nat => (HR.out.scal (i := 1) (v := .int .i64 (p.rd + 1)) (p' := { p with rd := p.rd + 1 }) rfl rfl rfl).below (pw_below_drewN (Below.refl _ _) nq))
 have HS1q : Aside0 (∀ nq, Stay F w ((w.setCell ⟨k, 1, none⟩ (.int .i64 (p.rd + 1))).drewN nq)) := ⟨fun nq => stay_low ((Stay.refl F w).set (p := ⟨k, 1, none⟩) HR.out.inF _) (pw_below_drewN (Below.refl _ _) nq)⟩
 go_enter Tryz.func25, Tryz.ntmps25
 go_wp2_with fail
 go_quiet (fail)
 obtain ⟨Wd, hWd⟩ : ∃ Wd, Wd = (w.setCell ⟨k, 1, none⟩ (.int .i64 (p.rd + 1))).drewN nq := ⟨_, rfl⟩
 have HR1 := Aside0.mk (HR1q.out nq)
 have HS1 := Aside0.mk (HS1q.out nq)
 rw [← hWd] at HR1 HS1 ⊢
 have hy3 : Wd.cell? ⟨k, 3, none⟩ = some (.slice (some ad) N n) := (blk_cell HR1.out.blk 3).trans rfl
 have hg3 := blk_frozen HR1.out.blk 3
 clear hWd
 go_wp2_with (at_builtin; refine Kd.R_append (Kd.int .u8) (w0 := Wd) 0 rfl (.tmp 73) (.tmp 75) 33 5 (.int .u8 0) 1 rfl Tryz.underlying33 info_u8 rfl (by decide) (by omega) _ p.line 13 [.int .u8 13] (fun i => F i ∨ Wd.heap.size ≤ i) (fun _ => False) rfl rfl ?aP (fun _ hk => hk.elim) ?aF ?aO ?aB ?aS ?aL ?_)
 case aP => rfl
 case aF => exact fun i hk => .inr hk
 case aO => exact Kd.R_mono HR1.out.line (fun i hk => .inl hk)
 case aB => exact Below.refl _ _
 try (case aS => exact Nat.zero_le _)
 case aL => have := HSa.out.ln; omega
 intro v1 w1 hR hb hg hat
 obtain ⟨hb1, hrep, hst⟩ := HR1.out.lineTo hg hR
 obtain ⟨A1, c1, e1⟩ := Kd.R_slice hR
 rw [List.length_append, List.length_singleton] at e1
 have hz3 : w1.cell? ⟨k, 3, none⟩ = some (.slice (some ad) N n) := (blk_cell hb1 3).trans rfl
 have hf3 := blk_frozen hb1 3
 have HP := Aside0.mk hrep
 have HS := Aside0.mk (HS1.out.trans hst (fun i hi => .inl hi))
 have HSz := Aside0.mk HS1.out.size
 clear hR hb hg hat hb1 hrep hst
 subst e1
 go_wp2
 go_ret
 exact ⟨rfl, ⟨_, _, HP.out.mono (fun i hk => hk.elim .inl (fun h2 => .inr (Nat.le_trans HSz.out h2)))⟩, HS.out⟩
set_option maxHeartbeats 4000000 in
set_option maxRecDepth 100000 in
theorem take_n_app_b (w0 w : World) (F : Nat → Prop) (k : Nat) (vl vf : Value) (p : Par) (c : Int) (h : Rep w F k vl vf p) (hH : Held w0 w F) (hs : Sane p) (hn : 0 < p.line.length) (X : Int) (hX : rd p.line ((p.line.length : Int) - 1) = X) (hx13 : ¬ X = 13) (hc : ¬ c = 10) (hc3 : ¬ c = 13) (hmo : ¬ p.rd + 1 > p.most) (hlo : ¬ 8191 < p.line.length) :
  Calls Tryz.prog 25 #[.pointer (some ⟨k, 0, none⟩), .int .u8 c] w (TakePost w F k ({ p with rd := p.rd + 1, line := p.line ++ [c] }, none)) := by
 have hz0 : w.cell? ⟨k, 0, none⟩ = some (.int .i64 p.most) := (blk_cell h.blk 0).trans rfl
 have hz1 : w.cell? ⟨k, 1, none⟩ = some (.int .i64 p.rd) := (blk_cell h.blk 1).trans rfl
 have hz2 : w.cell? ⟨k, 2, none⟩ = some (.int .i64 p.lines) := (blk_cell h.blk 2).trans rfl
 have hz3 : w.cell? ⟨k, 3, none⟩ = some vl := (blk_cell h.blk 3).trans rfl
 have hf1 := blk_frozen h.blk 1
 have hf2 := blk_frozen h.blk 2
 have hf3 := blk_frozen h.blk 3
 obtain ⟨A, n, hv, hcap, hC⟩ := Kd.R_reads h.line
 have HR := Aside0.mk h
 have HH := Aside0.mk hH
 have HSa := Aside0.mk hs
 have hr0 := hs.rd0
 have hr1 := hs.rd1
 have hm1 := hs.mo1
 have hm0 := hs.mo0
 have hl0 := hs.li0
 have hl1 := hs.li1
 have hnl := hs.ln
 obtain ⟨N, hN⟩ : ∃ N, N = p.line.length := ⟨_, rfl⟩
 rw [← hN] at hv hC hcap hnl hn
 have HNN := Aside0.mk hN
 clear h hN hs hH
 subst hv
 rw [← HNN.out] at hlo
 have hpos : (0 : Int) < (N : Int) := by omega
 have hNle : (N : Int) ≤ 4294950000 := by omega
 have hi0 : (0 : Int) ≤ (N : Int) - 1 := by omega
 have hi1 : (N : Int) - 1 < (N : Int) := by omega
 obtain ⟨ad, eA, hx⟩ := Kd.at_int hC ((N : Int) - 1) (by omega) (by omega)
 cases eA
 have hxr : rd p.line ((N : Int) - 1) = X := by rw [HNN.out]; exact hX
 rw [hxr, show ((N : Int) - 1).toNat = N - 1 from by omega] at hx
 clear hxr hX hcap hnl hn
 have b13 : (X == 13) = false := by simpa using hx13
 have bc : (c == 10) = false := by simpa using hc
 have bc' : (c != 10) = true := by simpa using hc
 have bc3 : (c != 13) = true := by simpa using hc3
 have hmo' : ¬ p.most < p.rd + 1 := by omega
 have hmoB : decide (p.most < p.rd + 1) = false := decide_eq_false hmo'
 have hlo' : ¬ (8192 : Int) < (N : Int) + 1 := by omega
 have HR1q := Aside0.mk (fun nq : Nat => (HR.out.scal (i := 1) (v := .int .i64 (p.rd + 1)) (p' := { p with rd := p.rd + 1 }) rfl rfl rfl).below (pw_below_drewN (Below.refl _ _) nq))
 have HS1q : Aside0 (∀ nq, Stay F w ((w.setCell ⟨k, 1, none⟩ (.int .i64 (p.rd + 1))).drewN nq)) := ⟨fun nq => stay_low ((Stay.refl F w).set (p := ⟨k, 1, none⟩) HR.out.inF _) (pw_below_drewN (Below.refl _ _) nq)⟩
 go_enter Tryz.func25, Tryz.ntmps25
 go_wp2_with fail
 go_quiet (fail)
 obtain ⟨Wd, hWd⟩ : ∃ Wd, Wd = (w.setCell ⟨k, 1, none⟩ (.int .i64 (p.rd + 1))).drewN nq := ⟨_, rfl⟩
 have HR1 := Aside0.mk (HR1q.out nq)
 have HS1 := Aside0.mk (HS1q.out nq)
 rw [← hWd] at HR1 HS1 ⊢
 have hy3 : Wd.cell? ⟨k, 3, none⟩ = some (.slice (some ad) N n) := (blk_cell HR1.out.blk 3).trans rfl
 have hg3 := blk_frozen HR1.out.blk 3
 clear hWd
 go_wp2_with (at_builtin; refine Kd.R_append (Kd.int .u8) (w0 := Wd) 0 rfl (.tmp 73) (.tmp 75) 33 5 (.int .u8 0) 1 rfl Tryz.underlying33 info_u8 rfl (by decide) (by omega) _ p.line c [.int .u8 c] (fun i => F i ∨ Wd.heap.size ≤ i) (fun _ => False) rfl rfl ?aP (fun _ hk => hk.elim) ?aF ?aO ?aB ?aS ?aL ?_)
 case aP => rfl
 case aF => exact fun i hk => .inr hk
 case aO => exact Kd.R_mono HR1.out.line (fun i hk => .inl hk)
 case aB => exact Below.refl _ _
 try (case aS => exact Nat.zero_le _)
 case aL => have := HSa.out.ln; omega
 intro v1 w1 hR hb hg hat
 obtain ⟨hb1, hrep, hst⟩ := HR1.out.lineTo hg hR
 obtain ⟨A1, c1, e1⟩ := Kd.R_slice hR
 rw [List.length_append, List.length_singleton] at e1
 have hz3 : w1.cell? ⟨k, 3, none⟩ = some (.slice (some ad) N n) := (blk_cell hb1 3).trans rfl
 have hf3 := blk_frozen hb1 3
 have HP := Aside0.mk hrep
 have HS := Aside0.mk (HS1.out.trans hst (fun i hi => .inl hi))
 have HSz := Aside0.mk HS1.out.size
 clear hR hb hg hat hb1 hrep hst
 subst e1
 go_wp2
 go_ret
 exact ⟨rfl, ⟨_, _, HP.out.mono (fun i hk => hk.elim .inl (fun h2 => .inr (Nat.le_trans HSz.out h2)))⟩, HS.out⟩
/-- What a line's parser gives. -/
theorem line_none (w0 w : World) (F : Nat → Prop) (k : Nat) (vl vf : Value) (p : Par) (s : ByteArray) (q : Par) (h : Rep w F k vl vf p) (hH : Held w0 w F) (hs : s.size ≤ 4294960000) (hn9 : p.hd.f6.length ≤ 4294960000) (hq : lineS p s.data.toList = (q, 0)) :
  Calls Tryz.prog (stF p.st) #[.pointer (some ⟨k, 0, none⟩), .string s] w fun e w' => e = .returned .nilIface ∧ (∃ vl vf, Rep w' (fun i => F i ∨ w.heap.size ≤ i) k vl vf q) ∧ Stay F w w' := by
 have h5 := line_calls w0 w F k vl vf p s h hH hs hn9
 rw [hq] at h5
 exact h5
theorem line_some (w0 w : World) (F : Nat → Prop) (k : Nat) (vl vf : Value) (p : Par) (s : ByteArray) (q : Par) (c : Int) (hc : ¬ c = 0) (h : Rep w F k vl vf p) (hH : Held w0 w F) (hs : s.size ≤ 4294960000) (hn9 : p.hd.f6.length ≤ 4294960000) (hq : lineS p s.data.toList = (q, c)) :
  Calls Tryz.prog (stF p.st) #[.pointer (some ⟨k, 0, none⟩), .string s] w fun e w' => e = .returned (.iface 80 (.agg #[.int .i64 c])) ∧ (∃ vl vf, Rep w' (fun i => F i ∨ w.heap.size ≤ i) k vl vf q) ∧ Stay F w w' := by
 have h5 := line_calls w0 w F k vl vf p s h hH hs hn9
 rw [hq] at h5
 have e : rfV c = .iface 80 (.agg #[.int .i64 c]) := by unfold rfV; rw [if_neg hc]
 unfold LinePost at h5
 simp only [e] at h5
 exact h5
set_option maxHeartbeats 4000000 in
set_option maxRecDepth 100000 in
theorem take_line_ok (w0 w : World) (F : Nat → Prop) (k : Nat) (vl vf : Value) (p : Par) (c : Int) (h : Rep w F k vl vf p) (hH : Held w0 w F) (hs : Sane p) (hn : 0 < p.line.length) (hX : rd p.line ((p.line.length : Int) - 1) = 13) (hc : c = 10) (hmo : ¬ p.rd + 1 > p.most) (q : Par) (hq : lineS { p with rd := p.rd + 1, line := [], lines := p.lines + 1 } (bytesS (p.line.take (p.line.length - 1))) = (q, 0)) :
  Calls Tryz.prog 25 #[.pointer (some ⟨k, 0, none⟩), .int .u8 c] w (TakePost w F k (q, none)) := by
 have hz0 : w.cell? ⟨k, 0, none⟩ = some (.int .i64 p.most) := (blk_cell h.blk 0).trans rfl
 have hz1 : w.cell? ⟨k, 1, none⟩ = some (.int .i64 p.rd) := (blk_cell h.blk 1).trans rfl
 have hz2 : w.cell? ⟨k, 2, none⟩ = some (.int .i64 p.lines) := (blk_cell h.blk 2).trans rfl
 have hz3 : w.cell? ⟨k, 3, none⟩ = some vl := (blk_cell h.blk 3).trans rfl
 have hf1 := blk_frozen h.blk 1
 have hf2 := blk_frozen h.blk 2
 have hf3 := blk_frozen h.blk 3
 obtain ⟨A, n, hv, hcap, hC⟩ := Kd.R_reads h.line
 have HR := Aside0.mk h
 have HH := Aside0.mk hH
 have HSa := Aside0.mk hs
 have hr0 := hs.rd0
 have hr1 := hs.rd1
 have hm1 := hs.mo1
 have hm0 := hs.mo0
 have hl0 := hs.li0
 have hl1 := hs.li1
 have hnl := hs.ln
 obtain ⟨N, hN⟩ : ∃ N, N = p.line.length := ⟨_, rfl⟩
 rw [← hN] at hv hC hcap hnl hn
 have HNN := Aside0.mk hN
 clear h hN hs hH
 subst hv
 have hpos : (0 : Int) < (N : Int) := by omega
 have hNle : (N : Int) ≤ 4294950000 := by omega
 have hi0 : (0 : Int) ≤ (N : Int) - 1 := by omega
 have hi1 : (N : Int) - 1 < (N : Int) := by omega
 obtain ⟨ad, eA, hx⟩ := Kd.at_int hC ((N : Int) - 1) (by omega) (by omega)
 cases eA
 have hxr : rd p.line ((N : Int) - 1) = 13 := by rw [HNN.out]; exact hX
 rw [hxr, show ((N : Int) - 1).toNat = N - 1 from by omega] at hx
 clear hxr hX hnl hn
 have hmo' : ¬ p.most < p.rd + 1 := by omega
 have hmoB : decide (p.most < p.rd + 1) = false := decide_eq_false hmo'
 subst hc
 have HR1q := Aside0.mk (fun nq : Nat => (HR.out.scal (i := 1) (v := .int .i64 (p.rd + 1)) (p' := { p with rd := p.rd + 1 }) rfl rfl rfl).below (pw_below_drewN (Below.refl _ _) nq))
 have HS1q : Aside0 (∀ nq, Stay F w ((w.setCell ⟨k, 1, none⟩ (.int .i64 (p.rd + 1))).drewN nq)) := ⟨fun nq => stay_low ((Stay.refl F w).set (p := ⟨k, 1, none⟩) HR.out.inF _) (pw_below_drewN (Below.refl _ _) nq)⟩
 have hlen : (p.line.take (N - 1)).length = N - 1 := by rw [List.length_take]; have := HNN.out; omega
 obtain ⟨s, hs⟩ : ∃ s, s = strOfNums (p.line.take (N - 1)) := ⟨_, rfl⟩
 have hssz : s.size ≤ 4294960000 := by rw [hs, strOfNums_size, hlen]; omega
 have hkp := lineS_keeps { p with rd := p.rd + 1, line := [], lines := p.lines + 1 } (bytesS (p.line.take (p.line.length - 1)))
 rw [hq] at hkp
 have HKp := Aside0.mk hkp.1
 rw [← HNN.out] at hq
 unfold bytesS at hq
 rw [← hs] at hq
 have HQ := Aside0.mk hq
 have HSs := Aside0.mk hs
 have HSz := Aside0.mk hssz
 have HLen := Aside0.mk hlen
 clear hkp hq hs hssz hlen
 go_enter Tryz.func25, Tryz.ntmps25
 go_wp2_with fail
 go_quiet (fail)
 obtain ⟨Wd, hWd⟩ : ∃ Wd, Wd = (w.setCell ⟨k, 1, none⟩ (.int .i64 (p.rd + 1))).drewN nq := ⟨_, rfl⟩
 have HR1 := Aside0.mk (HR1q.out nq)
 have HS1 := Aside0.mk (HS1q.out nq)
 rw [← hWd] at HR1 HS1 ⊢
 have hy2 : Wd.cell? ⟨k, 2, none⟩ = some (.int .i64 p.lines) := (blk_cell HR1.out.blk 2).trans rfl
 have hy3 : Wd.cell? ⟨k, 3, none⟩ = some (.slice (some ad) N n) := (blk_cell HR1.out.blk 3).trans rfl
 have hg2 := blk_frozen HR1.out.blk 2
 have hg3 := blk_frozen HR1.out.blk 3
 clear hWd
 obtain ⟨A2, c2, e2, hc2, hC2⟩ := Kd.R_reads (Kd.R_take HR1.out.line (m := N - 1) (by show _ ≤ p.line.length; have := HNN.out; omega))
 rw [show ({ p with rd := p.rd + 1 } : Par).line = p.line from rfl] at e2 hC2
 rw [HLen.out] at e2 hC2
 injection e2 with e3 _ e4; subst e3; subst e4
 have hcv := Kd.C_string (P := Tryz.prog) (c := n) Tryz.underlying33 Tryz.underlying5 Tryz.underlying9 hC2
 rw [← HSs.out] at hcv
 have HR2 := Aside0.mk (HR1.out.lineNil.scal (i := 2) (v := .int .i64 (p.lines + 1)) (p' := { p with rd := p.rd + 1, line := [], lines := p.lines + 1 }) rfl rfl rfl)
 have HS2 := Aside0.mk ((HS1.out.set (p := ⟨k, 3, none⟩) HR.out.inF (.slice none 0 0)).set (p := ⟨k, 2, none⟩) HR.out.inF (.int .i64 (p.lines + 1)))
 obtain ⟨g, hg⟩ : ∃ g, g = stF p.st := ⟨_, rfl⟩
 have eg : ∀ args w, (callFunc g args).run Tryz.prog w = .ok (.enter g args) w := by rw [hg]; exact stF_enters _
 have hy4 : Wd.cell? ⟨k, 4, none⟩ = some (.func (.func g) #[.pointer (some ⟨k, 0, none⟩)] #[]) := by rw [hg]; exact (blk_cell HR1.out.blk 4).trans rfl
 have hCl := line_none w0 _ F k _ _ _ s q HR2.out (HH.out.next HS2.out) HSz.out (by show p.hd.f6.length ≤ _; have := HSa.out.fl; omega) HQ.out
 rw [show ({ p with rd := p.rd + 1, line := [], lines := p.lines + 1 } : Par).st = p.st from rfl, ← hg] at hCl
 have HC := Aside0.mk hCl
 clear hc2 hC2 hg hCl
 go_wp2_with (go_at_fn g; refine HC.out.mono ?_; rintro e w2 ⟨rfl, ⟨vl2, vf2, hrep2⟩, hst2⟩; have HP2 := Aside0.mk hrep2; have HS3 := Aside0.mk hst2; have hx2 : w2.cell? ⟨k, 2, none⟩ = some (.int .i64 (p.lines + 1)) := (blk_cell hrep2.blk 2).trans (by show some (Value.int .i64 q.lines) = _; rw [HKp.out]); clear hrep2 hst2)
 go_ret
 refine ⟨rfl, ⟨_, _, HP2.out.mono (fun i hk => hk.elim .inl (fun h2 => .inr (Nat.le_trans HS2.out.size h2)))⟩, HS2.out.trans HS3.out (fun i hi => .inl hi)⟩
set_option maxHeartbeats 4000000 in
set_option maxRecDepth 100000 in
theorem take_line_no (w0 w : World) (F : Nat → Prop) (k : Nat) (vl vf : Value) (p : Par) (c : Int) (h : Rep w F k vl vf p) (hH : Held w0 w F) (hs : Sane p) (hn : 0 < p.line.length) (hX : rd p.line ((p.line.length : Int) - 1) = 13) (hc : c = 10) (hmo : ¬ p.rd + 1 > p.most) (q : Par) (er : Int) (her : ¬ er = 0) (hq : lineS { p with rd := p.rd + 1, line := [], lines := p.lines + 1 } (bytesS (p.line.take (p.line.length - 1))) = (q, er)) :
  Calls Tryz.prog 25 #[.pointer (some ⟨k, 0, none⟩), .int .u8 c] w (TakePost w F k (q, some (.at (p.lines + 1) er))) := by
 have hz0 : w.cell? ⟨k, 0, none⟩ = some (.int .i64 p.most) := (blk_cell h.blk 0).trans rfl
 have hz1 : w.cell? ⟨k, 1, none⟩ = some (.int .i64 p.rd) := (blk_cell h.blk 1).trans rfl
 have hz2 : w.cell? ⟨k, 2, none⟩ = some (.int .i64 p.lines) := (blk_cell h.blk 2).trans rfl
 have hz3 : w.cell? ⟨k, 3, none⟩ = some vl := (blk_cell h.blk 3).trans rfl
 have hf1 := blk_frozen h.blk 1
 have hf2 := blk_frozen h.blk 2
 have hf3 := blk_frozen h.blk 3
 obtain ⟨A, n, hv, hcap, hC⟩ := Kd.R_reads h.line
 have HR := Aside0.mk h
 have HH := Aside0.mk hH
 have HSa := Aside0.mk hs
 have hr0 := hs.rd0
 have hr1 := hs.rd1
 have hm1 := hs.mo1
 have hm0 := hs.mo0
 have hl0 := hs.li0
 have hl1 := hs.li1
 have hnl := hs.ln
 obtain ⟨N, hN⟩ : ∃ N, N = p.line.length := ⟨_, rfl⟩
 rw [← hN] at hv hC hcap hnl hn
 have HNN := Aside0.mk hN
 clear h hN hs hH
 subst hv
 have hpos : (0 : Int) < (N : Int) := by omega
 have hNle : (N : Int) ≤ 4294950000 := by omega
 have hi0 : (0 : Int) ≤ (N : Int) - 1 := by omega
 have hi1 : (N : Int) - 1 < (N : Int) := by omega
 obtain ⟨ad, eA, hx⟩ := Kd.at_int hC ((N : Int) - 1) (by omega) (by omega)
 cases eA
 have hxr : rd p.line ((N : Int) - 1) = 13 := by rw [HNN.out]; exact hX
 rw [hxr, show ((N : Int) - 1).toNat = N - 1 from by omega] at hx
 clear hxr hX hnl hn
 have hmo' : ¬ p.most < p.rd + 1 := by omega
 have hmoB : decide (p.most < p.rd + 1) = false := decide_eq_false hmo'
 subst hc
 have HR1q := Aside0.mk (fun nq : Nat => (HR.out.scal (i := 1) (v := .int .i64 (p.rd + 1)) (p' := { p with rd := p.rd + 1 }) rfl rfl rfl).below (pw_below_drewN (Below.refl _ _) nq))
 have HS1q : Aside0 (∀ nq, Stay F w ((w.setCell ⟨k, 1, none⟩ (.int .i64 (p.rd + 1))).drewN nq)) := ⟨fun nq => stay_low ((Stay.refl F w).set (p := ⟨k, 1, none⟩) HR.out.inF _) (pw_below_drewN (Below.refl _ _) nq)⟩
 have hlen : (p.line.take (N - 1)).length = N - 1 := by rw [List.length_take]; have := HNN.out; omega
 obtain ⟨s, hs⟩ : ∃ s, s = strOfNums (p.line.take (N - 1)) := ⟨_, rfl⟩
 have hssz : s.size ≤ 4294960000 := by rw [hs, strOfNums_size, hlen]; omega
 have hkp := lineS_keeps { p with rd := p.rd + 1, line := [], lines := p.lines + 1 } (bytesS (p.line.take (p.line.length - 1)))
 rw [hq] at hkp
 have HKp := Aside0.mk hkp.1
 rw [← HNN.out] at hq
 unfold bytesS at hq
 rw [← hs] at hq
 have HQ := Aside0.mk hq
 have HSs := Aside0.mk hs
 have HSz := Aside0.mk hssz
 have HLen := Aside0.mk hlen
 clear hkp hq hs hssz hlen
 go_enter Tryz.func25, Tryz.ntmps25
 go_wp2_with fail
 go_quiet (fail)
 obtain ⟨Wd, hWd⟩ : ∃ Wd, Wd = (w.setCell ⟨k, 1, none⟩ (.int .i64 (p.rd + 1))).drewN nq := ⟨_, rfl⟩
 have HR1 := Aside0.mk (HR1q.out nq)
 have HS1 := Aside0.mk (HS1q.out nq)
 rw [← hWd] at HR1 HS1 ⊢
 have hy2 : Wd.cell? ⟨k, 2, none⟩ = some (.int .i64 p.lines) := (blk_cell HR1.out.blk 2).trans rfl
 have hy3 : Wd.cell? ⟨k, 3, none⟩ = some (.slice (some ad) N n) := (blk_cell HR1.out.blk 3).trans rfl
 have hg2 := blk_frozen HR1.out.blk 2
 have hg3 := blk_frozen HR1.out.blk 3
 clear hWd
 obtain ⟨A2, c2, e2, hc2, hC2⟩ := Kd.R_reads (Kd.R_take HR1.out.line (m := N - 1) (by show _ ≤ p.line.length; have := HNN.out; omega))
 rw [show ({ p with rd := p.rd + 1 } : Par).line = p.line from rfl] at e2 hC2
 rw [HLen.out] at e2 hC2
 injection e2 with e3 _ e4; subst e3; subst e4
 have hcv := Kd.C_string (P := Tryz.prog) (c := n) Tryz.underlying33 Tryz.underlying5 Tryz.underlying9 hC2
 rw [← HSs.out] at hcv
 have HR2 := Aside0.mk (HR1.out.lineNil.scal (i := 2) (v := .int .i64 (p.lines + 1)) (p' := { p with rd := p.rd + 1, line := [], lines := p.lines + 1 }) rfl rfl rfl)
 have HS2 := Aside0.mk ((HS1.out.set (p := ⟨k, 3, none⟩) HR.out.inF (.slice none 0 0)).set (p := ⟨k, 2, none⟩) HR.out.inF (.int .i64 (p.lines + 1)))
 obtain ⟨g, hg⟩ : ∃ g, g = stF p.st := ⟨_, rfl⟩
 have eg : ∀ args w, (callFunc g args).run Tryz.prog w = .ok (.enter g args) w := by rw [hg]; exact stF_enters _
 have hy4 : Wd.cell? ⟨k, 4, none⟩ = some (.func (.func g) #[.pointer (some ⟨k, 0, none⟩)] #[]) := by rw [hg]; exact (blk_cell HR1.out.blk 4).trans rfl
 have hCl := line_some w0 _ F k _ _ _ s q er her HR2.out (HH.out.next HS2.out) HSz.out (by show p.hd.f6.length ≤ _; have := HSa.out.fl; omega) HQ.out
 rw [show ({ p with rd := p.rd + 1, line := [], lines := p.lines + 1 } : Par).st = p.st from rfl, ← hg] at hCl
 have HC := Aside0.mk hCl
 clear hc2 hC2 hg hCl her
 go_wp2_with (go_at_fn g; refine HC.out.mono ?_; rintro e w2 ⟨rfl, ⟨vl2, vf2, hrep2⟩, hst2⟩; have HP2 := Aside0.mk hrep2; have HS3 := Aside0.mk hst2; have hx2 : w2.cell? ⟨k, 2, none⟩ = some (.int .i64 (p.lines + 1)) := (blk_cell hrep2.blk 2).trans (by show some (Value.int .i64 q.lines) = _; rw [HKp.out]); clear hrep2 hst2)
 go_ret
 refine ⟨rfl, ⟨_, _, HP2.out.mono (fun i hk => hk.elim .inl (fun h2 => .inr (Nat.le_trans HS2.out.size h2)))⟩, HS2.out.trans HS3.out (fun i hi => .inl hi)⟩
theorem take_calls (w0 w : World) (F : Nat → Prop) (k : Nat) (vl vf : Value) (p : Par) (c : Int) (h : Rep w F k vl vf p) (hH : Held w0 w F) (hs : Sane p) :
  Calls Tryz.prog 25 #[.pointer (some ⟨k, 0, none⟩), .int .u8 c] w (TakePost w F k (takeS p c)) := by
 by_cases hn : p.line.length = 0
 ·have hd : decide (0 < p.line.length) = false := decide_eq_false (by omega)
  by_cases hc : c = 10
  ·rw [show takeS p c = (p, some (.bare 81)) from by unfold takeS; simp only; rw [hd, hc]; rfl]
   exact take_e10 w0 w F k vl vf p c h hH hs hn hc
  ·have hb : (c == 10) = false := by simpa using hc
   by_cases hmo : p.rd + 1 > p.most
   ·rw [show takeS p c = ({ p with rd := p.rd + 1 }, some (.bare 85)) from by unfold takeS; simp only; rw [hd, hb, if_neg (by simp), if_pos (.inl hmo)]]
    by_cases hc3 : c = 13
    ·exact take_e_most_a w0 w F k vl vf p c h hH hs hn hc hc3 hmo
    ·exact take_e_most_b w0 w F k vl vf p c h hH hs hn hc hc3 hmo
   ·rw [show takeS p c = ({ p with rd := p.rd + 1, line := p.line ++ [c] }, none) from by
     unfold takeS; simp only; rw [hd, hb, if_neg (by simp), if_neg (by rintro (h5 | ⟨_, h5⟩); exact hmo h5; rw [hn] at h5; split at h5 <;> omega), if_pos hc]]
    by_cases hc3 : c = 13
    ·subst hc3; exact take_e_app_a w0 w F k vl vf p 13 h hH hs hn rfl hmo
    ·exact take_e_app_b w0 w F k vl vf p c h hH hs hn hc hc3 hmo
 ·have hp : 0 < p.line.length := by omega
  have hd : decide (0 < p.line.length) = true := decide_eq_true hp
  by_cases hx : rd p.line ((p.line.length : Int) - 1) = 13
  ·by_cases hc : c = 10
   ·by_cases hmo : p.rd + 1 > p.most
    ·rw [show takeS p c = ({ p with rd := p.rd + 1 }, some (.bare 85)) from by unfold takeS; simp only; rw [hd, hx, hc, if_neg (by simp), if_pos (.inl hmo)]]
     exact take_x_most w0 w F k vl vf p c h hH hs hp hx hc hmo
    ·obtain ⟨⟨q, er⟩, hq⟩ : ∃ q, q = lineS { p with rd := p.rd + 1, line := [], lines := p.lines + 1 } (bytesS (p.line.take (p.line.length - 1))) := ⟨_, rfl⟩
     have e : takeS p c = (q, if er = 0 then none else some (.at (p.lines + 1) er)) := by
      unfold takeS; simp only; rw [hd, hx, hc, if_neg (by simp), if_neg (by rintro (h5 | ⟨h5, _⟩); exact hmo h5; simp at h5), if_neg (by simp), ← hq]
     rw [e]
     by_cases her : er = 0
     ·rw [if_pos her]
      subst her
      exact take_line_ok w0 w F k vl vf p c h hH hs hp hx hc hmo q hq.symm
     ·rw [if_neg her]
      exact take_line_no w0 w F k vl vf p c h hH hs hp hx hc hmo q er her hq.symm
   ·have hb : (c == 10) = false := by simpa using hc
    rw [show takeS p c = (p, some (.bare 81)) from by unfold takeS; simp only; rw [hd, hx, hb]; rfl]
    exact take_x w0 w F k vl vf p c h hH hs hp hx hc
  ·have hxb : (rd p.line ((p.line.length : Int) - 1) == 13) = false := by simpa using hx
   by_cases hc : c = 10
   ·rw [show takeS p c = (p, some (.bare 81)) from by unfold takeS; simp only; rw [hd, hxb, hc]; rfl]
    exact take_n10 w0 w F k vl vf p c h hH hs hp _ rfl hx hc
   ·have hb : (c == 10) = false := by simpa using hc
    by_cases hmo : p.rd + 1 > p.most
    ·rw [show takeS p c = ({ p with rd := p.rd + 1 }, some (.bare 85)) from by unfold takeS; simp only; rw [hd, hxb, hb, if_neg (by simp), if_pos (.inl hmo)]]
     by_cases hc3 : c = 13
     ·exact take_n_most_a w0 w F k vl vf p c h hH hs hp _ rfl hx hc hc3 hmo
     ·exact take_n_most_b w0 w F k vl vf p c h hH hs hp _ rfl hx hc hc3 hmo
    ·by_cases hc3 : c = 13
     ·by_cases hlo : 8192 < p.line.length
      ·rw [show takeS p c = ({ p with rd := p.rd + 1 }, some (.bare 85)) from by unfold takeS; simp only; rw [hd, hxb, hb, if_neg (by simp), if_pos (.inr ⟨rfl, by rw [if_neg (by omega)]; omega⟩)]]
       exact take_long_a w0 w F k vl vf p c h hH hs hp _ rfl hx hc hc3 hmo hlo
      ·rw [show takeS p c = ({ p with rd := p.rd + 1, line := p.line ++ [c] }, none) from by
        unfold takeS; simp only; rw [hd, hxb, hb, if_neg (by simp), if_neg (by rintro (h5 | ⟨_, h5⟩); exact hmo h5; rw [if_neg (by omega)] at h5; omega), if_pos hc]]
       subst hc3
       exact take_n_app_a w0 w F k vl vf p 13 h hH hs hp _ rfl hx rfl hmo hlo
     ·by_cases hlo : 8191 < p.line.length
      ·rw [show takeS p c = ({ p with rd := p.rd + 1 }, some (.bare 85)) from by unfold takeS; simp only; rw [hd, hxb, hb, if_neg (by simp), if_pos (.inr ⟨rfl, by rw [if_pos ⟨hc, hc3⟩]; omega⟩)]]
       exact take_long_b w0 w F k vl vf p c h hH hs hp _ rfl hx hc hc3 hmo hlo
      ·rw [show takeS p c = ({ p with rd := p.rd + 1, line := p.line ++ [c] }, none) from by
        unfold takeS; simp only; rw [hd, hxb, hb, if_neg (by simp), if_neg (by rintro (h5 | ⟨_, h5⟩); exact hmo h5; rw [if_pos ⟨hc, hc3⟩] at h5; omega), if_pos hc]]
       exact take_n_app_b w0 w F k vl vf p c h hH hs hp _ rfl hx hc hc3 hmo hlo
end Go.Proofs.YtmlgejgnjfbblaaGreatDoor.Hd
/- Package head, by hand: Feed, Head, New; own text of this session. -/
namespace Go.Proofs.YtmlgejgnjfbblaaGreatDoor.Hd
open Go.RowKit Go.Proofs.YtmlgejgnjfbblaaGreatDoorW.PrintWords Go.Proofs.YtmlgejgnjfbblaaGreatDoorW.PrintLast Chk Px Hr
set_option linter.unusedVariables false
set_option linter.unusedSimpArgs false
theorem feedP_stop (p : Par) (b : List Int) (n : Nat) (h : b = [] ∨ p.whole = true ∨ p.err.isSome = true) : feedP p b n = (p, n) := by
  cases b with
  | nil => rfl
  | cons c r => rcases h with h | h | h; cases h; all_goals (unfold feedP; rw [if_pos (by first | exact .inl h | exact .inr h)])
theorem feedP_next (p : Par) (c : Int) (r : List Int) (n : Nat) (h1 : p.whole = false) (h2 : p.err = none) : feedP p (c :: r) n = feedP { (takeS p c).1 with err := (takeS p c).2 } r (n + 1) := by
  show (if p.whole = true ∨ p.err.isSome = true then (p, n) else _) = _
  rw [if_neg (by rw [h1, h2]; simp)]
/-- How much a parser's numbers may grow. -/
structure SaneN (m : Nat) (p : Par) : Prop where
  rd0 : 0 ≤ p.rd
  mo0 : 0 ≤ p.most
  mo1 : p.most ≤ 1099511627776
  li0 : 0 ≤ p.lines
  rd1 : p.rd + m ≤ 1099511627776
  li1 : p.lines + m ≤ 1099511627776
  ln : p.line.length + m ≤ 4294950000
  fl : p.hd.f6.length + m ≤ 4294950000
theorem SaneN.sane {m : Nat} {p : Par} (h : SaneN m p) : Sane p := ⟨h.rd0, by have := h.rd1; omega, h.mo0, h.mo1, h.li0, by have := h.li1; omega, by have := h.ln; omega, by have := h.fl; omega⟩
theorem lineS_fl (p : Par) (l : Bs) : (lineS p l).1.hd.f6.length ≤ p.hd.f6.length + 1 := by
  unfold lineS
  split
  · unfold reqS
    split
    · exact Nat.le_succ _
    · split
      · exact Nat.le_succ _
      · split <;> exact Nat.le_succ _
  · unfold respS
    split
    · exact Nat.le_succ _
    · split <;> exact Nat.le_succ _
  · unfold fldS
    split
    · exact Nat.le_succ _
    · split
      · exact Nat.le_succ _
      · split
        · exact Nat.le_succ _
        · simp
theorem takeS_cases (G : Par × Option Er → Prop) (p : Par) (c : Int) (h1 : G (p, some (.bare 81))) (h2 : G ({ p with rd := p.rd + 1 }, some (.bare 85))) (h3 : G ({ p with rd := p.rd + 1, line := p.line ++ [c] }, none))
    (h4 : ∀ o, G ((lineS { p with rd := p.rd + 1, line := [], lines := p.lines + 1 } (bytesS (p.line.take (p.line.length - 1)))).1, o)) : G (takeS p c) := by
  have key : ∀ (a : Bool) (B : Prop) [Decidable B] (o : Option Er), G (if a = true then (p, some (.bare 81)) else if B then ({ p with rd := p.rd + 1 }, some (.bare 85)) else if c ≠ 10 then ({ p with rd := p.rd + 1, line := p.line ++ [c] }, none) else ((lineS { p with rd := p.rd + 1, line := [], lines := p.lines + 1 } (bytesS (p.line.take (p.line.length - 1)))).1, o)) := by
    intro a B _ o
    by_cases ha : a = true
    · rw [if_pos ha]; exact h1
    · rw [if_neg ha]
      by_cases hB : B
      · rw [if_pos hB]; exact h2
      · rw [if_neg hB]
        by_cases hc : c ≠ 10
        · rw [if_pos hc]; exact h3
        · rw [if_neg hc]; exact h4 o
  exact key _ _ _
theorem takeS_grow (p : Par) (c : Int) : p.rd ≤ (takeS p c).1.rd ∧ (takeS p c).1.rd ≤ p.rd + 1 ∧ (takeS p c).1.most = p.most ∧ p.lines ≤ (takeS p c).1.lines ∧ (takeS p c).1.lines ≤ p.lines + 1 ∧ (takeS p c).1.line.length ≤ p.line.length + 1 ∧ (takeS p c).1.hd.f6.length ≤ p.hd.f6.length + 1 := by
  refine takeS_cases (fun r => p.rd ≤ r.1.rd ∧ r.1.rd ≤ p.rd + 1 ∧ r.1.most = p.most ∧ p.lines ≤ r.1.lines ∧ r.1.lines ≤ p.lines + 1 ∧ r.1.line.length ≤ p.line.length + 1 ∧ r.1.hd.f6.length ≤ p.hd.f6.length + 1) p c ?_ ?_ ?_ ?_
  · refine ⟨Int.le_refl _, ?_, rfl, Int.le_refl _, ?_, Nat.le_succ _, Nat.le_succ _⟩ <;> simp only <;> omega
  · refine ⟨?_, Int.le_refl _, rfl, Int.le_refl _, ?_, Nat.le_succ _, Nat.le_succ _⟩ <;> simp only <;> omega
  · refine ⟨?_, Int.le_refl _, rfl, Int.le_refl _, ?_, ?_, Nat.le_succ _⟩
    · simp only; omega
    · simp only; omega
    · simp
  · intro o
    have hk := lineS_keeps { p with rd := p.rd + 1, line := [], lines := p.lines + 1 } (bytesS (p.line.take (p.line.length - 1)))
    have hf := lineS_fl { p with rd := p.rd + 1, line := [], lines := p.lines + 1 } (bytesS (p.line.take (p.line.length - 1)))
    obtain ⟨k1, k2, k3, k4, _⟩ := hk
    refine ⟨?_, ?_, k3, ?_, ?_, ?_, hf⟩
    · show p.rd ≤ Par.rd _; rw [k2]; show p.rd ≤ p.rd + 1; omega
    · show Par.rd _ ≤ p.rd + 1; rw [k2]; exact Int.le_refl _
    · show p.lines ≤ Par.lines _; rw [k1]; show p.lines ≤ p.lines + 1; omega
    · show Par.lines _ ≤ _; rw [k1]; exact Int.le_refl _
    · show (Par.line _).length ≤ _; rw [k4]; exact Nat.zero_le _
theorem SaneN.take {m : Nat} {p : Par} (h : SaneN (m + 1) p) (c : Int) : SaneN m { (takeS p c).1 with err := (takeS p c).2 } := by
  obtain ⟨g1, g2, g3, g4, g5, g6, g7⟩ := takeS_grow p c
  refine ⟨?_, ?_, ?_, ?_, ?_, ?_, ?_, ?_⟩
  · have := h.rd0; show 0 ≤ (takeS p c).1.rd; omega
  · have := h.mo0; show 0 ≤ (takeS p c).1.most; omega
  · have := h.mo1; show (takeS p c).1.most ≤ _; omega
  · have := h.li0; show 0 ≤ (takeS p c).1.lines; omega
  · have := h.rd1; show (takeS p c).1.rd + m ≤ _; omega
  · have := h.li1; show (takeS p c).1.lines + m ≤ _; omega
  · have := h.ln; show (takeS p c).1.line.length + m ≤ _; omega
  · have := h.fl; show (takeS p c).1.hd.f6.length + m ≤ _; omega
/-- What Feed leaves. -/
def FeedPost (w : World) (F : Nat → Prop) (k : Nat) (r : Par × Nat) (e : Ending) (w' : World) : Prop :=
  e = .returned (.tuple #[.int .i64 (r.2 : Int), .bool r.1.whole, .int .i64 (codeOf r.1.err)]) ∧ (∃ vl vf, Rep w' (fun i => F i ∨ w.heap.size ≤ i) k vl vf r.1) ∧ Stay F w w'
theorem erV_form (er : Option Er) : erV er = .nilIface ∨ ∃ t v, erV er = .iface t v := by
  cases er with
  | none => exact .inl rfl
  | some e => cases e <;> exact .inr ⟨_, _, rfl⟩
set_option maxHeartbeats 4000000 in
set_option maxRecDepth 100000 in
theorem feed_calls (w0 w : World) (F : Nat → Prop) (k : Nat) (vl vf : Value) (p : Par) (A : Option Addr) (cap : Nat) (b : List Int) (h : Rep w F k vl vf p) (hH : Held w0 w F) (hs : SaneN b.length p) (hb : ∀ W', Stay F w W' → (Kd.int .u8).C W' A b.length b) :
    Calls Tryz.prog 17 #[.pointer (some ⟨k, 0, none⟩), .slice A b.length cap] w (FeedPost w F k (feedP p b 0)) := by
  obtain ⟨r, hr⟩ : ∃ r, r = feedP p b 0 := ⟨_, rfl⟩
  rw [← hr]
  obtain ⟨N, hN⟩ : ∃ N, N = b.length := ⟨_, rfl⟩
  rw [← hN]
  have HN := Aside0.mk hN
  have HIN := Aside0.mk h.inF
  have HH := Aside0.mk hH
  have HBy := Aside0.mk hb
  have HE0 := Aside0.mk hr
  have HR0 := Aside0.mk (h.mono (G := fun i => F i ∨ w.heap.size ≤ i) (fun _ hk => .inl hk))
  have HS0 := Aside0.mk hs
  have hNle : (N : Int) ≤ 4294960000 := by have := hs.ln; omega
  clear h hH hs hb hr hN
  go_enter Tryz.func17, Tryz.ntmps17
  go_wp2
  go_loopw [7] (fun n7 wr => ∃ (kk : Nat) (pk : Par), kk ≤ N ∧ n7 = .int .i64 kk ∧ Aside0 (∃ vl vf, Rep wr (fun i => F i ∨ w.heap.size ≤ i) k vl vf pk) ∧ Aside0 (Stay F w wr) ∧ Aside0 (r = feedP pk (b.drop kk) kk) ∧ Aside0 (SaneN (b.length - kk) pk)) (fun n7 _ => N - (intOf n7).toNat)
  case atStart => exact ⟨0, p, Nat.zero_le _, rfl, ⟨_, _, HR0.out⟩, ⟨Stay.refl _ _⟩, HE0, HS0⟩
  case round =>
    obtain ⟨kk, pk, hkk, rfl, ⟨vl, vf, hrp⟩, HSt, HFe, HSn⟩ := hrel
    have HRp := Aside0.mk hrp
    have hz12 : wr.cell? ⟨k, 12, none⟩ = some (.bool pk.whole) := (blk_cell hrp.blk 12).trans rfl
    have hz13 : wr.cell? ⟨k, 13, none⟩ = some (erV pk.err) := (blk_cell hrp.blk 13).trans rfl
    have hf13 := blk_frozen hrp.blk 13
    have HCo := Aside0.mk (fun W hG => code_calls pk.err W hG)
    have HGr := Aside0.mk (HH.out.next HSt.out).g
    clear hrp HR0 HE0 HS0
    by_cases hlt : kk < N
    · have hltz : (kk : Int) < (N : Int) := by omega
      cases hwh : pk.whole with
      | true =>
        rw [hwh] at hz12
        have HW := Aside0.mk hwh
        have hfe := HFe.out
        rw [feedP_stop pk (b.drop kk) kk (.inr (.inl hwh))] at hfe
        have HF2 := Aside0.mk hfe
        clear hwh hfe HSn
        go_wp2_with fail
        go_region_with (go_at_call 26; refine (HCo.out _ (GInv.below' HGr (by repeat (first | exact Below.refl _ _ | apply below_drew1 | apply pw_below_drewN)))).mono ?_; rintro e w2 ⟨rfl, hb2⟩; have HB2 : Aside0 (Below wr.heap.size wr w2) := ⟨below_step (by repeat (first | exact Below.refl _ _ | apply below_drew1 | apply pw_below_drewN)) hb2⟩; have hy12 : w2.cell? ⟨k, 12, none⟩ = some (.bool true) := (HB2.out.cell (World.block_lt_of_cell? wr _ hz12)).trans hz12; clear hb2)
        all_goals
          go_wp2
          go_ret3
          rw [HF2.out]
          refine ⟨(by rw [HW.out]; rfl), ⟨_, _, (HRp.out.below (by repeat (first | exact HB2.out | apply below_drew1 | apply pw_below_drewN))).mono (fun _ hk => hk)⟩, stay_low HSt.out (by repeat (first | exact HB2.out | apply below_drew1 | apply pw_below_drewN))⟩
      | false =>
        rw [hwh] at hz12
        cases her : pk.err with
        | none =>
          rw [her] at hz13
          replace hz13 : wr.cell? ⟨k, 13, none⟩ = some .nilIface := hz13
          obtain ⟨ad, eA, hx⟩ := Kd.at_int (HBy.out wr HSt.out) (kk : Int) (by omega) (by have := HN.out; omega)
          cases eA
          rw [Int.toNat_natCast] at hx
          have hdr : b.drop kk = rd b (kk : Int) :: b.drop (kk + 1) := by
            have hkl : kk < b.length := by have := HN.out; omega
            rw [List.drop_eq_getElem_cons hkl]
            simp [rd, hkl]
          obtain ⟨c, hc⟩ : ∃ c, c = rd b (kk : Int) := ⟨_, rfl⟩
          rw [← hc] at hx hdr
          have HDr := Aside0.mk hdr
          have HW := Aside0.mk hwh
          have HEr := Aside0.mk her
          have hsn : SaneN (b.length - (kk + 1) + 1) pk := by
            have e : b.length - (kk + 1) + 1 = b.length - kk := by have := HN.out; omega
            rw [e]; exact HSn.out
          have HSn1 := Aside0.mk hsn
          have HC0 := Aside0.mk (take_calls w0 wr _ k vl vf pk c HRp.out (HH.out.step HSt.out) hsn.sane)
          have hSz := HSt.out.size
          clear hdr hwh her hc hsn HSn HCo HGr
          rcases erV_form (takeS pk c).2 with hv | ⟨tE, vE, hv⟩
          · have HV := Aside0.mk hv
            have HC : Aside0 (Calls Tryz.prog 25 #[.pointer (some ⟨k, 0, none⟩), .int .u8 c] wr fun e w' => e = .returned (.nilIface) ∧ (∃ vl vf, Rep w' (fun i => (F i ∨ w.heap.size ≤ i) ∨ wr.heap.size ≤ i) k vl vf (takeS pk c).1) ∧ Stay (fun i => F i ∨ w.heap.size ≤ i) wr w') := ⟨HC0.out.mono (fun e w' h => ⟨by rw [← HV.out]; exact h.1, h.2⟩)⟩
            clear hv HC0
            go_wp2_with (first | (go_at_call 25; refine HC.out.mono ?_; rintro e w2 ⟨rfl, ⟨vl2, vf2, hrep2⟩, hst2⟩; have HP2 := Aside0.mk hrep2; have HS2 := Aside0.mk hst2; have hy13 : w2.cell? ⟨k, 13, none⟩ = some (erV (takeS pk c).1.err) := (blk_cell hrep2.blk 13).trans rfl; have hx13 := blk_frozen hrep2.blk 13; clear hrep2 hst2))
            go_roundw
            case rel =>
              have hfe := HFe.out
              rw [HDr.out, feedP_next pk c _ kk HW.out HEr.out] at hfe
              have h5 := HP2.out.scal (i := 13) (v := erV (takeS pk c).2) (p' := { (takeS pk c).1 with err := (takeS pk c).2 }) rfl rfl rfl
              rw [HV.out] at h5
              exact ⟨kk + 1, { (takeS pk c).1 with err := (takeS pk c).2 }, by omega, by go_num, ⟨_, _, h5.mono (fun i hk => hk.elim id (fun h2 => .inr (Nat.le_trans hSz h2)))⟩,
                ⟨(HSt.out.trans HS2.out (fun i hi => hi)).set (p := ⟨k, 13, none⟩) HIN.out _⟩, ⟨hfe⟩, ⟨HSn1.out.take c⟩⟩
            case measure => simp [intOf]; omega
          · have HV := Aside0.mk hv
            have HC : Aside0 (Calls Tryz.prog 25 #[.pointer (some ⟨k, 0, none⟩), .int .u8 c] wr fun e w' => e = .returned (.iface tE vE) ∧ (∃ vl vf, Rep w' (fun i => (F i ∨ w.heap.size ≤ i) ∨ wr.heap.size ≤ i) k vl vf (takeS pk c).1) ∧ Stay (fun i => F i ∨ w.heap.size ≤ i) wr w') := ⟨HC0.out.mono (fun e w' h => ⟨by rw [← HV.out]; exact h.1, h.2⟩)⟩
            clear hv HC0
            go_wp2_with (first | (go_at_call 25; refine HC.out.mono ?_; rintro e w2 ⟨rfl, ⟨vl2, vf2, hrep2⟩, hst2⟩; have HP2 := Aside0.mk hrep2; have HS2 := Aside0.mk hst2; have hy13 : w2.cell? ⟨k, 13, none⟩ = some (erV (takeS pk c).1.err) := (blk_cell hrep2.blk 13).trans rfl; have hx13 := blk_frozen hrep2.blk 13; clear hrep2 hst2))
            go_roundw
            case rel =>
              have hfe := HFe.out
              rw [HDr.out, feedP_next pk c _ kk HW.out HEr.out] at hfe
              have h5 := HP2.out.scal (i := 13) (v := erV (takeS pk c).2) (p' := { (takeS pk c).1 with err := (takeS pk c).2 }) rfl rfl rfl
              rw [HV.out] at h5
              exact ⟨kk + 1, { (takeS pk c).1 with err := (takeS pk c).2 }, by omega, by go_num, ⟨_, _, h5.mono (fun i hk => hk.elim id (fun h2 => .inr (Nat.le_trans hSz h2)))⟩,
                ⟨(HSt.out.trans HS2.out (fun i hi => hi)).set (p := ⟨k, 13, none⟩) HIN.out _⟩, ⟨hfe⟩, ⟨HSn1.out.take c⟩⟩
            case measure => simp [intOf]; omega
        | some er =>
          have hfe := HFe.out
          rw [feedP_stop pk (b.drop kk) kk (.inr (.inr (by rw [her]; rfl)))] at hfe
          have HF2 := Aside0.mk hfe
          have HW := Aside0.mk hwh
          obtain ⟨tE, vE, hE⟩ : ∃ t v, erV pk.err = .iface t v := by rw [her]; cases er <;> exact ⟨_, _, rfl⟩
          rw [hE] at hz13
          have HE := Aside0.mk hE
          replace HCo : Aside0 (∀ W, GInv W → Calls Tryz.prog 26 #[.iface tE vE] W fun e w' => e = .returned (.int .i64 (codeOf pk.err)) ∧ Below W.heap.size W w') := ⟨fun W hG => by rw [← HE.out]; exact HCo.out W hG⟩
          clear hwh her hfe hE HSn
          go_wp2_with fail
          go_region_with (go_at_call 26; refine (HCo.out _ (GInv.below' HGr (by repeat (first | exact Below.refl _ _ | apply below_drew1 | apply pw_below_drewN)))).mono ?_; rintro e w2 ⟨rfl, hb2⟩; have HB2 : Aside0 (Below wr.heap.size wr w2) := ⟨below_step (by repeat (first | exact Below.refl _ _ | apply below_drew1 | apply pw_below_drewN)) hb2⟩; have hy12 : w2.cell? ⟨k, 12, none⟩ = some (.bool false) := (HB2.out.cell (World.block_lt_of_cell? wr _ hz12)).trans hz12; clear hb2)
          all_goals
            go_wp2
            go_ret3
            rw [HF2.out]
            refine ⟨(by rw [HW.out]; rfl), ⟨_, _, (HRp.out.below (by repeat (first | exact HB2.out | apply below_drew1 | apply pw_below_drewN))).mono (fun _ hk => hk)⟩, stay_low HSt.out (by repeat (first | exact HB2.out | apply below_drew1 | apply pw_below_drewN))⟩
    · have hltz : ¬ (kk : Int) < (N : Int) := by omega
      have hkn : b.drop kk = [] := by rw [List.drop_eq_nil_iff]; have := HN.out; omega
      have hfe := HFe.out
      rw [feedP_stop pk (b.drop kk) kk (.inl hkn)] at hfe
      have HF2 := Aside0.mk hfe
      clear hfe hkn HSn
      obtain ⟨ev, hev⟩ : ∃ ev, ev = erV pk.err := ⟨_, rfl⟩
      rw [← hev] at hz13
      replace HCo : Aside0 (∀ W, GInv W → Calls Tryz.prog 26 #[ev] W fun e w' => e = .returned (.int .i64 (codeOf pk.err)) ∧ Below W.heap.size W w') := ⟨fun W hG => by rw [hev]; exact HCo.out W hG⟩
      clear hev
      go_wp2_with fail
      go_region_with (go_at_call 26; refine (HCo.out _ (GInv.below' HGr (by repeat (first | exact Below.refl _ _ | apply below_drew1 | apply pw_below_drewN)))).mono ?_; rintro e w2 ⟨rfl, hb2⟩; have HB2 : Aside0 (Below wr.heap.size wr w2) := ⟨below_step (by repeat (first | exact Below.refl _ _ | apply below_drew1 | apply pw_below_drewN)) hb2⟩; have hy12 : w2.cell? ⟨k, 12, none⟩ = some (.bool pk.whole) := (HB2.out.cell (World.block_lt_of_cell? wr _ hz12)).trans hz12; clear hb2)
      all_goals
        go_wp2
        go_ret3
        rw [HF2.out]
        refine ⟨rfl, ⟨_, _, (HRp.out.below (by repeat (first | exact HB2.out | apply below_drew1 | apply pw_below_drewN))).mono (fun _ hk => hk)⟩, stay_low HSt.out (by repeat (first | exact HB2.out | apply below_drew1 | apply pw_below_drewN))⟩
end Go.Proofs.YtmlgejgnjfbblaaGreatDoor.Hd
/- Package head, by hand: New, Head, Parse; own text of this session. -/
namespace Go.Proofs.YtmlgejgnjfbblaaGreatDoor.Hd
open Go.RowKit Go.Proofs.YtmlgejgnjfbblaaGreatDoorW.PrintWords Go.Proofs.YtmlgejgnjfbblaaGreatDoorW.PrintLast Chk Px Hr
set_option linter.unusedVariables false
set_option linter.unusedSimpArgs false
def NewPost (request : Bool) (most : Int) (w : World) (e : Ending) (w' : World) : Prop :=
 ∃ k, e = .returned (.tuple #[.pointer (some ⟨k, 0, none⟩), .int .i64 0]) ∧ w.heap.size ≤ k ∧ Rep w' (fun i => i = k) k (.slice none 0 0) (.slice none 0 0) (newPar request most) ∧ Below w.heap.size w w'
theorem sane_new (request : Bool) (most : Int) (m : Nat) (h0 : 0 ≤ most) (h1 : most ≤ 65536) (hm : m ≤ 4294950000) : SaneN m (newPar request most) :=
 ⟨Int.le_refl _, h0, by show most ≤ _; omega, Int.le_refl _, by show 0 + (m : Int) ≤ _; omega, by show 0 + (m : Int) ≤ _; omega, by show 0 + m ≤ _; omega, by show 0 + m ≤ _; omega⟩
set_option maxHeartbeats 4000000 in
set_option maxRecDepth 100000 in
theorem new_req (most : Int) (w : World) (h0 : 16 ≤ most) (h1 : most ≤ 65536) :
  Calls Tryz.prog 16 #[.bool true, .int .i64 most] w (NewPost true most w) := by
 have hn0 : ¬ most < 16 := by omega
 have hn1 : ¬ 65536 < most := by omega
 go_enter Tryz.func16, Tryz.ntmps16
 go_wp2_with (refine bx 17 #[.int .i64 most, .int .i64 0, .int .i64 0, .slice none 0 0, .nilFunc, .bool true, .string ⟨#[]⟩, .string ⟨#[]⟩, .int .i64 0, .int .i64 0, .string ⟨#[]⟩, .slice none 0 0, .bool false, .nilIface] 62 ?_; intro gb hg w1 hbox hb; have BK := Aside0.mk hbox; have HB := Aside0.mk hb; have HE := Aside0.mk hg; have hz4 : w1.cell? ⟨gb, 4, none⟩ = some .nilFunc := (blk_cell hbox 4).trans rfl; have hf4 := blk_frozen hbox 4; clear hbox hb hg)
 go_ret2
 have b1 := blk_set BK.out 4 (.func (.func (stF 1)) #[.pointer (some ⟨gb, 0, none⟩)] #[])
 refine ⟨gb, rfl, by rw [HE.out]; exact Nat.le_refl _, Rep.store b1 rfl rfl (Kd.R_nil _ _ _ _ _) (Kd.R_nil _ _ _ _ _), ?_⟩
 exact (HB.out.setCell (p := ⟨gb, 4, none⟩) (by show w.heap.size ≤ gb; rw [HE.out]; exact Nat.le_refl _) _).setCell (p := ⟨gb, 4, none⟩) (by show w.heap.size ≤ gb; rw [HE.out]; exact Nat.le_refl _) _
set_option maxHeartbeats 4000000 in
set_option maxRecDepth 100000 in
theorem new_resp (most : Int) (w : World) (h0 : 16 ≤ most) (h1 : most ≤ 65536) :
  Calls Tryz.prog 16 #[.bool false, .int .i64 most] w (NewPost false most w) := by
 have hn0 : ¬ most < 16 := by omega
 have hn1 : ¬ 65536 < most := by omega
 go_enter Tryz.func16, Tryz.ntmps16
 go_wp2_with (refine bx 17 #[.int .i64 most, .int .i64 0, .int .i64 0, .slice none 0 0, .nilFunc, .bool false, .string ⟨#[]⟩, .string ⟨#[]⟩, .int .i64 0, .int .i64 0, .string ⟨#[]⟩, .slice none 0 0, .bool false, .nilIface] 62 ?_; intro gb hg w1 hbox hb; have BK := Aside0.mk hbox; have HB := Aside0.mk hb; have HE := Aside0.mk hg; have hz4 : w1.cell? ⟨gb, 4, none⟩ = some .nilFunc := (blk_cell hbox 4).trans rfl; have hf4 := blk_frozen hbox 4; clear hbox hb hg)
 go_ret2
 refine ⟨gb, rfl, by rw [HE.out]; exact Nat.le_refl _, Rep.store BK.out rfl rfl (Kd.R_nil _ _ _ _ _) (Kd.R_nil _ _ _ _ _), ?_⟩
 exact HB.out.setCell (p := ⟨gb, 4, none⟩) (by show w.heap.size ≤ gb; rw [HE.out]; exact Nat.le_refl _) _
theorem new_calls (request : Bool) (most : Int) (w : World) (h0 : 16 ≤ most) (h1 : most ≤ 65536) :
  Calls Tryz.prog 16 #[.bool request, .int .i64 most] w (NewPost request most w) := by
 cases request with
 | true => exact new_req most w h0 h1
 | false => exact new_resp most w h0 h1
theorem results_c {P : Program} {fn : Func} {p : Tmp} {ty : TypeId} (h : fn.results = #[.cell p ty]) (tmps : Array Value) (w : World) (g : Nat) (t : TypeId) (cs : Array Value) (fr : Nat × Nat) (d : TypeDesc)
  (hp : tmps.getD p undef = .pointer (some ⟨g, 0, none⟩)) (hg : w.heap[g]? = some (.cells cs t fr))
  (hu : P.underlying ty = some d) (hd : (match d with | .struct _ | .array _ _ => true | _ => false) = true) (hi : (P.info? ty).map (·.size) = some cs.size) :
  (results fn tmps).run P w = .ok (.agg cs) w := by
 have hp' : tmps[p]?.getD undef = .pointer (some ⟨g, 0, none⟩) := by simpa using hp
 simp [results, h, hp', asAddr, run_loadVar_row w g t ty cs fr d hg hu hd hi]
theorem blk_two (w : World) (o1 o2 : Obj) : ((w.alloc o1).alloc o2).heap[w.heap.size + 1]? = some o2 := by
 have h := blk_new (w.alloc o1) o2
 have e : (w.alloc o1).heap.size = w.heap.size + 1 := by simp
 rwa [e] at h
theorem own_nil : (Value.slice none 0 0).ownBlock = none := by simp [Value.ownBlock]
/-- A head as a value. -/
def hdV (h : Head) (vf : Value) : Value := .agg #[.bool h.f0, .string h.f1, .string h.f2, .int .i64 h.f3, .int .i64 h.f4, .string h.f5, vf]
def HeadPost (h : Head) (w : World) (e : Ending) (w' : World) : Prop :=
 ∃ v : Value, e = .returned (hdV h v) ∧ fldK.R 45 w' w.heap.size (fun i => w.heap.size ≤ i) v h.f6 ∧ Below w.heap.size w w'
set_option maxHeartbeats 4000000 in
set_option maxRecDepth 100000 in
theorem head_yes (w : World) (F : Nat → Prop) (k : Nat) (vl vf : Value) (p : Par) (h : Rep w F k vl vf p) (hw : p.whole = true) (hl : p.hd.f6.length ≤ 4294960000) :
  Calls Tryz.prog 18 #[.pointer (some ⟨k, 0, none⟩)] w (HeadPost p.hd w) := by
 obtain ⟨Af, cf, hvf, hcf, hCf⟩ := Kd.R_reads h.flds
 obtain ⟨N, hN⟩ : ∃ N, N = p.hd.f6.length := ⟨_, rfl⟩
 have HN := Aside0.mk hN
 rw [← hN] at hvf hcf hCf hl
 subst hvf
 have hz5 : w.cell? ⟨k, 5, none⟩ = some (.bool p.hd.f0) := (blk_cell h.blk 5).trans rfl
 have hz6 : w.cell? ⟨k, 6, none⟩ = some (.string p.hd.f1) := (blk_cell h.blk 6).trans rfl
 have hz7 : w.cell? ⟨k, 7, none⟩ = some (.string p.hd.f2) := (blk_cell h.blk 7).trans rfl
 have hz8 : w.cell? ⟨k, 8, none⟩ = some (.int .i64 p.hd.f3) := (blk_cell h.blk 8).trans rfl
 have hz9 : w.cell? ⟨k, 9, none⟩ = some (.int .i64 p.hd.f4) := (blk_cell h.blk 9).trans rfl
 have hz10 : w.cell? ⟨k, 10, none⟩ = some (.string p.hd.f5) := (blk_cell h.blk 10).trans rfl
 have hz11 : w.cell? ⟨k, 11, none⟩ = some (.slice Af N cf) := (blk_cell h.blk 11).trans rfl
 have hz12 : w.cell? ⟨k, 12, none⟩ = some (.bool true) := by rw [← hw]; exact (blk_cell h.blk 12).trans rfl
 have HC := Aside0.mk hCf
 have HL := Aside0.mk hl
 have hne : ¬ k = w.heap.size := by have := h.lt; omega
 have hne2 : ¬ w.heap.size = k := fun h5 => hne h5.symm
 have hlt := h.lt
 clear h hw hN hcf hCf hl
 have HS2 : Aside0 (((w.alloc (.cells #[.bool false, .string ⟨#[]⟩, .string ⟨#[]⟩, .int .i64 0, .int .i64 0, .string ⟨#[]⟩, .slice none 0 0] 24)).alloc (.cells #[.bool p.hd.f0, .string p.hd.f1, .string p.hd.f2, .int .i64 p.hd.f3, .int .i64 p.hd.f4, .string p.hd.f5, .slice Af N cf] 24)).heap.size = w.heap.size + 2) := ⟨by simp⟩
 have HB21 : Aside0 (((w.alloc (.cells #[.bool false, .string ⟨#[]⟩, .string ⟨#[]⟩, .int .i64 0, .int .i64 0, .string ⟨#[]⟩, .slice none 0 0] 24)).alloc (.cells #[.bool p.hd.f0, .string p.hd.f1, .string p.hd.f2, .int .i64 p.hd.f3, .int .i64 p.hd.f4, .string p.hd.f5, .slice Af N cf] 24)).heap[w.heap.size + 1]? = some (.cells #[.bool p.hd.f0, .string p.hd.f1, .string p.hd.f2, .int .i64 p.hd.f3, .int .i64 p.hd.f4, .string p.hd.f5, .slice Af N cf] 24 (0, 0))) := ⟨blk_two _ _ _⟩
 have HB20 : Aside0 (((w.alloc (.cells #[.bool false, .string ⟨#[]⟩, .string ⟨#[]⟩, .int .i64 0, .int .i64 0, .string ⟨#[]⟩, .slice none 0 0] 24)).alloc (.cells #[.bool p.hd.f0, .string p.hd.f1, .string p.hd.f2, .int .i64 p.hd.f3, .int .i64 p.hd.f4, .string p.hd.f5, .slice Af N cf] 24)).heap[w.heap.size]? = some (.cells #[.bool false, .string ⟨#[]⟩, .string ⟨#[]⟩, .int .i64 0, .int .i64 0, .string ⟨#[]⟩, .slice none 0 0] 24 (0, 0))) := ⟨blk_alloc (blk_new _ _) _⟩
 go_enter Tryz.func18, Tryz.ntmps18
 go_wp2_with (at_builtin; refine Kd.R_append_rows fldK (Rr := P.k45.K ((w.alloc (.cells #[.bool false, .string ⟨#[]⟩, .string ⟨#[]⟩, .int .i64 0, .int .i64 0, .string ⟨#[]⟩, .slice none 0 0] 24)).alloc (.cells #[.bool p.hd.f0, .string p.hd.f1, .string p.hd.f2, .int .i64 p.hd.f3, .int .i64 p.hd.f4, .string p.hd.f5, .slice Af N cf] 24))) (w0 := ((w.alloc (.cells #[.bool false, .string ⟨#[]⟩, .string ⟨#[]⟩, .int .i64 0, .int .i64 0, .string ⟨#[]⟩, .slice none 0 0] 24)).alloc (.cells #[.bool p.hd.f0, .string p.hd.f1, .string p.hd.f2, .int .i64 p.hd.f3, .int .i64 p.hd.f4, .string p.hd.f5, .slice Af N cf] 24))) w.heap.size rfl (.const (.slice none 0 0)) (.tmp 19) 22 45 (.agg #[.string ⟨#[]⟩, .string ⟨#[]⟩]) 32 rfl Tryz.underlying22 info_fld rfl (by decide) (by omega) (.slice none 0 0) [] p.hd.f6 Af N cf (fun i => w.heap.size + 2 ≤ i) (fun _ => False) rfl rfl (Kd.R_nil _ _ _ _ _) (by have h5 := HC.out; exact Kd.C_alloc (Kd.C_alloc h5 _) _) (fun x cs hx => by rw [P.k45_open hx]; exact P.k45_mkM _ _ _ x) (fun _ h => h.elim) (fun i hi => by rw [HS2.out] at hi; exact hi) (Below.refl _ _) (by rw [HS2.out]; omega) (by have := HL.out; simp only [List.length_nil]; omega) ?_; intro v1 w3 hR hb hg hat; rw [own_nil] at hg; have hb1 : w3.heap[w.heap.size + 1]? = some (.cells #[.bool p.hd.f0, .string p.hd.f1, .string p.hd.f2, .int .i64 p.hd.f3, .int .i64 p.hd.f4, .string p.hd.f5, .slice Af N cf] 24 (0, 0)) := (hg.block _ (blk_lt HB21.out) (fun h5 => by cases h5)).trans HB21.out; have hb0 : w3.heap[w.heap.size]? = some (.cells #[.bool false, .string ⟨#[]⟩, .string ⟨#[]⟩, .int .i64 0, .int .i64 0, .string ⟨#[]⟩, .slice none 0 0] 24 (0, 0)) := (hg.block _ (blk_lt HB20.out) (fun h5 => by cases h5)).trans HB20.out; have HR1 := Aside0.mk hR; have HG1 := Aside0.mk hg; have HK0 := Aside0.mk hb0; have x0 : w3.cell? ⟨w.heap.size + 1, 0, none⟩ = some (.bool p.hd.f0) := (blk_cell hb1 0).trans rfl; have x1 : w3.cell? ⟨w.heap.size + 1, 1, none⟩ = some (.string p.hd.f1) := (blk_cell hb1 1).trans rfl; have x2 : w3.cell? ⟨w.heap.size + 1, 2, none⟩ = some (.string p.hd.f2) := (blk_cell hb1 2).trans rfl; have x3 : w3.cell? ⟨w.heap.size + 1, 3, none⟩ = some (.int .i64 p.hd.f3) := (blk_cell hb1 3).trans rfl; have x4 : w3.cell? ⟨w.heap.size + 1, 4, none⟩ = some (.int .i64 p.hd.f4) := (blk_cell hb1 4).trans rfl; have x5 : w3.cell? ⟨w.heap.size + 1, 5, none⟩ = some (.string p.hd.f5) := (blk_cell hb1 5).trans rfl; have x6 : w3.cell? ⟨w.heap.size + 1, 6, none⟩ = some (.slice Af N cf) := (blk_cell hb1 6).trans rfl; have zy0 := cz7 hb0; have xf6 := blk_frozen hb1 6; obtain ⟨A1, c1, e1, hc1, hC1⟩ := Kd.R_reads hR; rw [List.nil_append, ← HN.out] at e1; have HC1 := Aside0.mk hc1; subst e1; clear hR hb hg hat hb1 hb0 hc1 hC1)
 refine bodyPost_ret (results_c rfl _ _ w.heap.size 24 #[.bool p.hd.f0, .string p.hd.f1, .string p.hd.f2, .int .i64 p.hd.f3, .int .i64 p.hd.f4, .string p.hd.f5, .slice A1 N c1] (0, 0) _ rfl (by refine blk_put (cs := #[.bool p.hd.f0, .string p.hd.f1, .string p.hd.f2, .int .i64 p.hd.f3, .int .i64 p.hd.f4, .string p.hd.f5, .slice none 0 0]) ?_ 6 _ rfl; refine blk_put (cs := #[.bool p.hd.f0, .string p.hd.f1, .string p.hd.f2, .int .i64 p.hd.f3, .int .i64 p.hd.f4, .string ⟨#[]⟩, .slice none 0 0]) ?_ 5 _ rfl; refine blk_put (cs := #[.bool p.hd.f0, .string p.hd.f1, .string p.hd.f2, .int .i64 p.hd.f3, .int .i64 0, .string ⟨#[]⟩, .slice none 0 0]) ?_ 4 _ rfl; refine blk_put (cs := #[.bool p.hd.f0, .string p.hd.f1, .string p.hd.f2, .int .i64 0, .int .i64 0, .string ⟨#[]⟩, .slice none 0 0]) ?_ 3 _ rfl; refine blk_put (cs := #[.bool p.hd.f0, .string p.hd.f1, .string ⟨#[]⟩, .int .i64 0, .int .i64 0, .string ⟨#[]⟩, .slice none 0 0]) ?_ 2 _ rfl; refine blk_put (cs := #[.bool p.hd.f0, .string ⟨#[]⟩, .string ⟨#[]⟩, .int .i64 0, .int .i64 0, .string ⟨#[]⟩, .slice none 0 0]) ?_ 1 _ rfl; refine blk_put (cs := #[.bool false, .string ⟨#[]⟩, .string ⟨#[]⟩, .int .i64 0, .int .i64 0, .string ⟨#[]⟩, .slice none 0 0]) ?_ 0 _ rfl; (rw [Below.heap_setCell _ _ _ _ (by show w.heap.size ≠ w.heap.size + 1; omega)]; exact HK0.out)) Tryz.underlying24 rfl (by kernel_rfl)) rfl ?_
 have hst : ∀ i, w.heap.size + 2 ≤ i → ((((((((w3.setCell ⟨w.heap.size + 1, 6, none⟩ (.slice A1 N c1)).setCell ⟨w.heap.size, 0, none⟩ (.bool p.hd.f0)).setCell ⟨w.heap.size, 1, none⟩ (.string p.hd.f1)).setCell ⟨w.heap.size, 2, none⟩ (.string p.hd.f2)).setCell ⟨w.heap.size, 3, none⟩ (.int .i64 p.hd.f3)).setCell ⟨w.heap.size, 4, none⟩ (.int .i64 p.hd.f4)).setCell ⟨w.heap.size, 5, none⟩ (.string p.hd.f5)).setCell ⟨w.heap.size, 6, none⟩ (.slice A1 N c1)).heap[i]? = w3.heap[i]? := fun i hi => by
  rw [Below.heap_setCell _ _ _ _ (by show i ≠ w.heap.size; omega), Below.heap_setCell _ _ _ _ (by show i ≠ w.heap.size; omega), Below.heap_setCell _ _ _ _ (by show i ≠ w.heap.size; omega), Below.heap_setCell _ _ _ _ (by show i ≠ w.heap.size; omega), Below.heap_setCell _ _ _ _ (by show i ≠ w.heap.size; omega), Below.heap_setCell _ _ _ _ (by show i ≠ w.heap.size; omega), Below.heap_setCell _ _ _ _ (by show i ≠ w.heap.size; omega), Below.heap_setCell _ _ _ _ (by show i ≠ w.heap.size + 1; omega)]
 have hR4 := Kd.R_step HR1.out (w1 := ((((((((w3.setCell ⟨w.heap.size + 1, 6, none⟩ (.slice A1 N c1)).setCell ⟨w.heap.size, 0, none⟩ (.bool p.hd.f0)).setCell ⟨w.heap.size, 1, none⟩ (.string p.hd.f1)).setCell ⟨w.heap.size, 2, none⟩ (.string p.hd.f2)).setCell ⟨w.heap.size, 3, none⟩ (.int .i64 p.hd.f3)).setCell ⟨w.heap.size, 4, none⟩ (.int .i64 p.hd.f4)).setCell ⟨w.heap.size, 5, none⟩ (.string p.hd.f5)).setCell ⟨w.heap.size, 6, none⟩ (.slice A1 N c1))) (fun i hi _ => hst i hi)
 have hB2 : Below w.heap.size w ((w.alloc (.cells #[.bool false, .string ⟨#[]⟩, .string ⟨#[]⟩, .int .i64 0, .int .i64 0, .string ⟨#[]⟩, .slice none 0 0] 24)).alloc (.cells #[.bool p.hd.f0, .string p.hd.f1, .string p.hd.f2, .int .i64 p.hd.f3, .int .i64 p.hd.f4, .string p.hd.f5, .slice Af N cf] 24)) := below_alloc (below_alloc (Below.refl _ _) _) _
 have HB3 : Below w.heap.size w w3 := below_then hB2 hB2.size (Chk.below_grown HG1.out)
 exact ⟨_, rfl, Kd.R_mono hR4 (fun i hi => by omega), (((((((HB3.setCell (p := ⟨w.heap.size + 1, 6, none⟩) (Nat.le_succ _) (.slice A1 N c1)).setCell (p := ⟨w.heap.size, 0, none⟩) (Nat.le_refl _) (.bool p.hd.f0)).setCell (p := ⟨w.heap.size, 1, none⟩) (Nat.le_refl _) (.string p.hd.f1)).setCell (p := ⟨w.heap.size, 2, none⟩) (Nat.le_refl _) (.string p.hd.f2)).setCell (p := ⟨w.heap.size, 3, none⟩) (Nat.le_refl _) (.int .i64 p.hd.f3)).setCell (p := ⟨w.heap.size, 4, none⟩) (Nat.le_refl _) (.int .i64 p.hd.f4)).setCell (p := ⟨w.heap.size, 5, none⟩) (Nat.le_refl _) (.string p.hd.f5)).setCell (p := ⟨w.heap.size, 6, none⟩) (Nat.le_refl _) (.slice A1 N c1)⟩end Go.Proofs.YtmlgejgnjfbblaaGreatDoor.Hd
