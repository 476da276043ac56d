/- Package world, by hand: slices.Sort of one number at most; slices.Clone; what End, Waits, Arrive, Read come to; own text of this session. -/
import Derived.Test.YtnhhcmnjfaeliaaVld2
import Derived.Test.YtnhhcmnjfaeliaaShelf
import Derived.Handy
namespace Go.Proofs.Ytnhhcmnjfaeliaa.Wld
open Go.RowKit Go.Proofs.YtnhhcmnjfaeliaaW.PrintWords Go.Proofs.YtnhhcmnjfaeliaaW.PrintLast Go.Maps
set_option linter.unusedVariables false
set_option linter.unusedSimpArgs false
set_option maxRecDepth 100000 in
theorem insertion_small (A : Option Addr) (n cap : Nat) (w : World) (hn : n ≤ 1) :
    Calls Try.prog 39 #[.slice A n cap, .int .i64 0, .int .i64 (n : Int)] w fun e w' => e = .returned (.tuple #[]) ∧ w' = w := by
  have h1 : ¬ (1 : Int) < (n : Int) := by omega
  go_enter Try.func39, Try.ntmps39
  go_wp2
  go_loopw [6] (fun v6 wr => v6 = .int .i64 1 ∧ wr = w) (fun _ _ => 0)
  case atStart => exact ⟨rfl, rfl⟩
  case round =>
    obtain ⟨rfl, rfl⟩ := hrel
    go_wp2
    go_end0
    exact ⟨rfl, rfl⟩
set_option maxRecDepth 100000 in
theorem pdq_small (A : Option Addr) (n cap : Nat) (l : Int) (w : World) (hn : n ≤ 1) :
    Calls Try.prog 37 #[.slice A n cap, .int .i64 0, .int .i64 (n : Int), .int .i64 l] w fun e w' => e = .returned (.tuple #[]) ∧ w' = w := by
  have h1 : (n : Int) ≤ 12 := by omega
  have HK := Aside0.mk (insertion_small A n cap w hn)
  go_enter Try.func37, Try.ntmps37
  go_wp2
  go_loopw [1, 2, 3] (fun v1 v2 v3 wr => v1 = .int .i64 0 ∧ v2 = .int .i64 (n : Int) ∧ v3 = .int .i64 l ∧ wr = w) (fun _ _ _ _ => 0)
  case atStart => exact ⟨rfl, rfl, rfl, rfl⟩
  case round =>
    obtain ⟨rfl, rfl, rfl, rfl⟩ := hrel
    go_wp2_with fail
    refine HK.out.mono ?_
    rintro e w1 ⟨rfl, rfl⟩
    go_wp2
    go_returns
    exact ⟨rfl, rfl⟩
set_option maxRecDepth 100000 in
theorem sort_small (A : Option Addr) (n cap : Nat) (w : World) (hn : n ≤ 1) :
    Calls Try.prog 36 #[.slice A n cap] w fun e w' => e = .returned (.tuple #[]) ∧ w' = w := by
  have HL := Aside0.mk (Try.bits_Len (n : Int) w (by omega) (by omega))
  obtain ⟨l, hl⟩ : ∃ l, l = (Lib.bitLen (n : Int).toNat) := ⟨_, rfl⟩
  rw [← hl] at HL
  have HK := Aside0.mk (pdq_small A n cap l w hn)
  clear hl
  have h0 : (n : Int) ≤ 1 := by omega
  go_enter Try.func36, Try.ntmps36
  go_wp2_with fail
  refine HL.out.mono ?_
  rintro e w1 ⟨rfl, rfl⟩
  go_wp2_with fail
  refine HK.out.mono ?_
  rintro e w1 ⟨rfl, rfl⟩
  go_wp2
  go_end0
  exact ⟨rfl, rfl⟩
theorem at_to {v v1 : Value} {n : Nat} (hat : v1.ownBlock = v.ownBlock ∨ ∃ i, v1.ownBlock = some i ∧ n ≤ i) : ∀ i, v1.ownBlock = some i → v.ownBlock = some i ∨ n ≤ i := by
  intro i hi
  rcases hat with h1 | ⟨j, h1, h2⟩
  · exact .inl (by rw [← h1]; exact hi)
  · rw [h1] at hi
    injection hi with hi
    exact .inr (by omega)
/-- A row of bytes of the call's own. -/
def CloneBPost (l : List Int) (w : World) (e : Ending) (w' : World) : Prop :=
  ∃ v, e = .returned v ∧ (Kd.int .u8).R 5 w' w.heap.size (fun _ => True) v l ∧ Below w.heap.size w w'
set_option maxHeartbeats 4000000 in
set_option maxRecDepth 100000 in
theorem cloneB_calls (l : List Int) (N : Nat) (hN : N = l.length) (A : Option Addr) (c : Nat) (w : World) (hr : Kd.C (Kd.int .u8) w A l.length l) (hc : N ≤ c) (hl : N ≤ 4294960000) :
    Calls Try.prog 35 #[.slice A N c] w (CloneBPost l w) := by
  cases A with
  | none =>
    have h0 : l = [] := by
      rcases l with _ | ⟨f, r⟩
      · rfl
      · obtain ⟨ad, h, _⟩ := hr.2.2 (by simp)
        cases h
    subst h0
    obtain rfl : N = 0 := hN
    have hq : ∀ W, (binOp .eql 30 (.slice none 0 c) (.slice none 0 0)).run Try.prog W = .ok (.bool true) W := fun W => Go.Lib.run_eql_slice_nil W 30 5 none 0 c 0 0 Try.underlying30
    clear hr hl
    go_enter Try.func35, Try.ntmps35
    go_wp2
    go_ret
    exact ⟨.slice none 0 0, rfl, Kd.R_nil _ _ _ _ _, Below.refl _ _⟩
  | some ad =>
    have HR := Aside0.mk hr
    have HL := Aside0.mk hl
    have HN := Aside0.mk hN
    have hOw : (w.alloc (.cells #[] 5)).ownsRow w.heap.size 5 1 (.slice (some ⟨w.heap.size, 0, none⟩) 0 0) 0 [] := by simpa using World.ownsRow_lit (base := w.heap.size) (e := 5) (size := 1) w #[] 0 (Nat.le_refl _) (by decide) (by rfl)
    have hO : (Kd.int .u8).R 5 (w.alloc (.cells #[] 5)) w.heap.size (fun _ => True) (.slice (some ⟨w.heap.size, 0, none⟩) 0 0) [] :=
      ⟨fun _ _ => trivial, [], hOw, Reps.none _ _⟩
    have HO := Aside0.mk hO
    have hq : ∀ W, (binOp .eql 30 (.slice (some ad) N c) (.slice none 0 0)).run Try.prog W = .ok (.bool false) W := fun W => Go.Lib.run_eql_slice_nil W 30 5 (some ad) N c 0 0 Try.underlying30
    clear hr hl hN hO hOw
    go_enter Try.func35, Try.ntmps35
    go_wp2_with (at_builtin; refine Kd.R_append_row (Value.int .u8) 0 (h1 := fun _ => rfl) (w0 := w.alloc (.cells #[] 5)) w.heap.size rfl (.tmp 5) (.tmp 6) 30 5 (.int .u8 0) 1 rfl Try.underlying30 info_u8 rfl (by decide) (.slice (some ⟨w.heap.size, 0, none⟩) 0 0) [] l (some ad) N c (fun _ => True) rfl rfl (fun _ _ => trivial) HO.out (by rw [HN.out]; exact Kd.C_alloc HR.out _) (Below.refl _ _) (below_size (below_alloc (Below.refl _ _) _)) (by have := HL.out; have := HN.out; simp only [List.length_nil]; omega) ?_; intro v1 w1 hR hb hg hat; have HR1 := Aside0.mk hR; have HB1 := Aside0.mk ((below_alloc (Below.refl w.heap.size w) (.cells #[] 5)).trans hb); clear hR hb hg hat)
    go_ret
    have h5 := HR1.out
    rw [List.nil_append] at h5
    exact ⟨v1, rfl, h5, HB1.out⟩
theorem C_take {w : World} {A : Option Addr} {n : Nat} {xs : List Int} (h : (Kd.int .u8).C w A n xs) (i : Nat) (hi : i ≤ n) : (Kd.int .u8).C w A i (xs.take i) :=
  Kd.C_of_reads (d := (0 : Int)) (h1 := fun _ => rfl) (ReadsOf.take_ (Kd.reads_of_C (enc := Value.int .u8) (d := (0 : Int)) (h1 := fun _ => rfl) h) i hi)
/-- A row that was copied: its block is new. -/
theorem R_row {w w' : World} {v : Value} {xs : List Int} (h : (Kd.int .u8).R 5 w' w.heap.size (fun _ => True) v xs) : Row .u8 5 w' v xs ∧ ∀ i, v.ownBlock = some i → w.heap.size ≤ i := by
  have hq := q_of_own (Kd.own_of_R h)
  exact ⟨q_lower hq (Nat.zero_le _), fun i hi => (q_typed hq i hi).1⟩
section
variable {w : World} {p bm q : Nat} {vw vs vd : Value} {c : Int} {en : Bool} {ws ss : List Int} {room : Int} {ds : List Int}
set_option maxRecDepth 100000 in
theorem end_calls (h : St w p bm q vw vs vd c en ws ss room ds) (hc : (Key c).wf = true) :
    Calls Try.prog 24 #[.pointer (some ⟨p, 0, none⟩), .int .i64 c] w fun e w' => e = .returned (.int .i64 0) ∧ Next w p bm q vw vs vd c true ws ss room ds w' := by
  have HA := Aside0.mk (at_calls h.blkP h.own h.blkQ hc)
  have H := Aside0.mk h
  have hz1 : w.cell? ⟨q, 1, none⟩ = some (.bool en) := (blk_cell h.blkQ 1).trans rfl
  have hf1 := blk_frozen h.blkQ 1
  clear h hc
  go_enter Try.func24, Try.ntmps24
  go_wp2_with (go_at_call 33; refine HA.out.mono ?_; rintro e w1 ⟨rfl, rfl⟩)
  go_ret
  exact ⟨rfl, vw, vs, vd, H.out.setQ rfl, fun k hk => .inl hk, H.out.stayQ _ _⟩
set_option maxRecDepth 100000 in
theorem waits_calls (h : St w p bm q vw vs vd c en ws ss room ds) (hc : (Key c).wf = true) :
    Calls Try.prog 7 #[.pointer (some ⟨p, 0, none⟩), .int .i64 c] w fun e w' => e = .returned (.tuple #[.int .i64 (ws.length : Int), .bool en]) ∧ Below w.heap.size w w' := by
  have HA := Aside0.mk (at_calls h.blkP h.own h.blkQ hc)
  obtain ⟨Aw, cw, rfl, _⟩ := h.rw.slice
  obtain ⟨W, hW⟩ : ∃ W, W = ws.length := ⟨_, rfl⟩
  rw [← hW] at h
  rw [← hW]
  have hz1 : w.cell? ⟨q, 1, none⟩ = some (.bool en) := (blk_cell h.blkQ 1).trans rfl
  have hz2 : w.cell? ⟨q, 2, none⟩ = some (.slice Aw W cw) := (blk_cell h.blkQ 2).trans rfl
  clear h hc hW
  go_enter Try.func7, Try.ntmps7
  go_wp2_with (go_at_call 33; refine HA.out.mono ?_; rintro e w1 ⟨rfl, rfl⟩)
  go_region
  all_goals
    go_wp2
    go_ret2
    exact ⟨rfl, below_drew (Below.refl _ _)⟩
set_option maxHeartbeats 4000000 in
set_option maxRecDepth 100000 in
theorem arrive_ok (h : St w p bm q vw vs vd c false ws ss room ds) (hc : (Key c).wf = true) (A : Option Addr) (n cb : Nat) (b : List Int) (hn : n = b.length) (hb : (Kd.int .u8).C w A b.length b) (hl : b.length + ws.length ≤ 1048576) :
    Calls Try.prog 17 #[.pointer (some ⟨p, 0, none⟩), .int .i64 c, .slice A n cb] w fun e w' => e = .returned (.int .i64 0) ∧ Next w p bm q vw vs vd c false (ws ++ b) ss room ds w' := by
  have HA := Aside0.mk (at_calls h.blkP h.own h.blkQ hc)
  obtain ⟨Aw, cw, rfl, _⟩ := h.rw.slice
  obtain ⟨W, hW⟩ : ∃ W, W = ws.length := ⟨_, rfl⟩
  have HW := Aside0.mk hW
  rw [← hW] at h ⊢
  have H := Aside0.mk h
  have HB := Aside0.mk hb
  have Hn := Aside0.mk hn
  have HL := Aside0.mk hl
  have hz1 : w.cell? ⟨q, 1, none⟩ = some (.bool false) := (blk_cell h.blkQ 1).trans rfl
  have hz2 : w.cell? ⟨q, 2, none⟩ = some (.slice Aw W cw) := (blk_cell h.blkQ 2).trans rfl
  have hs0 : 0 ≤ 1048576 - (W : Int) := by omega
  have hs1 : ¬ 1048576 - (W : Int) < (n : Int) := by omega
  have hW0 : (W : Int) ≤ 1048576 := by omega
  clear h hc hW hb hn hl
  go_enter Try.func17, Try.ntmps17
  go_wp2_with (first
    | (go_at_call 33; refine HA.out.mono ?_; rintro e w1 ⟨rfl, rfl⟩)
    | ((with_reducible refine gate_builtin (b := .append) (xs := #[.tmp 33, .tmp 34]) rfl ?_); at_builtin; refine append_row (bytes := 1) rfl (.tmp 33) (.tmp 34) rfl Try.underlying30 info_u8 (by decide) (.slice Aw W cw) ws A n cb b rfl rfl H.out.rw HB.out Hn.out (by have := HL.out; omega) ?_; intro v1 w2 hR hg hat; obtain ⟨A1, c1, e1, _⟩ := hR.slice; obtain ⟨N1, hN1⟩ : ∃ N, N = (ws ++ b).length := ⟨_, rfl⟩; rw [← hN1] at e1; clear hN1; obtain ⟨hq2, hst, hft, hsy⟩ := H.out.toW hg hR (at_to hat); have HSt := Aside0.mk hst; have HFt := Aside0.mk hft; have HSy := Aside0.mk hsy; have hy2 : w2.cell? ⟨q, 2, none⟩ = some (.slice Aw W cw) := (blk_cell hq2 2).trans rfl; have hf2 := blk_frozen hq2 2; clear hR hg hat hq2 hst hft hsy hz1 hz2; subst e1))
  go_ret
  exact ⟨rfl, _, vs, vd, HSt.out, HFt.out, HSy.out⟩
set_option maxRecDepth 100000 in
theorem arrive_long (h : St w p bm q vw vs vd c false ws ss room ds) (hc : (Key c).wf = true) (A : Option Addr) (n cb : Nat) (hw : ws.length ≤ 1048576) (hl : 1048576 < n + ws.length) :
    Calls Try.prog 17 #[.pointer (some ⟨p, 0, none⟩), .int .i64 c, .slice A n cb] w fun e w' => e = .returned (.int .i64 2) ∧ w' = w := by
  have HA := Aside0.mk (at_calls h.blkP h.own h.blkQ hc)
  obtain ⟨Aw, cw, rfl, _⟩ := h.rw.slice
  obtain ⟨W, hW⟩ : ∃ W, W = ws.length := ⟨_, rfl⟩
  rw [← hW] at h
  have hz1 : w.cell? ⟨q, 1, none⟩ = some (.bool false) := (blk_cell h.blkQ 1).trans rfl
  have hz2 : w.cell? ⟨q, 2, none⟩ = some (.slice Aw W cw) := (blk_cell h.blkQ 2).trans rfl
  have hs0 : 0 ≤ 1048576 - (W : Int) := by omega
  have hs1 : 1048576 - (W : Int) < (n : Int) := by omega
  have hW0 : (W : Int) ≤ 1048576 := by omega
  clear h hc hW hl hw
  go_enter Try.func17, Try.ntmps17
  go_wp2_with (go_at_call 33; refine HA.out.mono ?_; rintro e w1 ⟨rfl, rfl⟩)
  go_returns
  exact ⟨rfl, rfl⟩
end
end Go.Proofs.Ytnhhcmnjfaeliaa.Wld
