/- ChunkedWrites: plainly, and the walk; own text of this session. -/
import Derived.Test.YtnlicpihondmgaaDoorChD
import Derived.Test.YtnlicpihondmgaaDoorLCut
import Derived.Deep.RegionWith
namespace Go.Proofs.YtnlicpihondmgaaDoor.Chk
open Go.RowKit Go.Proofs.YtnlicpihondmgaaDoorW.PrintWords Go.Proofs.YtnlicpihondmgaaDoorW.PrintLast Px
set_option linter.unusedVariables false
set_option linter.unusedSimpArgs false
theorem ev_rCheck_l0 (l : List Fld) (hl : l.length ≤ 100) (hs : ∀ f ∈ l, f.f0.size ≤ 4611686018427387904 ∧ f.f1.size ≤ 4611686018427387904) (rest : List Fld) : ∀ i : Nat, l.drop i = rest → Ev (fun k => P.headraceref07_Check.l0 k l (l.length : Int) (i : Int)) (chkGo rest) := by
  induction rest with
  | nil =>
    intro i hi
    have := Px.drop_nil hi
    refine Ev.step (fun k => rfl) ?_
    simp only [P.headraceref07_Check.l0, if_neg (show ¬ (i : Int) < (l.length : Int) by omega)]
    exact Ev.now _
  | cons f r ih =>
    intro i hi
    have hlt := Px.drop_lt hi
    have hf := hs f (List.mem_of_mem_drop (by rw [hi]; simp))
    refine Ev.step (fun k => rfl) ?_
    simp only [P.headraceref07_Check.l0, if_pos (show (i : Int) < (l.length : Int) by omega), if_pos (show 0 ≤ (i : Int) by omega), rd_fld hi, Px.w64 (show i < 9223372036854775807 by omega)]
    refine Ev.bind (Px.ev_rToken f.f0 hf.1) ?_
    unfold chkGo
    refine Px.ev_ite (fun h => ?_) (fun h => ?_)
    · refine Ev.bind (Px.ev_rValue f.f1 hf.2) ?_
      refine Px.ev_ite (fun h2 => ?_) (fun h2 => ?_)
      · rw [if_pos (show fldE f = 0 by unfold fldE; rw [if_pos h, if_pos h2])]
        exact ih (i + 1) (Px.drop_succ hi)
      · have e : fldE f = 71 := by unfold fldE; rw [if_pos h, if_neg h2]
        rw [e, if_neg (by decide)]
        exact Ev.now _
    · have e : fldE f = 70 := by unfold fldE; rw [if_neg h]
      rw [e, if_neg (by decide)]
      exact Ev.now _
theorem ev_rCheck (l : List Fld) (hs : ∀ f ∈ l, f.f0.size ≤ 4611686018427387904 ∧ f.f1.size ≤ 4611686018427387904) : Ev (fun k => P.headraceref07_Check.f k l) (chkS l) := by
  unfold P.headraceref07_Check.f chkS
  refine Px.ev_ite (fun h => ?_) (fun h => ?_)
  · rw [if_pos (by omega)]; exact Ev.now _
  · rw [if_neg (by omega)]; exact ev_rCheck_l0 l (by omega) hs l 0 rfl
theorem fbz_drop {l rest : List Fld} {i : Nat} (h : l.drop i = rest) : fbz rest ≤ fbz l := by
  have e : l = l.take i ++ rest := by rw [← h, List.take_append_drop]
  rw [e]
  unfold fbz
  rw [List.map_append, List.sum_append]
  omega
theorem ev_rLast_l0 (l : List Fld) (hl : l.length ≤ 100) (rest : List Fld) : ∀ (i : Nat) (s : ByteArray), l.drop i = rest → s.size + fbz rest + 2 ≤ 1073741824 → Ev (fun k => P.headraceref10_Last.l0 k s l (l.length : Int) (i : Int)) (bytesOf s ++ rest.flatMap fldB ++ [13, 10], 0) := by
  induction rest with
  | nil =>
    intro i s hi hs
    have := Px.drop_nil hi
    have hz : (⟨#[13, 10]⟩ : ByteArray).size = 2 := rfl
    refine Ev.step (fun k => rfl) ?_
    simp only [P.headraceref10_Last.l0, if_neg (show ¬ (i : Int) < (l.length : Int) by omega), if_pos (show s.size + 2 ≤ 9223372036854775807 by omega), if_pos (show (s ++ (⟨#[13, 10]⟩ : ByteArray)).size ≤ 4611686018427387904 by rw [ByteArray.size_append, hz]; omega)]
    have e : nOf (s ++ (⟨#[13, 10]⟩ : ByteArray)).data.toList = bytesOf s ++ [].flatMap fldB ++ [13, 10] := by
      rw [List.flatMap_nil, List.append_nil]
      exact bytes_append s ⟨#[13, 10]⟩
    rw [e]
    exact Ev.now _
  | cons f r ih =>
    intro i s hi hs
    have hlt := Px.drop_lt hi
    have hz : (⟨#[13, 10]⟩ : ByteArray).size = 2 := rfl
    have hz2 : (⟨#[58, 32]⟩ : ByteArray).size = 2 := rfl
    have hfb : fbz (f :: r) = f.f0.size + f.f1.size + 4 + fbz r := by unfold fbz; simp
    refine Ev.step (fun k => rfl) ?_
    simp only [P.headraceref10_Last.l0, if_pos (show (i : Int) < (l.length : Int) by omega), if_pos (show 0 ≤ (i : Int) by omega), rd_fld hi, Px.w64 (show i < 9223372036854775807 by omega),
      if_pos (show s.size + f.f0.size ≤ 9223372036854775807 by omega), if_pos (show (s ++ f.f0).size + 2 ≤ 9223372036854775807 by rw [ByteArray.size_append]; omega),
      if_pos (show ((s ++ f.f0) ++ (⟨#[58, 32]⟩ : ByteArray)).size + f.f1.size ≤ 9223372036854775807 by rw [ByteArray.size_append, ByteArray.size_append, hz2]; omega),
      if_pos (show (((s ++ f.f0) ++ (⟨#[58, 32]⟩ : ByteArray)) ++ f.f1).size + 2 ≤ 9223372036854775807 by rw [ByteArray.size_append, ByteArray.size_append, ByteArray.size_append, hz2]; omega)]
    have h := ih (i + 1) ((((s ++ f.f0) ++ (⟨#[58, 32]⟩ : ByteArray)) ++ f.f1) ++ (⟨#[13, 10]⟩ : ByteArray)) (Px.drop_succ hi) (by rw [ByteArray.size_append, ByteArray.size_append, ByteArray.size_append, ByteArray.size_append, hz, hz2]; omega)
    have e : bytesOf ((((s ++ f.f0) ++ (⟨#[58, 32]⟩ : ByteArray)) ++ f.f1) ++ (⟨#[13, 10]⟩ : ByteArray)) ++ r.flatMap fldB ++ [13, 10] = bytesOf s ++ (f :: r).flatMap fldB ++ [13, 10] := by
      rw [List.flatMap_cons]
      unfold fldB
      simp only [bytes_append, List.append_assoc]
    rw [e] at h
    exact h
/-- What the last chunk is, where nothing is wrong. -/
def lastV (l : List Fld) : List Int := if chkS l = 0 then lastS l else []
theorem ev_rLast (l : List Fld) (hs : fbz l ≤ 536870912) : Ev (fun k => P.headraceref10_Last.f k l) (lastV l, chkS l) := by
  have hf : ∀ f ∈ l, f.f0.size ≤ 4611686018427387904 ∧ f.f1.size ≤ 4611686018427387904 := fun f h => by have := fbz_mem h; omega
  unfold P.headraceref10_Last.f lastV
  refine Ev.bind (ev_rCheck l hf) ?_
  refine Px.ev_ite (fun h => ?_) (fun h => ?_)
  · rw [if_pos h, h]
    have h1 := (chk_ok l h).1
    have h2 := ev_rLast_l0 l h1 l 0 (⟨#[48, 13, 10]⟩ : ByteArray) rfl (by show 3 + _ + 2 ≤ _; omega)
    exact h2
  · rw [if_neg h]
    exact Ev.now _
theorem ev_rChunk (b : List Int) (hn : b.length ≤ 1099511627776) : Ev (fun k => P.headraceref10_Chunk.f k b) (chunkB b) := by
  unfold P.headraceref10_Chunk.f chunkB
  refine Px.ev_ite (fun h => ?_) (fun h => ?_)
  · rw [if_pos (List.length_eq_zero_iff.1 (by omega))]
    exact Ev.now _
  · rw [if_neg (fun e => h (by rw [e]; rfl))]
    have hh := Px.ev_rHexText (b.length : Int)
    rw [if_neg (by omega), Int.toNat_natCast] at hh
    refine Ev.bind hh ?_
    have hx := hex_len b.length
    have hz : (Px.mkB (Hr.hex b.length)).size = (Hr.hex b.length).length := Px.mkB_size _
    have hb : bytesOf (Px.mkB (Hr.hex b.length)) = nOf (Hr.hex b.length) := rfl
    have hnl : (nOf (Hr.hex b.length)).length = (Hr.hex b.length).length := nOf_length _
    simp only [Option.bind_some, List.nil_append, List.length_nil, hb]
    rw [if_pos (by omega), if_pos (by simp only [List.length_cons, List.length_nil]; omega), if_pos (by simp only [List.length_append, List.length_cons, List.length_nil]; omega), if_pos (by simp only [List.length_append, List.length_cons, List.length_nil]; omega)]
    exact Ev.now _
def LastAny (l : List Fld) (w : World) (e : Ending) (w' : World) : Prop :=
  ∃ (A : Option Addr) (c : Nat), e = .returned (.tuple #[.slice A (lastV l).length c, .int .i64 (chkS l)]) ∧ (Kd.int .u8).C w' A (lastV l).length (lastV l) ∧ Below w.heap.size w w'
theorem last_any (l : List Fld) (A : Option Addr) (c : Nat) (w : World) (hr : Kd.C P.k49 w A l.length l) (hc : l.length ≤ c) (hs : fbz l ≤ 536870912) :
    Calls Tryd.prog 17 #[.slice A l.length c] w (LastAny l w) := by
  by_cases h : chkS l = 0
  · refine (last_ok l A c w hr hc (by omega) h).mono ?_
    rintro e w' ⟨v, rfl, hR, hb⟩
    obtain ⟨A9, c9, e9, _, hC9⟩ := Kd.R_reads hR
    subst e9
    have e : lastV l = lastS l := by unfold lastV; rw [if_pos h]
    exact ⟨A9, c9, by rw [e, h], by rw [e]; exact hC9, hb⟩
  · refine (last_no l A c w (chkS l) hr hc (by omega) rfl h).mono ?_
    rintro e w' ⟨rfl, hb⟩
    have e : lastV l = [] := by unfold lastV; rw [if_neg h]
    exact ⟨none, 0, by rw [e]; rfl, by rw [e]; exact Kd.C_nil _ _, hb⟩
theorem rlast_any (l : List Fld) (A : Option Addr) (c : Nat) (w : World) (hr : Kd.C P.k49 w A l.length l) (hc : l.length ≤ c) (hs : fbz l ≤ 536870912) :
    Calls Tryd.prog 18 #[.slice A l.length c] w (LastAny l w) := by
  obtain ⟨k, hk⟩ := (ev_rLast l hs).rounds
  refine (P.headraceref10_Last.calls k A c l _ _ w hr hc hk).mono ?_
  rintro e w' ⟨v, rfl, ⟨A1, c1, e1, _, hF⟩, hb⟩
  subst e1
  exact ⟨A1, c1, rfl, hF w' (fun _ _ _ => rfl), hb⟩
theorem rchunk_calls (b : List Int) (A : Option Addr) (c : Nat) (w : World) (hr : Kd.C (Kd.int .u8) w A b.length b) (hc : b.length ≤ c) (hn : b.length ≤ 1099511627776) :
    Calls Tryd.prog 20 #[.slice A b.length c] w fun e w' => ∃ (A1 : Option Addr) (c1 : Nat), e = .returned (.slice A1 (chunkB b).length c1) ∧ (Kd.int .u8).C w' A1 (chunkB b).length (chunkB b) ∧ Below w.heap.size w w' := by
  obtain ⟨k, hk⟩ := (ev_rChunk b hn).rounds
  refine (P.headraceref10_Chunk.calls k A c b _ w hr hc hk).mono ?_
  rintro e w' ⟨v, rfl, hR, hb⟩
  obtain ⟨A1, c1, e1, _, hC⟩ := Kd.R_reads hR
  subst e1
  exact ⟨A1, c1, rfl, hC, hb⟩
theorem C_str {W : World} {A : Option Addr} {n c : Nat} {xs : List Int} (hn : n = xs.length) (h : (Kd.int .u8).C W A xs.length xs) : (convert 22 9 (.slice A n c)).run Tryd.prog W = Result.ok (.string (strOfNums xs)) W := by
  rw [hn]
  exact Kd.C_string Tryd.underlying22 Tryd.underlying5 Tryd.underlying9 h
end Go.Proofs.YtnlicpihondmgaaDoor.Chk
namespace Go.Proofs.YtnlicpihondmgaaDoor.P
open Go.RowKit Go.Proofs.YtnlicpihondmgaaDoorW.PrintWords Go.Proofs.YtnlicpihondmgaaDoorW.PrintLast Chk
set_option linter.unusedVariables false
set_option linter.unusedSimpArgs false
set_option maxHeartbeats 8000000 in
set_option maxRecDepth 100000 in
theorem headracelaw10_ChunkedWrites.walk_ (b : List Int) (l : List Fld) (A0 A1 : Option Addr) (c0 c1 : Nat) (w : World) (hr0 : Kd.C (Kd.int .u8) w A0 b.length b) (hc0 : b.length ≤ c0) (hr1 : Kd.C k49 w A1 l.length l) (hc1 : l.length ≤ c1)
    (hw : isB b = true) (hl : b.length ≤ 16777216) (hs : fbz l ≤ 16777216) (hG_ : GInv w) :
    Calls Tryd.prog 4 #[.slice A0 b.length c0, .slice A1 l.length c1] w fun e w' => e = .returned (.bool true) ∧ Below w.heap.size w w' := by
  have HG := Aside0.mk hG_
  have HR0 := Aside0.mk hr0
  have HR1 := Aside0.mk hr1
  have Hc0 := Aside0.mk hc0
  have Hc1 := Aside0.mk hc1
  have HW := Aside0.mk hw
  have HL := Aside0.mk hl
  have HS := Aside0.mk hs
  clear hG_ hr0 hc0 hr1 hc1 hw hl hs
  go_enter Tryd.func4, Tryd.ntmps4
  go_wp2_with fail
  refine (last_any l A1 c1 w HR1.out Hc1.out (by have := HS.out; omega)).mono ?_
  rintro e w1 ⟨AX, cX, rfl, hCX, hb1⟩
  obtain ⟨r, hr⟩ : ∃ r, r = chkS l := ⟨_, rfl⟩
  have Hr := Aside0.mk hr
  obtain ⟨n, hn⟩ : ∃ n, n = (lastV l).length := ⟨_, rfl⟩
  have Hn := Aside0.mk hn
  have HCX := Aside0.mk hCX
  have HB1 := Aside0.mk hb1
  rw [← hr, ← hn]
  clear hCX hb1 hr hn
  go_wp2_with fail
  refine (rlast_any l A1 c1 w1 (Kd.C_below HR1.out HB1.out) Hc1.out (by have := HS.out; omega)).mono ?_
  rintro e w2 ⟨AY, cY, rfl, hCY, hb2⟩
  have HCY := Aside0.mk hCY
  have HCX2 := Aside0.mk (Kd.C_below HCX.out hb2)
  have HB2 := Aside0.mk (below_step HB1.out hb2)
  rw [← Hr.out, ← Hn.out]
  clear hCY hb2
  have HBd := Aside0.mk (below_drew HB2.out)
  obtain ⟨m, hm⟩ : ∃ m, m = (chunkB b).length := ⟨_, rfl⟩
  have Hm := Aside0.mk hm
  clear hm
  obtain ⟨sL, hsL⟩ : ∃ s, s = strOfNums (lastV l) := ⟨_, rfl⟩
  have HsL := Aside0.mk hsL
  clear hsL
  obtain ⟨sC, hsC⟩ : ∃ s, s = strOfNums (chunkB b) := ⟨_, rfl⟩
  have HsC := Aside0.mk hsC
  clear hsC
  go_wp2_with fail
  go_region_with (first
    | (go_at_call 19; refine (chunk_calls b A0 c0 w2.drew (Kd.C_below HR0.out HBd.out) Hc0.out HW.out (by have := HL.out; omega) (HG.out.below HBd.out)).mono ?_; rintro e w4 ⟨AC, cC, rfl, hC4, hb4⟩; have HC4 := Aside0.mk hC4; have HB4 := Aside0.mk (below_step HBd.out hb4); have HY4 := Aside0.mk (Kd.C_below (Kd.C_below HCY.out (below_drew (Below.refl _ _))) hb4); have HX4 := Aside0.mk (Kd.C_below (Kd.C_below HCX2.out (below_drew (Below.refl _ _))) hb4); have hcv4 := C_str (c := cC) Hm.out hC4; rw [← HsC.out] at hcv4; rw [← Hm.out]; clear hC4 hb4)
    | (go_at_call 20; refine (rchunk_calls b A0 c0 w4 (Kd.C_below HR0.out HB4.out) Hc0.out (by have := HL.out; omega)).mono ?_; rintro e w5 ⟨AD, cD, rfl, hC5, hb5⟩; have HB5 := Aside0.mk (below_step HB4.out hb5); have hcv5 := C_str (c := cC) Hm.out (Kd.C_below HC4.out hb5); have hcv6 := C_str (c := cD) Hm.out hC5; have hcv7 := C_str (c := cX) Hn.out (Kd.C_below HX4.out hb5); have hcv8 := C_str (c := cY) Hn.out (Kd.C_below HY4.out hb5); rw [← HsC.out] at hcv5 hcv6; rw [← HsL.out] at hcv7 hcv8; rw [← Hm.out]; clear hC5 hb5)
    | (go_at_call 15; refine (speaks_calls _ (GInv.below' HG (by repeat (first | exact HB5.out | apply below_drew1 | apply pw_below_drewN)))).mono ?_; rintro e w6 ⟨rfl, hb6⟩; have HB6 := Aside0.mk (below_step (by repeat (first | exact HB5.out | apply below_drew1 | apply pw_below_drewN)) hb6); clear hb6))
  all_goals
    go_wp2
    go_ret
    exact ⟨rfl, HB6.out⟩
def headracelaw10_ChunkedWrites.f (k : Nat) (l0 : List Int) (l1 : List Fld) : Option Bool := if isB l0 = true ∧ l0.length ≤ 16777216 ∧ fbz l1 ≤ 16777216 then some true else none
theorem headracelaw10_ChunkedWrites.calls (k : Nat) (A0 : Option Addr) (c0 : Nat) (l0 : List Int) (A1 : Option Addr) (c1 : Nat) (l1 : List Fld) (r : Bool) (w : World) (hr0 : Kd.C (Kd.int .u8) w A0 l0.length l0) (hc0 : l0.length ≤ c0)
    (hr1 : Kd.C k49 w A1 l1.length l1) (hc1 : l1.length ≤ c1) (h : headracelaw10_ChunkedWrites.f k l0 l1 = some r) (hG_ : GInv w) :
    Calls Tryd.prog 4 #[.slice A0 l0.length c0, .slice A1 l1.length c1] w fun e w' => e = .returned (.bool r) ∧ Below w.heap.size w w' := by
  unfold headracelaw10_ChunkedWrites.f at h
  split at h
  · rename_i hl
    obtain rfl := Option.some.inj h
    exact headracelaw10_ChunkedWrites.walk_ l0 l1 A0 A1 c0 c1 w hr0 hc0 hr1 hc1 hl.1 hl.2.1 hl.2.2 hG_
  · cases h
end Go.Proofs.YtnlicpihondmgaaDoor.P
namespace Go.Proofs.YtnlicpihondmgaaDoor.Px
theorem pure_ChunkedWrites (l : List Int) (f : List Chk.Fld) (hr : l.length ≤ 1048576) (hw : ∀ x ∈ l, (Go.Lit.int .u8 x).wf = true) (hf : Chk.fbz f ≤ 4194304) : ∃ k, P.headracelaw10_ChunkedWrites.f k l f = some true :=
  ⟨0, by unfold P.headracelaw10_ChunkedWrites.f; rw [if_pos ⟨isB_wf l hw, by omega, by omega⟩]⟩
end Go.Proofs.YtnlicpihondmgaaDoor.Px
