/- WorldBytes: the walk; own text of this session. -/
import Derived.Test.YtlbedgiebcpncaaVld10
namespace Go.Proofs.Ytlbedgiebcpncaa.Wld
open Go.RowKit Go.Proofs.YtlbedgiebcpncaaW.PrintWords Go.Proofs.YtlbedgiebcpncaaW.PrintLast Go.Maps
set_option linter.unusedVariables false
set_option linter.unusedSimpArgs false
set_option maxHeartbeats 16000000 in
set_option maxRecDepth 100000 in
theorem bytes_walk (A0 : Option Addr) (c0 : Nat) (ps : List (List Int)) (A1 : Option Addr) (c1 : Nat) (zs : List Int) (w : World) (hr0 : Kd.C (Kd.slice 5 (Kd.int .u8)) w A0 ps.length ps) (hr1 : (Kd.int .i64).C w A1 zs.length zs)
    (hb : ps.flatten.length + ps.length ≤ 1048576) :
    Calls Try.prog 3 #[.slice A0 ps.length c0, .slice A1 zs.length c1] w fun e w' => e = .returned (.bool true) ∧ Below w.heap.size w w' := by
  have HR := Aside0.mk hr0
  have HZs := Aside0.mk hr1
  have HBd : Aside0 (ps.flatten.length ≤ 1048576) := ⟨by omega⟩
  obtain ⟨N, hN⟩ : ∃ N, N = ps.length := ⟨_, rfl⟩
  have HN := Aside0.mk hN
  have hNle : (N : Int) ≤ 1048576 := by omega
  obtain ⟨M, hM⟩ : ∃ M, M = zs.length := ⟨_, rfl⟩
  have HM := Aside0.mk hM
  rw [← hN, ← hM]
  clear hr0 hr1 hb hN hM
  go_enter Try.func3, Try.ntmps3
  go_wp2_with fail
  refine (new_calls _).mono ?_
  rintro e w1 ⟨p, bm, rfl, h0, hp, hm, hb⟩
  have H0 := Aside0.mk h0
  have HP := Aside0.mk hp
  have HMm := Aside0.mk hm
  have HB := Aside0.mk hb
  clear h0 hp hm hb
  go_wp2_with fail
  refine (open_calls H0.out 3 (by decide) (by decide)).mono ?_
  rintro e w2 ⟨q, rfl, hst, hq, hs⟩
  have S2 := Aside0.mk (Law.new (Sit.new HP.out HMm.out HB.out hst hq hs))
  clear hst hq hs H0 HP HMm HB
  go_wp2_with fail
  go_loopw [6, 7, 26] (fun x6 x7 v26 wr => ∃ (kk : Nat) (v6 v7 : Value), kk ≤ N ∧ v6 = x6 ∧ v7 = x7 ∧ v26 = .int .i64 kk ∧ Aside0 (∃ vw vs vd ws cm rd, Law w wr p bm q vw vs vd 3 false ws [] 0 [] v6 v7 cm rd ∧ cm = rd ++ ws ∧ ws.length ≤ 1048576 ∧ cm.length ≤ (ps.take kk).flatten.length)) (fun _ _ v26 _ => N - (intOf v26).toNat)
  case atStart => exact ⟨0, _, _, Nat.zero_le _, rfl, rfl, rfl, ⟨_, _, _, [], [], [], S2.out, rfl, Nat.zero_le _, Nat.zero_le _⟩⟩
  case round =>
    obtain ⟨kk, v6, v7, hkk, rfl, rfl, rfl, ⟨vw, vs, vd, ws, cm, rd, hl, hc0, hws, hcm⟩⟩ := hrel
    have HL := Aside0.mk hl
    have HC0 := Aside0.mk hc0
    have HWs := Aside0.mk hws
    have HCm := Aside0.mk hcm
    clear hl hc0 hws hcm S2
    by_cases hlt : kk < N
    · have hltz : (kk : Int) < (N : Int) := by omega
      have hkl : kk < ps.length := by rw [← HN.out]; exact hlt
      obtain ⟨ad, Ab, cb, eA, hx, hcb, hCb⟩ := at_row HR.out kk hkl rfl
      cases eA
      replace hx := (HL.out.s.below.cell (World.block_lt_of_cell? w _ hx)).trans hx
      have hrl := row_le ps kk hkl
      generalize ps[kk] = b at hx hcb hCb hrl
      have HTk := Aside0.mk hrl
      have HCB := Aside0.mk hCb
      obtain ⟨n, hn⟩ : ∃ n, n = b.length := ⟨_, rfl⟩
      have Hn := Aside0.mk hn
      rw [← hn] at hx hcb
      clear hrl hCb hn
      by_cases hkm : kk < M
      · have hkmz : (kk : Int) < (M : Int) := by omega
        obtain ⟨adz, eZ, hz0⟩ := Kd.at_int HZs.out (kk : Int) (by omega) (by have := HM.out; omega)
        cases eZ
        rw [Int.toNat_natCast] at hz0
        obtain ⟨z, hzd⟩ : ∃ z, z = Go.Proofs.YtlbedgiebcpncaaW.PrintWords.rd zs (kk : Int) := ⟨_, rfl⟩
        rw [← hzd] at hz0
        have HZ := Aside0.mk hz0
        clear hz0 hzd
        by_cases hfit : b.length + ws.length ≤ 1048576
        · have HFit := Aside0.mk hfit
          clear hfit
          go_wp2_with fail
          refine (arrive_ok HL.out.s.st (by decide) Ab n cb b Hn.out (Kd.C_below HCB.out HL.out.s.below) (by have := HFit.out; omega)).mono ?_
          rintro e w2 ⟨rfl, vw2, vs2, vd2, hst, hf, hs⟩
          have L2 := Aside0.mk (HL.out.op hst hf hs)
          clear hst hf hs
          go_wp2_with ((with_reducible refine gate_builtin (b := .append) (xs := #[.tmp 35, .tmp 36]) rfl ?_); at_builtin; refine append_row (bytes := 1) rfl (.tmp 35) (.tmp 36) rfl Try.underlying28 info_u8 (by decide) v6 cm Ab n cb b rfl rfl L2.out.e6.1 (Kd.C_below HCB.out L2.out.s.below) Hn.out (by have := HCm.out; have := HTk.out.1; have := HTk.out.2; have := HBd.out; omega) ?_; intro v9 w3 hR hg hat; have L3 := Aside0.mk (L2.out.add6 hg hat hR); clear hR hg hat; have hz3 : w3.cell? (adz.add kk) = some (.int .i64 z) := (L3.out.s.below.cell (World.block_lt_of_cell? w _ HZ.out)).trans HZ.out)
          have HEq : Aside0 (cm ++ b = rd ++ (ws ++ b)) := ⟨by rw [HC0.out, List.append_assoc]⟩
          have HLe : Aside0 ((cm ++ b).length ≤ (ps.take (kk + 1)).flatten.length) := ⟨by rw [List.length_append]; have := HCm.out; have := HTk.out.1; omega⟩
          have HW2 : Aside0 ((ws ++ b).length ≤ 1048576) := ⟨by rw [List.length_append]; have := HFit.out; omega⟩
          have HLen : Aside0 (rd.length + (ws ++ b).length ≤ 1048576) := ⟨by have h5 := congrArg List.length HEq.out; have h6 := HLe.out; have := HTk.out.2; have := HBd.out; simp only [List.length_append] at h5 h6 ⊢; omega⟩
          obtain ⟨m, hm⟩ : ∃ m : Nat, (m : Int) = max 0 (min z (ws ++ b).length) := ⟨(max 0 (min z (ws ++ b).length)).toNat, by omega⟩
          have Hm := Aside0.mk hm
          by_cases hzn : 0 ≤ z
          · have hzm : ¬ z < (m : Int) := by omega
            clear hm
            refine (read_calls L3.out.s.st (by decide) HW2.out z m Hm.out).mono ?_
            rintro e w5 ⟨A5, c5, vw5, rfl, hst, hf, hs, hrow, how⟩
            have hnf : ∀ i, (Value.slice A5 m c5).ownBlock = some i → ¬ Ft p bm q vw5 vs2 vd2 i := fun i hi h5 => by have := how i hi; have := L3.out.s.st.lt i (hf i h5); omega
            have E5 := Aside0.mk hrow.C.2.2
            have El := Aside0.mk hrow.C.1
            have L5 := Aside0.mk (L3.out.op hst (fun k hk => .inl (hf k hk)) hs)
            have hz : w5.cell? (adz.add kk) = some (.int .i64 z) := (L5.out.s.below.cell (World.block_lt_of_cell? w _ HZ.out)).trans HZ.out
            clear hst hf hs hrow how hnf hz3
            go_wp2_with ((with_reducible refine gate_builtin (b := .append) (xs := #[.tmp 69, .tmp 70]) rfl ?_); at_builtin; refine append_row (bytes := 1) rfl (.tmp 69) (.tmp 70) rfl Try.underlying28 info_u8 (by decide) v7 rd A5 m c5 ((ws ++ b).take m) rfl rfl L5.out.e7.1 (El.out ▸ E5.out) El.out (by have := HLen.out; rw [List.length_take]; omega) ?_; intro v10 w6 hR hg hat; have L6 := Aside0.mk (L5.out.add7 hg hat hR); clear hR hg hat)
            go_roundw
            case rel =>
              refine ⟨kk + 1, v9, v10, by omega, rfl, rfl, by go_num, ⟨vw5, vs2, vd2, (ws ++ b).drop m, (cm ++ b), rd ++ (ws ++ b).take m, L6.out, ?_, by rw [List.length_drop]; have := HW2.out; omega, ?_⟩⟩
              · rw [List.append_assoc, List.take_append_drop]; exact HEq.out
              · exact HLe.out
            case measure => simp [intOf]; omega
          · clear hm
            refine (read_calls L3.out.s.st (by decide) HW2.out z m Hm.out).mono ?_
            rintro e w5 ⟨A5, c5, vw5, rfl, hst, hf, hs, hrow, how⟩
            have hnf : ∀ i, (Value.slice A5 m c5).ownBlock = some i → ¬ Ft p bm q vw5 vs2 vd2 i := fun i hi h5 => by have := how i hi; have := L3.out.s.st.lt i (hf i h5); omega
            have E5 := Aside0.mk hrow.C.2.2
            have El := Aside0.mk hrow.C.1
            have L5 := Aside0.mk (L3.out.op hst (fun k hk => .inl (hf k hk)) hs)
            have hz : w5.cell? (adz.add kk) = some (.int .i64 z) := (L5.out.s.below.cell (World.block_lt_of_cell? w _ HZ.out)).trans HZ.out
            clear hst hf hs hrow how hnf hz3
            go_wp2_with ((with_reducible refine gate_builtin (b := .append) (xs := #[.tmp 69, .tmp 70]) rfl ?_); at_builtin; refine append_row (bytes := 1) rfl (.tmp 69) (.tmp 70) rfl Try.underlying28 info_u8 (by decide) v7 rd A5 m c5 ((ws ++ b).take m) rfl rfl L5.out.e7.1 (El.out ▸ E5.out) El.out (by have := HLen.out; rw [List.length_take]; omega) ?_; intro v10 w6 hR hg hat; have L6 := Aside0.mk (L5.out.add7 hg hat hR); clear hR hg hat)
            go_roundw
            case rel =>
              refine ⟨kk + 1, v9, v10, by omega, rfl, rfl, by go_num, ⟨vw5, vs2, vd2, (ws ++ b).drop m, (cm ++ b), rd ++ (ws ++ b).take m, L6.out, ?_, by rw [List.length_drop]; have := HW2.out; omega, ?_⟩⟩
              · rw [List.append_assoc, List.take_append_drop]; exact HEq.out
              · exact HLe.out
            case measure => simp [intOf]; omega
        · have HFit := Aside0.mk hfit
          clear hfit
          go_wp2_with fail
          refine (arrive_long HL.out.s.st (by decide) Ab n cb HWs.out (by have := HFit.out; have := Hn.out; omega)).mono ?_
          rintro e w2 ⟨rfl, rfl⟩
          have hz3 : w2.cell? (adz.add kk) = some (.int .i64 z) := (HL.out.s.below.cell (World.block_lt_of_cell? w _ HZ.out)).trans HZ.out
          have HEq : Aside0 (cm = rd ++ (ws)) := ⟨HC0.out⟩
          have HLe : Aside0 ((cm).length ≤ (ps.take (kk + 1)).flatten.length) := ⟨by have := HCm.out; have := HTk.out.1; omega⟩
          have HW2 : Aside0 ((ws).length ≤ 1048576) := ⟨HWs.out⟩
          have HLen : Aside0 (rd.length + (ws).length ≤ 1048576) := ⟨by have h5 := congrArg List.length HEq.out; have h6 := HLe.out; have := HTk.out.2; have := HBd.out; simp only [List.length_append] at h5 h6 ⊢; omega⟩
          obtain ⟨m, hm⟩ : ∃ m : Nat, (m : Int) = max 0 (min z (ws).length) := ⟨(max 0 (min z (ws).length)).toNat, by omega⟩
          have Hm := Aside0.mk hm
          go_wp2_with fail
          by_cases hzn : 0 ≤ z
          · have hzm : ¬ z < (m : Int) := by omega
            clear hm
            refine (read_calls HL.out.s.st (by decide) HW2.out z m Hm.out).mono ?_
            rintro e w5 ⟨A5, c5, vw5, rfl, hst, hf, hs, hrow, how⟩
            have hnf : ∀ i, (Value.slice A5 m c5).ownBlock = some i → ¬ Ft p bm q vw5 vs vd i := fun i hi h5 => by have := how i hi; have := HL.out.s.st.lt i (hf i h5); omega
            have E5 := Aside0.mk hrow.C.2.2
            have El := Aside0.mk hrow.C.1
            have L5 := Aside0.mk (HL.out.op hst (fun k hk => .inl (hf k hk)) hs)
            have hz : w5.cell? (adz.add kk) = some (.int .i64 z) := (L5.out.s.below.cell (World.block_lt_of_cell? w _ HZ.out)).trans HZ.out
            clear hst hf hs hrow how hnf hz3
            go_wp2_with ((with_reducible refine gate_builtin (b := .append) (xs := #[.tmp 69, .tmp 70]) rfl ?_); at_builtin; refine append_row (bytes := 1) rfl (.tmp 69) (.tmp 70) rfl Try.underlying28 info_u8 (by decide) v7 rd A5 m c5 ((ws).take m) rfl rfl L5.out.e7.1 (El.out ▸ E5.out) El.out (by have := HLen.out; rw [List.length_take]; omega) ?_; intro v10 w6 hR hg hat; have L6 := Aside0.mk (L5.out.add7 hg hat hR); clear hR hg hat)
            go_roundw
            case rel =>
              refine ⟨kk + 1, v6, v10, by omega, rfl, rfl, by go_num, ⟨vw5, vs, vd, (ws).drop m, (cm), rd ++ (ws).take m, L6.out, ?_, by rw [List.length_drop]; have := HW2.out; omega, ?_⟩⟩
              · rw [List.append_assoc, List.take_append_drop]; exact HEq.out
              · exact HLe.out
            case measure => simp [intOf]; omega
          · clear hm
            refine (read_calls HL.out.s.st (by decide) HW2.out z m Hm.out).mono ?_
            rintro e w5 ⟨A5, c5, vw5, rfl, hst, hf, hs, hrow, how⟩
            have hnf : ∀ i, (Value.slice A5 m c5).ownBlock = some i → ¬ Ft p bm q vw5 vs vd i := fun i hi h5 => by have := how i hi; have := HL.out.s.st.lt i (hf i h5); omega
            have E5 := Aside0.mk hrow.C.2.2
            have El := Aside0.mk hrow.C.1
            have L5 := Aside0.mk (HL.out.op hst (fun k hk => .inl (hf k hk)) hs)
            have hz : w5.cell? (adz.add kk) = some (.int .i64 z) := (L5.out.s.below.cell (World.block_lt_of_cell? w _ HZ.out)).trans HZ.out
            clear hst hf hs hrow how hnf hz3
            go_wp2_with ((with_reducible refine gate_builtin (b := .append) (xs := #[.tmp 69, .tmp 70]) rfl ?_); at_builtin; refine append_row (bytes := 1) rfl (.tmp 69) (.tmp 70) rfl Try.underlying28 info_u8 (by decide) v7 rd A5 m c5 ((ws).take m) rfl rfl L5.out.e7.1 (El.out ▸ E5.out) El.out (by have := HLen.out; rw [List.length_take]; omega) ?_; intro v10 w6 hR hg hat; have L6 := Aside0.mk (L5.out.add7 hg hat hR); clear hR hg hat)
            go_roundw
            case rel =>
              refine ⟨kk + 1, v6, v10, by omega, rfl, rfl, by go_num, ⟨vw5, vs, vd, (ws).drop m, (cm), rd ++ (ws).take m, L6.out, ?_, by rw [List.length_drop]; have := HW2.out; omega, ?_⟩⟩
              · rw [List.append_assoc, List.take_append_drop]; exact HEq.out
              · exact HLe.out
            case measure => simp [intOf]; omega
      · have hkmz : ¬ (kk : Int) < (M : Int) := by omega
        by_cases hfit : b.length + ws.length ≤ 1048576
        · have HFit := Aside0.mk hfit
          clear hfit
          go_wp2_with fail
          refine (arrive_ok HL.out.s.st (by decide) Ab n cb b Hn.out (Kd.C_below HCB.out HL.out.s.below) (by have := HFit.out; omega)).mono ?_
          rintro e w2 ⟨rfl, vw2, vs2, vd2, hst, hf, hs⟩
          have L2 := Aside0.mk (HL.out.op hst hf hs)
          clear hst hf hs
          go_wp2_with ((with_reducible refine gate_builtin (b := .append) (xs := #[.tmp 35, .tmp 36]) rfl ?_); at_builtin; refine append_row (bytes := 1) rfl (.tmp 35) (.tmp 36) rfl Try.underlying28 info_u8 (by decide) v6 cm Ab n cb b rfl rfl L2.out.e6.1 (Kd.C_below HCB.out L2.out.s.below) Hn.out (by have := HCm.out; have := HTk.out.1; have := HTk.out.2; have := HBd.out; omega) ?_; intro v9 w3 hR hg hat; have L3 := Aside0.mk (L2.out.add6 hg hat hR); clear hR hg hat)
          have HEq : Aside0 (cm ++ b = rd ++ (ws ++ b)) := ⟨by rw [HC0.out, List.append_assoc]⟩
          have HLe : Aside0 ((cm ++ b).length ≤ (ps.take (kk + 1)).flatten.length) := ⟨by rw [List.length_append]; have := HCm.out; have := HTk.out.1; omega⟩
          have HW2 : Aside0 ((ws ++ b).length ≤ 1048576) := ⟨by rw [List.length_append]; have := HFit.out; omega⟩
          have HLen : Aside0 (rd.length + (ws ++ b).length ≤ 1048576) := ⟨by have h5 := congrArg List.length HEq.out; have h6 := HLe.out; have := HTk.out.2; have := HBd.out; simp only [List.length_append] at h5 h6 ⊢; omega⟩
          go_roundw
          case rel =>
            exact ⟨kk + 1, v9, v7, by omega, rfl, rfl, by go_num, ⟨vw2, vs2, vd2, ws ++ b, cm ++ b, rd, L3.out, HEq.out, HW2.out, HLe.out⟩⟩
          case measure => simp [intOf]; omega
        · have HFit := Aside0.mk hfit
          clear hfit
          go_wp2_with fail
          refine (arrive_long HL.out.s.st (by decide) Ab n cb HWs.out (by have := HFit.out; have := Hn.out; omega)).mono ?_
          rintro e w2 ⟨rfl, rfl⟩
          have HEq : Aside0 (cm = rd ++ (ws)) := ⟨HC0.out⟩
          have HLe : Aside0 ((cm).length ≤ (ps.take (kk + 1)).flatten.length) := ⟨by have := HCm.out; have := HTk.out.1; omega⟩
          have HW2 : Aside0 ((ws).length ≤ 1048576) := ⟨HWs.out⟩
          have HLen : Aside0 (rd.length + (ws).length ≤ 1048576) := ⟨by have h5 := congrArg List.length HEq.out; have h6 := HLe.out; have := HTk.out.2; have := HBd.out; simp only [List.length_append] at h5 h6 ⊢; omega⟩
          go_wp2
          go_roundw
          case rel =>
            exact ⟨kk + 1, v6, v7, by omega, rfl, rfl, by go_num, ⟨vw, vs, vd, ws, cm, rd, HL.out, HEq.out, HW2.out, HLe.out⟩⟩
          case measure => simp [intOf]; omega
    · obtain rfl : kk = N := by omega
      have hltz : ¬ (kk : Int) < (kk : Int) := by omega
      go_wp2_with fail
      refine (read_calls HL.out.s.st (by decide) HWs.out 1048576 ws.length (by have := HWs.out; omega)).mono ?_
      rintro e w5 ⟨A5, c5, vw5, rfl, hst, hf, hs, hrow, how⟩
      obtain ⟨W, hW⟩ : ∃ W, W = ws.length := ⟨_, rfl⟩
      have HWl := Aside0.mk hW
      rw [← hW]
      rw [← hW] at hrow
      have E5 := Aside0.mk hrow.C.2.2
      have El := Aside0.mk hrow.C.1
      have L5 := Aside0.mk (HL.out.op hst (fun k hk => .inl (hf k hk)) hs)
      clear hst hf hs hrow how hW
      go_wp2_with ((with_reducible refine gate_builtin (b := .append) (xs := #[.tmp 78, .tmp 79]) rfl ?_); at_builtin; refine append_row (bytes := 1) rfl (.tmp 78) (.tmp 79) rfl Try.underlying28 info_u8 (by decide) v7 rd A5 W c5 (ws.take W) rfl rfl L5.out.e7.1 (El.out ▸ E5.out) El.out (by have h5 := congrArg List.length HC0.out; rw [List.length_append] at h5; have := HCm.out; have h6 : (ps.take kk).flatten.length ≤ 1048576 := (by rw [List.take_of_length_le (by rw [← HN.out]; exact Nat.le_refl _)]; exact HBd.out); rw [List.length_take]; omega) ?_; intro v10 w6 hR hg hat; have L6 := Aside0.mk (L5.out.add7 hg hat hR); clear hR hg hat)
      refine (waits_calls L6.out.s.st (by decide)).mono ?_
      rintro e w7 ⟨rfl, hb7⟩
      have L7 := Aside0.mk (L6.out.low hb7)
      have hl0 : (ws.drop ws.length).length = 0 := by rw [List.length_drop]; omega
      rw [hl0]
      clear hb7 hl0
      obtain ⟨A6, c6, e6, _⟩ := L7.out.e6.1.slice
      obtain ⟨A7, c7, e7, _⟩ := L7.out.e7.1.slice
      obtain ⟨n6, hn6⟩ : ∃ n, n = cm.length := ⟨_, rfl⟩
      obtain ⟨n7, hn7⟩ : ∃ n, n = (rd ++ ws.take W).length := ⟨_, rfl⟩
      rw [← hn6] at e6
      rw [← hn7] at e7
      subst e6
      subst e7
      have heq : rd ++ ws.take W = cm := by rw [HC0.out, HWl.out, List.take_of_length_le (Nat.le_refl _)]
      have hc6 := row_str L7.out.e6.1
      have hc7 := row_str L7.out.e7.1
      rw [heq] at hc7
      clear hn6 hn7 heq
      generalize strOfNums cm = sC at hc6 hc7
      go_wp2_with fail
      refine (speaks_calls _).mono ?_
      rintro e w9 ⟨rfl, hb9⟩
      have HB9 := Aside0.mk (below_step L7.out.s.below hb9)
      clear hb9
      go_wp2
      go_ret
      exact ⟨rfl, HB9.out⟩
theorem bytes_row (A0 : Option Addr) (c0 : Nat) (ps : List (List Int)) (A1 : Option Addr) (c1 : Nat) (zs : List Int) (w : World) (hr0 : Kd.C (Kd.slice 5 (Kd.int .u8)) w A0 ps.length ps) (_ : ps.length ≤ c0) (_ : ∀ b ∈ ps, ∀ x ∈ b, (Lit.int .u8 x).wf = true)
    (hr1 : (Kd.int .i64).C w A1 zs.length zs) (_ : zs.length ≤ c1) (_ : ∀ x ∈ zs, (Lit.int .i64 x).wf = true) (hb : ps.flatten.length + ps.length ≤ 1048576) (_ : zs.length ≤ 1048576) :
    Calls Try.prog 3 #[.slice A0 ps.length c0, .slice A1 zs.length c1] w fun e w' => e = .returned (.bool true) ∧ Below w.heap.size w w' := bytes_walk A0 c0 ps A1 c1 zs w hr0 hr1 hb
end Go.Proofs.Ytlbedgiebcpncaa.Wld
