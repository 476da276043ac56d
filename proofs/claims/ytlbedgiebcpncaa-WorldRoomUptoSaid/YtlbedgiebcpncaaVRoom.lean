/- WorldRoom: the walk; own text of this session. -/
import Derived.Test.YtlbedgiebcpncaaVld10
import Derived.Deep.RegionWith
namespace Go.Proofs.Ytlbedgiebcpncaa.Wld
open Go.RowKit Go.Proofs.YtlbedgiebcpncaaW.PrintWords Go.Proofs.YtlbedgiebcpncaaW.PrintLast Go.Maps
set_option linter.unusedVariables false
set_option linter.unusedSimpArgs false
set_option maxHeartbeats 16000000 in
set_option maxRecDepth 100000 in
theorem room_walk (A0 : Option Addr) (c0 : Nat) (zs : List Int) (A1 : Option Addr) (c1 : Nat) (ps : List (List Int)) (w : World) (hr0 : (Kd.int .i64).C w A0 zs.length zs) (hr1 : Kd.C (Kd.slice 5 (Kd.int .u8)) w A1 ps.length ps)
    (hb : ps.flatten.length + ps.length ≤ 1048576) :
    Calls Try.prog 4 #[.slice A0 zs.length c0, .slice A1 ps.length c1] w fun e w' => e = .returned (.bool true) ∧ Below w.heap.size w w' := by
  have HR := Aside0.mk hr1
  have HZs := Aside0.mk hr0
  have HBt : Aside0 (ps.flatten.length ≤ 1048576) := ⟨by omega⟩
  obtain ⟨N, hN⟩ : ∃ N, N = ps.length := ⟨_, rfl⟩
  have HN := Aside0.mk hN
  have hNle : (N : Int) ≤ 1048576 := by omega
  obtain ⟨M, hM⟩ : ∃ M, M = zs.length := ⟨_, rfl⟩
  have HM := Aside0.mk hM
  rw [← hN, ← hM]
  clear hr0 hr1 hb hN hM
  go_enter Try.func4, Try.ntmps4
  go_wp2_with fail
  refine (new_calls _).mono ?_
  rintro e w1 ⟨p, bm, rfl, h0, hp, hm, hb⟩
  have H0 := Aside0.mk h0
  have HP := Aside0.mk hp
  have HMm := Aside0.mk hm
  have HB := Aside0.mk hb
  clear h0 hp hm hb
  go_wp2_with fail
  refine (open_calls H0.out 3 (by decide) (by decide)).mono ?_
  rintro e w2 ⟨q, rfl, hst, hq, hs⟩
  have S2 := Aside0.mk (Law.new (Sit.new HP.out HMm.out HB.out hst hq hs))
  clear hst hq hs H0 HP HMm HB
  go_wp2_with fail
  go_loopw [6, 7, 22] (fun x6 x7 v22 wr => ∃ (kk : Nat) (g : Int) (v7 : Value), kk ≤ N ∧ x6 = .int .i64 g ∧ v7 = x7 ∧ v22 = .int .i64 kk ∧ (0 ≤ g ∧ g ≤ 1065535) ∧ Aside0 (∃ vw vs vd room sn, Law w wr p bm q vw vs vd 3 false [] sn room [] v7 (.slice none 0 0) sn [] ∧ 0 ≤ room ∧ room ≤ 1048576 ∧ room + (sn.length : Int) ≤ g ∧ (g ≤ 1000000 → room + (sn.length : Int) = g))) (fun _ _ v22 _ => N - (intOf v22).toNat)
  case atStart => exact ⟨0, 0, _, Nat.zero_le _, rfl, rfl, rfl, ⟨by decide, by decide⟩, ⟨_, _, _, 0, [], S2.out, by decide, by decide, by decide, fun _ => rfl⟩⟩
  case round =>
    obtain ⟨kk, g, v7, hkk, rfl, rfl, rfl, ⟨hg0, hg1⟩, ⟨vw, vs, vd, room, sn, hl, hroom⟩⟩ := hrel
    have HL := Aside0.mk hl
    have Hroom := Aside0.mk hroom
    clear hl hroom S2
    by_cases hlt : kk < N
    · have hltz : (kk : Int) < (N : Int) := by omega
      have hkl : kk < ps.length := by rw [← HN.out]; exact hlt
      obtain ⟨ad, Ab, cb, eA, hx, hcb, hCb⟩ := at_row HR.out kk hkl rfl
      cases eA
      replace hx := (HL.out.s.below.cell (World.block_lt_of_cell? w _ hx)).trans hx
      have hrl := row_le ps kk hkl
      generalize ps[kk] = b at hx hcb hCb hrl
      have HBd : Aside0 (b.length ≤ 1048576) := ⟨by have := HBt.out; omega⟩
      have HCB := Aside0.mk hCb
      obtain ⟨n, hn⟩ : ∃ n, n = b.length := ⟨_, rfl⟩
      have Hn := Aside0.mk hn
      rw [← hn] at hx hcb
      clear hrl hCb hn
      by_cases hkm : kk < M
      · have hkmz : (kk : Int) < (M : Int) := by omega
        obtain ⟨adz, eZ, hz0⟩ := Kd.at_int HZs.out (kk : Int) (by omega) (by have := HM.out; omega)
        cases eZ
        rw [Int.toNat_natCast] at hz0
        obtain ⟨z, hzd⟩ : ∃ z, z = Go.Proofs.YtlbedgiebcpncaaW.PrintWords.rd zs (kk : Int) := ⟨_, rfl⟩
        rw [← hzd] at hz0
        have HZ := Aside0.mk hz0
        have hz3 : wr.cell? (adz.add kk) = some (.int .i64 z) := (HL.out.s.below.cell (World.block_lt_of_cell? w _ HZ.out)).trans HZ.out
        clear hz0 hzd
        by_cases hza : 0 ≤ z
        · by_cases hzb : z ≤ 65536
          · by_cases hzc : g < 1000000
            · go_wp2_with fail
              refine (room_calls HL.out.s.st (by decide) z hza (by omega) Hroom.out.1 Hroom.out.2.1).mono ?_
              rintro e w3 ⟨rfl, vw3, vs3, vd3, hst, hf, hs⟩
              have L3 := Aside0.mk (HL.out.op hst hf hs)
              have hz4 : w3.cell? (adz.add kk) = some (.int .i64 z) := (L3.out.s.below.cell (World.block_lt_of_cell? w _ HZ.out)).trans HZ.out
              clear hst hf hs hz3
              obtain ⟨r2, hr2⟩ : ∃ r, r = room + min z (1048576 - room) := ⟨_, rfl⟩
              rw [← hr2] at L3
              obtain ⟨g2, hg2⟩ : ∃ g2, g2 = g + z := ⟨_, rfl⟩
              have HR0 : Aside0 (0 ≤ r2) := ⟨by have := Hroom.out.1; have := Hroom.out.2.1; omega⟩
              have HR1 : Aside0 (r2 ≤ 1048576) := ⟨by have := Hroom.out.1; have := Hroom.out.2.1; omega⟩
              have HR2 : Aside0 (r2 + sn.length ≤ g + z) := ⟨by have := Hroom.out.2.2.1; omega⟩
              have HR3 : Aside0 (g + z ≤ 1000000 → r2 + sn.length = g + z) := ⟨by intro h; have := Hroom.out.2.2.2 (by omega); have := Hroom.out.2.2.1; omega⟩
              have HG : Aside0 (0 ≤ g + z ∧ g + z ≤ 1065535) := ⟨⟨by omega, by omega⟩⟩
              clear hr2 hg2
              go_wp2_with fail
              obtain ⟨m, hm⟩ : ∃ m : Nat, (m : Int) = min (n : Int) (r2) := ⟨(min (n : Int) (r2)).toNat, by have := HR0.out; omega⟩
              have Hm := Aside0.mk hm
              have hmn : m ≤ n := by omega
              have hmc : m ≤ cb := by omega
              have HT : Aside0 (m = (b.take m).length) := ⟨by rw [List.length_take]; have := Hn.out; omega⟩
              have hq2 : ¬ (n : Int) < (m : Int) := by omega
              clear hm
              by_cases hA : (m : Int) < (n : Int)
              · by_cases hB : (sn.length : Int) + (m : Int) < (g + z)
                · have hC : ¬ (g + z) ≤ 1000000 := by intro h; have := HR3.out h; have := Hm.out; omega
                  have HBa := Aside0.mk hB
                  clear hB
                  refine (write_calls L3.out.s.st (by decide) Ab n cb b Hn.out hcb (Kd.C_below HCB.out L3.out.s.below) m (by rw [← Hn.out]; exact Hm.out) HR0.out HR1.out (by have := HR2.out; have := HG.out.2; have := Hm.out; have := HBd.out; have := Hn.out; omega)).mono ?_
                  rintro e w5 ⟨rfl, vw5, vs5, vd5, hst, hf, hs⟩
                  have L5 := Aside0.mk (L3.out.op hst hf hs)
                  clear hst hf hs

                  go_wp2_with ((with_reducible refine gate_builtin (b := .append) (xs := #[.tmp 80, .tmp 83]) rfl ?_); at_builtin; refine append_row (bytes := 1) rfl (.tmp 80) (.tmp 83) rfl Try.underlying28 info_u8 (by decide) v7 sn Ab m cb (b.take m) rfl rfl L5.out.e6.1 (by rw [← HT.out]; exact C_take (Kd.C_below HCB.out L5.out.s.below) m (by have := Hn.out; omega)) HT.out (by have := HT.out; have := HR2.out; have := HG.out.2; have := HBd.out; have := Hn.out; have := Hm.out; omega) ?_; intro v9 w6 hR hg hat; have L6 := Aside0.mk (L5.out.add6 hg hat hR); obtain ⟨A9, c9, e9, _⟩ := hR.slice; obtain ⟨N1, hN1⟩ : ∃ N, N = (sn ++ b.take m).length := ⟨_, rfl⟩; rw [← hN1] at e9; have hv : (N1 : Int) = (sn.length : Int) + (m : Int) := (by rw [hN1, List.length_append, ← HT.out]; omega); have HV := Aside0.mk hv; have hq1 : ¬ (g + z) < (N1 : Int) := (by have := HR2.out; have := Hm.out; omega); have hq3 : (N1 : Int) < (g + z) := (by have := HBa.out; omega); clear hR hg hat hN1 hv; subst e9)
                  go_roundw
                  case rel =>
                    refine ⟨kk + 1, (g + z), _, by omega, rfl, rfl, by go_num, ⟨by omega, by omega⟩, ⟨vw5, vs5, vd5, r2 - m, sn ++ b.take m, L6.out, ?_, ?_, ?_, ?_⟩⟩
                    · have := Hm.out; omega
                    · have := HR1.out; omega
                    · rw [List.length_append, ← HT.out]; have := HR2.out; omega
                    · intro h; rw [List.length_append, ← HT.out]; have := HR3.out h; omega
                  case measure => simp [intOf]; omega
                · have HBa := Aside0.mk hB
                  clear hB
                  refine (write_calls L3.out.s.st (by decide) Ab n cb b Hn.out hcb (Kd.C_below HCB.out L3.out.s.below) m (by rw [← Hn.out]; exact Hm.out) HR0.out HR1.out (by have := HR2.out; have := HG.out.2; have := Hm.out; have := HBd.out; have := Hn.out; omega)).mono ?_
                  rintro e w5 ⟨rfl, vw5, vs5, vd5, hst, hf, hs⟩
                  have L5 := Aside0.mk (L3.out.op hst hf hs)
                  clear hst hf hs

                  go_wp2_with ((with_reducible refine gate_builtin (b := .append) (xs := #[.tmp 80, .tmp 83]) rfl ?_); at_builtin; refine append_row (bytes := 1) rfl (.tmp 80) (.tmp 83) rfl Try.underlying28 info_u8 (by decide) v7 sn Ab m cb (b.take m) rfl rfl L5.out.e6.1 (by rw [← HT.out]; exact C_take (Kd.C_below HCB.out L5.out.s.below) m (by have := Hn.out; omega)) HT.out (by have := HT.out; have := HR2.out; have := HG.out.2; have := HBd.out; have := Hn.out; have := Hm.out; omega) ?_; intro v9 w6 hR hg hat; have L6 := Aside0.mk (L5.out.add6 hg hat hR); obtain ⟨A9, c9, e9, _⟩ := hR.slice; obtain ⟨N1, hN1⟩ : ∃ N, N = (sn ++ b.take m).length := ⟨_, rfl⟩; rw [← hN1] at e9; have hv : (N1 : Int) = (sn.length : Int) + (m : Int) := (by rw [hN1, List.length_append, ← HT.out]; omega); have HV := Aside0.mk hv; have hq1 : ¬ (g + z) < (N1 : Int) := (by have := HR2.out; have := Hm.out; omega); have hq3 : ¬ (N1 : Int) < (g + z) := (by have := HBa.out; omega); clear hR hg hat hN1 hv; subst e9)
                  go_roundw
                  case rel =>
                    refine ⟨kk + 1, (g + z), _, by omega, rfl, rfl, by go_num, ⟨by omega, by omega⟩, ⟨vw5, vs5, vd5, r2 - m, sn ++ b.take m, L6.out, ?_, ?_, ?_, ?_⟩⟩
                    · have := Hm.out; omega
                    · have := HR1.out; omega
                    · rw [List.length_append, ← HT.out]; have := HR2.out; omega
                    · intro h; rw [List.length_append, ← HT.out]; have := HR3.out h; omega
                  case measure => simp [intOf]; omega
              · refine (write_calls L3.out.s.st (by decide) Ab n cb b Hn.out hcb (Kd.C_below HCB.out L3.out.s.below) m (by rw [← Hn.out]; exact Hm.out) HR0.out HR1.out (by have := HR2.out; have := HG.out.2; have := Hm.out; have := HBd.out; have := Hn.out; omega)).mono ?_
                rintro e w5 ⟨rfl, vw5, vs5, vd5, hst, hf, hs⟩
                have L5 := Aside0.mk (L3.out.op hst hf hs)
                clear hst hf hs

                go_wp2_with ((with_reducible refine gate_builtin (b := .append) (xs := #[.tmp 80, .tmp 83]) rfl ?_); at_builtin; refine append_row (bytes := 1) rfl (.tmp 80) (.tmp 83) rfl Try.underlying28 info_u8 (by decide) v7 sn Ab m cb (b.take m) rfl rfl L5.out.e6.1 (by rw [← HT.out]; exact C_take (Kd.C_below HCB.out L5.out.s.below) m (by have := Hn.out; omega)) HT.out (by have := HT.out; have := HR2.out; have := HG.out.2; have := HBd.out; have := Hn.out; have := Hm.out; omega) ?_; intro v9 w6 hR hg hat; have L6 := Aside0.mk (L5.out.add6 hg hat hR); obtain ⟨A9, c9, e9, _⟩ := hR.slice; obtain ⟨N1, hN1⟩ : ∃ N, N = (sn ++ b.take m).length := ⟨_, rfl⟩; rw [← hN1] at e9; have hv : (N1 : Int) = (sn.length : Int) + (m : Int) := (by rw [hN1, List.length_append, ← HT.out]; omega); have HV := Aside0.mk hv; have hq1 : ¬ (g + z) < (N1 : Int) := (by have := HR2.out; have := Hm.out; omega); clear hR hg hat hN1 hv; subst e9)
                go_roundw
                case rel =>
                  refine ⟨kk + 1, (g + z), _, by omega, rfl, rfl, by go_num, ⟨by omega, by omega⟩, ⟨vw5, vs5, vd5, r2 - m, sn ++ b.take m, L6.out, ?_, ?_, ?_, ?_⟩⟩
                  · have := Hm.out; omega
                  · have := HR1.out; omega
                  · rw [List.length_append, ← HT.out]; have := HR2.out; omega
                  · intro h; rw [List.length_append, ← HT.out]; have := HR3.out h; omega
                case measure => simp [intOf]; omega
            · skip
              have HR0 : Aside0 (0 ≤ room) := ⟨Hroom.out.1⟩
              have HR1 : Aside0 (room ≤ 1048576) := ⟨Hroom.out.2.1⟩
              have HR2 : Aside0 (room + sn.length ≤ g) := ⟨Hroom.out.2.2.1⟩
              have HR3 : Aside0 (g ≤ 1000000 → room + sn.length = g) := ⟨Hroom.out.2.2.2⟩
              have HG : Aside0 (0 ≤ g ∧ g ≤ 1065535) := ⟨⟨hg0, hg1⟩⟩
              go_wp2_with fail
              obtain ⟨m, hm⟩ : ∃ m : Nat, (m : Int) = min (n : Int) (room) := ⟨(min (n : Int) (room)).toNat, by have := HR0.out; omega⟩
              have Hm := Aside0.mk hm
              have hmn : m ≤ n := by omega
              have hmc : m ≤ cb := by omega
              have HT : Aside0 (m = (b.take m).length) := ⟨by rw [List.length_take]; have := Hn.out; omega⟩
              have hq2 : ¬ (n : Int) < (m : Int) := by omega
              clear hm
              by_cases hA : (m : Int) < (n : Int)
              · by_cases hB : (sn.length : Int) + (m : Int) < g
                · have hC : ¬ g ≤ 1000000 := by intro h; have := HR3.out h; have := Hm.out; omega
                  have HBa := Aside0.mk hB
                  clear hB
                  refine (write_calls HL.out.s.st (by decide) Ab n cb b Hn.out hcb (Kd.C_below HCB.out HL.out.s.below) m (by rw [← Hn.out]; exact Hm.out) HR0.out HR1.out (by have := HR2.out; have := HG.out.2; have := Hm.out; have := HBd.out; have := Hn.out; omega)).mono ?_
                  rintro e w5 ⟨rfl, vw5, vs5, vd5, hst, hf, hs⟩
                  have L5 := Aside0.mk (HL.out.op hst hf hs)
                  clear hst hf hs

                  go_wp2_with ((with_reducible refine gate_builtin (b := .append) (xs := #[.tmp 80, .tmp 83]) rfl ?_); at_builtin; refine append_row (bytes := 1) rfl (.tmp 80) (.tmp 83) rfl Try.underlying28 info_u8 (by decide) v7 sn Ab m cb (b.take m) rfl rfl L5.out.e6.1 (by rw [← HT.out]; exact C_take (Kd.C_below HCB.out L5.out.s.below) m (by have := Hn.out; omega)) HT.out (by have := HT.out; have := HR2.out; have := HG.out.2; have := HBd.out; have := Hn.out; have := Hm.out; omega) ?_; intro v9 w6 hR hg hat; have L6 := Aside0.mk (L5.out.add6 hg hat hR); obtain ⟨A9, c9, e9, _⟩ := hR.slice; obtain ⟨N1, hN1⟩ : ∃ N, N = (sn ++ b.take m).length := ⟨_, rfl⟩; rw [← hN1] at e9; have hv : (N1 : Int) = (sn.length : Int) + (m : Int) := (by rw [hN1, List.length_append, ← HT.out]; omega); have HV := Aside0.mk hv; have hq1 : ¬ g < (N1 : Int) := (by have := HR2.out; have := Hm.out; omega); have hq3 : (N1 : Int) < g := (by have := HBa.out; omega); clear hR hg hat hN1 hv; subst e9)
                  go_roundw
                  case rel =>
                    refine ⟨kk + 1, g, _, by omega, rfl, rfl, by go_num, ⟨by omega, by omega⟩, ⟨vw5, vs5, vd5, room - m, sn ++ b.take m, L6.out, ?_, ?_, ?_, ?_⟩⟩
                    · have := Hm.out; omega
                    · have := HR1.out; omega
                    · rw [List.length_append, ← HT.out]; have := HR2.out; omega
                    · intro h; rw [List.length_append, ← HT.out]; have := HR3.out h; omega
                  case measure => simp [intOf]; omega
                · have HBa := Aside0.mk hB
                  clear hB
                  refine (write_calls HL.out.s.st (by decide) Ab n cb b Hn.out hcb (Kd.C_below HCB.out HL.out.s.below) m (by rw [← Hn.out]; exact Hm.out) HR0.out HR1.out (by have := HR2.out; have := HG.out.2; have := Hm.out; have := HBd.out; have := Hn.out; omega)).mono ?_
                  rintro e w5 ⟨rfl, vw5, vs5, vd5, hst, hf, hs⟩
                  have L5 := Aside0.mk (HL.out.op hst hf hs)
                  clear hst hf hs

                  go_wp2_with ((with_reducible refine gate_builtin (b := .append) (xs := #[.tmp 80, .tmp 83]) rfl ?_); at_builtin; refine append_row (bytes := 1) rfl (.tmp 80) (.tmp 83) rfl Try.underlying28 info_u8 (by decide) v7 sn Ab m cb (b.take m) rfl rfl L5.out.e6.1 (by rw [← HT.out]; exact C_take (Kd.C_below HCB.out L5.out.s.below) m (by have := Hn.out; omega)) HT.out (by have := HT.out; have := HR2.out; have := HG.out.2; have := HBd.out; have := Hn.out; have := Hm.out; omega) ?_; intro v9 w6 hR hg hat; have L6 := Aside0.mk (L5.out.add6 hg hat hR); obtain ⟨A9, c9, e9, _⟩ := hR.slice; obtain ⟨N1, hN1⟩ : ∃ N, N = (sn ++ b.take m).length := ⟨_, rfl⟩; rw [← hN1] at e9; have hv : (N1 : Int) = (sn.length : Int) + (m : Int) := (by rw [hN1, List.length_append, ← HT.out]; omega); have HV := Aside0.mk hv; have hq1 : ¬ g < (N1 : Int) := (by have := HR2.out; have := Hm.out; omega); have hq3 : ¬ (N1 : Int) < g := (by have := HBa.out; omega); clear hR hg hat hN1 hv; subst e9)
                  go_roundw
                  case rel =>
                    refine ⟨kk + 1, g, _, by omega, rfl, rfl, by go_num, ⟨by omega, by omega⟩, ⟨vw5, vs5, vd5, room - m, sn ++ b.take m, L6.out, ?_, ?_, ?_, ?_⟩⟩
                    · have := Hm.out; omega
                    · have := HR1.out; omega
                    · rw [List.length_append, ← HT.out]; have := HR2.out; omega
                    · intro h; rw [List.length_append, ← HT.out]; have := HR3.out h; omega
                  case measure => simp [intOf]; omega
              · refine (write_calls HL.out.s.st (by decide) Ab n cb b Hn.out hcb (Kd.C_below HCB.out HL.out.s.below) m (by rw [← Hn.out]; exact Hm.out) HR0.out HR1.out (by have := HR2.out; have := HG.out.2; have := Hm.out; have := HBd.out; have := Hn.out; omega)).mono ?_
                rintro e w5 ⟨rfl, vw5, vs5, vd5, hst, hf, hs⟩
                have L5 := Aside0.mk (HL.out.op hst hf hs)
                clear hst hf hs

                go_wp2_with ((with_reducible refine gate_builtin (b := .append) (xs := #[.tmp 80, .tmp 83]) rfl ?_); at_builtin; refine append_row (bytes := 1) rfl (.tmp 80) (.tmp 83) rfl Try.underlying28 info_u8 (by decide) v7 sn Ab m cb (b.take m) rfl rfl L5.out.e6.1 (by rw [← HT.out]; exact C_take (Kd.C_below HCB.out L5.out.s.below) m (by have := Hn.out; omega)) HT.out (by have := HT.out; have := HR2.out; have := HG.out.2; have := HBd.out; have := Hn.out; have := Hm.out; omega) ?_; intro v9 w6 hR hg hat; have L6 := Aside0.mk (L5.out.add6 hg hat hR); obtain ⟨A9, c9, e9, _⟩ := hR.slice; obtain ⟨N1, hN1⟩ : ∃ N, N = (sn ++ b.take m).length := ⟨_, rfl⟩; rw [← hN1] at e9; have hv : (N1 : Int) = (sn.length : Int) + (m : Int) := (by rw [hN1, List.length_append, ← HT.out]; omega); have HV := Aside0.mk hv; have hq1 : ¬ g < (N1 : Int) := (by have := HR2.out; have := Hm.out; omega); clear hR hg hat hN1 hv; subst e9)
                go_roundw
                case rel =>
                  refine ⟨kk + 1, g, _, by omega, rfl, rfl, by go_num, ⟨by omega, by omega⟩, ⟨vw5, vs5, vd5, room - m, sn ++ b.take m, L6.out, ?_, ?_, ?_, ?_⟩⟩
                  · have := Hm.out; omega
                  · have := HR1.out; omega
                  · rw [List.length_append, ← HT.out]; have := HR2.out; omega
                  · intro h; rw [List.length_append, ← HT.out]; have := HR3.out h; omega
                case measure => simp [intOf]; omega
          · skip
            have HR0 : Aside0 (0 ≤ room) := ⟨Hroom.out.1⟩
            have HR1 : Aside0 (room ≤ 1048576) := ⟨Hroom.out.2.1⟩
            have HR2 : Aside0 (room + sn.length ≤ g) := ⟨Hroom.out.2.2.1⟩
            have HR3 : Aside0 (g ≤ 1000000 → room + sn.length = g) := ⟨Hroom.out.2.2.2⟩
            have HG : Aside0 (0 ≤ g ∧ g ≤ 1065535) := ⟨⟨hg0, hg1⟩⟩
            go_wp2_with fail
            obtain ⟨m, hm⟩ : ∃ m : Nat, (m : Int) = min (n : Int) (room) := ⟨(min (n : Int) (room)).toNat, by have := HR0.out; omega⟩
            have Hm := Aside0.mk hm
            have hmn : m ≤ n := by omega
            have hmc : m ≤ cb := by omega
            have HT : Aside0 (m = (b.take m).length) := ⟨by rw [List.length_take]; have := Hn.out; omega⟩
            have hq2 : ¬ (n : Int) < (m : Int) := by omega
            clear hm
            by_cases hA : (m : Int) < (n : Int)
            · by_cases hB : (sn.length : Int) + (m : Int) < g
              · have hC : ¬ g ≤ 1000000 := by intro h; have := HR3.out h; have := Hm.out; omega
                have HBa := Aside0.mk hB
                clear hB
                refine (write_calls HL.out.s.st (by decide) Ab n cb b Hn.out hcb (Kd.C_below HCB.out HL.out.s.below) m (by rw [← Hn.out]; exact Hm.out) HR0.out HR1.out (by have := HR2.out; have := HG.out.2; have := Hm.out; have := HBd.out; have := Hn.out; omega)).mono ?_
                rintro e w5 ⟨rfl, vw5, vs5, vd5, hst, hf, hs⟩
                have L5 := Aside0.mk (HL.out.op hst hf hs)
                clear hst hf hs

                go_wp2_with ((with_reducible refine gate_builtin (b := .append) (xs := #[.tmp 80, .tmp 83]) rfl ?_); at_builtin; refine append_row (bytes := 1) rfl (.tmp 80) (.tmp 83) rfl Try.underlying28 info_u8 (by decide) v7 sn Ab m cb (b.take m) rfl rfl L5.out.e6.1 (by rw [← HT.out]; exact C_take (Kd.C_below HCB.out L5.out.s.below) m (by have := Hn.out; omega)) HT.out (by have := HT.out; have := HR2.out; have := HG.out.2; have := HBd.out; have := Hn.out; have := Hm.out; omega) ?_; intro v9 w6 hR hg hat; have L6 := Aside0.mk (L5.out.add6 hg hat hR); obtain ⟨A9, c9, e9, _⟩ := hR.slice; obtain ⟨N1, hN1⟩ : ∃ N, N = (sn ++ b.take m).length := ⟨_, rfl⟩; rw [← hN1] at e9; have hv : (N1 : Int) = (sn.length : Int) + (m : Int) := (by rw [hN1, List.length_append, ← HT.out]; omega); have HV := Aside0.mk hv; have hq1 : ¬ g < (N1 : Int) := (by have := HR2.out; have := Hm.out; omega); have hq3 : (N1 : Int) < g := (by have := HBa.out; omega); clear hR hg hat hN1 hv; subst e9)
                go_roundw
                case rel =>
                  refine ⟨kk + 1, g, _, by omega, rfl, rfl, by go_num, ⟨by omega, by omega⟩, ⟨vw5, vs5, vd5, room - m, sn ++ b.take m, L6.out, ?_, ?_, ?_, ?_⟩⟩
                  · have := Hm.out; omega
                  · have := HR1.out; omega
                  · rw [List.length_append, ← HT.out]; have := HR2.out; omega
                  · intro h; rw [List.length_append, ← HT.out]; have := HR3.out h; omega
                case measure => simp [intOf]; omega
              · have HBa := Aside0.mk hB
                clear hB
                refine (write_calls HL.out.s.st (by decide) Ab n cb b Hn.out hcb (Kd.C_below HCB.out HL.out.s.below) m (by rw [← Hn.out]; exact Hm.out) HR0.out HR1.out (by have := HR2.out; have := HG.out.2; have := Hm.out; have := HBd.out; have := Hn.out; omega)).mono ?_
                rintro e w5 ⟨rfl, vw5, vs5, vd5, hst, hf, hs⟩
                have L5 := Aside0.mk (HL.out.op hst hf hs)
                clear hst hf hs

                go_wp2_with ((with_reducible refine gate_builtin (b := .append) (xs := #[.tmp 80, .tmp 83]) rfl ?_); at_builtin; refine append_row (bytes := 1) rfl (.tmp 80) (.tmp 83) rfl Try.underlying28 info_u8 (by decide) v7 sn Ab m cb (b.take m) rfl rfl L5.out.e6.1 (by rw [← HT.out]; exact C_take (Kd.C_below HCB.out L5.out.s.below) m (by have := Hn.out; omega)) HT.out (by have := HT.out; have := HR2.out; have := HG.out.2; have := HBd.out; have := Hn.out; have := Hm.out; omega) ?_; intro v9 w6 hR hg hat; have L6 := Aside0.mk (L5.out.add6 hg hat hR); obtain ⟨A9, c9, e9, _⟩ := hR.slice; obtain ⟨N1, hN1⟩ : ∃ N, N = (sn ++ b.take m).length := ⟨_, rfl⟩; rw [← hN1] at e9; have hv : (N1 : Int) = (sn.length : Int) + (m : Int) := (by rw [hN1, List.length_append, ← HT.out]; omega); have HV := Aside0.mk hv; have hq1 : ¬ g < (N1 : Int) := (by have := HR2.out; have := Hm.out; omega); have hq3 : ¬ (N1 : Int) < g := (by have := HBa.out; omega); clear hR hg hat hN1 hv; subst e9)
                go_roundw
                case rel =>
                  refine ⟨kk + 1, g, _, by omega, rfl, rfl, by go_num, ⟨by omega, by omega⟩, ⟨vw5, vs5, vd5, room - m, sn ++ b.take m, L6.out, ?_, ?_, ?_, ?_⟩⟩
                  · have := Hm.out; omega
                  · have := HR1.out; omega
                  · rw [List.length_append, ← HT.out]; have := HR2.out; omega
                  · intro h; rw [List.length_append, ← HT.out]; have := HR3.out h; omega
                case measure => simp [intOf]; omega
            · refine (write_calls HL.out.s.st (by decide) Ab n cb b Hn.out hcb (Kd.C_below HCB.out HL.out.s.below) m (by rw [← Hn.out]; exact Hm.out) HR0.out HR1.out (by have := HR2.out; have := HG.out.2; have := Hm.out; have := HBd.out; have := Hn.out; omega)).mono ?_
              rintro e w5 ⟨rfl, vw5, vs5, vd5, hst, hf, hs⟩
              have L5 := Aside0.mk (HL.out.op hst hf hs)
              clear hst hf hs

              go_wp2_with ((with_reducible refine gate_builtin (b := .append) (xs := #[.tmp 80, .tmp 83]) rfl ?_); at_builtin; refine append_row (bytes := 1) rfl (.tmp 80) (.tmp 83) rfl Try.underlying28 info_u8 (by decide) v7 sn Ab m cb (b.take m) rfl rfl L5.out.e6.1 (by rw [← HT.out]; exact C_take (Kd.C_below HCB.out L5.out.s.below) m (by have := Hn.out; omega)) HT.out (by have := HT.out; have := HR2.out; have := HG.out.2; have := HBd.out; have := Hn.out; have := Hm.out; omega) ?_; intro v9 w6 hR hg hat; have L6 := Aside0.mk (L5.out.add6 hg hat hR); obtain ⟨A9, c9, e9, _⟩ := hR.slice; obtain ⟨N1, hN1⟩ : ∃ N, N = (sn ++ b.take m).length := ⟨_, rfl⟩; rw [← hN1] at e9; have hv : (N1 : Int) = (sn.length : Int) + (m : Int) := (by rw [hN1, List.length_append, ← HT.out]; omega); have HV := Aside0.mk hv; have hq1 : ¬ g < (N1 : Int) := (by have := HR2.out; have := Hm.out; omega); clear hR hg hat hN1 hv; subst e9)
              go_roundw
              case rel =>
                refine ⟨kk + 1, g, _, by omega, rfl, rfl, by go_num, ⟨by omega, by omega⟩, ⟨vw5, vs5, vd5, room - m, sn ++ b.take m, L6.out, ?_, ?_, ?_, ?_⟩⟩
                · have := Hm.out; omega
                · have := HR1.out; omega
                · rw [List.length_append, ← HT.out]; have := HR2.out; omega
                · intro h; rw [List.length_append, ← HT.out]; have := HR3.out h; omega
              case measure => simp [intOf]; omega
        · skip
          have HR0 : Aside0 (0 ≤ room) := ⟨Hroom.out.1⟩
          have HR1 : Aside0 (room ≤ 1048576) := ⟨Hroom.out.2.1⟩
          have HR2 : Aside0 (room + sn.length ≤ g) := ⟨Hroom.out.2.2.1⟩
          have HR3 : Aside0 (g ≤ 1000000 → room + sn.length = g) := ⟨Hroom.out.2.2.2⟩
          have HG : Aside0 (0 ≤ g ∧ g ≤ 1065535) := ⟨⟨hg0, hg1⟩⟩
          go_wp2_with fail
          obtain ⟨m, hm⟩ : ∃ m : Nat, (m : Int) = min (n : Int) (room) := ⟨(min (n : Int) (room)).toNat, by have := HR0.out; omega⟩
          have Hm := Aside0.mk hm
          have hmn : m ≤ n := by omega
          have hmc : m ≤ cb := by omega
          have HT : Aside0 (m = (b.take m).length) := ⟨by rw [List.length_take]; have := Hn.out; omega⟩
          have hq2 : ¬ (n : Int) < (m : Int) := by omega
          clear hm
          by_cases hA : (m : Int) < (n : Int)
          · by_cases hB : (sn.length : Int) + (m : Int) < g
            · have hC : ¬ g ≤ 1000000 := by intro h; have := HR3.out h; have := Hm.out; omega
              have HBa := Aside0.mk hB
              clear hB
              refine (write_calls HL.out.s.st (by decide) Ab n cb b Hn.out hcb (Kd.C_below HCB.out HL.out.s.below) m (by rw [← Hn.out]; exact Hm.out) HR0.out HR1.out (by have := HR2.out; have := HG.out.2; have := Hm.out; have := HBd.out; have := Hn.out; omega)).mono ?_
              rintro e w5 ⟨rfl, vw5, vs5, vd5, hst, hf, hs⟩
              have L5 := Aside0.mk (HL.out.op hst hf hs)
              clear hst hf hs

              go_wp2_with ((with_reducible refine gate_builtin (b := .append) (xs := #[.tmp 80, .tmp 83]) rfl ?_); at_builtin; refine append_row (bytes := 1) rfl (.tmp 80) (.tmp 83) rfl Try.underlying28 info_u8 (by decide) v7 sn Ab m cb (b.take m) rfl rfl L5.out.e6.1 (by rw [← HT.out]; exact C_take (Kd.C_below HCB.out L5.out.s.below) m (by have := Hn.out; omega)) HT.out (by have := HT.out; have := HR2.out; have := HG.out.2; have := HBd.out; have := Hn.out; have := Hm.out; omega) ?_; intro v9 w6 hR hg hat; have L6 := Aside0.mk (L5.out.add6 hg hat hR); obtain ⟨A9, c9, e9, _⟩ := hR.slice; obtain ⟨N1, hN1⟩ : ∃ N, N = (sn ++ b.take m).length := ⟨_, rfl⟩; rw [← hN1] at e9; have hv : (N1 : Int) = (sn.length : Int) + (m : Int) := (by rw [hN1, List.length_append, ← HT.out]; omega); have HV := Aside0.mk hv; have hq1 : ¬ g < (N1 : Int) := (by have := HR2.out; have := Hm.out; omega); have hq3 : (N1 : Int) < g := (by have := HBa.out; omega); clear hR hg hat hN1 hv; subst e9)
              go_roundw
              case rel =>
                refine ⟨kk + 1, g, _, by omega, rfl, rfl, by go_num, ⟨by omega, by omega⟩, ⟨vw5, vs5, vd5, room - m, sn ++ b.take m, L6.out, ?_, ?_, ?_, ?_⟩⟩
                · have := Hm.out; omega
                · have := HR1.out; omega
                · rw [List.length_append, ← HT.out]; have := HR2.out; omega
                · intro h; rw [List.length_append, ← HT.out]; have := HR3.out h; omega
              case measure => simp [intOf]; omega
            · have HBa := Aside0.mk hB
              clear hB
              refine (write_calls HL.out.s.st (by decide) Ab n cb b Hn.out hcb (Kd.C_below HCB.out HL.out.s.below) m (by rw [← Hn.out]; exact Hm.out) HR0.out HR1.out (by have := HR2.out; have := HG.out.2; have := Hm.out; have := HBd.out; have := Hn.out; omega)).mono ?_
              rintro e w5 ⟨rfl, vw5, vs5, vd5, hst, hf, hs⟩
              have L5 := Aside0.mk (HL.out.op hst hf hs)
              clear hst hf hs

              go_wp2_with ((with_reducible refine gate_builtin (b := .append) (xs := #[.tmp 80, .tmp 83]) rfl ?_); at_builtin; refine append_row (bytes := 1) rfl (.tmp 80) (.tmp 83) rfl Try.underlying28 info_u8 (by decide) v7 sn Ab m cb (b.take m) rfl rfl L5.out.e6.1 (by rw [← HT.out]; exact C_take (Kd.C_below HCB.out L5.out.s.below) m (by have := Hn.out; omega)) HT.out (by have := HT.out; have := HR2.out; have := HG.out.2; have := HBd.out; have := Hn.out; have := Hm.out; omega) ?_; intro v9 w6 hR hg hat; have L6 := Aside0.mk (L5.out.add6 hg hat hR); obtain ⟨A9, c9, e9, _⟩ := hR.slice; obtain ⟨N1, hN1⟩ : ∃ N, N = (sn ++ b.take m).length := ⟨_, rfl⟩; rw [← hN1] at e9; have hv : (N1 : Int) = (sn.length : Int) + (m : Int) := (by rw [hN1, List.length_append, ← HT.out]; omega); have HV := Aside0.mk hv; have hq1 : ¬ g < (N1 : Int) := (by have := HR2.out; have := Hm.out; omega); have hq3 : ¬ (N1 : Int) < g := (by have := HBa.out; omega); clear hR hg hat hN1 hv; subst e9)
              go_roundw
              case rel =>
                refine ⟨kk + 1, g, _, by omega, rfl, rfl, by go_num, ⟨by omega, by omega⟩, ⟨vw5, vs5, vd5, room - m, sn ++ b.take m, L6.out, ?_, ?_, ?_, ?_⟩⟩
                · have := Hm.out; omega
                · have := HR1.out; omega
                · rw [List.length_append, ← HT.out]; have := HR2.out; omega
                · intro h; rw [List.length_append, ← HT.out]; have := HR3.out h; omega
              case measure => simp [intOf]; omega
          · refine (write_calls HL.out.s.st (by decide) Ab n cb b Hn.out hcb (Kd.C_below HCB.out HL.out.s.below) m (by rw [← Hn.out]; exact Hm.out) HR0.out HR1.out (by have := HR2.out; have := HG.out.2; have := Hm.out; have := HBd.out; have := Hn.out; omega)).mono ?_
            rintro e w5 ⟨rfl, vw5, vs5, vd5, hst, hf, hs⟩
            have L5 := Aside0.mk (HL.out.op hst hf hs)
            clear hst hf hs

            go_wp2_with ((with_reducible refine gate_builtin (b := .append) (xs := #[.tmp 80, .tmp 83]) rfl ?_); at_builtin; refine append_row (bytes := 1) rfl (.tmp 80) (.tmp 83) rfl Try.underlying28 info_u8 (by decide) v7 sn Ab m cb (b.take m) rfl rfl L5.out.e6.1 (by rw [← HT.out]; exact C_take (Kd.C_below HCB.out L5.out.s.below) m (by have := Hn.out; omega)) HT.out (by have := HT.out; have := HR2.out; have := HG.out.2; have := HBd.out; have := Hn.out; have := Hm.out; omega) ?_; intro v9 w6 hR hg hat; have L6 := Aside0.mk (L5.out.add6 hg hat hR); obtain ⟨A9, c9, e9, _⟩ := hR.slice; obtain ⟨N1, hN1⟩ : ∃ N, N = (sn ++ b.take m).length := ⟨_, rfl⟩; rw [← hN1] at e9; have hv : (N1 : Int) = (sn.length : Int) + (m : Int) := (by rw [hN1, List.length_append, ← HT.out]; omega); have HV := Aside0.mk hv; have hq1 : ¬ g < (N1 : Int) := (by have := HR2.out; have := Hm.out; omega); clear hR hg hat hN1 hv; subst e9)
            go_roundw
            case rel =>
              refine ⟨kk + 1, g, _, by omega, rfl, rfl, by go_num, ⟨by omega, by omega⟩, ⟨vw5, vs5, vd5, room - m, sn ++ b.take m, L6.out, ?_, ?_, ?_, ?_⟩⟩
              · have := Hm.out; omega
              · have := HR1.out; omega
              · rw [List.length_append, ← HT.out]; have := HR2.out; omega
              · intro h; rw [List.length_append, ← HT.out]; have := HR3.out h; omega
            case measure => simp [intOf]; omega
      · have hkmz : ¬ (kk : Int) < (M : Int) := by omega
        have HR0 : Aside0 (0 ≤ room) := ⟨Hroom.out.1⟩
        have HR1 : Aside0 (room ≤ 1048576) := ⟨Hroom.out.2.1⟩
        have HR2 : Aside0 (room + sn.length ≤ g) := ⟨Hroom.out.2.2.1⟩
        have HR3 : Aside0 (g ≤ 1000000 → room + sn.length = g) := ⟨Hroom.out.2.2.2⟩
        have HG : Aside0 (0 ≤ g ∧ g ≤ 1065535) := ⟨⟨hg0, hg1⟩⟩
        go_wp2_with fail
        obtain ⟨m, hm⟩ : ∃ m : Nat, (m : Int) = min (n : Int) (room) := ⟨(min (n : Int) (room)).toNat, by have := HR0.out; omega⟩
        have Hm := Aside0.mk hm
        have hmn : m ≤ n := by omega
        have hmc : m ≤ cb := by omega
        have HT : Aside0 (m = (b.take m).length) := ⟨by rw [List.length_take]; have := Hn.out; omega⟩
        have hq2 : ¬ (n : Int) < (m : Int) := by omega
        clear hm
        by_cases hA : (m : Int) < (n : Int)
        · by_cases hB : (sn.length : Int) + (m : Int) < g
          · have hC : ¬ g ≤ 1000000 := by intro h; have := HR3.out h; have := Hm.out; omega
            have HBa := Aside0.mk hB
            clear hB
            refine (write_calls HL.out.s.st (by decide) Ab n cb b Hn.out hcb (Kd.C_below HCB.out HL.out.s.below) m (by rw [← Hn.out]; exact Hm.out) HR0.out HR1.out (by have := HR2.out; have := HG.out.2; have := Hm.out; have := HBd.out; have := Hn.out; omega)).mono ?_
            rintro e w5 ⟨rfl, vw5, vs5, vd5, hst, hf, hs⟩
            have L5 := Aside0.mk (HL.out.op hst hf hs)
            clear hst hf hs

            go_wp2_with ((with_reducible refine gate_builtin (b := .append) (xs := #[.tmp 80, .tmp 83]) rfl ?_); at_builtin; refine append_row (bytes := 1) rfl (.tmp 80) (.tmp 83) rfl Try.underlying28 info_u8 (by decide) v7 sn Ab m cb (b.take m) rfl rfl L5.out.e6.1 (by rw [← HT.out]; exact C_take (Kd.C_below HCB.out L5.out.s.below) m (by have := Hn.out; omega)) HT.out (by have := HT.out; have := HR2.out; have := HG.out.2; have := HBd.out; have := Hn.out; have := Hm.out; omega) ?_; intro v9 w6 hR hg hat; have L6 := Aside0.mk (L5.out.add6 hg hat hR); obtain ⟨A9, c9, e9, _⟩ := hR.slice; obtain ⟨N1, hN1⟩ : ∃ N, N = (sn ++ b.take m).length := ⟨_, rfl⟩; rw [← hN1] at e9; have hv : (N1 : Int) = (sn.length : Int) + (m : Int) := (by rw [hN1, List.length_append, ← HT.out]; omega); have HV := Aside0.mk hv; have hq1 : ¬ g < (N1 : Int) := (by have := HR2.out; have := Hm.out; omega); have hq3 : (N1 : Int) < g := (by have := HBa.out; omega); clear hR hg hat hN1 hv; subst e9)
            go_roundw
            case rel =>
              refine ⟨kk + 1, g, _, by omega, rfl, rfl, by go_num, ⟨by omega, by omega⟩, ⟨vw5, vs5, vd5, room - m, sn ++ b.take m, L6.out, ?_, ?_, ?_, ?_⟩⟩
              · have := Hm.out; omega
              · have := HR1.out; omega
              · rw [List.length_append, ← HT.out]; have := HR2.out; omega
              · intro h; rw [List.length_append, ← HT.out]; have := HR3.out h; omega
            case measure => simp [intOf]; omega
          · have HBa := Aside0.mk hB
            clear hB
            refine (write_calls HL.out.s.st (by decide) Ab n cb b Hn.out hcb (Kd.C_below HCB.out HL.out.s.below) m (by rw [← Hn.out]; exact Hm.out) HR0.out HR1.out (by have := HR2.out; have := HG.out.2; have := Hm.out; have := HBd.out; have := Hn.out; omega)).mono ?_
            rintro e w5 ⟨rfl, vw5, vs5, vd5, hst, hf, hs⟩
            have L5 := Aside0.mk (HL.out.op hst hf hs)
            clear hst hf hs

            go_wp2_with ((with_reducible refine gate_builtin (b := .append) (xs := #[.tmp 80, .tmp 83]) rfl ?_); at_builtin; refine append_row (bytes := 1) rfl (.tmp 80) (.tmp 83) rfl Try.underlying28 info_u8 (by decide) v7 sn Ab m cb (b.take m) rfl rfl L5.out.e6.1 (by rw [← HT.out]; exact C_take (Kd.C_below HCB.out L5.out.s.below) m (by have := Hn.out; omega)) HT.out (by have := HT.out; have := HR2.out; have := HG.out.2; have := HBd.out; have := Hn.out; have := Hm.out; omega) ?_; intro v9 w6 hR hg hat; have L6 := Aside0.mk (L5.out.add6 hg hat hR); obtain ⟨A9, c9, e9, _⟩ := hR.slice; obtain ⟨N1, hN1⟩ : ∃ N, N = (sn ++ b.take m).length := ⟨_, rfl⟩; rw [← hN1] at e9; have hv : (N1 : Int) = (sn.length : Int) + (m : Int) := (by rw [hN1, List.length_append, ← HT.out]; omega); have HV := Aside0.mk hv; have hq1 : ¬ g < (N1 : Int) := (by have := HR2.out; have := Hm.out; omega); have hq3 : ¬ (N1 : Int) < g := (by have := HBa.out; omega); clear hR hg hat hN1 hv; subst e9)
            go_roundw
            case rel =>
              refine ⟨kk + 1, g, _, by omega, rfl, rfl, by go_num, ⟨by omega, by omega⟩, ⟨vw5, vs5, vd5, room - m, sn ++ b.take m, L6.out, ?_, ?_, ?_, ?_⟩⟩
              · have := Hm.out; omega
              · have := HR1.out; omega
              · rw [List.length_append, ← HT.out]; have := HR2.out; omega
              · intro h; rw [List.length_append, ← HT.out]; have := HR3.out h; omega
            case measure => simp [intOf]; omega
        · refine (write_calls HL.out.s.st (by decide) Ab n cb b Hn.out hcb (Kd.C_below HCB.out HL.out.s.below) m (by rw [← Hn.out]; exact Hm.out) HR0.out HR1.out (by have := HR2.out; have := HG.out.2; have := Hm.out; have := HBd.out; have := Hn.out; omega)).mono ?_
          rintro e w5 ⟨rfl, vw5, vs5, vd5, hst, hf, hs⟩
          have L5 := Aside0.mk (HL.out.op hst hf hs)
          clear hst hf hs

          go_wp2_with ((with_reducible refine gate_builtin (b := .append) (xs := #[.tmp 80, .tmp 83]) rfl ?_); at_builtin; refine append_row (bytes := 1) rfl (.tmp 80) (.tmp 83) rfl Try.underlying28 info_u8 (by decide) v7 sn Ab m cb (b.take m) rfl rfl L5.out.e6.1 (by rw [← HT.out]; exact C_take (Kd.C_below HCB.out L5.out.s.below) m (by have := Hn.out; omega)) HT.out (by have := HT.out; have := HR2.out; have := HG.out.2; have := HBd.out; have := Hn.out; have := Hm.out; omega) ?_; intro v9 w6 hR hg hat; have L6 := Aside0.mk (L5.out.add6 hg hat hR); obtain ⟨A9, c9, e9, _⟩ := hR.slice; obtain ⟨N1, hN1⟩ : ∃ N, N = (sn ++ b.take m).length := ⟨_, rfl⟩; rw [← hN1] at e9; have hv : (N1 : Int) = (sn.length : Int) + (m : Int) := (by rw [hN1, List.length_append, ← HT.out]; omega); have HV := Aside0.mk hv; have hq1 : ¬ g < (N1 : Int) := (by have := HR2.out; have := Hm.out; omega); clear hR hg hat hN1 hv; subst e9)
          go_roundw
          case rel =>
            refine ⟨kk + 1, g, _, by omega, rfl, rfl, by go_num, ⟨by omega, by omega⟩, ⟨vw5, vs5, vd5, room - m, sn ++ b.take m, L6.out, ?_, ?_, ?_, ?_⟩⟩
            · have := Hm.out; omega
            · have := HR1.out; omega
            · rw [List.length_append, ← HT.out]; have := HR2.out; omega
            · intro h; rw [List.length_append, ← HT.out]; have := HR3.out h; omega
          case measure => simp [intOf]; omega
    · obtain rfl : kk = N := by omega
      have hltz : ¬ (kk : Int) < (kk : Int) := by omega
      obtain ⟨A7, c7, e7, _⟩ := HL.out.e6.1.slice
      obtain ⟨S, hS⟩ : ∃ S, S = sn.length := ⟨_, rfl⟩
      have HS := Aside0.mk hS
      rw [← hS] at e7
      subst e7
      have HSl : Aside0 (sn.length ≤ 4294960000) := ⟨by have := Hroom.out.1; have := Hroom.out.2.2.1; omega⟩
      have Ld := Aside0.mk (HL.out.low (below_drew (Below.refl _ _)))
      obtain ⟨sC, hsC⟩ : ∃ s, s = strOfNums sn := ⟨_, rfl⟩
      have HsC := Aside0.mk hsC
      have hc7 := row_str HL.out.e6.1
      have hc7d := row_str Ld.out.e6.1
      rw [← hsC] at hc7 hc7d
      clear hS hsC
      go_wp2_with fail
      go_region_with (first
        | (go_at_call 16; refine (sent_calls Ld.out.s.st (by decide) HSl.out).mono ?_; rintro e w7 ⟨A8, c8, rfl, hrow, how, hb7⟩; have L7 := Aside0.mk (Ld.out.low hb7); have hc8 := row_str L7.out.e6.1; have hc9 := row_str hrow; rw [← HsC.out] at hc8 hc9; rw [← HS.out] at hc9; rw [← HS.out]; clear hrow how hb7)
        | (go_at_call 13; refine (speaks_calls _).mono ?_; rintro e w9 ⟨rfl, hb9⟩; have HB9 := Aside0.mk (below_step L7.out.s.below hb9); clear hb9))
      all_goals
        go_wp2
        go_ret
        exact ⟨rfl, HB9.out⟩
theorem room_row (A0 : Option Addr) (c0 : Nat) (zs : List Int) (A1 : Option Addr) (c1 : Nat) (ps : List (List Int)) (w : World) (hr0 : (Kd.int .i64).C w A0 zs.length zs) (_ : zs.length ≤ c0) (_ : ∀ x ∈ zs, (Lit.int .i64 x).wf = true)
    (hr1 : Kd.C (Kd.slice 5 (Kd.int .u8)) w A1 ps.length ps) (_ : ps.length ≤ c1) (_ : ∀ b ∈ ps, ∀ x ∈ b, (Lit.int .u8 x).wf = true) (_ : zs.length ≤ 1048576) (hb : ps.flatten.length + ps.length ≤ 1048576) :
    Calls Try.prog 4 #[.slice A0 zs.length c0, .slice A1 ps.length c1] w fun e w' => e = .returned (.bool true) ∧ Below w.heap.size w w' := room_walk A0 c0 zs A1 c1 ps w hr0 hr1 hb
end Go.Proofs.Ytlbedgiebcpncaa.Wld
