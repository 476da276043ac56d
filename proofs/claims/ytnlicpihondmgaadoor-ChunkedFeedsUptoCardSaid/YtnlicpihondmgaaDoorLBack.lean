/- ChunkedBack: the walk; own text of this session. -/
import Derived.Test.YtnlicpihondmgaaDoorLCut
import Derived.Test.YtnlicpihondmgaaDoorChD
namespace Go.Proofs.YtnlicpihondmgaaDoor.P
open Go.RowKit Go.Proofs.YtnlicpihondmgaaDoorW.PrintWords Go.Proofs.YtnlicpihondmgaaDoorW.PrintLast Chk
set_option linter.unusedVariables false
set_option linter.unusedSimpArgs false
theorem ev_Fields_l0 (x : List Fld) (hx : x.length ≤ 4611686018427387904) (n : Nat) : ∀ i : Nat, i ≤ x.length → x.length - i = n → Ev (fun k => headraceplain_Fields.l0 k x x (x.length : Int) (i : Int)) true := by
  induction n with
  | zero =>
    intro i hi hn
    refine Ev.step (fun k => rfl) ?_
    simp only [headraceplain_Fields.l0, if_neg (show ¬ (i : Int) < (x.length : Int) by omega)]
    exact Ev.now _
  | succ n ih =>
    intro i hi hn
    refine Ev.step (fun k => rfl) ?_
    simp only [headraceplain_Fields.l0, if_pos (show (i : Int) < (x.length : Int) by omega), if_pos (show 0 ≤ (i : Int) by omega), beq_self_eq_true, Bool.not_true, Bool.or_self, Bool.false_eq_true, if_false, Px.w64 (show i < 9223372036854775807 by omega)]
    exact ih (i + 1) (by omega) (by omega)
theorem fields_same (x : List Fld) (A B : Option Addr) (c d : Nat) (w : World) (hx : x.length ≤ 4611686018427387904) (h0 : Kd.C k49 w A x.length x) (hc : x.length ≤ c) (h1 : Kd.C k49 w B x.length x) (hd : x.length ≤ d) :
    Calls Tryd.prog 22 #[.slice A x.length c, .slice B x.length d] w fun e w' => e = .returned (.bool true) ∧ Below w.heap.size w w' := by
  have hev : Ev (fun k => headraceplain_Fields.f k x x) true := by
    unfold headraceplain_Fields.f
    simp only [if_true]
    exact ev_Fields_l0 x hx x.length 0 (by omega) (by omega)
  obtain ⟨k, hk⟩ := hev.rounds
  exact (headraceplain_Fields.calls k A c x B d x true w h0 hc h1 hd hk).mono fun e w' ⟨g1, g2⟩ => ⟨g1, g2.below⟩
/-WALK-/
set_option maxHeartbeats 8000000 in
set_option maxRecDepth 100000 in
theorem headracelaw10_ChunkedBack.walk_ (ps : List (List Int)) (l : List Fld) (rest : List Int) (A0 A1 A2 : Option Addr) (c0 c1 c2 : Nat) (w : World) (hr0 : Kd.C (Kd.slice 5 (Kd.int .u8)) w A0 ps.length ps) (hc0 : ps.length ≤ c0)
    (hr1 : Kd.C k49 w A1 l.length l) (hc1 : l.length ≤ c1) (hr2 : Kd.C (Kd.int .u8) w A2 rest.length rest) (hc2 : rest.length ≤ c2)
    (hw : ∀ b ∈ ps, isB b = true) (hl : ps.flatten.length ≤ 16777216) (hp : ps.length ≤ 16777216) (hs : fbz l ≤ 16777216) (hrs : rest.length ≤ 16777216) (hG_ : GInv w) :
    Calls Tryd.prog 8 #[.slice A0 ps.length c0, .slice A1 l.length c1, .slice A2 rest.length c2] w fun e w' => e = .returned (.bool true) ∧ Below w.heap.size w w' := by
  by_cases hne : chkS l = 0
  case neg =>
    obtain ⟨r, hr⟩ : ∃ r, r = chkS l := ⟨_, rfl⟩
    rw [← hr] at hne
    have HK := Aside0.mk (last_no l A1 c1 w r hr1 hc1 (by omega) hr.symm hne)
    have HG := Aside0.mk hG_
    have bn : (r != 0) = true := by simpa using hne
    clear hr hne hr0 hr1 hr2 hG_ hw hl hp hs hrs hc0 hc1 hc2
    go_enter Tryd.func8, Tryd.ntmps8
    go_wp2_with fail
    refine HK.out.mono ?_
    rintro e w1 ⟨rfl, hb1⟩
    have HB1 := Aside0.mk hb1
    clear hb1
    go_wp2_with fail
    refine (speaks_calls _ (GInv.below' HG (by repeat (first | exact HB1.out | apply below_drew1 | apply pw_below_drewN)))).mono ?_
    rintro e w3 ⟨rfl, hb3⟩
    have HB3 := Aside0.mk (below_step (by repeat (first | exact HB1.out | apply below_drew1 | apply pw_below_drewN)) hb3)
    clear hb3
    go_wp2
    go_ret
    exact ⟨rfl, HB3.out⟩
  have HCk := Aside0.mk hne
  have HG0 := Aside0.mk hG_
  have HW := Aside0.mk hw
  have HLn := Aside0.mk hl
  have HPn := Aside0.mk hp
  have HS := Aside0.mk hs
  have HRs := Aside0.mk hrs
  have HFC := Aside0.mk (flat_chunk ps)
  have HK := Aside0.mk (last_ok l A1 c1 w hr1 hc1 (by omega) hne)
  have HR0 := Aside0.mk hr0
  have HR1 := Aside0.mk hr1
  have HR2 := Aside0.mk hr2
  have Hc1 := Aside0.mk hc1
  have Hc2 := Aside0.mk hc2
  obtain ⟨N, hN⟩ : ∃ N, N = ps.length := ⟨_, rfl⟩
  have HN := Aside0.mk hN
  have hNle : (N : Int) ≤ 16777216 := by omega
  obtain ⟨M, hM⟩ : ∃ M, M = l.length := ⟨_, rfl⟩
  have HM := Aside0.mk hM
  have hMle : (M : Int) ≤ 16777216 := by
    have h1 : l.length ≤ 100 := (chk_ok l hne).1
    omega
  obtain ⟨RN, hRN⟩ : ∃ RN, RN = rest.length := ⟨_, rfl⟩
  have HRN := Aside0.mk hRN
  rw [← hM] at HK
  rw [← hN, ← hM, ← hRN]
  clear hG_ hr0 hr1 hr2 hc0 hc1 hc2 hw hl hp hs hrs hN hM hRN hne
  go_enter Tryd.func8, Tryd.ntmps8
  go_wp2_with fail
  refine HK.out.mono ?_
  rintro e w1 ⟨v9, rfl, hR9, hb1⟩
  obtain ⟨A9, c9, e9, hc9, hC9⟩ := Kd.R_reads hR9
  subst e9
  have HB1 := Aside0.mk hb1
  have HE1 := Aside0.mk hC9
  have HP1 := Aside0.mk (Kd.C_below HR0.out hb1)
  have HL1 := Aside0.mk (Kd.C_below HR1.out hb1)
  have HQ1 := Aside0.mk (Kd.C_below HR2.out hb1)
  have HG1 := Aside0.mk (HG0.out.below hb1)
  clear hR9 hC9 hc9 hb1 HR0 HR1 HR2 HK
  go_wp2_with fail
  go_loopw [37] (fun v37 wr => ∃ kk : Nat, kk ≤ M ∧ v37 = .int .i64 kk ∧ Aside0 (∀ f ∈ l.take kk, f.f0.size + f.f1.size ≤ 8190) ∧ Aside0 (Below w1.heap.size w1 wr)) (fun v37 _ => M - (intOf v37).toNat)
  case atStart => exact ⟨0, Nat.zero_le _, rfl, ⟨fun f hf => by simp at hf⟩, ⟨Below.refl _ _⟩⟩
  case round =>
    obtain ⟨kk, hkk, rfl, HF, HBw⟩ := hrel
    by_cases hlt : kk < M
    · have hltz : (kk : Int) < (M : Int) := by omega
      obtain ⟨ad, eA, hx0, hx1⟩ := at_T49 (Kd.C_below HL1.out HBw.out) (kk : Int) (by omega) (by rw [← HM.out]; exact hltz)
      cases eA
      rw [Int.toNat_natCast] at hx0 hx1
      have hkl : kk < l.length := by rw [← HM.out]; exact hlt
      have hdr := List.drop_eq_getElem_cons hkl
      rw [rd_fld hdr] at hx0 hx1
      have hmem : l[kk] ∈ l := List.getElem_mem hkl
      have hsz := fbz_mem hmem
      have hta : l.take (kk + 1) = l.take kk ++ [l[kk]] := by rw [List.take_succ_eq_append_getElem hkl]
      generalize l[kk] = f at hx0 hx1 hmem hsz hta hdr
      have HTA := Aside0.mk hta
      have hs0 : f.f0.size ≤ 16777216 := by have := HS.out; omega
      have hs1 : f.f1.size ≤ 16777216 := by have := HS.out; omega
      clear hdr hmem hsz hta
      by_cases hbig : (8190 : Int) < (f.f0.size : Int) + (f.f1.size : Int)
      · go_wp2_with (first
          | ((with_reducible refine gate_dst (N := 10) rfl ?_); refine box_event ?hg (N := 10) ?hd (cs := #[.string (⟨#[]⟩ : ByteArray), .string (⟨#[]⟩ : ByteArray)]) (t := 49) ?hr ?_; (case hd => rfl); (case hg => rfl); (case hr => first | (go_simp; done) | (go_simp; rfl)); intro gb hg w4 hbox hb; have B4 := Aside0.mk hb; have GE : Aside0 (w1.heap.size ≤ gb) := ⟨by { rw [hg]; exact HBw.out.size }⟩; have GEE := Aside0.mk hg; clear hb hg; have hc0 : w4.cell? ⟨gb, 0, none⟩ = some (.string (⟨#[]⟩ : ByteArray)) := (blk_cell hbox 0).trans rfl; have hc1 : w4.cell? ⟨gb, 1, none⟩ = some (.string (⟨#[]⟩ : ByteArray)) := (blk_cell hbox 1).trans rfl; have hfr0 := blk_frozen hbox 0; have hfr1 := blk_frozen hbox 1; clear hbox)
          | fail)
        have HB4 := Aside0.mk (((below_then HBw.out HBw.out.size B4.out).setCell (p := ⟨gb, 0, none⟩) GE.out (.string f.f0)).setCell (p := ⟨gb, 1, none⟩) GE.out (.string f.f1))
        refine (speaks_calls _ (GInv.below' HG1 (by repeat (first | exact HB4.out | apply below_drew1 | apply pw_below_drewN)))).mono ?_
        rintro e w3 ⟨rfl, hb3⟩
        have HB3 := Aside0.mk (below_step (by repeat (first | exact HB4.out | apply below_drew1 | apply pw_below_drewN)) hb3)
        clear hb3
        go_wp2
        go_ret
        exact ⟨rfl, below_then HB1.out HB1.out.size HB3.out⟩
      · go_wp2_with (first
          | ((with_reducible refine gate_dst (N := 10) rfl ?_); refine box_event ?hg (N := 10) ?hd (cs := #[.string (⟨#[]⟩ : ByteArray), .string (⟨#[]⟩ : ByteArray)]) (t := 49) ?hr ?_; (case hd => rfl); (case hg => rfl); (case hr => first | (go_simp; done) | (go_simp; rfl)); intro gb hg w4 hbox hb; have B4 := Aside0.mk hb; have GE : Aside0 (w1.heap.size ≤ gb) := ⟨by { rw [hg]; exact HBw.out.size }⟩; have GEE := Aside0.mk hg; clear hb hg; have hc0 : w4.cell? ⟨gb, 0, none⟩ = some (.string (⟨#[]⟩ : ByteArray)) := (blk_cell hbox 0).trans rfl; have hc1 : w4.cell? ⟨gb, 1, none⟩ = some (.string (⟨#[]⟩ : ByteArray)) := (blk_cell hbox 1).trans rfl; have hfr0 := blk_frozen hbox 0; have hfr1 := blk_frozen hbox 1; clear hbox)
          | fail)
        go_roundw
        case rel =>
          refine ⟨kk + 1, by omega, by go_num, ⟨?_⟩, ⟨((below_then HBw.out HBw.out.size B4.out).setCell (p := ⟨gb, 0, none⟩) GE.out (.string f.f0)).setCell (p := ⟨gb, 1, none⟩) GE.out (.string f.f1)⟩⟩
          intro g hg
          rw [HTA.out] at hg
          rcases List.mem_append.1 hg with h | h
          · exact HF.out g h
          · rw [List.mem_singleton.1 h]; omega
        case measure => simp [intOf]; omega
    · obtain rfl : kk = M := by omega
      have hltz : ¬ (kk : Int) < (kk : Int) := by omega
      have e1 : l.take kk = l := List.take_of_length_le (by rw [← HM.out]; exact Nat.le_refl _)
      have HF2 := Aside0.mk HF.out
      rw [e1] at HF2
      clear e1 HF
      rename World => wL
      have HBL := Aside0.mk (below_then HB1.out HB1.out.size HBw.out)
      have HE := Aside0.mk (Kd.C_below HE1.out HBw.out)
      have HR := Aside0.mk (Kd.C_below HP1.out HBw.out)
      have HRl := Aside0.mk (Kd.C_below HL1.out HBw.out)
      have HQ := Aside0.mk (Kd.C_below HQ1.out HBw.out)
      have HG := Aside0.mk (HG1.out.below HBw.out)
      clear HE1 HP1 HL1 HQ1 HG1 HBw
      go_wp2_with fail
      go_loopw [11, 12, 53] (fun x5 x6 v23 wr => ∃ (kk : Nat) (v5 v6 : Value), kk ≤ N ∧ v5 = x5 ∧ v6 = x6 ∧ v23 = .int .i64 kk ∧ Aside0 (Two wr wL.heap.size v5 v6 (ps.take kk).flatten ((ps.take kk).flatMap chunkB)) ∧ Aside0 (Below wL.heap.size wL wr)) (fun _ _ v23 _ => N - (intOf v23).toNat)
      case atStart => exact ⟨0, _, _, Nat.zero_le _, rfl, rfl, rfl, ⟨Two.nil _ _⟩, ⟨Below.refl _ _⟩⟩
      case round =>
        obtain ⟨kk, v5, v6, hkk, rfl, rfl, rfl, HT, HB⟩ := hrel
        by_cases hlt : kk < N
        · have hltz : (kk : Int) < (N : Int) := by omega
          have hkl : kk < ps.length := by rw [← HN.out]; exact hlt
          obtain ⟨ad, Ab, cb, eA, hx, hcb, hCb⟩ := at_row HR.out kk hkl rfl
          cases eA
          replace hx := (HB.out.cell (World.block_lt_of_cell? wL _ hx)).trans hx
          have hta : ps.take (kk + 1) = ps.take kk ++ [ps[kk]] := by rw [List.take_succ_eq_append_getElem hkl]
          have hmem : ps[kk] ∈ ps := List.getElem_mem hkl
          have hrl := row_le ps kk hkl
          have hbl : (ps[kk]).length ≤ ps.flatten.length := by omega
          have htl : (ps.take kk).flatten.length ≤ ps.flatten.length := by omega
          have htc : ((ps.take kk).flatMap chunkB).length ≤ 16777216 + 21 * 16777216 := by
            have h1 := flat_chunk (ps.take kk)
            have h2 : (ps.take kk).length ≤ ps.length := by rw [List.length_take]; omega
            have := HLn.out; have := HPn.out; omega
          have hB := HW.out _ hmem
          clear hrl
          generalize ps[kk] = b at hx hcb hCb hta hbl hB hmem
          have HTA := Aside0.mk hta
          have HCB := Aside0.mk hCb
          have Hcb := Aside0.mk hcb
          have HBL := Aside0.mk hbl
          have HTL := Aside0.mk htl
          have HTC := Aside0.mk htc
          have HBB := Aside0.mk hB
          clear hta hcb hCb hbl hB hmem htl htc
          go_wp2_with (first
            | ((with_reducible refine gate_builtin (b := .append) (xs := #[.tmp 57, .tmp 58]) rfl ?_); at_builtin; refine Kd.R_append_row (Value.int .u8) 0 (h1 := fun _ => rfl) (w0 := wr) wL.heap.size rfl (.tmp 57) (.tmp 58) 22 5 (.int .u8 0) 1 rfl Tryd.underlying22 info_u8 rfl (by decide) v5 (ps.take kk).flatten b Ab b.length cb (fun k => some k ≠ v6.ownBlock) rfl rfl (fun k hk => R_fresh HT.out.b k hk) HT.out.a (Kd.C_below HCB.out HB.out) (Below.refl _ _) HB.out.size (by have := HTL.out; have := HBL.out; have := HLn.out; omega) ?_; intro v7 w7 hR7 hb7 hg7 hat7; have HT7 := Aside0.mk (HT.out.first hg7 hat7 hR7); have HB7 := Aside0.mk (HB.out.trans hb7); have HC7 : Aside0 (Kd.C (Kd.int .u8) w7 Ab b.length b) := ⟨Kd.C_below HCB.out HB7.out⟩; clear hR7 hb7 hg7 hat7))
          refine (chunk_calls b Ab cb w7 HC7.out Hcb.out HBB.out (by have := HBL.out; have := HLn.out; omega) (HG.out.below HB7.out)).mono ?_
          rintro e w8 ⟨A1, c1, rfl, hC8, hb8⟩
          have HT8 := Aside0.mk (HT7.out.below hb8)
          have HB8 := Aside0.mk (below_step HB7.out hb8)
          have HC8 := Aside0.mk hC8
          clear hC8 hb8
          go_wp2_with (first
            | ((with_reducible refine gate_builtin (b := .append) (xs := #[.tmp 60, .tmp 62]) rfl ?_); at_builtin; refine Kd.R_append_row (Value.int .u8) 0 (h1 := fun _ => rfl) (w0 := w8) wL.heap.size rfl (.tmp 60) (.tmp 62) 22 5 (.int .u8 0) 1 rfl Tryd.underlying22 info_u8 rfl (by decide) v6 ((ps.take kk).flatMap chunkB) (chunkB b) A1 (chunkB b).length c1 (fun k => some k ≠ v7.ownBlock) rfl rfl (fun k hk => R_fresh HT8.out.a k hk) HT8.out.b HC8.out (Below.refl _ _) HB8.out.size (by have := HTC.out; have := HBL.out; have := HLn.out; have := chunkB_len b; omega) ?_; intro v9 w9 hR9 hb9 hg9 hat9; have HT9 := Aside0.mk (HT8.out.second hg9 hat9 hR9); have HB9 := Aside0.mk (HB8.out.trans hb9); clear hR9 hb9 hg9 hat9))
          go_roundw
          case rel =>
            refine ⟨kk + 1, v7, v9, by omega, rfl, rfl, by go_num, ⟨?_⟩, HB9⟩
            rw [HTA.out, List.flatten_append, List.flatMap_append]
            simpa using HT9.out
          case measure => simp [intOf]; omega
        · obtain rfl : kk = N := by omega
          have hltz : ¬ (kk : Int) < (kk : Int) := by omega
          have e1 : ps.take kk = ps := List.take_of_length_le (by rw [← HN.out]; exact Nat.le_refl _)
          have hT := HT.out
          rw [e1] at hT
          obtain ⟨plain, hpl⟩ : ∃ x, x = ps.flatten := ⟨_, rfl⟩
          have HPL := Aside0.mk hpl
          have hPle : plain.length ≤ 16777216 := by rw [hpl]; exact HLn.out
          rw [← hpl] at hT
          have HPle := Aside0.mk hPle
          have HT0 := Aside0.mk hT
          clear hT e1 HT hpl hPle
          have hEl : (lastS l).length ≤ 16777216 + 5 := by unfold lastS; rw [List.length_append, List.length_append, flat_len]; have := HS.out; simp only [List.length_cons, List.length_nil]; omega
          have HEl := Aside0.mk hEl
          clear hEl
          go_wp2_with (first
            | ((with_reducible refine gate_builtin (b := .append) (xs := #[.tmp 65, .tmp 66]) rfl ?_); at_builtin; refine Kd.R_append_row (Value.int .u8) 0 (h1 := fun _ => rfl) (w0 := wr) wL.heap.size rfl (.tmp 65) (.tmp 66) 22 5 (.int .u8 0) 1 rfl Tryd.underlying22 info_u8 rfl (by decide) v6 (ps.flatMap chunkB) (lastS l) A9 (lastS l).length c9 (fun k => some k ≠ v5.ownBlock) rfl rfl (fun k hk => R_fresh HT0.out.a k hk) HT0.out.b (Kd.C_below HE.out HB.out) (Below.refl _ _) HB.out.size (by have := HFC.out; have := HLn.out; have := HPn.out; have := HEl.out; omega) ?_; intro v7 w7 hR7 hb7 hg7 hat7; have HT7 := Aside0.mk (HT0.out.second hg7 hat7 hR7); have HB7 := Aside0.mk (HB.out.trans hb7); clear hR7 hb7 hg7 hat7; obtain ⟨coded0, hcod0⟩ : ∃ c, c = ps.flatMap chunkB ++ lastS l := ⟨_, rfl⟩; have HCod0 := Aside0.mk hcod0; have hT7 := HT7.out; rw [← hcod0] at hT7; have hLz : coded0.length ≤ 400000000 := (by have := HFC.out; have := HLn.out; have := HPn.out; have := HEl.out; rw [hcod0, List.length_append]; omega); obtain ⟨L0, hL0⟩ : ∃ L, L = coded0.length := ⟨_, rfl⟩; have HL0 := Aside0.mk hL0; have hL0le : (L0 : Int) ≤ 400000000 := (by omega); obtain ⟨A10, c10, e10⟩ := Kd.R_slice hT7.b; rw [← hL0] at e10; subst e10; have HTz := Aside0.mk hT7; clear hcod0 hT7 hL0 hLz HT7)
            | ((with_reducible refine gate_builtin (b := .append) (xs := #[.tmp 70, .tmp 71]) rfl ?_); at_builtin; refine Kd.R_append_row (Value.int .u8) 0 (h1 := fun _ => rfl) (w0 := w7) wL.heap.size rfl (.tmp 70) (.tmp 71) 22 5 (.int .u8 0) 1 rfl Tryd.underlying22 info_u8 rfl (by decide) (.slice A10 L0 c10) coded0 rest A2 RN c2 (fun k => some k ≠ v5.ownBlock) rfl rfl (fun k hk => R_fresh HTz.out.a k hk) HTz.out.b (by rw [HRN.out]; exact Kd.C_below HQ.out HB7.out) (Below.refl _ _) HB7.out.size (by have := HRs.out; have := HL0.out; have := HRN.out; omega) ?_; intro v9 w9 hR9 hb9 hg9 hat9; have hT9 := HTz.out.second hg9 hat9 hR9; have HB9 := Aside0.mk (HB7.out.trans hb9); clear hR9 hb9 hg9 hat9; obtain ⟨coded, hcod⟩ : ∃ c, c = coded0 ++ rest := ⟨_, rfl⟩; rw [← hcod] at hT9; have HCod := Aside0.mk hcod; have hLl : coded.length ≤ 500000000 := (by rw [hcod, List.length_append]; have := HRs.out; have := HL0.out; omega); have HLl := Aside0.mk hLl; obtain ⟨A11, c11, e11, hc11, hC11⟩ := Kd.R_reads hT9.b; have HC11 := Aside0.mk hC11; obtain ⟨A5, c5, e5, hc5, hC5⟩ := Kd.R_reads hT9.a; obtain ⟨PL, hPL⟩ : ∃ n, n = plain.length := ⟨_, rfl⟩; have HPLn := Aside0.mk hPL; have hPLle : (PL : Int) ≤ 16777216 := (by have := HPle.out; omega); rw [← hPL] at e5 hC5; have HC5 := Aside0.mk hC5; clear hPL hT9 hcod hLl hc5 hC5 hc11 hC11; subst e11; subst e5))
          obtain ⟨need, left, hback⟩ := back ps l rest (by rw [← HPL.out]; have := HPle.out; omega) HCk.out HF2.out
          rw [← HPL.out, ← HCod0.out, ← HCod.out, ← HPLn.out, ← HL0.out] at hback
          have HBk := Aside0.mk hback
          clear hback
          refine (new_calls (PL : Int) _ (by omega) (by omega)).mono ?_
          rintro e w10 ⟨p, rfl, hp, hr1, hb1⟩
          have HP := Aside0.mk hp
          have HD := Aside0.mk hr1
          have HN1 := Aside0.mk hb1
          have HB10 := Aside0.mk (below_step HB9.out hb1)
          clear hp hr1 hb1
          go_wp2_with fail
          refine (feed_to wL w10 (fun k => k = p) p _ _ _ (newDec (PL : Int)) A11 c11 coded HD.out ⟨HG.out, HB10.out, fun k hk => by rw [hk]; exact Nat.le_trans HB9.out.size HP.out⟩ (by have := HLl.out; show 0 + _ ≤ _; omega) (fine_new _ (by omega) (by omega))
            (fun W' hs => Kd.C_below HC11.out (hs.out HN1.out (fun k hk => by rw [hk]; exact HP.out) HN1.out.size)) _ L0 HBk.out).mono ?_
          rintro e w11 ⟨A3, c3, he, ⟨G2, H2, vl2, vt2, hr2, ho2, hF2, hG2⟩, hs2⟩
          replace he : e = .returned (.tuple #[.slice A3 plain.length c3, .int .i64 (L0 : Int), .bool true, .int .i64 0]) := he
          subst he
          have HD2 := Aside0.mk hr2
          have HN2 := Aside0.mk (hs2.out HN1.out (fun k hk => by rw [hk]; exact HP.out) HN1.out.size)
          have HB11 := Aside0.mk (below_then HB9.out HB9.out.size HN2.out)
          have hcvB : (convert 22 9 (.slice A3 plain.length c3)).run Tryd.prog w11 = Result.ok (.string (strOfNums plain)) w11 := by
            obtain ⟨Ax, cx, ex, _, hCx⟩ := Kd.R_reads ho2
            injection ex with ex1 _ ex2
            subst ex1
            exact Kd.C_string Tryd.underlying22 Tryd.underlying5 Tryd.underlying9 hCx
          have hcvP : (convert 22 9 (.slice A5 PL c5)).run Tryd.prog w11 = Result.ok (.string (strOfNums plain)) w11 := Kd.C_string Tryd.underlying22 Tryd.underlying5 Tryd.underlying9 (Kd.C_below HC5.out HN2.out)
          have hsP : (strOfNums plain).size ≤ 16777216 := by rw [strOfNums_size]; exact HPle.out
          clear hr2 ho2 hF2 hG2 hs2
          generalize strOfNums plain = sP at *
          go_wp2_with fail
          refine (trailers_calls w11 _ p _ _ _ _ HD2.out rfl (by have h1 := (chk_ok l HCk.out).1; show l.length ≤ _; omega)).mono ?_
          rintro e w12 ⟨A4, c4, he, hC4, hc4, hb12⟩
          replace he : e = .returned (.slice A4 l.length c4) := he
          replace hC4 : Kd.C k49 w12 A4 l.length l := hC4
          replace hc4 : l.length ≤ c4 := hc4
          subst he
          have HC4 := Aside0.mk hC4
          have Hc4 := Aside0.mk hc4
          have HB12 := Aside0.mk (below_step HB11.out hb12)
          clear hC4 hc4 hb12
          go_wp2_with fail
          have hfs := fields_same l A4 A1 c4 c1 w12 (by have h1 := (chk_ok l HCk.out).1; omega) HC4.out Hc4.out (Kd.C_below HRl.out HB12.out) Hc1.out
          rw [← HM.out] at hfs
          rw [← HM.out]
          refine hfs.mono ?_
          rintro e w13 ⟨rfl, hb13⟩
          have HB13 := Aside0.mk (below_step HB12.out hb13)
          clear hb13 hfs
          go_wp2_with fail
          refine (speaks_calls _ (GInv.below' HG (by repeat (first | exact HB13.out | apply below_drew1 | apply pw_below_drewN)))).mono ?_
          rintro e w14 ⟨rfl, hb14⟩
          have HB14 := Aside0.mk (below_step (by repeat (first | exact HB13.out | apply below_drew1 | apply pw_below_drewN)) hb14)
          clear hb14
          go_wp2
          go_ret
          exact ⟨rfl, below_then HBL.out HBL.out.size HB14.out⟩
def headracelaw10_ChunkedBack.f (k : Nat) (l0 : List (List Int)) (l1 : List Fld) (l2 : List Int) : Option Bool := if (l0.all isB = true) ∧ l0.flatten.length ≤ 16777216 ∧ l0.length ≤ 16777216 ∧ fbz l1 ≤ 16777216 ∧ l2.length ≤ 16777216 then some true else none
theorem headracelaw10_ChunkedBack.calls (k : Nat) (A0 : Option Addr) (c0 : Nat) (l0 : List (List Int)) (A1 : Option Addr) (c1 : Nat) (l1 : List Fld) (A2 : Option Addr) (c2 : Nat) (l2 : List Int) (r : Bool) (w : World) (hr0 : Kd.C (Kd.slice 5 (Kd.int .u8)) w A0 l0.length l0) (hc0 : l0.length ≤ c0)
    (hr1 : Kd.C k49 w A1 l1.length l1) (hc1 : l1.length ≤ c1) (hr2 : Kd.C (Kd.int .u8) w A2 l2.length l2) (hc2 : l2.length ≤ c2) (h : headracelaw10_ChunkedBack.f k l0 l1 l2 = some r) (hG_ : GInv w) :
    Calls Tryd.prog 8 #[.slice A0 l0.length c0, .slice A1 l1.length c1, .slice A2 l2.length c2] w fun e w' => e = .returned (.bool r) ∧ Below w.heap.size w w' := by
  unfold headracelaw10_ChunkedBack.f at h
  split at h
  · rename_i hl
    obtain rfl := Option.some.inj h
    exact headracelaw10_ChunkedBack.walk_ l0 l1 l2 A0 A1 A2 c0 c1 c2 w hr0 hc0 hr1 hc1 hr2 hc2 (fun b hb => List.all_eq_true.1 hl.1 b hb) hl.2.1 hl.2.2.1 hl.2.2.2.1 hl.2.2.2.2 hG_
  · cases h
end Go.Proofs.YtnlicpihondmgaaDoor.P
namespace Go.Proofs.YtnlicpihondmgaaDoor.Px
theorem pure_ChunkedBack (l : List (List Int)) (f : List Chk.Fld) (r : List Int) (hb : l.flatten.length + l.length ≤ 1048576) (hw : ∀ b ∈ l, ∀ x ∈ b, (Go.Lit.int .u8 x).wf = true) (hf : Chk.fbz f ≤ 4194304) (hr : r.length ≤ 1048576) (_ : ∀ x ∈ r, (Go.Lit.int .u8 x).wf = true) : ∃ k, P.headracelaw10_ChunkedBack.f k l f r = some true :=
  ⟨0, by unfold P.headracelaw10_ChunkedBack.f; rw [if_pos ⟨List.all_eq_true.2 (fun b hb2 => isB_wf b (hw b hb2)), by omega, by omega, by omega, by omega⟩]⟩
end Go.Proofs.YtnlicpihondmgaaDoor.Px
