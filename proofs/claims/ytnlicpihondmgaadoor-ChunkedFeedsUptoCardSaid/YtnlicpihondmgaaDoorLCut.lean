/- ChunkedCut: the walk; own text of this session. -/
import Derived.Test.YtnlicpihondmgaaDoorChD
namespace Go.Proofs.YtnlicpihondmgaaDoor.P
open Go.RowKit Go.Proofs.YtnlicpihondmgaaDoorW.PrintWords Go.Proofs.YtnlicpihondmgaaDoorW.PrintLast Chk
set_option linter.unusedVariables false
set_option linter.unusedSimpArgs false
theorem C_take {w : World} {A : Option Addr} {n : Nat} {xs : List Int} (h : (Kd.int .u8).C w A n xs) (i : Nat) (hi : i ≤ n) : (Kd.int .u8).C w A i (xs.take i) :=
  Kd.C_of_reads (d := (0 : Int)) (h1 := fun _ => rfl) (ReadsOf.take_ (Kd.reads_of_C (enc := Value.int .u8) (d := (0 : Int)) (h1 := fun _ => rfl) h) i hi)
theorem str_append (a b : List Int) : strOfNums (a ++ b) = strOfNums a ++ strOfNums b := by
  apply ByteArray.ext
  rw [ByteArray.data_append]
  unfold strOfNums
  simp
set_option maxHeartbeats 8000000 in
set_option maxRecDepth 100000 in
theorem headracelaw10_ChunkedCut.walk_ (ps : List (List Int)) (cut : Int) (A0 : Option Addr) (c0 : Nat) (w : World) (hr0 : Kd.C (Kd.slice 5 (Kd.int .u8)) w A0 ps.length ps) (hc0 : ps.length ≤ c0) (hw : ∀ b ∈ ps, isB b = true) (hl : ps.flatten.length ≤ 16777216) (hp : ps.length ≤ 16777216) (hG_ : GInv w) :
    Calls Tryd.prog 5 #[.slice A0 ps.length c0, .int .i64 cut] w fun e w' => e = .returned (.bool true) ∧ Below w.heap.size w w' := by
  have HG := Aside0.mk hG_
  have HR := Aside0.mk hr0
  have HW := Aside0.mk hw
  have HLn := Aside0.mk hl
  have HPn := Aside0.mk hp
  have HFC := Aside0.mk (flat_chunk ps)
  obtain ⟨N, hN⟩ : ∃ N, N = ps.length := ⟨_, rfl⟩
  have HN := Aside0.mk hN
  have hNle : (N : Int) ≤ 16777216 := by omega
  rw [← hN]
  clear hG_ hr0 hc0 hw hl hp hN
  go_enter Tryd.func5, Tryd.ntmps5
  go_wp2
  go_loopw [5, 6, 23] (fun x5 x6 v23 wr => ∃ (kk : Nat) (v5 v6 : Value), kk ≤ N ∧ v5 = x5 ∧ v6 = x6 ∧ v23 = .int .i64 kk ∧ Aside0 (Two wr w.heap.size v5 v6 (ps.take kk).flatten ((ps.take kk).flatMap chunkB)) ∧ Aside0 (Below w.heap.size w wr)) (fun _ _ v23 _ => N - (intOf v23).toNat)
  case atStart => exact ⟨0, _, _, Nat.zero_le _, rfl, rfl, rfl, ⟨Two.nil _ _⟩, ⟨Below.refl _ _⟩⟩
  case round =>
    obtain ⟨kk, v5, v6, hkk, rfl, rfl, rfl, HT, HB⟩ := hrel
    by_cases hlt : kk < N
    · have hltz : (kk : Int) < (N : Int) := by omega
      have hkl : kk < ps.length := by rw [← HN.out]; exact hlt
      obtain ⟨ad, Ab, cb, eA, hx, hcb, hCb⟩ := at_row HR.out kk hkl rfl
      cases eA
      replace hx := (HB.out.cell (World.block_lt_of_cell? w _ hx)).trans hx
      have hta : ps.take (kk + 1) = ps.take kk ++ [ps[kk]] := by rw [List.take_succ_eq_append_getElem hkl]
      have hmem : ps[kk] ∈ ps := List.getElem_mem hkl
      have hrl := row_le ps kk hkl
      have hbl : (ps[kk]).length ≤ ps.flatten.length := by omega
      have htl : (ps.take kk).flatten.length ≤ ps.flatten.length := by omega
      have htc : ((ps.take kk).flatMap chunkB).length ≤ 16777216 + 21 * 16777216 := by
        have h1 := flat_chunk (ps.take kk)
        have h2 : (ps.take kk).length ≤ ps.length := by rw [List.length_take]; omega
        have := HLn.out; have := HPn.out; omega
      have hB := HW.out _ hmem
      clear hrl
      generalize ps[kk] = b at hx hcb hCb hta hbl hB hmem
      have HTA := Aside0.mk hta
      have HCB := Aside0.mk hCb
      have Hcb := Aside0.mk hcb
      have HBL := Aside0.mk hbl
      have HTL := Aside0.mk htl
      have HTC := Aside0.mk htc
      have HBB := Aside0.mk hB
      clear hta hcb hCb hbl hB hmem htl htc
      go_wp2_with (first
        | ((with_reducible refine gate_builtin (b := .append) (xs := #[.tmp 27, .tmp 28]) rfl ?_); at_builtin; refine Kd.R_append_row (Value.int .u8) 0 (h1 := fun _ => rfl) (w0 := wr) w.heap.size rfl (.tmp 27) (.tmp 28) 22 5 (.int .u8 0) 1 rfl Tryd.underlying22 info_u8 rfl (by decide) v5 (ps.take kk).flatten b Ab b.length cb (fun k => some k ≠ v6.ownBlock) rfl rfl (fun k hk => R_fresh HT.out.b k hk) HT.out.a (Kd.C_below HCB.out HB.out) (Below.refl _ _) HB.out.size (by have := HTL.out; have := HBL.out; have := HLn.out; omega) ?_; intro v7 w7 hR7 hb7 hg7 hat7; have HT7 := Aside0.mk (HT.out.first hg7 hat7 hR7); have HB7 := Aside0.mk (HB.out.trans hb7); have HC7 : Aside0 (Kd.C (Kd.int .u8) w7 Ab b.length b) := ⟨Kd.C_below HCB.out HB7.out⟩; clear hR7 hb7 hg7 hat7))
      refine (chunk_calls b Ab cb w7 HC7.out Hcb.out HBB.out (by have := HBL.out; have := HLn.out; omega) (HG.out.below HB7.out)).mono ?_
      rintro e w8 ⟨A1, c1, rfl, hC8, hb8⟩
      have HT8 := Aside0.mk (HT7.out.below hb8)
      have HB8 := Aside0.mk (below_step HB7.out hb8)
      have HC8 := Aside0.mk hC8
      clear hC8 hb8
      go_wp2_with (first
        | ((with_reducible refine gate_builtin (b := .append) (xs := #[.tmp 30, .tmp 32]) rfl ?_); at_builtin; refine Kd.R_append_row (Value.int .u8) 0 (h1 := fun _ => rfl) (w0 := w8) w.heap.size rfl (.tmp 30) (.tmp 32) 22 5 (.int .u8 0) 1 rfl Tryd.underlying22 info_u8 rfl (by decide) v6 ((ps.take kk).flatMap chunkB) (chunkB b) A1 (chunkB b).length c1 (fun k => some k ≠ v7.ownBlock) rfl rfl (fun k hk => R_fresh HT8.out.a k hk) HT8.out.b HC8.out (Below.refl _ _) HB8.out.size (by have := HTC.out; have := HBL.out; have := HLn.out; have := chunkB_len b; omega) ?_; intro v9 w9 hR9 hb9 hg9 hat9; have HT9 := Aside0.mk (HT8.out.second hg9 hat9 hR9); have HB9 := Aside0.mk (HB8.out.trans hb9); clear hR9 hb9 hg9 hat9))
      go_roundw
      case rel =>
        refine ⟨kk + 1, v7, v9, by omega, rfl, rfl, by go_num, ⟨?_⟩, HB9⟩
        rw [HTA.out, List.flatten_append, List.flatMap_append]
        simpa using HT9.out
      case measure => simp [intOf]; omega
    · obtain rfl : kk = N := by omega
      have hltz : ¬ (kk : Int) < (kk : Int) := by omega
      have e1 : ps.take kk = ps := List.take_of_length_le (by rw [← HN.out]; exact Nat.le_refl _)
      have hT := HT.out
      rw [e1] at hT
      obtain ⟨plain, hpl⟩ : ∃ x, x = ps.flatten := ⟨_, rfl⟩
      have HPL := Aside0.mk hpl
      have hPle : plain.length ≤ 16777216 := by rw [hpl]; exact HLn.out
      rw [← hpl] at hT
      have HPle := Aside0.mk hPle
      have HT0 := Aside0.mk hT
      clear hT e1 HT hpl hPle
      go_wp2_with fail
      refine (last_ok [] none 0 _ (Kd.C_nil _ _) (Nat.le_refl _) (by decide) (by decide)).mono ?_
      rintro e w1 ⟨v9, rfl, hR9, hb9⟩
      obtain ⟨A9, c9, e9, _, hC9⟩ := Kd.R_reads hR9
      subst e9
      have HT1 := Aside0.mk (HT0.out.below hb9)
      have HB1 := Aside0.mk (below_step HB.out hb9)
      have HC9 := Aside0.mk hC9
      clear hC9 hb9 hR9
      go_wp2_with (first
        | ((with_reducible refine gate_builtin (b := .append) (xs := #[.tmp 39, .tmp 40]) rfl ?_); at_builtin; refine Kd.R_append_row (Value.int .u8) 0 (h1 := fun _ => rfl) (w0 := w1) w.heap.size rfl (.tmp 39) (.tmp 40) 22 5 (.int .u8 0) 1 rfl Tryd.underlying22 info_u8 rfl (by decide) v6 (ps.flatMap chunkB) (lastS []) A9 (lastS []).length c9 (fun k => some k ≠ v5.ownBlock) rfl rfl (fun k hk => R_fresh HT1.out.a k hk) HT1.out.b HC9.out (Below.refl _ _) HB1.out.size (by have := HFC.out; have := HLn.out; have := HPn.out; have e5 : (lastS []).length = 5 := rfl; omega) ?_; intro v9 w9 hR9 hb9 hg9 hat9; have HT9 := Aside0.mk (HT1.out.second hg9 hat9 hR9); have HB9 := Aside0.mk (HB1.out.trans hb9); clear hR9 hb9 hg9 hat9; obtain ⟨coded, hcod⟩ : ∃ c, c = ps.flatMap chunkB ++ lastS [] := ⟨_, rfl⟩; have HCod := Aside0.mk hcod; have hT9 := HT9.out; rw [← hcod] at hT9; obtain ⟨L, hL⟩ : ∃ L, L = coded.length := ⟨_, rfl⟩; have HLL := Aside0.mk hL; have hL5 : 5 ≤ L := (by rw [hL, hcod, List.length_append]; have e5 : (lastS []).length = 5 := rfl; omega); have hLle : (L : Int) ≤ 400000000 := (by have := HFC.out; have := HLn.out; have := HPn.out; have e5 : (lastS []).length = 5 := rfl; rw [hL, hcod, List.length_append]; omega); obtain ⟨A10, c10, e10, hc10, hC10⟩ := Kd.R_reads hT9.b; rw [← hL] at e10 hc10 hC10; have HC10 := Aside0.mk hC10; have Hc10 := Aside0.mk hc10; obtain ⟨A5, c5, e5, hc5, hC5⟩ := Kd.R_reads hT9.a; obtain ⟨PL, hPL⟩ : ∃ n, n = plain.length := ⟨_, rfl⟩; have HPLn := Aside0.mk hPL; have hPLle : (PL : Int) ≤ 16777216 := (by have := HPle.out; omega); rw [← hPL] at e5 hC5; have HC5 := Aside0.mk hC5; clear hPL; have hL0 : ¬ (L : Int) = 0 := (by omega); have bL : ((L : Int) == 0) = false := (by simpa using hL0); clear hcod hT9 hL hC10 hc5 hC5 hL0; subst e10; subst e5))
      · obtain ⟨Q, hQ⟩ : ∃ Q : Int, (L : Int) - 1 = Q := ⟨_, rfl⟩
        rw [hQ]
        have hq0 : 0 ≤ Q := by omega
        have hq1 : Q < (L : Int) := by omega
        clear hQ
        obtain ⟨q, rfl⟩ := Int.eq_ofNat_of_zero_le hq0
        obtain ⟨need, left, hback⟩ := back ps [] [] (by rw [← HPL.out]; have := HPle.out; omega) rfl (fun f hf => by cases hf)
        rw [List.append_nil, ← HPL.out, ← HCod.out, ← HPLn.out, ← HLL.out] at hback
        obtain ⟨d1, d2, f1, f2, f3, f4, f5, f6, f7, _⟩ := feed_two (newDec (PL : Int)) _ (coded.take q) (coded.drop q) (by intro h; have := congrArg List.length h; rw [List.length_drop] at this; simp at this; have := HLL.out; omega) (by rw [List.take_append_drop, hback, HLL.out])
        have hlt : (coded.take q).length = q := by rw [List.length_take]; have := HLL.out; omega
        have hld : (coded.drop q).length = L - q := by rw [List.length_drop]; have := HLL.out; omega
        have F1 := Aside0.mk f1
        have F2 := Aside0.mk f2
        have F3 := Aside0.mk f3
        have F4 := Aside0.mk f4
        have F5 := Aside0.mk (show d2.whole = true from f5)
        have F6 := Aside0.mk (show d2.wrong = 0 from f6)
        have F7 := Aside0.mk (show d1.out ++ d2.out = plain from f7)
        have hm1 := feed_mass (coded.take q) (newDec (PL : Int)) 0
        have hfi := feed_fine (coded.take q) (newDec (PL : Int)) 0 (fine_new _ (by omega) (by omega))
        rw [f1] at hm1 hfi
        rw [hlt] at hm1
        have HM1 : Aside0 (d1.mass ≤ q) := ⟨by have e9 : (newDec (PL : Int)).mass = 0 := rfl; simp only [e9] at hm1; omega⟩
        have HFi := Aside0.mk hfi
        have hol : d1.out.length + d2.out.length = plain.length := by rw [← List.length_append, F7.out]
        have hsA : (strOfNums d1.out).size ≤ 16777216 := by rw [strOfNums_size]; have := HPle.out; omega
        have hsB : (strOfNums d2.out).size ≤ 16777216 := by rw [strOfNums_size]; have := HPle.out; omega
        have hEq : strOfNums d1.out ++ strOfNums d2.out = strOfNums plain := by rw [← F7.out, str_append]
        have hLq : ((L - q : Nat) : Int) = (L : Int) - (q : Int) := by omega
        obtain ⟨i5, hi5, hzz⟩ := Option.map_eq_some_iff.1 info_u8
        simp only [Prod.mk.injEq] at hzz
        obtain ⟨A', hcut, hcut2⟩ := print_cut (P := Tryd.prog) 22 5 .i64 Tryd.underlying22 hi5 hzz.2.1 A10 L c10 q (by omega)
        have HCut := Aside0.mk hcut2
        clear hi5 hzz hcut2 hm1 hfi hol
        have HLT := Aside0.mk hlt
        have HLD := Aside0.mk hld
        clear f1 f2 f3 f4 f5 f6 f7 hlt hld hback
        refine (new_calls (PL : Int) _ (by omega) (by omega)).mono ?_
        rintro e w10 ⟨p, rfl, hp, hr1, hb1⟩
        have HP := Aside0.mk hp
        have HR1 := Aside0.mk hr1
        have HN1 := Aside0.mk hb1
        have HB10 := Aside0.mk (below_step HB9.out hb1)
        clear hp hr1 hb1
        go_wp2_with fail
        have hf1 := feed_to w w10 (fun k => k = p) p _ _ _ (newDec (PL : Int)) A10 c10 (coded.take q) HR1.out ⟨HG.out, HB10.out, fun k hk => by rw [hk]; exact Nat.le_trans HB9.out.size HP.out⟩ (by rw [HLT.out]; show 0 + _ ≤ _; omega) (fine_new _ (by omega) (by omega))
          (fun W' hs => by rw [HLT.out]; exact Kd.C_below (C_take HC10.out q (by omega)) (hs.out HN1.out (fun k hk => by rw [hk]; exact HP.out) HN1.out.size)) d1 (coded.take q).length F1.out
        rw [HLT.out] at hf1
        refine hf1.mono ?_
        rintro e w11 ⟨A2, c2, he, ⟨G2, H2, vl2, vt2, hr2, ho2, hF2, hG2⟩, hs2⟩
        rw [F2.out, F3.out] at he
        subst he
        have HR2 := Aside0.mk hr2
        have HO2 := Aside0.mk ho2
        have HHG := Aside0.mk hG2
        have HF9 : Aside0 (∀ k, G2 k → w9.heap.size ≤ k) := ⟨fun k hk => (hF2 k hk).1.elim (fun h => by rw [h]; exact HP.out) (fun h => Nat.le_trans HN1.out.size h)⟩
        have HN2 := Aside0.mk (hs2.out HN1.out (fun k hk => by rw [hk]; exact HP.out) HN1.out.size)
        have HB11 := Aside0.mk (below_then HB9.out HB9.out.size HN2.out)
        clear hr2 ho2 hF2 hG2 hs2
        go_wp2_with fail
        have hf2 := feed_to w w11 G2 p _ _ _ { d1 with out := [] } A' (c10 - q) (coded.drop q) HR2.out ⟨HG.out, HB11.out, fun k hk => Nat.le_trans HB9.out.size (HF9.out k hk)⟩ (by rw [HLD.out]; have := HM1.out; unfold Dec.mass at *; simp only [List.length_nil] at *; omega) ⟨HFi.out.left0, HFi.out.left1, HFi.out.need1, HFi.out.need0⟩
          (fun W' hs => by rw [HLD.out]; exact Kd.C_of_reads (d := (0 : Int)) (h1 := fun _ => rfl) (HCut.out W' .u8 coded hc10 (Kd.reads_of_C (enc := Value.int .u8) (d := (0 : Int)) (h1 := fun _ => rfl) (Kd.C_below HC10.out (hs.out HN2.out HF9.out HN2.out.size))))) d2 (coded.drop q).length F4.out
        rw [HLD.out] at hf2
        refine hf2.mono ?_
        rintro e w12 ⟨A3, c3, he, ⟨G3, H3, vl3, vt3, hr3, ho3, hF3, hG3⟩, hs3⟩
        rw [F5.out, F6.out] at he
        subst he
        have HN3 := Aside0.mk (hs3.out HN2.out HF9.out HN2.out.size)
        have HB12 := Aside0.mk (below_then HB9.out HB9.out.size HN3.out)
        have hcvA : (convert 22 9 (.slice A2 d1.out.length c2)).run Tryd.prog w12 = Result.ok (.string (strOfNums d1.out)) w12 := by
          have h5 : (Kd.int .u8).R 5 w12 0 H2 (.slice A2 d1.out.length c2) d1.out := Kd.R_step HO2.out (fun k hk hl => hs3.block k hl (HHG.out k hk).2.2)
          obtain ⟨Ax, cx, ex, _, hCx⟩ := Kd.R_reads h5
          injection ex with ex1 _ ex2
          subst ex1
          exact Kd.C_string Tryd.underlying22 Tryd.underlying5 Tryd.underlying9 hCx
        have hcvB : (convert 22 9 (.slice A3 d2.out.length c3)).run Tryd.prog w12 = Result.ok (.string (strOfNums d2.out)) w12 := by
          obtain ⟨Ax, cx, ex, _, hCx⟩ := Kd.R_reads ho3
          injection ex with ex1 _ ex2
          subst ex1
          exact Kd.C_string Tryd.underlying22 Tryd.underlying5 Tryd.underlying9 hCx
        have hcvP : (convert 22 9 (.slice A5 PL c5)).run Tryd.prog w12 = Result.ok (.string (strOfNums plain)) w12 := Kd.C_string Tryd.underlying22 Tryd.underlying5 Tryd.underlying9 (Kd.C_below HC5.out HN3.out)
        clear hr3 ho3 hF3 hG3 hs3 hf1 hf2 hcut
        generalize strOfNums d1.out = sA at *
        generalize strOfNums d2.out = sB at *
        generalize strOfNums plain = sP at *
        go_wp2_with fail
        refine (speaks_calls _ (GInv.below' HG (by repeat (first | exact HB12.out | apply below_drew1 | apply pw_below_drewN)))).mono ?_
        rintro e w13 ⟨rfl, hb13⟩
        have HB13 := Aside0.mk (below_step (by repeat (first | exact HB12.out | apply below_drew1 | apply pw_below_drewN)) hb13)
        clear hb13
        go_wp2
        go_ret
        exact ⟨rfl, HB13.out⟩
      · obtain ⟨q, rfl⟩ := Int.eq_ofNat_of_zero_le (show 0 ≤ cut by omega)
        have hq1 : (q : Int) < (L : Int) := by omega
        obtain ⟨need, left, hback⟩ := back ps [] [] (by rw [← HPL.out]; have := HPle.out; omega) rfl (fun f hf => by cases hf)
        rw [List.append_nil, ← HPL.out, ← HCod.out, ← HPLn.out, ← HLL.out] at hback
        obtain ⟨d1, d2, f1, f2, f3, f4, f5, f6, f7, _⟩ := feed_two (newDec (PL : Int)) _ (coded.take q) (coded.drop q) (by intro h; have := congrArg List.length h; rw [List.length_drop] at this; simp at this; have := HLL.out; omega) (by rw [List.take_append_drop, hback, HLL.out])
        have hlt : (coded.take q).length = q := by rw [List.length_take]; have := HLL.out; omega
        have hld : (coded.drop q).length = L - q := by rw [List.length_drop]; have := HLL.out; omega
        have F1 := Aside0.mk f1
        have F2 := Aside0.mk f2
        have F3 := Aside0.mk f3
        have F4 := Aside0.mk f4
        have F5 := Aside0.mk (show d2.whole = true from f5)
        have F6 := Aside0.mk (show d2.wrong = 0 from f6)
        have F7 := Aside0.mk (show d1.out ++ d2.out = plain from f7)
        have hm1 := feed_mass (coded.take q) (newDec (PL : Int)) 0
        have hfi := feed_fine (coded.take q) (newDec (PL : Int)) 0 (fine_new _ (by omega) (by omega))
        rw [f1] at hm1 hfi
        rw [hlt] at hm1
        have HM1 : Aside0 (d1.mass ≤ q) := ⟨by have e9 : (newDec (PL : Int)).mass = 0 := rfl; simp only [e9] at hm1; omega⟩
        have HFi := Aside0.mk hfi
        have hol : d1.out.length + d2.out.length = plain.length := by rw [← List.length_append, F7.out]
        have hsA : (strOfNums d1.out).size ≤ 16777216 := by rw [strOfNums_size]; have := HPle.out; omega
        have hsB : (strOfNums d2.out).size ≤ 16777216 := by rw [strOfNums_size]; have := HPle.out; omega
        have hEq : strOfNums d1.out ++ strOfNums d2.out = strOfNums plain := by rw [← F7.out, str_append]
        have hLq : ((L - q : Nat) : Int) = (L : Int) - (q : Int) := by omega
        obtain ⟨i5, hi5, hzz⟩ := Option.map_eq_some_iff.1 info_u8
        simp only [Prod.mk.injEq] at hzz
        obtain ⟨A', hcut, hcut2⟩ := print_cut (P := Tryd.prog) 22 5 .i64 Tryd.underlying22 hi5 hzz.2.1 A10 L c10 q (by omega)
        have HCut := Aside0.mk hcut2
        clear hi5 hzz hcut2 hm1 hfi hol
        have HLT := Aside0.mk hlt
        have HLD := Aside0.mk hld
        clear f1 f2 f3 f4 f5 f6 f7 hlt hld hback
        refine (new_calls (PL : Int) _ (by omega) (by omega)).mono ?_
        rintro e w10 ⟨p, rfl, hp, hr1, hb1⟩
        have HP := Aside0.mk hp
        have HR1 := Aside0.mk hr1
        have HN1 := Aside0.mk hb1
        have HB10 := Aside0.mk (below_step HB9.out hb1)
        clear hp hr1 hb1
        go_wp2_with fail
        have hf1 := feed_to w w10 (fun k => k = p) p _ _ _ (newDec (PL : Int)) A10 c10 (coded.take q) HR1.out ⟨HG.out, HB10.out, fun k hk => by rw [hk]; exact Nat.le_trans HB9.out.size HP.out⟩ (by rw [HLT.out]; show 0 + _ ≤ _; omega) (fine_new _ (by omega) (by omega))
          (fun W' hs => by rw [HLT.out]; exact Kd.C_below (C_take HC10.out q (by omega)) (hs.out HN1.out (fun k hk => by rw [hk]; exact HP.out) HN1.out.size)) d1 (coded.take q).length F1.out
        rw [HLT.out] at hf1
        refine hf1.mono ?_
        rintro e w11 ⟨A2, c2, he, ⟨G2, H2, vl2, vt2, hr2, ho2, hF2, hG2⟩, hs2⟩
        rw [F2.out, F3.out] at he
        subst he
        have HR2 := Aside0.mk hr2
        have HO2 := Aside0.mk ho2
        have HHG := Aside0.mk hG2
        have HF9 : Aside0 (∀ k, G2 k → w9.heap.size ≤ k) := ⟨fun k hk => (hF2 k hk).1.elim (fun h => by rw [h]; exact HP.out) (fun h => Nat.le_trans HN1.out.size h)⟩
        have HN2 := Aside0.mk (hs2.out HN1.out (fun k hk => by rw [hk]; exact HP.out) HN1.out.size)
        have HB11 := Aside0.mk (below_then HB9.out HB9.out.size HN2.out)
        clear hr2 ho2 hF2 hG2 hs2
        go_wp2_with fail
        have hf2 := feed_to w w11 G2 p _ _ _ { d1 with out := [] } A' (c10 - q) (coded.drop q) HR2.out ⟨HG.out, HB11.out, fun k hk => Nat.le_trans HB9.out.size (HF9.out k hk)⟩ (by rw [HLD.out]; have := HM1.out; unfold Dec.mass at *; simp only [List.length_nil] at *; omega) ⟨HFi.out.left0, HFi.out.left1, HFi.out.need1, HFi.out.need0⟩
          (fun W' hs => by rw [HLD.out]; exact Kd.C_of_reads (d := (0 : Int)) (h1 := fun _ => rfl) (HCut.out W' .u8 coded hc10 (Kd.reads_of_C (enc := Value.int .u8) (d := (0 : Int)) (h1 := fun _ => rfl) (Kd.C_below HC10.out (hs.out HN2.out HF9.out HN2.out.size))))) d2 (coded.drop q).length F4.out
        rw [HLD.out] at hf2
        refine hf2.mono ?_
        rintro e w12 ⟨A3, c3, he, ⟨G3, H3, vl3, vt3, hr3, ho3, hF3, hG3⟩, hs3⟩
        rw [F5.out, F6.out] at he
        subst he
        have HN3 := Aside0.mk (hs3.out HN2.out HF9.out HN2.out.size)
        have HB12 := Aside0.mk (below_then HB9.out HB9.out.size HN3.out)
        have hcvA : (convert 22 9 (.slice A2 d1.out.length c2)).run Tryd.prog w12 = Result.ok (.string (strOfNums d1.out)) w12 := by
          have h5 : (Kd.int .u8).R 5 w12 0 H2 (.slice A2 d1.out.length c2) d1.out := Kd.R_step HO2.out (fun k hk hl => hs3.block k hl (HHG.out k hk).2.2)
          obtain ⟨Ax, cx, ex, _, hCx⟩ := Kd.R_reads h5
          injection ex with ex1 _ ex2
          subst ex1
          exact Kd.C_string Tryd.underlying22 Tryd.underlying5 Tryd.underlying9 hCx
        have hcvB : (convert 22 9 (.slice A3 d2.out.length c3)).run Tryd.prog w12 = Result.ok (.string (strOfNums d2.out)) w12 := by
          obtain ⟨Ax, cx, ex, _, hCx⟩ := Kd.R_reads ho3
          injection ex with ex1 _ ex2
          subst ex1
          exact Kd.C_string Tryd.underlying22 Tryd.underlying5 Tryd.underlying9 hCx
        have hcvP : (convert 22 9 (.slice A5 PL c5)).run Tryd.prog w12 = Result.ok (.string (strOfNums plain)) w12 := Kd.C_string Tryd.underlying22 Tryd.underlying5 Tryd.underlying9 (Kd.C_below HC5.out HN3.out)
        clear hr3 ho3 hF3 hG3 hs3 hf1 hf2 hcut
        generalize strOfNums d1.out = sA at *
        generalize strOfNums d2.out = sB at *
        generalize strOfNums plain = sP at *
        go_wp2_with fail
        refine (speaks_calls _ (GInv.below' HG (by repeat (first | exact HB12.out | apply below_drew1 | apply pw_below_drewN)))).mono ?_
        rintro e w13 ⟨rfl, hb13⟩
        have HB13 := Aside0.mk (below_step (by repeat (first | exact HB12.out | apply below_drew1 | apply pw_below_drewN)) hb13)
        clear hb13
        go_wp2
        go_ret
        exact ⟨rfl, HB13.out⟩
      · obtain ⟨Q, hQ⟩ : ∃ Q : Int, (L : Int) - 1 = Q := ⟨_, rfl⟩
        rw [hQ]
        have hq0 : 0 ≤ Q := by omega
        have hq1 : Q < (L : Int) := by omega
        clear hQ
        obtain ⟨q, rfl⟩ := Int.eq_ofNat_of_zero_le hq0
        obtain ⟨need, left, hback⟩ := back ps [] [] (by rw [← HPL.out]; have := HPle.out; omega) rfl (fun f hf => by cases hf)
        rw [List.append_nil, ← HPL.out, ← HCod.out, ← HPLn.out, ← HLL.out] at hback
        obtain ⟨d1, d2, f1, f2, f3, f4, f5, f6, f7, _⟩ := feed_two (newDec (PL : Int)) _ (coded.take q) (coded.drop q) (by intro h; have := congrArg List.length h; rw [List.length_drop] at this; simp at this; have := HLL.out; omega) (by rw [List.take_append_drop, hback, HLL.out])
        have hlt : (coded.take q).length = q := by rw [List.length_take]; have := HLL.out; omega
        have hld : (coded.drop q).length = L - q := by rw [List.length_drop]; have := HLL.out; omega
        have F1 := Aside0.mk f1
        have F2 := Aside0.mk f2
        have F3 := Aside0.mk f3
        have F4 := Aside0.mk f4
        have F5 := Aside0.mk (show d2.whole = true from f5)
        have F6 := Aside0.mk (show d2.wrong = 0 from f6)
        have F7 := Aside0.mk (show d1.out ++ d2.out = plain from f7)
        have hm1 := feed_mass (coded.take q) (newDec (PL : Int)) 0
        have hfi := feed_fine (coded.take q) (newDec (PL : Int)) 0 (fine_new _ (by omega) (by omega))
        rw [f1] at hm1 hfi
        rw [hlt] at hm1
        have HM1 : Aside0 (d1.mass ≤ q) := ⟨by have e9 : (newDec (PL : Int)).mass = 0 := rfl; simp only [e9] at hm1; omega⟩
        have HFi := Aside0.mk hfi
        have hol : d1.out.length + d2.out.length = plain.length := by rw [← List.length_append, F7.out]
        have hsA : (strOfNums d1.out).size ≤ 16777216 := by rw [strOfNums_size]; have := HPle.out; omega
        have hsB : (strOfNums d2.out).size ≤ 16777216 := by rw [strOfNums_size]; have := HPle.out; omega
        have hEq : strOfNums d1.out ++ strOfNums d2.out = strOfNums plain := by rw [← F7.out, str_append]
        have hLq : ((L - q : Nat) : Int) = (L : Int) - (q : Int) := by omega
        obtain ⟨i5, hi5, hzz⟩ := Option.map_eq_some_iff.1 info_u8
        simp only [Prod.mk.injEq] at hzz
        obtain ⟨A', hcut, hcut2⟩ := print_cut (P := Tryd.prog) 22 5 .i64 Tryd.underlying22 hi5 hzz.2.1 A10 L c10 q (by omega)
        have HCut := Aside0.mk hcut2
        clear hi5 hzz hcut2 hm1 hfi hol
        have HLT := Aside0.mk hlt
        have HLD := Aside0.mk hld
        clear f1 f2 f3 f4 f5 f6 f7 hlt hld hback
        refine (new_calls (PL : Int) _ (by omega) (by omega)).mono ?_
        rintro e w10 ⟨p, rfl, hp, hr1, hb1⟩
        have HP := Aside0.mk hp
        have HR1 := Aside0.mk hr1
        have HN1 := Aside0.mk hb1
        have HB10 := Aside0.mk (below_step HB9.out hb1)
        clear hp hr1 hb1
        go_wp2_with fail
        have hf1 := feed_to w w10 (fun k => k = p) p _ _ _ (newDec (PL : Int)) A10 c10 (coded.take q) HR1.out ⟨HG.out, HB10.out, fun k hk => by rw [hk]; exact Nat.le_trans HB9.out.size HP.out⟩ (by rw [HLT.out]; show 0 + _ ≤ _; omega) (fine_new _ (by omega) (by omega))
          (fun W' hs => by rw [HLT.out]; exact Kd.C_below (C_take HC10.out q (by omega)) (hs.out HN1.out (fun k hk => by rw [hk]; exact HP.out) HN1.out.size)) d1 (coded.take q).length F1.out
        rw [HLT.out] at hf1
        refine hf1.mono ?_
        rintro e w11 ⟨A2, c2, he, ⟨G2, H2, vl2, vt2, hr2, ho2, hF2, hG2⟩, hs2⟩
        rw [F2.out, F3.out] at he
        subst he
        have HR2 := Aside0.mk hr2
        have HO2 := Aside0.mk ho2
        have HHG := Aside0.mk hG2
        have HF9 : Aside0 (∀ k, G2 k → w9.heap.size ≤ k) := ⟨fun k hk => (hF2 k hk).1.elim (fun h => by rw [h]; exact HP.out) (fun h => Nat.le_trans HN1.out.size h)⟩
        have HN2 := Aside0.mk (hs2.out HN1.out (fun k hk => by rw [hk]; exact HP.out) HN1.out.size)
        have HB11 := Aside0.mk (below_then HB9.out HB9.out.size HN2.out)
        clear hr2 ho2 hF2 hG2 hs2
        go_wp2_with fail
        have hf2 := feed_to w w11 G2 p _ _ _ { d1 with out := [] } A' (c10 - q) (coded.drop q) HR2.out ⟨HG.out, HB11.out, fun k hk => Nat.le_trans HB9.out.size (HF9.out k hk)⟩ (by rw [HLD.out]; have := HM1.out; unfold Dec.mass at *; simp only [List.length_nil] at *; omega) ⟨HFi.out.left0, HFi.out.left1, HFi.out.need1, HFi.out.need0⟩
          (fun W' hs => by rw [HLD.out]; exact Kd.C_of_reads (d := (0 : Int)) (h1 := fun _ => rfl) (HCut.out W' .u8 coded hc10 (Kd.reads_of_C (enc := Value.int .u8) (d := (0 : Int)) (h1 := fun _ => rfl) (Kd.C_below HC10.out (hs.out HN2.out HF9.out HN2.out.size))))) d2 (coded.drop q).length F4.out
        rw [HLD.out] at hf2
        refine hf2.mono ?_
        rintro e w12 ⟨A3, c3, he, ⟨G3, H3, vl3, vt3, hr3, ho3, hF3, hG3⟩, hs3⟩
        rw [F5.out, F6.out] at he
        subst he
        have HN3 := Aside0.mk (hs3.out HN2.out HF9.out HN2.out.size)
        have HB12 := Aside0.mk (below_then HB9.out HB9.out.size HN3.out)
        have hcvA : (convert 22 9 (.slice A2 d1.out.length c2)).run Tryd.prog w12 = Result.ok (.string (strOfNums d1.out)) w12 := by
          have h5 : (Kd.int .u8).R 5 w12 0 H2 (.slice A2 d1.out.length c2) d1.out := Kd.R_step HO2.out (fun k hk hl => hs3.block k hl (HHG.out k hk).2.2)
          obtain ⟨Ax, cx, ex, _, hCx⟩ := Kd.R_reads h5
          injection ex with ex1 _ ex2
          subst ex1
          exact Kd.C_string Tryd.underlying22 Tryd.underlying5 Tryd.underlying9 hCx
        have hcvB : (convert 22 9 (.slice A3 d2.out.length c3)).run Tryd.prog w12 = Result.ok (.string (strOfNums d2.out)) w12 := by
          obtain ⟨Ax, cx, ex, _, hCx⟩ := Kd.R_reads ho3
          injection ex with ex1 _ ex2
          subst ex1
          exact Kd.C_string Tryd.underlying22 Tryd.underlying5 Tryd.underlying9 hCx
        have hcvP : (convert 22 9 (.slice A5 PL c5)).run Tryd.prog w12 = Result.ok (.string (strOfNums plain)) w12 := Kd.C_string Tryd.underlying22 Tryd.underlying5 Tryd.underlying9 (Kd.C_below HC5.out HN3.out)
        clear hr3 ho3 hF3 hG3 hs3 hf1 hf2 hcut
        generalize strOfNums d1.out = sA at *
        generalize strOfNums d2.out = sB at *
        generalize strOfNums plain = sP at *
        go_wp2_with fail
        refine (speaks_calls _ (GInv.below' HG (by repeat (first | exact HB12.out | apply below_drew1 | apply pw_below_drewN)))).mono ?_
        rintro e w13 ⟨rfl, hb13⟩
        have HB13 := Aside0.mk (below_step (by repeat (first | exact HB12.out | apply below_drew1 | apply pw_below_drewN)) hb13)
        clear hb13
        go_wp2
        go_ret
        exact ⟨rfl, HB13.out⟩
def headracelaw10_ChunkedCut.f (k : Nat) (l0 : List (List Int)) (a1 : Int) : Option Bool := if (l0.all isB = true) ∧ l0.flatten.length ≤ 16777216 ∧ l0.length ≤ 16777216 then some true else none
theorem headracelaw10_ChunkedCut.calls (k : Nat) (A0 : Option Addr) (c0 : Nat) (l0 : List (List Int)) (a1 : Int) (r : Bool) (w : World) (hr0 : Kd.C (Kd.slice 5 (Kd.int .u8)) w A0 l0.length l0) (hc0 : l0.length ≤ c0) (h : headracelaw10_ChunkedCut.f k l0 a1 = some r) (hG_ : GInv w) :
    Calls Tryd.prog 5 #[.slice A0 l0.length c0, .int .i64 a1] w fun e w' => e = .returned (.bool r) ∧ Below w.heap.size w w' := by
  unfold headracelaw10_ChunkedCut.f at h
  split at h
  · rename_i hl
    obtain rfl := Option.some.inj h
    exact headracelaw10_ChunkedCut.walk_ l0 a1 A0 c0 w hr0 hc0 (fun b hb => List.all_eq_true.1 hl.1 b hb) hl.2.1 hl.2.2 hG_
  · cases h
end Go.Proofs.YtnlicpihondmgaaDoor.P
namespace Go.Proofs.YtnlicpihondmgaaDoor.Px
theorem isB_wf (b : List Int) (h : ∀ x ∈ b, (Go.Lit.int .u8 x).wf = true) : Chk.isB b = true := by
  unfold Chk.isB
  refine List.all_eq_true.2 (fun x hx => ?_)
  have h1 := h x hx
  have e0 : Go.IntKind.u8.min = 0 := by decide
  have e1 : Go.IntKind.u8.max = 255 := by decide
  simp [Go.Lit.wf, e0, e1] at h1
  simp
  omega
theorem pure_ChunkedCut (l : List (List Int)) (a : Int) (hb : l.flatten.length + l.length ≤ 1048576) (hw : ∀ b ∈ l, ∀ x ∈ b, (Go.Lit.int .u8 x).wf = true) (_ : (Go.Lit.int .i64 a).wf = true) : ∃ k, P.headracelaw10_ChunkedCut.f k l a = some true :=
  ⟨0, by unfold P.headracelaw10_ChunkedCut.f; rw [if_pos ⟨List.all_eq_true.2 (fun b hb2 => isB_wf b (hw b hb2)), by omega, by omega⟩]⟩
end Go.Proofs.YtnlicpihondmgaaDoor.Px
