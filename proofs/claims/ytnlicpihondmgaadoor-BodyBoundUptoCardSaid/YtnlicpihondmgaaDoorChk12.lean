/- Package chunked's laws, by hand: speaks; own text of this session. -/
import Derived.Test.YtnlicpihondmgaaDoorChk11
import Derived.Test.YtnlicpihondmgaaDoorP
namespace Go.Proofs.YtnlicpihondmgaaDoor.Chk
open Go.RowKit Go.Proofs.YtnlicpihondmgaaDoorW.PrintWords Go.Proofs.YtnlicpihondmgaaDoorW.PrintLast Go.Proofs.YtnlicpihondmgaaDoorW.PrintMore
set_option linter.unusedVariables false
set_option linter.unusedSimpArgs false
/-- Bytes that lie elsewhere stay what they are. -/
theorem V_stay {w1 : World} {F : Nat → Prop} {B : Nat} {A : Option Addr} {xs : List Int} (h : Kd.F (Kd.int .u8) w1 (fun k => B ≤ k) A xs.length xs) (hF : ∀ k, F k → k < B) : ∀ W', Stay F w1 W' → (Kd.int .u8).C W' A xs.length xs :=
  fun W' hs => h W' (fun k hk hl => hs.block k hl (fun hf => by have := hF k hf; omega))
theorem below_grown {w w1 : World} (h : w.grownBy w1 none) : Below w.heap.size w w1 := ⟨h.os, h.tape, h.output, h.size, fun k hk => h.block k hk (by simp)⟩
theorem chunk2 (w : World) (A : Option Addr) (c : Nat) (hr : Kd.C (Kd.int .u8) w A 2 [97, 98]) (hc : 2 ≤ c) (hG : GInv w) :
    Calls Tryd.prog 19 #[.slice A 2 c] w fun e w' => ∃ v0_ : Value, e = .returned (v0_) ∧ Kd.V (Kd.int .u8) 5 w' w.heap.size (fun k_ => (w.heap.size ≤ k_)) v0_ [50, 13, 10, 97, 98, 13, 10] ∧ Below w.heap.size w w' :=
  P.chunked_Chunk.calls A c [97, 98] [50, 13, 10, 97, 98, 13, 10] w hr hc (by
    show P.chunked_Chunk.f [97, 98] = _
    unfold P.chunked_Chunk.f
    rw [if_neg (by decide), Px.lHexText]
    decide +kernel) hG
set_option maxHeartbeats 8000000 in
set_option maxRecDepth 100000 in
theorem speaks_calls (w : World) (hG : GInv w) :
    Calls Tryd.prog 15 #[] w fun e w' => e = .returned (.bool true) ∧ Below w.heap.size w w' := by
  have HG := Aside0.mk hG
  clear hG
  go_enter Tryd.func15, Tryd.ntmps15
  go_wp2_with fail
  refine (new_calls 9 _ (by decide) (by decide)).mono ?_
  rintro e w1 ⟨p1, rfl, hp1, hr1, hb1⟩
  have HP1 := Aside0.mk hp1
  have HR1 := Aside0.mk hr1
  have HB1 := Aside0.mk hb1
  clear hp1 hr1 hb1
  go_wp2_with fail
  refine (new_calls 9 _ (by decide) (by decide)).mono ?_
  rintro e w2 ⟨p2, rfl, hp2, hr2, hb2⟩
  have HP2 := Aside0.mk hp2
  have HR2 := Aside0.mk hr2
  have HR1b := Aside0.mk (HR1.out.below hb2)
  have HB2 := Aside0.mk (below_step HB1.out hb2)
  clear hp2 hr2 hb2
  go_wp2_with ((with_reducible refine gate_dst (N := 37) rfl ?_); refine V_bytes_const (w0 := w2) 0 5 ?hg (N := 37) ?hd ?hg2 (N2 := 38) ?hd2 22 ?ho2 ?hN ([51, 59, 120, 13, 10, 97, 98, 99, 13, 10, 48, 13, 10, 13, 10] : List Int) ?hr (by simp) Tryd.underlying22 Tryd.underlying5 (Below.refl _ _) (Nat.zero_le _) ?_; (case hg => rfl); (case hd => rfl); (case hg2 => rfl); (case hd2 => rfl); (case ho2 => rfl); (case hN => (simp [Act.put]; done)); (case hr => first | (go_simp; done) | (go_simp; rfl)); intro v1 w3 hV hB hg hown; obtain ⟨A3, c3, e1, hc1, hF1⟩ := hV; have HF3 := Aside0.mk hF1; have HG3 := Aside0.mk hg; clear hF1 hB hg hown hc1; subst e1)
  have hlt1 : p1 < w2.heap.size := HR1b.out.lt
  have hlt2 : p2 < w2.heap.size := HR2.out.lt
  have hne : p1 < p2 := Nat.lt_of_lt_of_le HR1.out.lt HP2.out
  have HB3 := Aside0.mk (below_step HB2.out (below_grown HG3.out))
  refine (feed_calls w w3 (fun k => k = p1) p1 _ _ _ (newDec 9) A3 c3 say1 (HR1b.out.below (below_grown HG3.out)) ⟨HG.out, HB3.out, fun k hk => by rw [hk]; exact HP1.out⟩ (by decide) (fine_new 9 (by decide) (by decide)) (V_stay HF3.out (fun k hk => by rw [hk]; exact hlt1))).mono ?_
  rintro e w4 ⟨v4, he, ⟨F4, G4, vl4, vt4, hr4, ho4, hF4, hG4⟩, hs4⟩
  rw [said1.2.1, said1.2.2.1, said1.2.2.2] at he
  rw [said1.1] at ho4
  subst he
  have HO4 := Aside0.mk ho4
  have HG4 := Aside0.mk hG4
  have HR2c := Aside0.mk ((HR2.out.below (below_grown HG3.out)).move (w1 := w4) (fun k hk hl => hs4.block k hl (by rw [hk]; omega)))
  have HB4 := Aside0.mk (hs4.out HB3.out (fun k hk => by rw [hk]; exact HP1.out) HB3.out.size)
  have HZ4 := Aside0.mk hs4.size
  have HZ3 := Aside0.mk HG3.out.size
  clear hr4 ho4 hF4 hG4 hs4
  go_wp2_with ((with_reducible refine gate_dst (N := 46) rfl ?_); refine V_bytes_const (w0 := w4) 0 5 ?hg (N := 46) ?hd ?hg2 (N2 := 47) ?hd2 22 ?ho2 ?hN ([51, 13, 10, 97, 98, 99, 100] : List Int) ?hr (by simp) Tryd.underlying22 Tryd.underlying5 (Below.refl _ _) (Nat.zero_le _) ?_; (case hg => rfl); (case hd => rfl); (case hg2 => rfl); (case hd2 => rfl); (case ho2 => rfl); (case hN => (simp [Act.put]; done)); (case hr => first | (go_simp; done) | (go_simp; rfl)); intro v1 w5 hV hB hg hown; obtain ⟨A5, c5, e1, hc1, hF1⟩ := hV; have HF5 := Aside0.mk hF1; have HG5 := Aside0.mk hg; clear hF1 hB hg hown hc1; subst e1)
  have HB5 := Aside0.mk (below_step HB4.out (below_grown HG5.out))
  have HO5 := Aside0.mk (Kd.R_below HO4.out (below_grown HG5.out))
  refine (feed_calls w w5 (fun k => k = p2) p2 _ _ _ (newDec 9) A5 c5 say2 (HR2c.out.below (below_grown HG5.out)) ⟨HG.out, HB5.out, fun k hk => by rw [hk]; have := HP1.out; omega⟩ (by decide) (fine_new 9 (by decide) (by decide)) (V_stay HF5.out (fun k hk => by rw [hk]; have := HZ3.out; have := HZ4.out; omega))).mono ?_
  rintro e w6 ⟨v6, he, ⟨F6, G6, vl6, vt6, hr6, ho6, hF6, hG6⟩, hs6⟩
  rw [said2.1, said2.2.1, said2.2.2] at he
  subst he
  have HB6 := Aside0.mk (hs6.out HB5.out (fun k hk => by rw [hk]; have := HP1.out; omega) HB5.out.size)
  have HO6 : Aside0 ((Kd.int .u8).R 5 w6 0 G4 v4 [97, 98, 99]) := ⟨Kd.R_step HO5.out (fun k hk hl => hs6.block k hl (by have h5 := (HG4.out k hk).1; have := HZ3.out; rcases h5 with h5 | h5 <;> omega))⟩
  obtain ⟨A4, c4, e4, hc4, hC4⟩ := Kd.R_reads HO6.out
  subst e4
  have hcv4 : (convert 22 9 (.slice A4 3 c4)).run Tryd.prog w6 = Result.ok (.string ⟨#[97, 98, 99]⟩) w6 := by
    have h5 := Kd.C_string (P := Tryd.prog) (c := c4) Tryd.underlying22 Tryd.underlying5 Tryd.underlying9 hC4
    rw [show strOfNums [97, 98, 99] = ⟨#[97, 98, 99]⟩ from by decide +kernel] at h5
    exact h5
  have hcc : ∀ W : World, (convert 22 22 (.slice (some ⟨W.heap.size, 0, none⟩) 2 2)).run Tryd.prog (W.alloc (.cells #[.int .u8 97, .int .u8 98] 5)) = Result.ok (.slice (some ⟨W.heap.size, 0, none⟩) 2 2) (W.alloc (.cells #[.int .u8 97, .int .u8 98] 5 (2, 3))) := fun W => Lib.run_convert_bytes_const W _ _ #[.int .u8 97, .int .u8 98] 2 2 Tryd.underlying22 Tryd.underlying5
  clear hr6 ho6 hF6 hG6 hs6 hC4
  go_wp2_with fail
  have HB7 := Aside0.mk (below_alloc HB6.out (.cells #[.int .u8 97, .int .u8 98] 5 (2, 3)))
  refine (chunk2 _ _ 2 (C_of_block (xs := [97, 98]) (blk_new w6 (.cells #[.int .u8 97, .int .u8 98] 5 (2, 3))) (fun i hi => by match i, hi with | 0, _ => rfl | 1, _ => rfl) (by simp)) (Nat.le_refl 2) (HG.out.below HB7.out)).mono ?_
  rintro e w8 ⟨v8, rfl, hV8, hb8⟩
  obtain ⟨A8, c8, e8, hc8, hF8⟩ := hV8
  subst e8
  have hcv8 : (convert 22 9 (.slice A8 7 c8)).run Tryd.prog w8 = Result.ok (.string ⟨#[50, 13, 10, 97, 98, 13, 10]⟩) w8 := by
    have h5 := Kd.C_string (P := Tryd.prog) (c := c8) Tryd.underlying22 Tryd.underlying5 Tryd.underlying9 (hF8 w8 (fun _ _ _ => rfl))
    rw [show strOfNums [50, 13, 10, 97, 98, 13, 10] = ⟨#[50, 13, 10, 97, 98, 13, 10]⟩ from by decide +kernel] at h5
    exact h5
  have HB8 := Aside0.mk (below_step HB7.out hb8)
  clear hF8 hb8
  go_wp2
  go_ret
  exact ⟨rfl, HB8.out⟩
end Go.Proofs.YtnlicpihondmgaaDoor.Chk
