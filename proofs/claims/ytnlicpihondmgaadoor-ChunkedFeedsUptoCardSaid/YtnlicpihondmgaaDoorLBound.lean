/- ChunkedBound: the walk and the plain law; own text of this session. -/
import Derived.Test.YtnlicpihondmgaaDoorChC
namespace Go.Proofs.YtnlicpihondmgaaDoor.P
open Go.RowKit Go.Proofs.YtnlicpihondmgaaDoorW.PrintWords Go.Proofs.YtnlicpihondmgaaDoorW.PrintLast Chk
set_option linter.unusedVariables false
set_option linter.unusedSimpArgs false
def headracelaw10_ChunkedBound.f (k : Nat) (a0 : Int) (l1 : List Int) : Option Bool := if l1.length ≤ 2000000000 then some true else none
theorem asked_calls (a0 : Int) (r : Bool) (w : World) (h : headraceref10_Asked.f a0 = some r) :
    Calls Tryd.prog 14 #[.int .i64 a0] w fun e w' => e = .returned (.bool r) ∧ Below w.heap.size w w' :=
  (headraceref10_Asked.calls a0 r w h).mono fun e w' ⟨h1, h2⟩ => ⟨h1, h2.below⟩
set_option maxHeartbeats 4000000 in
set_option maxRecDepth 100000 in
theorem headracelaw10_ChunkedBound.no (a0 : Int) (v : Value) (w : World) (hn : a0 < 0 ∨ 9007199254740992 < a0) (hG_ : GInv w) :
    Calls Tryd.prog 3 #[.int .i64 a0, v] w fun e w' => e = .returned (.bool true) ∧ Below w.heap.size w w' := by
  have HG := Aside0.mk hG_
  have HN := Aside0.mk hn
  have ha : headraceref10_Asked.f a0 = some false := by
    unfold headraceref10_Asked.f
    rcases hn with h | h
    · rw [if_neg (by omega)]
    · by_cases h0 : a0 ≥ 0
      · rw [if_pos h0, decide_eq_false (by omega)]
      · rw [if_neg h0]
  have HA := Aside0.mk ha
  clear hG_ hn ha
  go_enter Tryd.func3, Tryd.ntmps3
  go_wp2_with fail
  refine (new_no a0 _ HN.out).mono ?_
  rintro e w1 ⟨rfl, hb1⟩
  have HB1 := Aside0.mk hb1
  clear hb1
  go_wp2_with fail
  refine (asked_calls a0 false _ HA.out).mono ?_
  rintro e w2 ⟨rfl, hb2⟩
  have HB2 := Aside0.mk (below_step (by repeat (first | exact HB1.out | apply below_drew1 | apply pw_below_drewN)) hb2)
  clear hb2
  go_wp2_with fail
  refine (speaks_calls _ (GInv.below' HG (by repeat (first | exact HB2.out | apply below_drew1 | apply pw_below_drewN)))).mono ?_
  rintro e w3 ⟨rfl, hb3⟩
  have HB3 := Aside0.mk (below_step (by repeat (first | exact HB2.out | apply below_drew1 | apply pw_below_drewN)) hb3)
  clear hb3
  go_wp2
  go_ret
  exact ⟨rfl, HB3.out⟩
set_option maxHeartbeats 8000000 in
set_option maxRecDepth 100000 in
theorem headracelaw10_ChunkedBound.yes (a0 : Int) (A0 : Option Addr) (c0 : Nat) (l0 : List Int) (w : World) (h0 : 0 ≤ a0) (h1 : a0 ≤ 9007199254740992) (hr0 : Kd.C (Kd.int .u8) w A0 l0.length l0) (hc0 : l0.length ≤ c0) (hl : l0.length ≤ 2000000000) (hG_ : GInv w) :
    Calls Tryd.prog 3 #[.int .i64 a0, .slice A0 l0.length c0] w fun e w' => e = .returned (.bool true) ∧ Below w.heap.size w w' := by
  have HG := Aside0.mk hG_
  have HR := Aside0.mk hr0
  have HC := Aside0.mk hc0
  have HL := Aside0.mk hl
  obtain ⟨⟨d1, n1⟩, hf⟩ : ∃ r, r = feedGo (newDec a0) l0 0 := ⟨_, rfl⟩
  have hb := feed_bound a0 l0 h0 h1
  have hn := feed_len l0 (newDec a0) 0
  have hfine := feed_fine l0 (newDec a0) 0 (fine_new a0 h0 h1)
  have hmass := feed_mass l0 (newDec a0) 0
  rw [← hf] at hb hn hfine hmass
  have HF := Aside0.mk hf.symm
  have HN := Aside0.mk hn
  have HFi := Aside0.mk hfine
  have HMa := Aside0.mk hmass
  have HB0 := Aside0.mk hb
  have H0 := Aside0.mk h0
  have H1 := Aside0.mk h1
  obtain ⟨N, hN⟩ : ∃ N, N = l0.length := ⟨_, rfl⟩
  have HNN := Aside0.mk hN
  have hNle : (N : Int) ≤ 2000000000 := by omega
  rw [← hN]
  obtain ⟨i5, hi5, hzz⟩ := Option.map_eq_some_iff.1 info_u8
  simp only [Prod.mk.injEq] at hzz
  have hn1 : n1 ≤ N := by have := hn.2.1; omega
  have hn1' : ¬ (N : Int) < (n1 : Int) := by omega
  have hn1'' : ¬ (n1 : Int) < 0 := by omega
  obtain ⟨A', hcut, hcut2⟩ := print_cut (P := Tryd.prog) 22 5 .i64 Tryd.underlying22 hi5 hzz.2.1 A0 N c0 n1 hn1
  have HCut := Aside0.mk hcut2
  obtain ⟨M, hM⟩ : ∃ M, M = d1.out.length := ⟨_, rfl⟩
  have HM := Aside0.mk hM
  have hMle : ¬ a0 < (M : Int) := by have := hb; simp only at this; omega
  have hMle2 : (M : Int) ≤ 9007199254740992 := by have := hb; simp only at this; omega
  clear hG_ hr0 hc0 hl hf hb hn hfine hmass h0 h1 hN hi5 hzz hcut2 hn1 hM
  go_enter Tryd.func3, Tryd.ntmps3
  go_wp2_with fail
  refine (new_calls a0 _ H0.out H1.out).mono ?_
  rintro e w1 ⟨p, rfl, hp, hr1, hb1⟩
  have HP := Aside0.mk hp
  have HR1 := Aside0.mk hr1
  have HB1 := Aside0.mk hb1
  clear hp hr1 hb1
  go_wp2_with fail
  rw [HNN.out]
  refine (feed_to w w1 (fun k => k = p) p _ _ _ (newDec a0) A0 c0 l0 HR1.out ⟨HG.out, HB1.out, fun k hk => by rw [hk]; exact HP.out⟩ (by have := HL.out; show 0 + _ ≤ _; omega) (fine_new a0 H0.out H1.out) (fun W' hs => Kd.C_below HR.out (hs.out HB1.out (fun k hk => by rw [hk]; exact HP.out) HB1.out.size)) d1 n1 HF.out).mono ?_
  rintro e w2 ⟨A2, c2, rfl, ⟨F2, G2, vl2, vt2, hr2, ho2, hF2, hG2⟩, hs2⟩
  rw [← HNN.out, ← HM.out]
  have HR2 := Aside0.mk hr2
  have HF2 : Aside0 (∀ k, F2 k → w.heap.size ≤ k) := ⟨fun k hk => (hF2 k hk).1.elim (fun h => by rw [h]; exact HP.out) (fun h => Nat.le_trans HB1.out.size h)⟩
  have HB2 := Aside0.mk (hs2.out HB1.out (fun k hk => by rw [hk]; exact HP.out) HB1.out.size)
  clear hr2 ho2 hF2 hG2 hs2
  go_wp2_with fail
  have hdl : (l0.drop n1).length = N - n1 := by rw [List.length_drop, ← HNN.out]
  have hFe := feed_to w w2 F2 p _ _ _ { d1 with out := [] } A' (c0 - n1) (l0.drop n1) HR2.out ⟨HG.out, HB2.out, HF2.out⟩ (by have := HMa.out; have := HL.out; rw [hdl]; unfold Dec.mass at *; simp only [newDec, List.length_nil] at *; have := HNN.out; omega) ⟨HFi.out.left0, HFi.out.left1, HFi.out.need1, HFi.out.need0⟩
    (fun W' hs => by rw [hdl]; exact Kd.C_of_reads (d := (0 : Int)) (h1 := fun _ => rfl) (HCut.out W' .u8 l0 (by rw [HNN.out]; exact HC.out) (by rw [HNN.out]; exact Kd.reads_of_C (enc := Value.int .u8) (d := (0 : Int)) (h1 := fun _ => rfl) (Kd.C_below HR.out (hs.out HB2.out HF2.out HB2.out.size)))))
    { d1 with out := [] } 0 (feed_stop _ _ _ (by
      rcases HN.out.2.2 with h | h
      · exact .inl (List.drop_eq_nil_of_le (by omega))
      · exact .inr h))
  rw [hdl] at hFe
  refine hFe.mono ?_
  rintro e w3 ⟨A3, c3, rfl, _, hs3⟩
  have HB3 := Aside0.mk (hs3.out HB2.out HF2.out HB2.out.size)
  clear hs3 hFe hdl
  by_cases hnN : n1 = N
  · have bn : ((n1 : Int) == (N : Int)) = true := by rw [hnN]; simp
    go_wp2_with fail
    refine (speaks_calls _ (GInv.below' HG (by repeat (first | exact HB3.out | apply below_drew1 | apply pw_below_drewN)))).mono ?_
    rintro e w4 ⟨rfl, hb4⟩
    have HB4 := Aside0.mk (below_step (by repeat (first | exact HB3.out | apply below_drew1 | apply pw_below_drewN)) hb4)
    clear hb4
    go_wp2
    go_ret
    exact ⟨rfl, HB4.out⟩
  · have bn : ((n1 : Int) == (N : Int)) = false := by simpa using (show ¬ (n1 : Int) = (N : Int) from by omega)
    have hw := HN.out.2.2
    rcases hw with h | h
    · exact absurd (by rw [HNN.out]; omega) hnN
    · cases hwh : d1.whole with
      | true =>
        go_wp2_with fail
        refine (speaks_calls _ (GInv.below' HG (by repeat (first | exact HB3.out | apply below_drew1 | apply pw_below_drewN)))).mono ?_
        rintro e w4 ⟨rfl, hb4⟩
        have HB4 := Aside0.mk (below_step (by repeat (first | exact HB3.out | apply below_drew1 | apply pw_below_drewN)) hb4)
        clear hb4
        go_wp2
        go_ret
        exact ⟨rfl, HB4.out⟩
      | false =>
        have bw : (d1.wrong != 0) = true := by
          rcases h with h | h
          · rw [hwh] at h; cases h
          · simpa using h
        clear h
        go_wp2_with fail
        refine (speaks_calls _ (GInv.below' HG (by repeat (first | exact HB3.out | apply below_drew1 | apply pw_below_drewN)))).mono ?_
        rintro e w4 ⟨rfl, hb4⟩
        have HB4 := Aside0.mk (below_step (by repeat (first | exact HB3.out | apply below_drew1 | apply pw_below_drewN)) hb4)
        clear hb4
        go_wp2
        go_ret
        exact ⟨rfl, HB4.out⟩
theorem headracelaw10_ChunkedBound.calls (k : Nat) (a0 : Int) (A0 : Option Addr) (c0 : Nat) (l0 : List Int) (r : Bool) (w : World) (hr0 : Kd.C (Kd.int .u8) w A0 l0.length l0) (hc0 : l0.length ≤ c0) (h : headracelaw10_ChunkedBound.f k a0 l0 = some r) (hG_ : GInv w) :
    Calls Tryd.prog 3 #[.int .i64 a0, .slice A0 l0.length c0] w fun e w' => e = .returned (.bool r) ∧ Below w.heap.size w w' := by
  unfold headracelaw10_ChunkedBound.f at h
  by_cases hl : l0.length ≤ 2000000000
  · rw [if_pos hl] at h
    obtain rfl := Option.some.inj h
    by_cases hn : a0 < 0 ∨ 9007199254740992 < a0
    · exact headracelaw10_ChunkedBound.no a0 _ w hn hG_
    · exact headracelaw10_ChunkedBound.yes a0 A0 c0 l0 w (by omega) (by omega) hr0 hc0 hl hG_
  · rw [if_neg hl] at h; cases h
end Go.Proofs.YtnlicpihondmgaaDoor.P
namespace Go.Proofs.YtnlicpihondmgaaDoor.Px
theorem pure_ChunkedBound (a : Int) (l : List Int) (_ : (Go.Lit.int .i64 a).wf = true) (hb : l.length ≤ 1048576) (_ : ∀ x ∈ l, (Go.Lit.int .u8 x).wf = true) : ∃ k, P.headracelaw10_ChunkedBound.f k a l = some true := ⟨0, by unfold P.headracelaw10_ChunkedBound.f; rw [if_pos (by omega)]⟩
end Go.Proofs.YtnlicpihondmgaaDoor.Px
