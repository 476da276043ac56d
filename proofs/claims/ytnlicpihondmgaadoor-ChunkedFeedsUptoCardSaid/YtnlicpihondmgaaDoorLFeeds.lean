/- ChunkedFeeds: the walk; own text of this session. -/
import Derived.Test.YtnlicpihondmgaaDoorRfD
import Derived.Test.YtnlicpihondmgaaDoorRefG
import Derived.Test.YtnlicpihondmgaaDoorLBound
import Derived.Deep.RegionWith
import Derived.Deep.RegionHeld3
namespace Go.Proofs.YtnlicpihondmgaaDoor.P
open Go.RowKit Go.Proofs.YtnlicpihondmgaaDoorW.PrintWords Go.Proofs.YtnlicpihondmgaaDoorW.PrintLast Chk
set_option linter.unusedVariables false
set_option linter.unusedSimpArgs false
set_option maxHeartbeats 4000000 in
set_option maxRecDepth 100000 in
theorem headracelaw10_ChunkedFeeds.no (a0 : Int) (v : Value) (w : World) (hn : a0 < 0 ∨ 9007199254740992 < a0) (hG_ : GInv w) :
    Calls Tryd.prog 6 #[.int .i64 a0, v] w fun e w' => e = .returned (.bool true) ∧ Below w.heap.size w w' := by
  have HG := Aside0.mk hG_
  have HN := Aside0.mk hn
  have ha : headraceref10_Asked.f a0 = some false := by
    unfold headraceref10_Asked.f
    rcases hn with h | h
    · rw [if_neg (by omega)]
    · by_cases h0 : a0 ≥ 0
      · rw [if_pos h0, decide_eq_false (by omega)]
      · rw [if_neg h0]
  have HA := Aside0.mk ha
  clear hG_ hn ha
  go_enter Tryd.func6, Tryd.ntmps6
  go_wp2_with fail
  refine (new_no a0 _ HN.out).mono ?_
  rintro e w1 ⟨rfl, hb1⟩
  have HB1 := Aside0.mk hb1
  clear hb1
  go_wp2_with fail
  refine (asked_calls a0 false _ HA.out).mono ?_
  rintro e w2 ⟨rfl, hb2⟩
  have HB2 := Aside0.mk (below_step (by repeat (first | exact HB1.out | apply below_drew1 | apply pw_below_drewN)) hb2)
  clear hb2
  go_wp2_with fail
  refine (speaks_calls _ (GInv.below' HG (by repeat (first | exact HB2.out | apply below_drew1 | apply pw_below_drewN)))).mono ?_
  rintro e w3 ⟨rfl, hb3⟩
  have HB3 := Aside0.mk (below_step (by repeat (first | exact HB2.out | apply below_drew1 | apply pw_below_drewN)) hb3)
  clear hb3
  go_wp2
  go_ret
  exact ⟨rfl, HB3.out⟩
set_option maxHeartbeats 16000000 in
set_option maxRecDepth 100000 in
theorem headracelaw10_ChunkedFeeds.yes (most : Int) (ps : List (List Int)) (A0 : Option Addr) (c0 : Nat) (w : World) (h0 : 0 ≤ most) (h1 : most ≤ 9007199254740992) (hr0 : Kd.C (Kd.slice 5 (Kd.int .u8)) w A0 ps.length ps) (hc0 : ps.length ≤ c0)
    (hl : ps.flatten.length ≤ 16777216) (hp : ps.length ≤ 16777216) (hG_ : GInv w) :
    Calls Tryd.prog 6 #[.int .i64 most, .slice A0 ps.length c0] w fun e w' => e = .returned (.bool true) ∧ Below w.heap.size w w' := by
  have ha : headraceref10_Asked.f most = some true := by
    unfold headraceref10_Asked.f
    rw [if_pos (by omega), decide_eq_true (by omega)]
  have HA := Aside0.mk ha
  have HG := Aside0.mk hG_
  have HR := Aside0.mk hr0
  have HLn := Aside0.mk hl
  have H0 := Aside0.mk h0
  have H1 := Aside0.mk h1
  obtain ⟨N, hN⟩ : ∃ N, N = ps.length := ⟨_, rfl⟩
  have HN := Aside0.mk hN
  have hNle : (N : Int) ≤ 16777216 := by omega
  rw [← hN]
  clear ha hG_ hr0 hc0 hl hp hN
  go_enter Tryd.func6, Tryd.ntmps6
  go_wp2_with fail
  refine (new_calls most _ H0.out H1.out).mono ?_
  rintro e w1 ⟨p, rfl, hp, hr1, hb1⟩
  have HP := Aside0.mk hp
  have HD1 := Aside0.mk hr1
  have HB1 := Aside0.mk hb1
  clear hp hr1 hb1
  go_wp2_with fail
  refine (asked_calls most true _ HA.out).mono ?_
  rintro e w2 ⟨rfl, hb2⟩
  have HB2 := Aside0.mk (below_step HB1.out hb2)
  have HD2 := Aside0.mk (HD1.out.below hb2)
  clear hb2 HD1
  go_wp2_with (first | ((with_reducible refine gate_dst (N := 8) rfl ?_); refine box_event ?hg (N := 8) ?hd (cs := #[.slice none 0 0, .slice none 0 0, .int .i64 0, .bool false, .int .i64 0]) (t := 42) ?hr ?_; (case hd => rfl); (case hg => rfl); (case hr => first | (go_simp; done) | (go_simp; rfl)); intro g8 hg_ w8 hbox_ hb_; have sz0 : w8.cell? ⟨g8, 0, none⟩ = some (.slice none 0 0) := (blk_cell hbox_ 0).trans rfl; have sz1 : w8.cell? ⟨g8, 1, none⟩ = some (.slice none 0 0) := (blk_cell hbox_ 1).trans rfl; have sz2 : w8.cell? ⟨g8, 2, none⟩ = some (.int .i64 0) := (blk_cell hbox_ 2).trans rfl; have sz3 : w8.cell? ⟨g8, 3, none⟩ = some (.bool false) := (blk_cell hbox_ 3).trans rfl; have sz4 : w8.cell? ⟨g8, 4, none⟩ = some (.int .i64 0) := (blk_cell hbox_ 4).trans rfl; have sf0 := blk_frozen hbox_ 0; have sf1 := blk_frozen hbox_ 1; have sf2 := blk_frozen hbox_ 2; have sf3 := blk_frozen hbox_ 3; have sf4 := blk_frozen hbox_ 4; have K8 := Aside0.mk hbox_; have HB8 := Aside0.mk hb_; have HG8 := Aside0.mk hg_; clear hbox_ hb_ hg_) | fail)
  have HGE8 : Aside0 (w.heap.size ≤ g8) := ⟨by rw [HG8.out]; exact HB2.out.size⟩
  have hp8 : ¬ p = g8 := by rw [HG8.out]; have := HD2.out.lt; omega
  have HS8 : Aside0 ((((((w8.setCell ⟨g8, 0, none⟩ (.slice none 0 0)).setCell ⟨g8, 1, none⟩ (.slice none 0 0)).setCell ⟨g8, 2, none⟩ (.int .i64 0)).setCell ⟨g8, 3, none⟩ (.bool false)).setCell ⟨g8, 4, none⟩ (.int .i64 0)).heap[g8]? = some (.cells (rdc (.slice none 0 0) (.slice none 0 0) ((0 : Nat) : Int) false 0) 42 (0, 0))) := ⟨blk_five K8.out⟩
  have HBS8 : Aside0 (Below w.heap.size w (((((w8.setCell ⟨g8, 0, none⟩ (.slice none 0 0)).setCell ⟨g8, 1, none⟩ (.slice none 0 0)).setCell ⟨g8, 2, none⟩ (.int .i64 0)).setCell ⟨g8, 3, none⟩ (.bool false)).setCell ⟨g8, 4, none⟩ (.int .i64 0))) := ⟨((((((below_step HB2.out HB8.out)).setCell (p := ⟨g8, 0, none⟩) HGE8.out _).setCell (p := ⟨g8, 1, none⟩) HGE8.out _).setCell (p := ⟨g8, 2, none⟩) HGE8.out _).setCell (p := ⟨g8, 3, none⟩) HGE8.out _).setCell (p := ⟨g8, 4, none⟩) HGE8.out _⟩
  have HDS8 : Aside0 (Rep (((((w8.setCell ⟨g8, 0, none⟩ (.slice none 0 0)).setCell ⟨g8, 1, none⟩ (.slice none 0 0)).setCell ⟨g8, 2, none⟩ (.int .i64 0)).setCell ⟨g8, 3, none⟩ (.bool false)).setCell ⟨g8, 4, none⟩ (.int .i64 0)) (fun k => k = p) p (.slice none 0 0) (.slice none 0 0) (.slice none 0 0) (newDec most)) := ⟨(HD2.out.below HB8.out).move (fun k hk _ => by rw [hk]; rw [Below.heap_setCell _ _ _ _ hp8, Below.heap_setCell _ _ _ _ hp8, Below.heap_setCell _ _ _ _ hp8, Below.heap_setCell _ _ _ _ hp8, Below.heap_setCell _ _ _ _ hp8])⟩
  have HPZ : Aside0 (p < (((((w8.setCell ⟨g8, 0, none⟩ (.slice none 0 0)).setCell ⟨g8, 1, none⟩ (.slice none 0 0)).setCell ⟨g8, 2, none⟩ (.int .i64 0)).setCell ⟨g8, 3, none⟩ (.bool false)).setCell ⟨g8, 4, none⟩ (.int .i64 0)).heap.size) := ⟨by rw [set_size', set_size', set_size', set_size', set_size']; exact Nat.lt_of_lt_of_le HD2.out.lt HB8.out.size⟩
  clear HB8 HD2 sz0 sz1 sz2 sz3 sz4 sf0 sf1 sf2 sf3 sf4
  go_loopw [7, 42] (fun x7 x42 wr => ∃ (kk : Nat) (v : Value) (x : List Int) (dk : Dec) (nk : Nat) (F : Nat → Prop) (vl vt vT : Value) (AO : Option Addr) (LO cO : Nat), kk ≤ N ∧ v = x7 ∧ x42 = .int .i64 kk ∧ Aside0 (x = (ps.take kk).flatten) ∧ Aside0 (feedGo (newDec most) x 0 = (dk, nk)) ∧ Aside0 (Rep wr F p vl (.slice none 0 0) vt { dk with out := [] }) ∧ Aside0 (∀ k, F k → w.heap.size ≤ k ∧ k < wr.heap.size ∧ k ≠ g8) ∧
    Aside0 (wr.heap[g8]? = some (.cells (rdc (.slice AO LO cO) vT (nk : Int) dk.whole dk.wrong) 42 (0, 0))) ∧ Aside0 (LO = dk.out.length) ∧ Aside0 ((Kd.int .u8).R 5 wr w.heap.size (fun k => ¬ F k ∧ k ≠ g8) v x) ∧ Aside0 (Below w.heap.size w wr)) (fun _ x42 _ => N - (intOf x42).toNat)
  case atStart => exact ⟨0, _, [], newDec most, 0, (fun k => k = p), _, _, _, none, 0, 0, Nat.zero_le _, rfl, rfl, ⟨rfl⟩, ⟨rfl⟩, HDS8, ⟨fun k hk => by rw [hk]; exact ⟨HP.out, HPZ.out, hp8⟩⟩, HS8, ⟨rfl⟩, ⟨Kd.R_nil _ _ _ _ _⟩, HBS8⟩
  case round =>
    obtain ⟨kk, v, x, dk, nk, F, vl, vt, vT, AO, LO, cO, hkk, rfl, rfl, HX, HFd, HD, HF, HK8, HLO, HRx, HB⟩ := hrel
    clear HS8 HBS8 HDS8 HPZ
    by_cases hlt : kk < N
    · have hltz : (kk : Int) < (N : Int) := by omega
      have hkl : kk < ps.length := by rw [← HN.out]; exact hlt
      obtain ⟨ad, Ab, cb, eA, hx, hcb, hCb⟩ := at_row HR.out kk hkl rfl
      cases eA
      replace hx := (HB.out.cell (World.block_lt_of_cell? w _ hx)).trans hx
      have hta : (ps.take (kk + 1)).flatten = x ++ ps[kk] := by rw [HX.out, List.take_succ_eq_append_getElem hkl, List.flatten_append, List.flatten_singleton]
      have hrl := row_le ps kk hkl
      rw [← HX.out] at hrl
      generalize ps[kk] = b at hx hcb hCb hta hrl
      obtain ⟨y, hy⟩ : ∃ y, y = x ++ b := ⟨_, rfl⟩
      rw [← hy] at hta
      have HY := Aside0.mk hy
      obtain ⟨L7, hL7⟩ : ∃ m, m = y.length := ⟨_, rfl⟩
      have HL7 := Aside0.mk hL7
      have hL7le : (L7 : Int) ≤ 16777216 := by rw [hL7, hy, List.length_append]; have := HLn.out; omega
      clear hy hL7
      have HTA := Aside0.mk hta
      have HCB := Aside0.mk hCb
      have Hcb := Aside0.mk hcb
      have HBL : Aside0 (x.length + b.length ≤ 16777216) := ⟨by have := HLn.out; omega⟩
      obtain ⟨LB, hLB⟩ : ∃ m, m = b.length := ⟨_, rfl⟩
      have HLB := Aside0.mk hLB
      rw [← hLB] at hx
      have hLBle : (LB : Int) ≤ 16777216 := by have := HBL.out; omega
      clear hta hrl hcb hCb hkl hLB
      -- what comes of it, plainly
      obtain ⟨⟨d1, n1⟩, hq⟩ : ∃ q, q = feedGo { dk with out := [] } b 0 := ⟨_, rfl⟩
      have HQ := Aside0.mk hq.symm
      have hAll := feed_cont (newDec most) x b (dk, nk) (d1, n1) HFd.out hq.symm
      rw [← HY.out] at hAll
      have hmk := feed_mass x (newDec most) 0
      have hfk := feed_fine x (newDec most) 0 (fine_new most H0.out H1.out)
      have hlk := feed_len x (newDec most) 0
      rw [HFd.out] at hmk hfk hlk
      have hm1 := feed_mass b { dk with out := [] } 0
      have hl1 := feed_len b { dk with out := [] } 0
      rw [← hq] at hm1 hl1
      have hm0 : (newDec most).mass = 0 := rfl
      have hmd : ({ dk with out := [] } : Dec).mass ≤ dk.mass := by unfold Dec.mass; simp only [List.length_nil]; omega
      have hdm : dk.mass ≤ 16777216 := by have := HBL.out; simp only at hmk; omega
      have HMk := Aside0.mk hdm
      have HMd := Aside0.mk hmd
      have HFk := Aside0.mk hfk
      have hn1 : (n1 : Int) ≤ 16777216 := by have := HBL.out; have := hl1.2.1; simp only at this; omega
      have hnk : (nk : Int) ≤ 16777216 := by have := HBL.out; have := hlk.2.1; simp only at this; omega
      have h1m : d1.mass ≤ 33554432 := by have := HBL.out; simp only at hm1; omega
      have HTl : Aside0 (d1.tr.length ≤ 4294960000) := ⟨by unfold Dec.mass at h1m; omega⟩
      have hol : d1.out.length ≤ 33554432 := by unfold Dec.mass at h1m; omega
      have hLOl : LO ≤ 16777216 := by rw [HLO.out]; unfold Dec.mass at hdm; omega
      have HAll := Aside0.mk hAll
      obtain ⟨n3, hn3⟩ : ∃ m, m = n1 + nk := ⟨_, rfl⟩
      rw [← hn3] at hAll
      have HAl3 := Aside0.mk hAll
      have hn3z : (n3 : Int) - (nk : Int) = (n1 : Int) := by omega
      have hn3l : (n3 : Int) ≤ 33554432 := by omega
      have bq : ((n1 : Int) != (n3 : Int) - (nk : Int)) = false := by rw [hn3z]; simp
      have bqw : ((n1 : Int) != IntKind.i64.wrap ((n3 : Int) - (nk : Int))) = false := by rw [hn3z, IntWalk.i64_in (n1 : Int) (by omega)]; simp
      clear hn3z
      have bwh : (d1.whole != d1.whole) = false := by cases d1.whole <;> rfl
      have bwr : (d1.wrong != d1.wrong) = false := by simp
      clear hq hAll hmk hfk hlk hm1 hl1 hm0 hmd hdm h1m hn3 HAll
      go_wp2_with (first
        | ((with_reducible refine gate_builtin (b := .append) (xs := #[.tmp 46, .tmp 47]) rfl ?_); at_builtin; refine Kd.R_append_row (Value.int .u8) 0 (h1 := fun _ => rfl) (w0 := wr) w.heap.size rfl (.tmp 46) (.tmp 47) 22 5 (.int .u8 0) 1 rfl Tryd.underlying22 info_u8 rfl (by decide) v x b Ab LB cb (fun k => ¬ F k ∧ k ≠ g8) rfl rfl (fun k hk => ⟨fun h => by have := (HF.out k h).2.1; omega, by have := blk_lt HK8.out; omega⟩) HRx.out (by rw [HLB.out]; exact Kd.C_below HCB.out HB.out) (Below.refl _ _) HB.out.size (by have := HBL.out; have := HLB.out; omega) ?_; intro v7 w7 hR7 hb7 hg7 hat7; have HB7 := Aside0.mk (HB.out.trans hb7); rw [← HY.out] at hR7; obtain ⟨A7, c7, e7, hc7, hC7⟩ := Kd.R_reads hR7; rw [← HL7.out] at e7; have HR7 := Aside0.mk hR7; have HC7 := Aside0.mk hC7; have Hc7 := Aside0.mk hc7; have hvF : ∀ k, F k → some k ≠ v.ownBlock := (fun k hk he => (HRx.out.1 k he.symm).1 hk); have HD7 := Aside0.mk (HD.out.move (fun k hk hl => hg7.block k hl (hvF k hk))); have HK87 := Aside0.mk ((hg7.block g8 (blk_lt HK8.out) (fun he => (HRx.out.1 g8 he.symm).2 rfl)).trans HK8.out); have HS7 : Aside0 (wr.heap.size ≤ w7.heap.size) := ⟨hb7.size⟩; subst e7; clear hR7 hb7 hg7 hat7 hc7 hC7 hvF)
        | fail)
      have hA7 := all_ref y (by rw [← HL7.out]; omega) most H0.out H1.out A7 c7 w7 HC7.out Hc7.out
      rw [← HL7.out, HAl3.out] at hA7
      refine hA7.mono ?_
      clear hA7
      rintro e w8 ⟨vO8, vT8, he, hO8, hT8, hb8⟩
      replace he : e = .returned (.agg #[vO8, vT8, .int .i64 (n3 : Int), .bool d1.whole, .int .i64 d1.wrong]) := he
      subst he
      replace hO8 : (Kd.int .u8).R 5 w8 w7.heap.size (fun _ => True) vO8 (dk.out ++ d1.out) := hO8
      replace hT8 : fldK.R 49 w8 w7.heap.size (fun _ => True) vT8 (if d1.whole = true then d1.tr else []) := hT8
      obtain ⟨AW, cW, eW, hcW, hCW⟩ := Kd.R_reads hO8
      obtain ⟨AT, cT, eT, hcT, hCT⟩ := Kd.R_reads hT8
      obtain ⟨LW, hLW⟩ : ∃ m, m = (dk.out ++ d1.out).length := ⟨_, rfl⟩
      obtain ⟨NT, hNT⟩ : ∃ m, m = (if d1.whole = true then d1.tr else []).length := ⟨_, rfl⟩
      have HLW := Aside0.mk hLW
      have HNT := Aside0.mk hNT
      rw [← hLW] at eW
      rw [← hNT] at eT
      subst eW
      subst eT
      have HLWz : Aside0 (LW = LO + d1.out.length) := ⟨by rw [hLW, List.length_append, HLO.out]⟩
      have HcW : Aside0 (LW ≤ cW) := ⟨by rw [hLW]; exact hcW⟩
      have HTcap := Aside0.mk hcT
      have HNTl : Aside0 (NT ≤ 4294960000) := ⟨by rw [hNT]; split; exact HTl.out; exact Nat.zero_le _⟩
      have HO8 := Aside0.mk hO8
      have HT8 := Aside0.mk hT8
      have HB8 := Aside0.mk (below_step HB7.out hb8)
      have HB87 := Aside0.mk hb8
      clear hb8 hO8 hT8 hcW hCW hcT hCT hLW hNT
      go_wp2_with (first | ((with_reducible refine gate_dst (N := 11) rfl ?_); refine box_event ?hg (N := 11) ?hd (cs := #[.slice none 0 0, .slice none 0 0, .int .i64 0, .bool false, .int .i64 0]) (t := 42) ?hr ?_; (case hd => rfl); (case hg => rfl); (case hr => first | (go_simp; done) | (go_simp; rfl)); intro g11 hg_ w11 hbox_ hb_; have bz0 : w11.cell? ⟨g11, 0, none⟩ = some (.slice none 0 0) := (blk_cell hbox_ 0).trans rfl; have bz1 : w11.cell? ⟨g11, 1, none⟩ = some (.slice none 0 0) := (blk_cell hbox_ 1).trans rfl; have bz2 : w11.cell? ⟨g11, 2, none⟩ = some (.int .i64 0) := (blk_cell hbox_ 2).trans rfl; have bz3 : w11.cell? ⟨g11, 3, none⟩ = some (.bool false) := (blk_cell hbox_ 3).trans rfl; have bz4 : w11.cell? ⟨g11, 4, none⟩ = some (.int .i64 0) := (blk_cell hbox_ 4).trans rfl; have bf0 := blk_frozen hbox_ 0; have bf1 := blk_frozen hbox_ 1; have bf2 := blk_frozen hbox_ 2; have bf3 := blk_frozen hbox_ 3; have bf4 := blk_frozen hbox_ 4; have K11 := Aside0.mk hbox_; have HB11 := Aside0.mk hb_; have HG11 := Aside0.mk hg_; clear hbox_ hb_ hg_) | fail)
      have hg8l : g8 < w8.heap.size := Nat.lt_of_lt_of_le (blk_lt HK87.out) HB87.out.size
      have h811 : ¬ g8 = g11 := by rw [HG11.out]; omega
      have h118 : ¬ g11 = g8 := fun h => h811 h.symm
      have HSb : Aside0 (Below w8.heap.size w8 (((((w11.setCell ⟨g11, 0, none⟩ (.slice AW LW cW)).setCell ⟨g11, 1, none⟩ (.slice AT NT cT)).setCell ⟨g11, 2, none⟩ (.int .i64 (n3 : Int))).setCell ⟨g11, 3, none⟩ (.bool d1.whole)).setCell ⟨g11, 4, none⟩ (.int .i64 d1.wrong))) := ⟨(((((HB11.out).setCell (p := ⟨g11, 0, none⟩) (by rw [HG11.out]; exact Nat.le_refl _) _).setCell (p := ⟨g11, 1, none⟩) (by rw [HG11.out]; exact Nat.le_refl _) _).setCell (p := ⟨g11, 2, none⟩) (by rw [HG11.out]; exact Nat.le_refl _) _).setCell (p := ⟨g11, 3, none⟩) (by rw [HG11.out]; exact Nat.le_refl _) _).setCell (p := ⟨g11, 4, none⟩) (by rw [HG11.out]; exact Nat.le_refl _) _⟩
      have HK8s := Aside0.mk ((HSb.out.block g8 hg8l).trans ((HB87.out.block g8 (blk_lt HK87.out)).trans HK87.out))
      have HK11s : Aside0 ((((((w11.setCell ⟨g11, 0, none⟩ (.slice AW LW cW)).setCell ⟨g11, 1, none⟩ (.slice AT NT cT)).setCell ⟨g11, 2, none⟩ (.int .i64 (n3 : Int))).setCell ⟨g11, 3, none⟩ (.bool d1.whole)).setCell ⟨g11, 4, none⟩ (.int .i64 d1.wrong)).heap[g11]? = some (.cells (rdc (.slice AW LW cW) (.slice AT NT cT) (n3 : Int) d1.whole d1.wrong) 42 (0, 0))) := ⟨blk_five K11.out⟩
      have HDs := Aside0.mk ((HD7.out.below HB87.out).below HSb.out)
      have HOs := Aside0.mk (Kd.R_below HO8.out HSb.out)
      have HTs := Aside0.mk (Kd.R_below HT8.out HSb.out)
      have HRs := Aside0.mk (Kd.R_below (Kd.R_below HR7.out HB87.out) HSb.out)
      have HBs := Aside0.mk (below_step HB8.out HSb.out)
      have HSz : Aside0 (w8.heap.size ≤ (((((w11.setCell ⟨g11, 0, none⟩ (.slice AW LW cW)).setCell ⟨g11, 1, none⟩ (.slice AT NT cT)).setCell ⟨g11, 2, none⟩ (.int .i64 (n3 : Int))).setCell ⟨g11, 3, none⟩ (.bool d1.whole)).setCell ⟨g11, 4, none⟩ (.int .i64 d1.wrong)).heap.size) := ⟨HSb.out.size⟩
      have HS78 : Aside0 (w7.heap.size ≤ w8.heap.size) := ⟨HB87.out.size⟩
      clear bz0 bz1 bz2 bz3 bz4 bf0 bf1 bf2 bf3 bf4 K11 HB11
      obtain ⟨ws, hws⟩ : ∃ x, x = (((((w11.setCell ⟨g11, 0, none⟩ (.slice AW LW cW)).setCell ⟨g11, 1, none⟩ (.slice AT NT cT)).setCell ⟨g11, 2, none⟩ (.int .i64 (n3 : Int))).setCell ⟨g11, 3, none⟩ (.bool d1.whole)).setCell ⟨g11, 4, none⟩ (.int .i64 d1.wrong)) := ⟨_, rfl⟩
      rw [← hws] at HK8s HK11s HDs HOs HTs HRs HBs HSz ⊢
      rw [HLB.out]
      have hf := feed_to w ws F p vl (.slice none 0 0) vt { dk with out := [] } Ab cb b HDs.out ⟨HG.out, HBs.out, fun k hk => (HF.out k hk).1⟩ (by have := HMk.out; have := HMd.out; have := HBL.out; omega) ⟨HFk.out.left0, HFk.out.left1, HFk.out.need1, HFk.out.need0⟩ (fun W' hs => Kd.C_below HCB.out (hs.out HBs.out (fun k hk => (HF.out k hk).1) HBs.out.size)) d1 n1 HQ.out
      rw [← HLB.out] at hf ⊢
      refine hf.mono ?_
      rintro e w12 ⟨A3, c3, rfl, ⟨F2, G2, vl2, vt2, hr2, ho2, hF2, hG2⟩, hs2⟩
      have hFl : ∀ k, F k → k < w7.heap.size := fun k hk => Nat.lt_of_lt_of_le (HF.out k hk).2.1 HS7.out
      have HR2 := Aside0.mk hr2
      have HB12 := Aside0.mk (hs2.out HBs.out (fun k hk => (HF.out k hk).1) HBs.out.size)
      have hk8 := (hs2.block g8 (blk_lt HK8s.out) (fun h => (HF.out g8 h).2.2 rfl)).trans HK8s.out
      have hk11 := (hs2.block g11 (blk_lt HK11s.out) (fun h => by have h5 := hFl g11 h; have h6 := HS78.out; rw [HG11.out] at h5; omega)).trans HK11s.out
      have K812 := Aside0.mk hk8
      have K1112 := Aside0.mk hk11
      have hO12 : (Kd.int .u8).R 5 w12 w7.heap.size (fun _ => True) (.slice AW LW cW) (dk.out ++ d1.out) := Kd.R_mono (Kd.R_step (ok := fun k => w7.heap.size ≤ k) (Kd.R_mono (Kd.R_bound HOs.out) (fun k hk => hk.2.1)) (fun k hk hl => hs2.block k hl (fun h => by have := hFl k h; omega))) (fun _ _ => trivial)
      have hT12 : fldK.R 49 w12 w7.heap.size (fun _ => True) (.slice AT NT cT) (if d1.whole = true then d1.tr else []) := Kd.R_mono (Kd.R_step (ok := fun k => w7.heap.size ≤ k) (Kd.R_mono (Kd.R_bound HTs.out) (fun k hk => hk.2.1)) (fun k hk hl => hs2.block k hl (fun h => by have := hFl k h; omega))) (fun _ _ => trivial)
      have hR12 : (Kd.int .u8).R 5 w12 w.heap.size (fun k => ¬ F2 k ∧ k ≠ g8) (.slice A7 L7 c7) y := Kd.R_mono (Kd.R_step (ok := fun k => (¬ F k ∧ k ≠ g8) ∧ k < ws.heap.size) (Kd.R_mono (Kd.R_bound HRs.out) (fun k hk => ⟨hk.1, hk.2.2.1⟩)) (fun k hk hl => hs2.block k hl hk.1.1)) (fun k hk => ⟨fun h => (hF2 k h).1.elim hk.1.1 (fun h3 => by have := hk.2; omega), hk.1.2⟩)
      have HR12 := Aside0.mk hR12
      have HF2 : Aside0 (∀ k, F2 k → w.heap.size ≤ k ∧ k < w12.heap.size ∧ k ≠ g8) := ⟨fun k hk => ⟨(hF2 k hk).1.elim (fun h => (HF.out k h).1) (fun h => Nat.le_trans HBs.out.size h), (hF2 k hk).2, (hF2 k hk).1.elim (fun h => (HF.out k h).2.2) (fun h he => by have := blk_lt HK8s.out; omega)⟩⟩
      obtain ⟨AW', cW', eW', eW9, hCW⟩ := Kd.R_reads hO12
      injection eW' with eW1 eW2 eW3
      subst eW1
      subst eW3
      obtain ⟨AT', cT', eT', eT9, hCT⟩ := Kd.R_reads hT12
      injection eT' with eT1 eT2 eT3
      subst eT1
      subst eT3
      have HTC := Aside0.mk hCT
      clear eW2 eT2 eW9 eT9
      obtain ⟨i5, hi5, hzz⟩ := Option.map_eq_some_iff.1 info_u8
      simp only [Prod.mk.injEq] at hzz
      obtain ⟨A', hcut, hcut2⟩ := print_cut (P := Tryd.prog) 22 5 .i64 Tryd.underlying22 hi5 hzz.2.1 AW LW cW LO (by have := HLWz.out; omega)
      have hrd := hcut2 w12 .u8 (dk.out ++ d1.out) HcW.out (by rw [HLW.out]; exact Kd.reads_of_C (enc := Value.int .u8) (d := (0 : Int)) (h1 := fun _ => rfl) hCW)
      have hdrop : (dk.out ++ d1.out).drop LO = d1.out := by rw [HLO.out, List.drop_left]
      rw [hdrop] at hrd
      have hsub : LW - LO = d1.out.length := by have := HLWz.out; omega
      have hCd : (Kd.int .u8).C w12 A' d1.out.length d1.out := Kd.C_of_reads (d := (0 : Int)) (h1 := fun _ => rfl) (by rw [← hsub]; exact hrd)
      obtain ⟨Ax, cx, ex, ex9, hCx⟩ := Kd.R_reads ho2
      injection ex with ex1 _ ex2
      subst ex1
      clear ex2 ex9
      have hcx0 : ∀ W', Below w12.heap.size w12 W' → (convert 22 9 (.slice A3 d1.out.length c3)).run Tryd.prog W' = Result.ok (.string (strOfNums d1.out)) W' := fun W' hb => C_str (c := c3) rfl (Kd.C_below hCx hb)
      have hcd0 : ∀ W', Below w12.heap.size w12 W' → (convert 22 9 (.slice A' d1.out.length (cW - LO))).run Tryd.prog W' = Result.ok (.string (strOfNums d1.out)) W' := fun W' hb => C_str (c := cW - LO) rfl (Kd.C_below hCd hb)
      obtain ⟨MO, hMO⟩ : ∃ m, m = d1.out.length := ⟨_, rfl⟩
      rw [← hMO] at hcx0 hcd0 hsub ⊢
      rw [hsub] at hcut
      clear hsub
      have hlw : (LO : Int) ≤ (LW : Int) := by have := HLWz.out; omega
      have hsA : (strOfNums d1.out).size ≤ 33554432 := by rw [strOfNums_size]; exact hol
      obtain ⟨sA, hsAe⟩ : ∃ s, s = strOfNums d1.out := ⟨_, rfl⟩
      rw [← hsAe] at hcx0 hcd0 hsA

      have HMO := Aside0.mk hMO
      clear hs2 hr2 ho2 hF2 hG2 hO12 hT12 hR12 hCW hCT hi5 hzz hcut2 hrd hdrop hCd hCx hf hFl hws hsAe hMO
      have HS : Aside0 (∀ w', Below w12.heap.size w12 w' → Below w12.heap.size w12 w' ∧ w'.cell? ⟨g8, 0, none⟩ = some (.slice AO LO cO) ∧ w'.cell? ⟨g8, 2, none⟩ = some (.int .i64 (nk : Int)) ∧ w'.cell? ⟨g11, 0, none⟩ = some (.slice AW LW cW) ∧ w'.cell? ⟨g11, 1, none⟩ = some (.slice AT NT cT) ∧ w'.cell? ⟨g11, 2, none⟩ = some (.int .i64 (n3 : Int)) ∧ w'.cell? ⟨g11, 3, none⟩ = some (.bool d1.whole) ∧ w'.cell? ⟨g11, 4, none⟩ = some (.int .i64 d1.wrong) ∧ (convert 22 9 (.slice A3 MO c3)).run Tryd.prog w' = Result.ok (.string sA) w' ∧ (convert 22 9 (.slice A' MO (cW - LO))).run Tryd.prog w' = Result.ok (.string sA) w') := ⟨fun w' hb_ => ⟨hb_, (blk_cell ((hb_.block g8 (blk_lt K812.out)).trans K812.out) 0).trans rfl, (blk_cell ((hb_.block g8 (blk_lt K812.out)).trans K812.out) 2).trans rfl, (blk_cell ((hb_.block g11 (blk_lt K1112.out)).trans K1112.out) 0).trans rfl, (blk_cell ((hb_.block g11 (blk_lt K1112.out)).trans K1112.out) 1).trans rfl, (blk_cell ((hb_.block g11 (blk_lt K1112.out)).trans K1112.out) 2).trans rfl, (blk_cell ((hb_.block g11 (blk_lt K1112.out)).trans K1112.out) 3).trans rfl, (blk_cell ((hb_.block g11 (blk_lt K1112.out)).trans K1112.out) 4).trans rfl, hcx0 w' hb_, hcd0 w' hb_⟩⟩
      clear hk8 hk11 hcx0 hcd0
      go_wp2_with fail
      go_region_held3 (fun w' => Below w12.heap.size w12 w' ∧ w'.cell? ⟨g8, 0, none⟩ = some (.slice AO LO cO) ∧ w'.cell? ⟨g8, 2, none⟩ = some (.int .i64 (nk : Int)) ∧ w'.cell? ⟨g11, 0, none⟩ = some (.slice AW LW cW) ∧ w'.cell? ⟨g11, 1, none⟩ = some (.slice AT NT cT) ∧ w'.cell? ⟨g11, 2, none⟩ = some (.int .i64 (n3 : Int)) ∧ w'.cell? ⟨g11, 3, none⟩ = some (.bool d1.whole) ∧ w'.cell? ⟨g11, 4, none⟩ = some (.int .i64 d1.wrong) ∧ (convert 22 9 (.slice A3 MO c3)).run Tryd.prog w' = Result.ok (.string sA) w' ∧ (convert 22 9 (.slice A' MO (cW - LO))).run Tryd.prog w' = Result.ok (.string sA) w') (first | exact HS.out _ (below_drew (Below.refl _ _)) | exact HS.out _ HB1412.out | exact HS.out _ HB1312.out | exact HS.out _ (Below.refl _ _)) (first | (go_at_call 23; refine (trailers_any _ F2 p vl2 _ vt2 { d1 with out := [] } (HR2.out.below (below_drew (Below.refl _ _))) HTl.out).mono ?_; rintro e w13 ⟨A4, c4, he, hC4, hc4, hb13⟩; replace he : e = .returned (.slice A4 (if d1.whole = true then d1.tr else []).length c4) := he; rw [← HNT.out] at he; subst he; have HC4 := Aside0.mk hC4; have Hc4 := Aside0.mk hc4; have HB13 := Aside0.mk (below_step (below_drew HB12.out) hb13); have HB1312 := Aside0.mk (below_step (below_drew (Below.refl _ w12)) hb13); clear hC4 hc4 hb13) | (go_at_call 22; have hfs_ := P.fields_same (if d1.whole = true then d1.tr else []) A4 AT c4 cT w13 (by have := HTl.out; rw [← HNT.out]; have := HNTl.out; omega) HC4.out Hc4.out (Kd.C_below HTC.out HB1312.out) HTcap.out; rw [← HNT.out] at hfs_; refine hfs_.mono ?_; rintro e w14 ⟨rfl, hb14⟩; have HB14 := Aside0.mk (below_step HB13.out hb14); have HB1412 := Aside0.mk (below_step HB1312.out hb14); clear hb14 hfs_))
      rename_i hh_
      clear hh_
      have k14 := (HB1412.out.block g11 (blk_lt K1112.out)).trans K1112.out
      have k814 := (HB1412.out.block g8 (blk_lt K812.out)).trans K812.out
      have nz0 : w14.cell? ⟨g11, 0, none⟩ = some (.slice AW LW cW) := (blk_cell k14 0).trans rfl
      have nz1 : w14.cell? ⟨g11, 1, none⟩ = some (.slice AT NT cT) := (blk_cell k14 1).trans rfl
      have nz2 : w14.cell? ⟨g11, 2, none⟩ = some (.int .i64 (n3 : Int)) := (blk_cell k14 2).trans rfl
      have nz3 : w14.cell? ⟨g11, 3, none⟩ = some (.bool d1.whole) := (blk_cell k14 3).trans rfl
      have nz4 : w14.cell? ⟨g11, 4, none⟩ = some (.int .i64 d1.wrong) := (blk_cell k14 4).trans rfl
      have nf0 := blk_frozen k14 0
      have nf1 := blk_frozen k14 1
      have nf2 := blk_frozen k14 2
      have nf3 := blk_frozen k14 3
      have nf4 := blk_frozen k14 4
      have qz0 : w14.cell? ⟨g8, 0, none⟩ = some (.slice AO LO cO) := (blk_cell k814 0).trans rfl
      have qz1 : w14.cell? ⟨g8, 1, none⟩ = some (vT) := (blk_cell k814 1).trans rfl
      have qz2 : w14.cell? ⟨g8, 2, none⟩ = some (.int .i64 (nk : Int)) := (blk_cell k814 2).trans rfl
      have qz3 : w14.cell? ⟨g8, 3, none⟩ = some (.bool dk.whole) := (blk_cell k814 3).trans rfl
      have qz4 : w14.cell? ⟨g8, 4, none⟩ = some (.int .i64 dk.wrong) := (blk_cell k814 4).trans rfl
      have qf0 := blk_frozen k814 0
      have qf1 := blk_frozen k814 1
      have qf2 := blk_frozen k814 2
      have qf3 := blk_frozen k814 3
      have qf4 := blk_frozen k814 4
      clear k14 k814
      all_goals
        go_wp2
        go_roundw
        case rel =>
          have hgr : ∀ k, k ≠ g8 → k < w12.heap.size → ((((((w14.setCell ⟨g8, 0, none⟩ (.slice AW LW cW)).setCell ⟨g8, 1, none⟩ (.slice AT NT cT)).setCell ⟨g8, 2, none⟩ (.int .i64 (n3 : Int))).setCell ⟨g8, 3, none⟩ (.bool d1.whole)).setCell ⟨g8, 4, none⟩ (.int .i64 d1.wrong))).heap[k]? = w12.heap[k]? := fun k hk hl => by
            rw [Below.heap_setCell _ _ _ _ hk, Below.heap_setCell _ _ _ _ hk, Below.heap_setCell _ _ _ _ hk, Below.heap_setCell _ _ _ _ hk, Below.heap_setCell _ _ _ _ hk]
            exact HB1412.out.block k hl
          refine ⟨kk + 1, .slice A7 L7 c7, y, d1.pre dk.out, n3, F2, vl2, vt2, .slice AT NT cT, AW, LW, cW, by omega, rfl, by go_num, ⟨HTA.out.symm⟩, HAl3, ⟨HR2.out.move (fun k hk hl => hgr k (HF2.out k hk).2.2 hl)⟩, ⟨fun k hk => ⟨(HF2.out k hk).1, ?_, (HF2.out k hk).2.2⟩⟩, ⟨?_⟩, ⟨HLW.out⟩, ⟨?_⟩, ⟨?_⟩⟩
          · rw [set_size', set_size', set_size', set_size', set_size']
            exact Nat.lt_of_lt_of_le (HF2.out k hk).2.1 HB1412.out.size
          · exact blk_five ((HB1412.out.block g8 (blk_lt K812.out)).trans K812.out)
          · exact Kd.R_step HR12.out (fun k hk hl => hgr k hk.2 hl)
          · exact (((((HB14.out).setCell (p := ⟨g8, 0, none⟩) HGE8.out _).setCell (p := ⟨g8, 1, none⟩) HGE8.out _).setCell (p := ⟨g8, 2, none⟩) HGE8.out _).setCell (p := ⟨g8, 3, none⟩) HGE8.out _).setCell (p := ⟨g8, 4, none⟩) HGE8.out _
        case measure => simp [intOf]; omega
    · obtain rfl : kk = N := by omega
      have hltz : ¬ (kk : Int) < (kk : Int) := by omega
      go_wp2_with fail
      refine (speaks_calls _ (HG.out.below HB.out)).mono ?_
      rintro e w3 ⟨rfl, hb3⟩
      have HB3 := Aside0.mk (below_step HB.out hb3)
      clear hb3
      go_wp2
      go_ret
      exact ⟨rfl, HB3.out⟩
def headracelaw10_ChunkedFeeds.f (k : Nat) (a0 : Int) (l0 : List (List Int)) : Option Bool := if l0.flatten.length ≤ 16777216 ∧ l0.length ≤ 16777216 then some true else none
theorem headracelaw10_ChunkedFeeds.calls (k : Nat) (a0 : Int) (A0 : Option Addr) (c0 : Nat) (l0 : List (List Int)) (r : Bool) (w : World) (hr0 : Kd.C (Kd.slice 5 (Kd.int .u8)) w A0 l0.length l0) (hc0 : l0.length ≤ c0) (h : headracelaw10_ChunkedFeeds.f k a0 l0 = some r) (hG_ : GInv w) :
    Calls Tryd.prog 6 #[.int .i64 a0, .slice A0 l0.length c0] w fun e w' => e = .returned (.bool r) ∧ Below w.heap.size w w' := by
  unfold headracelaw10_ChunkedFeeds.f at h
  split at h
  · rename_i hl
    obtain rfl := Option.some.inj h
    by_cases hn : a0 < 0 ∨ 9007199254740992 < a0
    · exact headracelaw10_ChunkedFeeds.no a0 _ w hn hG_
    · exact headracelaw10_ChunkedFeeds.yes a0 l0 A0 c0 w (by omega) (by omega) hr0 hc0 hl.1 hl.2 hG_
  · cases h
end Go.Proofs.YtnlicpihondmgaaDoor.P
namespace Go.Proofs.YtnlicpihondmgaaDoor.Px
theorem pure_ChunkedFeeds (a : Int) (l : List (List Int)) (_ : (Go.Lit.int .i64 a).wf = true) (hb : l.flatten.length + l.length ≤ 1048576) (_ : ∀ b ∈ l, ∀ x ∈ b, (Go.Lit.int .u8 x).wf = true) : ∃ k, P.headracelaw10_ChunkedFeeds.f k a l = some true :=
  ⟨0, by unfold P.headracelaw10_ChunkedFeeds.f; rw [if_pos ⟨by omega, by omega⟩]⟩
end Go.Proofs.YtnlicpihondmgaaDoor.Px
