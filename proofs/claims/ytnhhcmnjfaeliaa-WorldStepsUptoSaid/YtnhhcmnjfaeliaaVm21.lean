/- WorldApart: the law's walk; own text of this session. -/
import Derived.Test.YtnhhcmnjfaeliaaVm20
namespace Go.Proofs.Ytnhhcmnjfaeliaa.Vm
open Wld hiding St Ft Next cellsQ cellsP ReadPost ptrE ptrE_none ptrE_some law zeroP Key key_of info_u8 info_int ne_t ne_blk ne_map grown_below
open Go.RowKit Go.Proofs.YtnhhcmnjfaeliaaW.PrintWords Go.Proofs.YtnhhcmnjfaeliaaW.PrintLast Go.Maps
set_option linter.unusedVariables false
set_option linter.unusedSimpArgs false
theorem Look.next {w0 w : World} {p bm i : Nat} {c : Int} {ws ss : List Int} {room : Int} (h : Look w0 w p bm i c ws ss room) : Look w0 w p bm (i + 1) c ws ss room := by
  obtain ⟨x0, sz, Dm, vd, L, hA, r⟩ := h
  exact ⟨x0, sz, Dm, vd, L, hA.next, r⟩
theorem look_sent {w0 w : World} {p bm i : Nat} {c : Int} {ws ss : List Int} {room : Int} (h : Look w0 w p bm i c ws ss room) (hc : (Key c).wf = true) (hl : ss.length ≤ 4294960000) :
    Calls Try.prog 9 #[.pointer (some ⟨p, 0, none⟩), .int .i64 c] w fun e w' => ∃ (A1 : Option Addr) (c1 : Nat), e = .returned (.slice A1 ss.length c1) ∧ Row .u8 5 w' (.slice A1 ss.length c1) ss ∧ Below w.heap.size w w' := by
  obtain ⟨sz, Dm, q, vw, vs, vd, hS, hL⟩ := h.St
  refine (sent_calls hS hc hl).mono ?_
  rintro e w' ⟨A1, c1, rfl, hrow, _, hb⟩
  exact ⟨A1, c1, rfl, hrow, hb⟩
theorem nine_str : strOfNums [48, 49, 50, 51, 52, 53, 54, 55, 56] = ⟨#[48, 49, 50, 51, 52, 53, 54, 55, 56]⟩ := by rfl
theorem hcc10 (W : World) : (convert 30 30 (.slice (some ⟨W.heap.size, 0, none⟩) 10 10)).run Try.prog (W.alloc (.cells #[.int .u8 48, .int .u8 49, .int .u8 50, .int .u8 51, .int .u8 52, .int .u8 53, .int .u8 54, .int .u8 55, .int .u8 56, .int .u8 57] 5)) = Result.ok (.slice (some ⟨W.heap.size, 0, none⟩) 10 10) (W.alloc (.cells #[.int .u8 48, .int .u8 49, .int .u8 50, .int .u8 51, .int .u8 52, .int .u8 53, .int .u8 54, .int .u8 55, .int .u8 56, .int .u8 57] 5 (10, 11))) :=
  Lib.run_convert_bytes_const W _ _ #[.int .u8 48, .int .u8 49, .int .u8 50, .int .u8 51, .int .u8 52, .int .u8 53, .int .u8 54, .int .u8 55, .int .u8 56, .int .u8 57] 10 10 Try.underlying30 Try.underlying5
theorem const10 (W : World) : (Kd.int .u8).C (W.alloc (.cells #[.int .u8 48, .int .u8 49, .int .u8 50, .int .u8 51, .int .u8 52, .int .u8 53, .int .u8 54, .int .u8 55, .int .u8 56, .int .u8 57] 5 (10, 11))) (some ⟨W.heap.size, 0, none⟩) [48, 49, 50, 51, 52, 53, 54, 55, 56, 57].length [48, 49, 50, 51, 52, 53, 54, 55, 56, 57] :=
  C_blk (xs := [48, 49, 50, 51, 52, 53, 54, 55, 56, 57]) (blk_new W (.cells #[.int .u8 48, .int .u8 49, .int .u8 50, .int .u8 51, .int .u8 52, .int .u8 53, .int .u8 54, .int .u8 55, .int .u8 56, .int .u8 57] 5 (10, 11))) (fun i hi => by match i, hi with | 0, _ => rfl | 1, _ => rfl | 2, _ => rfl | 3, _ => rfl | 4, _ => rfl | 5, _ => rfl | 6, _ => rfl | 7, _ => rfl | 8, _ => rfl | 9, _ => rfl) (by simp)
set_option maxHeartbeats 8000000 in
set_option maxRecDepth 100000 in
theorem apart_calls (A0 : Option Addr) (c0 : Nat) (l : List Stp) (A1 : Option Addr) (c1 : Nat) (b : List Int) (w : World) (hr0 : Kd.C stpK w A0 l.length l) (hc0 : l.length ≤ c0) (hw0 : ∀ y ∈ l, (Key y.c).wf = true) (hr1 : (Kd.int .u8).C w A1 b.length b) (hc1 : b.length ≤ c1) (hl : l.length ≤ 1048576) (hb : b.length ≤ 1048576) :
    Calls Try.prog 4 #[.slice A0 l.length c0, .slice A1 b.length c1] w fun e w' => e = .returned (.bool true) ∧ Below w.heap.size w w' := by
  have HR0 := Aside0.mk hr0
  have HR1 := Aside0.mk hr1
  have HW0 := Aside0.mk hw0
  have HB := Aside0.mk hb
  obtain ⟨n, hn⟩ : ∃ n, n = l.length := ⟨_, rfl⟩
  obtain ⟨m, hm⟩ : ∃ m, m = b.length := ⟨_, rfl⟩
  have Hn := Aside0.mk hn
  have Hm := Aside0.mk hm
  rw [← hn] at hl hc0 ⊢
  rw [← hm] at hb hc1 ⊢
  clear hr0 hr1 hw0 hn hm
  go_enter Try.func4, Try.ntmps4
  go_wp2_with (first
    | (go_at_call 5; refine (new_mw _).mono ?_; rintro e w1 ⟨p, bm, rfl, hmw, hp, hbm, hb1⟩; have HMW := Aside0.mk hmw; have HP := Aside0.mk hp; have HM := Aside0.mk hbm; have HB1 := Aside0.mk hb1; clear hmw hp hbm hb1)
    | (go_at_call 15; refine (look_first HMW.out HP.out HM.out HB1.out 1000 wf1000 (by decide)).mono ?_; rintro e w2 ⟨rfl, hlk⟩; have HL2 := Aside0.mk hlk; clear hlk)
    | (go_at_call 16; refine (look_room HL2.out wf1000 9 (by decide) (by decide) (by decide)).mono ?_; rintro e w3 ⟨rfl, hlk⟩; have HL3 := Aside0.mk hlk; clear hlk)
    | (go_at_call 17; refine (look_arrive HL3.out wf1000 A1 m c1 b Hm.out HR1.out (by have := HB.out; simp only [List.length_nil]; omega)).mono ?_; rintro e w4 ⟨rfl, hlk⟩; have HL4 := Aside0.mk hlk; clear hlk))
  have HL4' : Aside0 (Look w w4 p bm 0 1000 b [] 9) := ⟨HL4.out⟩
  clear HL4
  go_loopw [34] (fun v34 wr => ∃ kk : Nat, kk ≤ n ∧ v34 = .int .i64 kk ∧ Aside0 (Look w wr p bm kk 1000 b [] 9)) (fun v34 _ => n - (intOf v34).toNat)
  case atStart => exact ⟨0, Nat.zero_le _, rfl, HL4'⟩
  case round =>
    obtain ⟨kk, hkk, rfl, HL⟩ := hrel
    clear HL4'
    by_cases hlt : kk < n
    · have hltz : (kk : Int) < (n : Int) := by omega
      obtain ⟨ad, A3, c3, eA, z0, z1, z2, z3, l3, g3⟩ := at_stp HR0.out (kk : Int) (by omega) (by have := Hn.out; omega)
      rw [Int.toNat_natCast] at z0 z1 z2 z3 l3 g3
      have hy := HW0.out (l.getD kk zStp) (by rw [List.getD_eq_getElem?_getD, List.getElem?_eq_getElem (by have := Hn.out; omega)]; exact List.getElem_mem _)
      generalize l.getD kk zStp = y at z0 z1 z2 z3 l3 g3 hy
      obtain ⟨K, C, N, bb⟩ := y
      cases eA
      replace z0 := (HL.out.bel.cell (World.block_lt_of_cell? w _ z0)).trans z0
      replace z1 := (HL.out.bel.cell (World.block_lt_of_cell? w _ z1)).trans z1
      replace z2 := (HL.out.bel.cell (World.block_lt_of_cell? w _ z2)).trans z2
      replace z3 := (HL.out.bel.cell (World.block_lt_of_cell? w _ z3)).trans z3
      have G3 := Aside0.mk g3
      have HY := Aside0.mk hy
      have L3 := Aside0.mk l3
      clear g3 hy l3
      obtain ⟨nb, hnb⟩ : ∃ nb, nb = bb.length := ⟨_, rfl⟩
      have HNb := Aside0.mk hnb
      replace z3 : wr.cell? ⟨(ad.add (kk * 4)).block, (ad.add (kk * 4)).off + 3, none⟩ = some (.slice A3 nb c3) := by rw [hnb]; exact z3
      clear hnb
      by_cases hC : C = 1000
      · subst hC
        go_wp2
        go_roundw
        case rel => exact ⟨kk + 1, by omega, by simp, ⟨(HL.out.low (below_alloc (Below.refl _ _) _)).next⟩⟩
        case measure => simp [intOf]; omega
      · have bC : (C != 1000) = true := by simpa using hC
        by_cases hK : K < 7
        · have HBa := Aside0.mk (below_alloc (below_alloc (Below.refl wr.heap.size wr) (stepB K C N A3 nb c3)) (.cells #[.slice none 0 0, .slice none 0 0] 29 (0, 0)))
          have HX : Aside0 (Emp ((wr.alloc (stepB K C N A3 nb c3)).alloc (.cells #[.slice none 0 0, .slice none 0 0] 29 (0, 0))) (wr.heap.size + 1)) := ⟨Wld.blk_two _ _ _⟩
          have HX0 : Aside0 (w.heap.size ≤ wr.heap.size + 1) := ⟨Nat.le_succ_of_le HL.out.bel.size⟩
          have HAs := Aside0.mk (look_asks (N := N) (HL.out.low HBa.out) hK HX.out HX0.out HY.out hC HNb.out (by rw [HNb.out]; exact L3.out) G3.out (by omega))
          go_wp2_with (go_at_call 6; go_loud (refine HAs.out.mono ?_; rintro e w6 ⟨bo, rfl, hlk⟩; have HL6 := Aside0.mk hlk; clear hlk))
          go_roundw
          case rel => exact ⟨kk + 1, by omega, by simp, HL6⟩
          case measure => simp [intOf]; omega
        · go_wp2
          go_roundw
          case rel => exact ⟨kk + 1, by omega, by simp, ⟨(HL.out.low (below_alloc (Below.refl _ _) _)).next⟩⟩
          case measure => simp [intOf]; omega
    · obtain rfl : kk = n := by omega
      go_wp2_with (first
        | (go_at_call 7; refine (look_waits HL.out wf1000).mono ?_; rintro e w5 ⟨rfl, hlk⟩; rw [← Hm.out]; have HL5 := Aside0.mk hlk; clear hlk)
        | (go_at_call 18; refine (lookx_read HL5.out wf1000 HB.out (m : Int) m (by have := Hm.out; omega)).mono ?_; rintro e w6 ⟨A6, c6, rfl, hlx⟩; have HL6 := Aside0.mk hlx; have hcc := hcc10 w6; clear hlx)
        | (go_at_call 19; go_loud (refine (lookx_write (HL6.out.low (below_alloc (Below.refl w6.heap.size w6) (.cells #[.int .u8 48, .int .u8 49, .int .u8 50, .int .u8 51, .int .u8 52, .int .u8 53, .int .u8 54, .int .u8 55, .int .u8 56, .int .u8 57] 5 (10, 11)))) wf1000 (some ⟨w6.heap.size, 0, none⟩) 10 10 [48, 49, 50, 51, 52, 53, 54, 55, 56, 57] rfl (by decide) (const10 w6) 9 (by decide) (by decide) (by decide) (by decide)).mono ?_; rintro e w7 ⟨rfl, hlx⟩; have HL7 := Aside0.mk hlx; have hcv1 := Wld.row_str HL7.out.row; rw [List.take_of_length_le (by rw [← Hm.out]; exact Nat.le_refl _)] at hcv1; have hcv2 : (convert 30 9 (.slice A1 m c1)).run Try.prog w7 = Result.ok (.string (strOfNums b)) w7 := (by rw [Hm.out]; exact Kd.C_string Try.underlying30 Try.underlying5 Try.underlying9 (Kd.C_below HR1.out HL7.out.look.bel)); obtain ⟨sB, hsB⟩ : ∃ s, s = strOfNums b := ⟨_, rfl⟩; rw [← hsB] at hcv1 hcv2; clear hlx hsB hcc))
        | (go_at_call 9; go_loud (refine (look_sent (ss := [48, 49, 50, 51, 52, 53, 54, 55, 56]) HL7.out.look wf1000 (by decide)).mono ?_; rintro e w8 ⟨A8, c8, rfl, hrow, hb⟩; have HB8 := Aside0.mk (below_step HL7.out.look.bel hb); have hcv3 := Wld.row_str hrow; rw [nine_str] at hcv3; replace hcv3 : (convert 30 9 (.slice A8 9 c8)).run Try.prog w8 = Result.ok (.string ⟨#[48, 49, 50, 51, 52, 53, 54, 55, 56]⟩) w8 := hcv3; clear hrow hb hcv1 hcv2))
        | (go_at_call 14; go_loud (refine (Wld.speaks_calls _).mono ?_; rintro e w9 ⟨rfl, hb⟩; have HB9 := Aside0.mk (below_step (by repeat (first | exact HB8.out | apply below_alloc | apply below_drew1 | apply pw_below_drewN)) hb); clear hb)))
      all_goals
        go_ret
        exact ⟨rfl, HB9.out⟩
end Go.Proofs.Ytnhhcmnjfaeliaa.Vm
