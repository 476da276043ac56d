/- ClientWrong: behind something wrong nothing more is read: plainly, and the walk; own text of this session (gen_lcwrong.py). -/
import Derived.Test.YtccolnlfjbgnmaaGreatDoorClZ
namespace Go.Proofs.YtccolnlfjbgnmaaGreatDoor.Cli
open Go.RowKit Go.Proofs.YtccolnlfjbgnmaaGreatDoorW.PrintWords Go.Proofs.YtccolnlfjbgnmaaGreatDoorW.PrintLast Chk Px Hr Hd
open Bod (Bd feedB byteB feedB_stop feedB_next feedB_count BFine newB BRep FeedB feedB_calls)
set_option linter.unusedVariables false
set_option linter.unusedSimpArgs false
/-- What is wrong has a status, and shuts. -/
structure WInv (c : Cl) : Prop where
  shut : c.wrong = 0 ∨ (c.shut = true ∧ c.waits = false)
  some_ : c.wrong = 0 ∨ c.wrong = 400 ∨ c.wrong = 413 ∨ c.wrong = 431
theorem WInv.fail {c : Cl} (hw : c.waits = false) {s : Int} (hs : s = 400 ∨ s = 413 ∨ s = 431) : WInv (failC c s) := ⟨.inr ⟨rfl, hw⟩, .inr hs⟩
theorem WInv.read {c : Cl} (h : WInv c) (hr : ¬ c.rests) : c.wrong = 0 ∧ c.waits = false := by
  refine ⟨h.shut.elim id (fun h5 => absurd (.inr h5.1) hr), ?_⟩
  cases hx : c.waits with
  | false => rfl
  | true => exact absurd (.inl hx) hr
theorem framed_w {c : Cl} (hw : c.waits = false) (he : c.wrong = 0) (r : Int × Int × Bool × Int) : WInv (framed c r) := by
  unfold framed
  split
  · exact WInv.fail hw (.inl rfl)
  · split
    · exact WInv.fail (c := { c with rdr := none }) hw (.inr (.inl rfl))
    · exact ⟨.inl he, .inl he⟩
theorem stateP_w {c : Cl} (h : WInv c) (hr : ¬ c.rests) (b : List Int) : WInv (stateP c b).1 := by
  obtain ⟨he, hw⟩ := h.read hr
  unfold stateP
  split
  · unfold headP headE
    simp only
    split
    · refine WInv.fail ?_ (.inr (.inr rfl)); exact hw
    · split
      · refine WInv.fail ?_ (.inl rfl); exact hw
      · split
        · refine framed_w ?_ ?_ _; exact hw; exact he
        · exact ⟨.inl he, .inl he⟩
  · split
    · exact h
    · unfold bodyP bodyE
      simp only
      split
      · refine WInv.fail ?_ (.inr (.inl rfl)); exact hw
      · split
        · refine WInv.fail ?_ (.inl rfl); exact hw
        · exact ⟨.inl he, .inl he⟩
theorem readC_w (b : List Int) : ∀ {c : Cl}, WInv c → WInv (readC c b).1 := by
  induction b with
  | nil => intro c h; exact h
  | cons x t ih =>
    intro c h
    by_cases hr : c.rests
    · rw [readC_stop c _ (.inr hr)]; exact h
    · rw [readC_next c x t hr]; exact ih (stateP_w h hr [x])
theorem hat_row {w : World} {A : Option Addr} {n : Nat} {ps : List (List Int)} (h : Kd.C (Kd.slice 5 (Kd.int .u8)) w A n ps) (kk : Nat) (hk : kk < ps.length) (hn : ps.length = n) :
    ∃ ad Ab cb, A = some ad ∧ w.cell? (ad.add kk) = some (.slice Ab (ps[kk]).length cb) ∧ (ps[kk]).length ≤ cb ∧ Kd.C (Kd.int .u8) w Ab (ps[kk]).length ps[kk] := by
  obtain ⟨ad, c, e, _, hK, hc⟩ := Kd.C_get h [] (kk : Int) (by omega) (by omega)
  rw [Int.toNat_natCast] at hK hc
  have hd : ps.getD kk [] = ps[kk] := by rw [List.getD_eq_getElem?_getD, List.getElem?_eq_getElem hk]; rfl
  rw [hd] at hK
  obtain ⟨Ab, cb, e2, h2, h3⟩ := hK
  subst e2
  have h4 := hc 0 _ rfl
  have h5 : (kk * (Kd.slice 5 (Kd.int .u8)).sz + 0) = kk := by show kk * 1 + 0 = kk; omega
  rw [h5] at h4
  exact ⟨ad, Ab, cb, e, h4, h2, h3⟩
theorem hrow_le (ps : List (List Int)) (kk : Nat) (h : kk < ps.length) : (ps.take kk).flatten.length + (ps[kk]).length = (ps.take (kk + 1)).flatten.length ∧ (ps.take (kk + 1)).flatten.length ≤ ps.flatten.length := by
  have e1 : ps.take (kk + 1) = ps.take kk ++ [ps[kk]] := by rw [List.take_succ_eq_append_getElem h]
  have e2 : ps.flatten = (ps.take (kk + 1)).flatten ++ (ps.drop (kk + 1)).flatten := by rw [← List.flatten_append, List.take_append_drop]
  refine ⟨by rw [e1, List.flatten_append]; simp, ?_⟩
  rw [e2, List.length_append]
  omega
set_option maxHeartbeats 16000000 in
set_option maxRecDepth 100000 in
theorem wrong_law (ps : List (List Int)) (A0 : Option Addr) (c0 : Nat) (w : World) (hr0 : Kd.C (Kd.slice 5 (Kd.int .u8)) w A0 ps.length ps) (hc0 : ps.length ≤ c0) (hb : ps.flatten.length + ps.length ≤ 1048576) (hG : GInv w) :
    Calls Tryz.prog 9 #[.slice A0 ps.length c0] w fun e w' => e = .returned (.bool true) ∧ Below w.heap.size w w' := by
  obtain ⟨N, hN⟩ : ∃ N, N = ps.length := ⟨_, rfl⟩
  rw [← hN]
  have HN := Aside0.mk hN
  have HR := Aside0.mk hr0
  have HG := Aside0.mk hG
  have HFl : Aside0 (ps.flatten.length ≤ 1048576) := ⟨by omega⟩
  have hNle : (N : Int) ≤ 1048576 := by omega
  have HNw := Aside0.mk (new_ok 200 20 w (by decide) (by decide) (by decide) (by decide))
  clear hr0 hG hb hN hc0
  go_enter Tryz.func9, Tryz.ntmps9
  go_wp2_with fail
  refine HNw.out.mono ?_
  rintro e w1 ⟨q, rfl, hC1, hb1⟩
  have HC1 := Aside0.mk hC1
  have HB1 := Aside0.mk hb1
  clear hC1 hb1
  go_wp2
  go_loopw [5, 22] (fun n5 n22 wr => ∃ (kk : Nat) (ck : Cl), kk ≤ N ∧ n22 = .int .i64 kk ∧ n5 = .int .i64 ck.wrong ∧ Aside0 (CRep wr (fun k => w.heap.size ≤ k) q ck) ∧ Aside0 (Below w.heap.size w wr) ∧ Aside0 (CInv ck) ∧ Aside0 (CMass (ps.take kk).flatten.length ck) ∧ Aside0 (WInv ck)) (fun _ n22 _ => N - (intOf n22).toNat)
  case atStart => exact ⟨0, newC 200 20, Nat.zero_le _, rfl, rfl, HC1, HB1, ⟨CInv.new (by decide) (by decide) (by decide) (by decide)⟩, ⟨CMass.new⟩, ⟨⟨.inl rfl, .inl rfl⟩⟩⟩
  case round =>
    obtain ⟨kk, ck, hkk, rfl, rfl, HCk, HBk, HIk, HMk, HWk⟩ := hrel
    clear HC1
    by_cases hlt : kk < N
    · have hltz : (kk : Int) < (N : Int) := by omega
      have hkl : kk < ps.length := by rw [← HN.out]; exact hlt
      obtain ⟨ad, Ab, cb, eA, hx, hcb, hCb⟩ := hat_row HR.out kk hkl rfl
      cases eA
      replace hx := (HBk.out.cell (World.block_lt_of_cell? w _ hx)).trans hx
      have hrl := hrow_le ps kk hkl
      obtain ⟨b, hb⟩ : ∃ b, b = ps[kk] := ⟨_, rfl⟩
      rw [← hb] at hx hcb hCb hrl
      have hM2 := (readC_inv b HIk.out HMk.out)
      have hcnt := (readC_count b ck).1
      have hW2 := readC_w b HWk.out
      have hrd := read_calls w wr (fun k => w.heap.size ≤ k) q ck HCk.out ⟨HG.out, HBk.out, fun k hk => hk⟩ HIk.out _ HMk.out b Ab cb (by have := HFl.out; omega) hcb (fun W' hs => Kd.C_below hCb (hs.out HBk.out (fun i hi => hi) HBk.out.size))
      obtain ⟨L, hL⟩ : ∃ L, L = b.length := ⟨_, rfl⟩
      rw [← hL] at hx hrd hcnt hrl
      have hLz : (L : Int) ≤ 1048576 := by have := HFl.out; omega
      have HMt : Aside0 ((ps.take kk).flatten.length + L = (ps.take (kk + 1)).flatten.length) := ⟨hrl.1⟩
      have hstop : ¬ ck.wrong = 0 → readC ck b = (ck, 0) := fun he => readC_stop ck b (.inr (.inr (HWk.out.shut.elim (fun h5 => absurd h5 he) (fun h5 => h5.1))))
      obtain ⟨⟨c2, n2⟩, hq⟩ : ∃ x, x = readC ck b := ⟨_, rfl⟩
      rw [← hq] at hM2 hcnt hW2 hrd hstop
      simp only at hM2 hcnt hW2
      have HI2 := Aside0.mk hM2.1
      have HM2 : Aside0 (CMass (ps.take (kk + 1)).flatten.length c2) := ⟨hM2.2.le (by rw [← HMt.out]; omega)⟩
      have HW2 := Aside0.mk hW2
      have HRd := Aside0.mk hrd
      have hn0 : ¬ (n2 : Int) < 0 := by omega
      have hnL : ¬ L < n2 := by omega
      have hnLz : ¬ (L : Int) < (n2 : Int) := by omega
      clear hrl hM2 hcnt hW2 hrd hb hL hq hkl hCb hcb
      unfold ReadP at HRd
      simp only at HRd
      by_cases he : ck.wrong = 0
      · clear hstop
        rw [he]
        cases hwt : c2.waits with
        | true =>
          have he2 : c2.wrong = 0 := HW2.out.shut.elim id (fun h5 => by rw [hwt] at h5; cases h5.2)
          rw [hwt] at HRd
          have HWt := Aside0.mk hwt
          have HE2 := Aside0.mk he2
          clear he hwt he2
          go_wp2_with fail
          refine HRd.out.mono ?_
          rintro e w2 ⟨rfl, hC2, hs2⟩
          have HC2 := Aside0.mk (hC2.mono (G := fun k => w.heap.size ≤ k) (fun k hk => hk.elim id (fun h5 => Nat.le_trans HBk.out.size h5)))
          have HB2 := Aside0.mk (hs2.out HBk.out (fun i hi => hi) HBk.out.size)
          have HBn := Aside0.mk (Below.refl w2.heap.size w2)
          clear hC2 hs2
          go_wp2_with (first | (go_at_call 32; go_loud (have h5 := wrong_c (HC2.out.below (by repeat (first | exact HBn.out | apply below_alloc | apply below_drew1 | apply pw_below_drewN))); rw [HE2.out] at h5; refine h5.mono ?_; rintro e w3 ⟨rfl, hb⟩; have HBn := Aside0.mk (below_step (by repeat (first | exact HBn.out | apply below_alloc | apply below_drew1 | apply pw_below_drewN)) hb); clear hb)) | (go_at_call 34; go_loud (refine (answered_yes true _ q c2 _ (HC2.out.below (by repeat (first | exact HBn.out | apply below_alloc | apply below_drew1 | apply pw_below_drewN))) HWt.out HI2.out.most0 HI2.out.most1).mono ?_; rintro e w4 ⟨rfl, hC4, hs4⟩; have HC4 := Aside0.mk (hC4.mono (G := fun k => w.heap.size ≤ k) (fun k hk => hk.elim id (fun h5 => Nat.le_trans (below_step HB2.out (by repeat (first | exact HBn.out | apply below_alloc | apply below_drew1 | apply pw_below_drewN))).size h5))); have HB4 := Aside0.mk (hs4.out (below_step HB2.out (by repeat (first | exact HBn.out | apply below_alloc | apply below_drew1 | apply pw_below_drewN))) (fun i hi => hi) (below_step HB2.out (by repeat (first | exact HBn.out | apply below_alloc | apply below_drew1 | apply pw_below_drewN))).size); clear hC4 hs4)))
          go_roundw
          case rel => exact ⟨kk + 1, answC c2 true, by omega, by go_num, by show _ = Value.int .i64 c2.wrong; rw [HE2.out], HC4, HB4, ⟨(answC_inv HI2.out true).1⟩, ⟨(answC_inv HI2.out true).2.le (Nat.zero_le _)⟩, ⟨⟨.inl HE2.out, .inl HE2.out⟩⟩⟩
          case measure => simp [intOf]; omega
        | false =>
          rw [hwt] at HRd
          have hs4 := HW2.out.some_
          obtain ⟨st, hst⟩ : ∃ st, st = c2.wrong := ⟨_, rfl⟩
          rw [← hst] at hs4
          have HSt := Aside0.mk hst
          clear he hwt hst
          rcases hs4 with rfl | rfl | rfl | rfl
          · go_wp2_with fail
            refine HRd.out.mono ?_
            rintro e w2 ⟨rfl, hC2, hs2⟩
            have HC2 := Aside0.mk (hC2.mono (G := fun k => w.heap.size ≤ k) (fun k hk => hk.elim id (fun h5 => Nat.le_trans HBk.out.size h5)))
            have HB2 := Aside0.mk (hs2.out HBk.out (fun i hi => hi) HBk.out.size)
            have HBn := Aside0.mk (Below.refl w2.heap.size w2)
            clear hC2 hs2
            go_wp2_with (first | (go_at_call 32; go_loud (have h5 := wrong_c (HC2.out.below (by repeat (first | exact HBn.out | apply below_alloc | apply below_drew1 | apply pw_below_drewN))); rw [← HSt.out] at h5; refine h5.mono ?_; rintro e w3 ⟨rfl, hb⟩; have HBn := Aside0.mk (below_step (by repeat (first | exact HBn.out | apply below_alloc | apply below_drew1 | apply pw_below_drewN)) hb); clear hb)) | (go_at_call 33; go_loud (have h5 := shut_c (HC2.out.below (by repeat (first | exact HBn.out | apply below_alloc | apply below_drew1 | apply pw_below_drewN))); rw [HSh.out] at h5; refine h5.mono ?_; rintro e w3 ⟨rfl, hb⟩; have HBn := Aside0.mk (below_step (by repeat (first | exact HBn.out | apply below_alloc | apply below_drew1 | apply pw_below_drewN)) hb); clear hb)))
            go_roundw
            case rel => exact ⟨kk + 1, c2, by omega, by go_num, by rw [← HSt.out], ⟨HC2.out.below (by repeat (first | exact HBn.out | apply below_alloc | apply below_drew1 | apply pw_below_drewN))⟩, ⟨below_step HB2.out (by repeat (first | exact HBn.out | apply below_alloc | apply below_drew1 | apply pw_below_drewN))⟩, HI2, HM2, HW2⟩
            case measure => simp [intOf]; omega
          · go_wp2_with fail
            refine HRd.out.mono ?_
            rintro e w2 ⟨rfl, hC2, hs2⟩
            have HC2 := Aside0.mk (hC2.mono (G := fun k => w.heap.size ≤ k) (fun k hk => hk.elim id (fun h5 => Nat.le_trans HBk.out.size h5)))
            have HB2 := Aside0.mk (hs2.out HBk.out (fun i hi => hi) HBk.out.size)
            have HBn := Aside0.mk (Below.refl w2.heap.size w2)
            clear hC2 hs2
            go_wp2_with (first | (go_at_call 32; go_loud (have h5 := wrong_c (HC2.out.below (by repeat (first | exact HBn.out | apply below_alloc | apply below_drew1 | apply pw_below_drewN))); rw [← HSt.out] at h5; refine h5.mono ?_; rintro e w3 ⟨rfl, hb⟩; have HBn := Aside0.mk (below_step (by repeat (first | exact HBn.out | apply below_alloc | apply below_drew1 | apply pw_below_drewN)) hb); clear hb)) | (go_at_call 33; go_loud (have h5 := shut_c (HC2.out.below (by repeat (first | exact HBn.out | apply below_alloc | apply below_drew1 | apply pw_below_drewN))); rw [HSh.out] at h5; refine h5.mono ?_; rintro e w3 ⟨rfl, hb⟩; have HBn := Aside0.mk (below_step (by repeat (first | exact HBn.out | apply below_alloc | apply below_drew1 | apply pw_below_drewN)) hb); clear hb)))
            go_roundw
            case rel => exact ⟨kk + 1, c2, by omega, by go_num, by rw [← HSt.out], ⟨HC2.out.below (by repeat (first | exact HBn.out | apply below_alloc | apply below_drew1 | apply pw_below_drewN))⟩, ⟨below_step HB2.out (by repeat (first | exact HBn.out | apply below_alloc | apply below_drew1 | apply pw_below_drewN))⟩, HI2, HM2, HW2⟩
            case measure => simp [intOf]; omega
          · go_wp2_with fail
            refine HRd.out.mono ?_
            rintro e w2 ⟨rfl, hC2, hs2⟩
            have HC2 := Aside0.mk (hC2.mono (G := fun k => w.heap.size ≤ k) (fun k hk => hk.elim id (fun h5 => Nat.le_trans HBk.out.size h5)))
            have HB2 := Aside0.mk (hs2.out HBk.out (fun i hi => hi) HBk.out.size)
            have HBn := Aside0.mk (Below.refl w2.heap.size w2)
            clear hC2 hs2
            go_wp2_with (first | (go_at_call 32; go_loud (have h5 := wrong_c (HC2.out.below (by repeat (first | exact HBn.out | apply below_alloc | apply below_drew1 | apply pw_below_drewN))); rw [← HSt.out] at h5; refine h5.mono ?_; rintro e w3 ⟨rfl, hb⟩; have HBn := Aside0.mk (below_step (by repeat (first | exact HBn.out | apply below_alloc | apply below_drew1 | apply pw_below_drewN)) hb); clear hb)) | (go_at_call 33; go_loud (have h5 := shut_c (HC2.out.below (by repeat (first | exact HBn.out | apply below_alloc | apply below_drew1 | apply pw_below_drewN))); rw [HSh.out] at h5; refine h5.mono ?_; rintro e w3 ⟨rfl, hb⟩; have HBn := Aside0.mk (below_step (by repeat (first | exact HBn.out | apply below_alloc | apply below_drew1 | apply pw_below_drewN)) hb); clear hb)))
            go_roundw
            case rel => exact ⟨kk + 1, c2, by omega, by go_num, by rw [← HSt.out], ⟨HC2.out.below (by repeat (first | exact HBn.out | apply below_alloc | apply below_drew1 | apply pw_below_drewN))⟩, ⟨below_step HB2.out (by repeat (first | exact HBn.out | apply below_alloc | apply below_drew1 | apply pw_below_drewN))⟩, HI2, HM2, HW2⟩
            case measure => simp [intOf]; omega
          · go_wp2_with fail
            refine HRd.out.mono ?_
            rintro e w2 ⟨rfl, hC2, hs2⟩
            have HC2 := Aside0.mk (hC2.mono (G := fun k => w.heap.size ≤ k) (fun k hk => hk.elim id (fun h5 => Nat.le_trans HBk.out.size h5)))
            have HB2 := Aside0.mk (hs2.out HBk.out (fun i hi => hi) HBk.out.size)
            have HBn := Aside0.mk (Below.refl w2.heap.size w2)
            clear hC2 hs2
            go_wp2_with (first | (go_at_call 32; go_loud (have h5 := wrong_c (HC2.out.below (by repeat (first | exact HBn.out | apply below_alloc | apply below_drew1 | apply pw_below_drewN))); rw [← HSt.out] at h5; refine h5.mono ?_; rintro e w3 ⟨rfl, hb⟩; have HBn := Aside0.mk (below_step (by repeat (first | exact HBn.out | apply below_alloc | apply below_drew1 | apply pw_below_drewN)) hb); clear hb)) | (go_at_call 33; go_loud (have h5 := shut_c (HC2.out.below (by repeat (first | exact HBn.out | apply below_alloc | apply below_drew1 | apply pw_below_drewN))); rw [HSh.out] at h5; refine h5.mono ?_; rintro e w3 ⟨rfl, hb⟩; have HBn := Aside0.mk (below_step (by repeat (first | exact HBn.out | apply below_alloc | apply below_drew1 | apply pw_below_drewN)) hb); clear hb)))
            go_roundw
            case rel => exact ⟨kk + 1, c2, by omega, by go_num, by rw [← HSt.out], ⟨HC2.out.below (by repeat (first | exact HBn.out | apply below_alloc | apply below_drew1 | apply pw_below_drewN))⟩, ⟨below_step HB2.out (by repeat (first | exact HBn.out | apply below_alloc | apply below_drew1 | apply pw_below_drewN))⟩, HI2, HM2, HW2⟩
            case measure => simp [intOf]; omega
      · have he2 := hstop he
        obtain ⟨e2, e3⟩ := Prod.mk.inj he2
        subst e2 e3
        obtain ⟨hsh, hwt⟩ : c2.shut = true ∧ c2.waits = false := HW2.out.shut.elim (fun h5 => absurd h5 he) id
        rw [hwt] at HRd
        have hs4 := HW2.out.some_
        obtain ⟨st, hst⟩ : ∃ st, st = c2.wrong := ⟨_, rfl⟩
        rw [← hst] at hs4 he ⊢
        have HSt := Aside0.mk hst
        have HSh := Aside0.mk hsh
        clear hstop he2 hwt hst hsh
        rcases hs4 with rfl | rfl | rfl | rfl
        · exact absurd rfl he
        · go_wp2_with fail
          refine HRd.out.mono ?_
          rintro e w2 ⟨rfl, hC2, hs2⟩
          have HC2 := Aside0.mk (hC2.mono (G := fun k => w.heap.size ≤ k) (fun k hk => hk.elim id (fun h5 => Nat.le_trans HBk.out.size h5)))
          have HB2 := Aside0.mk (hs2.out HBk.out (fun i hi => hi) HBk.out.size)
          have HBn := Aside0.mk (Below.refl w2.heap.size w2)
          clear hC2 hs2
          go_wp2_with (first | (go_at_call 32; go_loud (have h5 := wrong_c (HC2.out.below (by repeat (first | exact HBn.out | apply below_alloc | apply below_drew1 | apply pw_below_drewN))); rw [← HSt.out] at h5; refine h5.mono ?_; rintro e w3 ⟨rfl, hb⟩; have HBn := Aside0.mk (below_step (by repeat (first | exact HBn.out | apply below_alloc | apply below_drew1 | apply pw_below_drewN)) hb); clear hb)) | (go_at_call 33; go_loud (have h5 := shut_c (HC2.out.below (by repeat (first | exact HBn.out | apply below_alloc | apply below_drew1 | apply pw_below_drewN))); rw [HSh.out] at h5; refine h5.mono ?_; rintro e w3 ⟨rfl, hb⟩; have HBn := Aside0.mk (below_step (by repeat (first | exact HBn.out | apply below_alloc | apply below_drew1 | apply pw_below_drewN)) hb); clear hb)))
          go_roundw
          case rel => exact ⟨kk + 1, c2, by omega, by go_num, by rw [← HSt.out], ⟨HC2.out.below (by repeat (first | exact HBn.out | apply below_alloc | apply below_drew1 | apply pw_below_drewN))⟩, ⟨below_step HB2.out (by repeat (first | exact HBn.out | apply below_alloc | apply below_drew1 | apply pw_below_drewN))⟩, HI2, HM2, HW2⟩
          case measure => simp [intOf]; omega
        · go_wp2_with fail
          refine HRd.out.mono ?_
          rintro e w2 ⟨rfl, hC2, hs2⟩
          have HC2 := Aside0.mk (hC2.mono (G := fun k => w.heap.size ≤ k) (fun k hk => hk.elim id (fun h5 => Nat.le_trans HBk.out.size h5)))
          have HB2 := Aside0.mk (hs2.out HBk.out (fun i hi => hi) HBk.out.size)
          have HBn := Aside0.mk (Below.refl w2.heap.size w2)
          clear hC2 hs2
          go_wp2_with (first | (go_at_call 32; go_loud (have h5 := wrong_c (HC2.out.below (by repeat (first | exact HBn.out | apply below_alloc | apply below_drew1 | apply pw_below_drewN))); rw [← HSt.out] at h5; refine h5.mono ?_; rintro e w3 ⟨rfl, hb⟩; have HBn := Aside0.mk (below_step (by repeat (first | exact HBn.out | apply below_alloc | apply below_drew1 | apply pw_below_drewN)) hb); clear hb)) | (go_at_call 33; go_loud (have h5 := shut_c (HC2.out.below (by repeat (first | exact HBn.out | apply below_alloc | apply below_drew1 | apply pw_below_drewN))); rw [HSh.out] at h5; refine h5.mono ?_; rintro e w3 ⟨rfl, hb⟩; have HBn := Aside0.mk (below_step (by repeat (first | exact HBn.out | apply below_alloc | apply below_drew1 | apply pw_below_drewN)) hb); clear hb)))
          go_roundw
          case rel => exact ⟨kk + 1, c2, by omega, by go_num, by rw [← HSt.out], ⟨HC2.out.below (by repeat (first | exact HBn.out | apply below_alloc | apply below_drew1 | apply pw_below_drewN))⟩, ⟨below_step HB2.out (by repeat (first | exact HBn.out | apply below_alloc | apply below_drew1 | apply pw_below_drewN))⟩, HI2, HM2, HW2⟩
          case measure => simp [intOf]; omega
        · go_wp2_with fail
          refine HRd.out.mono ?_
          rintro e w2 ⟨rfl, hC2, hs2⟩
          have HC2 := Aside0.mk (hC2.mono (G := fun k => w.heap.size ≤ k) (fun k hk => hk.elim id (fun h5 => Nat.le_trans HBk.out.size h5)))
          have HB2 := Aside0.mk (hs2.out HBk.out (fun i hi => hi) HBk.out.size)
          have HBn := Aside0.mk (Below.refl w2.heap.size w2)
          clear hC2 hs2
          go_wp2_with (first | (go_at_call 32; go_loud (have h5 := wrong_c (HC2.out.below (by repeat (first | exact HBn.out | apply below_alloc | apply below_drew1 | apply pw_below_drewN))); rw [← HSt.out] at h5; refine h5.mono ?_; rintro e w3 ⟨rfl, hb⟩; have HBn := Aside0.mk (below_step (by repeat (first | exact HBn.out | apply below_alloc | apply below_drew1 | apply pw_below_drewN)) hb); clear hb)) | (go_at_call 33; go_loud (have h5 := shut_c (HC2.out.below (by repeat (first | exact HBn.out | apply below_alloc | apply below_drew1 | apply pw_below_drewN))); rw [HSh.out] at h5; refine h5.mono ?_; rintro e w3 ⟨rfl, hb⟩; have HBn := Aside0.mk (below_step (by repeat (first | exact HBn.out | apply below_alloc | apply below_drew1 | apply pw_below_drewN)) hb); clear hb)))
          go_roundw
          case rel => exact ⟨kk + 1, c2, by omega, by go_num, by rw [← HSt.out], ⟨HC2.out.below (by repeat (first | exact HBn.out | apply below_alloc | apply below_drew1 | apply pw_below_drewN))⟩, ⟨below_step HB2.out (by repeat (first | exact HBn.out | apply below_alloc | apply below_drew1 | apply pw_below_drewN))⟩, HI2, HM2, HW2⟩
          case measure => simp [intOf]; omega
    · have hltz : ¬ (kk : Int) < (N : Int) := by omega
      go_wp2_with (go_at_call 35; go_loud (refine (speaks_calls _ (HG.out.below (by repeat (first | exact HBk.out | apply below_alloc | apply below_drew1 | apply pw_below_drewN)))).mono ?_; rintro e w8 ⟨rfl, hb⟩; have HB8 := Aside0.mk (below_step (by repeat (first | exact HBk.out | apply below_alloc | apply below_drew1 | apply pw_below_drewN)) hb); clear hb))
      go_ret
      exact ⟨rfl, HB8.out⟩
end Go.Proofs.YtccolnlfjbgnmaaGreatDoor.Cli
namespace Go.Proofs.YtccolnlfjbgnmaaGreatDoor.P
open Go.RowKit Go.Proofs.YtccolnlfjbgnmaaGreatDoorW.PrintWords Go.Proofs.YtccolnlfjbgnmaaGreatDoorW.PrintLast
set_option linter.unusedVariables false
def headracelaw23_ClientWrong.f (k : Nat) (l0 : List (List Int)) : Option Bool := if l0.flatten.length + l0.length ≤ 1048576 then some true else none
theorem headracelaw23_ClientWrong.calls (k : Nat) (A0 : Option Addr) (c0 : Nat) (l0 : List (List Int)) (r : Bool) (w : World) (hr0 : Kd.C (Kd.slice 5 (Kd.int .u8)) w A0 l0.length l0) (hc0 : l0.length ≤ c0) (h : headracelaw23_ClientWrong.f k l0 = some r) (hG_ : GInv w) :
    Calls Tryz.prog 9 #[.slice A0 l0.length c0] w fun e w' => e = .returned (.bool r) ∧ Below w.heap.size w w' := by
  unfold headracelaw23_ClientWrong.f at h
  split at h
  · rename_i hb
    obtain rfl := Option.some.inj h
    exact Cli.wrong_law l0 A0 c0 w hr0 hc0 hb hG_
  · cases h
end Go.Proofs.YtccolnlfjbgnmaaGreatDoor.P
namespace Go.Proofs.YtccolnlfjbgnmaaGreatDoor.Px
set_option linter.unusedVariables false
theorem pure_ClientWrong (l : List (List Int)) (hb : l.flatten.length + l.length ≤ 1048576) (_ : ∀ b ∈ l, ∀ x ∈ b, (Go.Lit.int .u8 x).wf = true) : ∃ k, P.headracelaw23_ClientWrong.f k l = some true := ⟨0, by unfold P.headracelaw23_ClientWrong.f; rw [if_pos hb]⟩
end Go.Proofs.YtccolnlfjbgnmaaGreatDoor.Px
