/- ClientPieces: however bytes are parted, the same: plainly, and the walk; own text of this session (gen_lcpieces.py). -/
import Derived.Test.YtccolnlfjbgnmaaGreatDoorLCWrong
namespace Go.Proofs.YtccolnlfjbgnmaaGreatDoor.Cli
open Go.RowKit Go.Proofs.YtccolnlfjbgnmaaGreatDoorW.PrintWords Go.Proofs.YtccolnlfjbgnmaaGreatDoorW.PrintLast Chk Px Hr Hd
open Bod (Bd feedB byteB feedB_stop feedB_next feedB_count BFine newB BRep FeedB feedB_calls)
set_option linter.unusedVariables false
set_option linter.unusedSimpArgs false
theorem readC_zero {c : Cl} {b : List Int} (h : (readC c b).2 = 0) : readC c b = (c, 0) := by
  cases b with
  | nil => rfl
  | cons x t =>
    by_cases hr : c.rests
    · exact readC_stop c _ (.inr hr)
    · rw [readC_next c x t hr] at h
      exact absurd (show _ + 1 = 0 from h) (by omega)
theorem readC_pre (b : List Int) : ∀ (c : Cl) (m : Nat), m ≤ (readC c b).2 → (readC c (b.take m)).2 = m := by
  induction b with
  | nil =>
    intro c m h
    have h5 : m ≤ 0 := h
    have h6 : m = 0 := Nat.le_zero.1 h5
    subst h6
    rfl
  | cons x t ih =>
    intro c m h
    by_cases hr : c.rests
    · rw [readC_stop c (x :: t) (.inr hr)] at h
      have : m ≤ 0 := h
      obtain rfl : m = 0 := by omega
      rfl
    · rw [readC_next c x t hr] at h
      cases m with
      | zero => rfl
      | succ m =>
        rw [List.take_succ_cons, readC_next c x _ hr]
        show _ + 1 = _
        rw [ih (byteC c x) m (by have : m + 1 ≤ _ + 1 := h; omega)]
theorem readC_take (c : Cl) (b : List Int) : readC c (b.take (readC c b).2) = readC c b := by
  have hle := (readC_count b c).1
  have hp := readC_pre b c _ (Nat.le_refl _)
  have happ := readC_append (b.take (readC c b).2) (b.drop (readC c b).2) c
  rw [List.take_append_drop] at happ
  have hlen : (b.take (readC c b).2).length = (readC c b).2 := by rw [List.length_take]; omega
  rw [hlen, if_pos hp] at happ
  have h2 := congrArg Prod.snd happ
  simp only at h2
  have h3 := readC_zero (c := (readC c (b.take (readC c b).2)).1) (b := b.drop (readC c b).2) (by omega)
  rw [h3] at happ
  refine Prod.ext ?_ hp
  have h4 := congrArg Prod.fst happ
  exact h4.symm
/-- A piece of what is read. -/
theorem readC_piece (c : Cl) (b : List Int) (i j : Nat) (hij : i ≤ j) (hj : j ≤ (readC c b).2) : readC (readC c (b.take i)).1 ((b.take j).drop i) = ((readC c (b.take j)).1, j - i) := by
  have hle := (readC_count b c).1
  have h1 := readC_pre b c i (by omega)
  have h2 := readC_pre b c j hj
  have e : b.take j = b.take i ++ (b.take j).drop i := by
    have h5 := List.take_append_drop i (b.take j)
    rw [List.take_take, show min i j = i by omega] at h5
    exact h5.symm
  have happ := readC_append (b.take i) ((b.take j).drop i) c
  rw [← e, List.length_take, show min i b.length = i by omega, if_pos h1] at happ
  have h3 := congrArg Prod.snd happ
  have h4 := congrArg Prod.fst happ
  simp only at h3 h4
  exact Prod.ext h4.symm (by omega)
theorem CRep.stay {w w1 : World} {F G : Nat → Prop} {q : Nat} {c : Cl} (h : CRep w F q c) (hs : Stay G w w1) (hd : ∀ k, F k → k < w.heap.size → ¬ G k) : CRep w1 F q c := by
  obtain ⟨a, kp, rv, vd, vl, vf, Fp, Fr, Fd, h1, h2, h3, h4⟩ := h
  refine ⟨a, kp, rv, vd, vl, vf, Fp, Fr, Fd, h1.move hs.size (fun k hk hl => hs.block k hl ?_), h2, h3, h4⟩
  rcases hk with rfl | hk | hk | hk
  · exact hd _ a hl
  · exact hd k (h2 k hk) hl
  · exact hd k (h3 k hk) hl
  · exact hd k (h4 k hk) hl
theorem hC_take {w : World} {A : Option Addr} {n : Nat} {xs : List Int} (h : (Kd.int .u8).C w A n xs) (i : Nat) (hi : i ≤ n) : (Kd.int .u8).C w A i (xs.take i) :=
  Kd.C_of_reads (d := (0 : Int)) (h1 := fun _ => rfl) (ReadsOf.take_ (Kd.reads_of_C (enc := Value.int .u8) (d := (0 : Int)) (h1 := fun _ => rfl) h) i hi)
def reqH (c : Cl) : Head := if c.waits = true then c.par.hd else head0 false
def reqD (c : Cl) : List Int := if c.waits = true then c.data else []
theorem request_calls (w : World) (q : Nat) (c : Cl) (F : Nat → Prop) (h : CRep w F q c) (hI : CInv c) (hdl : c.data.length ≤ 2000000000) : Calls Tryz.prog 36 #[.pointer (some ⟨q, 0, none⟩)] w (ReqP (reqH c) (reqD c) c.waits w) := by
  unfold reqH reqD
  cases hw : c.waits with
  | true =>
    simp only [if_true]
    have hb := hI.body (hI.wst hw)
    exact request_yes w q c F h hw hb.1 ((hI.par hb.2).fields hI.most1).2 hdl
  | false =>
    simp only [Bool.false_eq_true, if_false]
    exact request_no w q c F h hw
set_option maxHeartbeats 16000000 in
set_option maxRecDepth 100000 in
theorem pieces_law (b : List Int) (A0 : Option Addr) (c0 : Nat) (cs : List Int) (A1 : Option Addr) (cc : Nat) (w : World) (hr0 : Kd.C (Kd.int .u8) w A0 b.length b) (hc0 : b.length ≤ c0) (hr1 : Kd.C (Kd.int .i64) w A1 cs.length cs) (hc1 : cs.length ≤ cc) (hb : b.length ≤ 1048576) (hcb : cs.length ≤ 1048576) (hG : GInv w) :
    Calls Tryz.prog 10 #[.slice A0 b.length c0, .slice A1 cs.length cc] w fun e w' => e = .returned (.bool true) ∧ Below w.heap.size w w' := by
  have hI0 : CInv (newC 200 20) := CInv.new (by decide) (by decide) (by decide) (by decide)
  have hcn := (readC_count b (newC 200 20)).1
  have hinv := readC_inv b hI0 CMass.new
  have htk := readC_take (newC 200 20) b
  have hpc := readC_piece (newC 200 20) b
  obtain ⟨⟨c1, n⟩, hq⟩ : ∃ x, x = readC (newC 200 20) b := ⟨_, rfl⟩
  rw [← hq] at hcn hinv htk hpc
  simp only at hcn hinv htk hpc
  have HI1 := Aside0.mk hinv.1
  have HD1 : Aside0 (c1.data.length ≤ 2000000000) := ⟨by have := hinv.2.data; omega⟩
  have HTk := Aside0.mk htk
  have HPc := Aside0.mk hpc
  have HC0 := Aside0.mk hr0
  have HG := Aside0.mk hG
  have HRd1 : Aside0 (∀ (W : World) (F : Nat → Prop) (q : Nat), CRep W F q (newC 200 20) → Below w.heap.size w W → (∀ k, F k → w.heap.size ≤ k) → Calls Tryz.prog 31 #[.pointer (some ⟨q, 0, none⟩), .slice A0 b.length c0] W fun e w' => e = .returned (.tuple #[.int .i64 (n : Int), .bool c1.waits]) ∧ CRep w' (fun k => F k ∨ W.heap.size ≤ k) q c1 ∧ Stay F W w') := ⟨fun W F q hC hB hF => by
    have h5 := read_calls w W F q _ hC ⟨hG, hB, hF⟩ hI0 0 CMass.new b A0 c0 (by omega) hc0 (fun W' hs => Kd.C_below hr0 (hs.out hB hF hB.size))
    rw [← hq] at h5
    exact h5⟩
  have HRd2 : Aside0 (∀ (W : World) (F : Nat → Prop) (q i j : Nat), i < j → j ≤ n → CRep W F q (readC (newC 200 20) (b.take i)).1 → Below w.heap.size w W → (∀ k, F k → w.heap.size ≤ k) → Calls Tryz.prog 31 #[.pointer (some ⟨q, 0, none⟩), .slice (if c0 = i then A0 else A0.map (·.add i)) (j - i) (c0 - i)] W fun e w' => e = .returned (.tuple #[.int .i64 ((j - i : Nat) : Int), .bool (readC (newC 200 20) (b.take j)).1.waits]) ∧ CRep w' (fun k => F k ∨ W.heap.size ≤ k) q (readC (newC 200 20) (b.take j)).1 ∧ Stay F W w') := ⟨fun W F q i j hij hj hC hB hF => by
    have hl : ((b.take j).drop i).length = j - i := by rw [List.length_drop, List.length_take]; omega
    have hiv := readC_inv (b.take i) hI0 CMass.new
    have hcn2 := (readC_count (b.take i) (newC 200 20)).1
    have hlt : (b.take i).length ≤ b.length := by rw [List.length_take]; omega
    have h5 := read_calls w W F q _ hC ⟨hG, hB, hF⟩ hiv.1 _ hiv.2 ((b.take j).drop i) (if c0 = i then A0 else A0.map (·.add i)) (c0 - i) (by rw [hl]; omega) (by rw [hl]; omega) (fun W' hs => by
      rw [hl]
      exact C_drop (hC_take (Kd.C_below hr0 (hs.out hB hF hB.size)) j (by omega)) i (by omega) (by omega))
    rw [hl, hpc i j (by omega) hj] at h5
    exact h5⟩
  have HRq : Aside0 (∀ (W : World) (F : Nat → Prop) (q : Nat), CRep W F q c1 → Calls Tryz.prog 36 #[.pointer (some ⟨q, 0, none⟩)] W (ReqP (reqH c1) (reqD c1) c1.waits W)) := ⟨fun W F q hC => request_calls W q c1 F hC HI1.out HD1.out⟩
  obtain ⟨x, hx⟩ : ∃ x, x = reqH c1 := ⟨_, rfl⟩
  obtain ⟨dd, hdd⟩ : ∃ d, d = reqD c1 := ⟨_, rfl⟩
  have hxl : x.f6.length ≤ 4611686018427387904 := by
    rw [hx]
    unfold reqH
    split
    · rename_i hw
      have hb5 := HI1.out.body (HI1.out.wst hw)
      have := ((HI1.out.par hb5.2).fields HI1.out.most1).2
      omega
    · decide
  have HXl := Aside0.mk hxl
  rw [← hx, ← hdd] at HRq
  unfold ReqP at HRq
  obtain ⟨M, hM⟩ : ∃ M, M = dd.length := ⟨_, rfl⟩
  have HM := Aside0.mk hM
  rw [← hM] at HRq
  have HNw := Aside0.mk (fun W => new_ok 200 20 W (by decide) (by decide) (by decide) (by decide))
  obtain ⟨L, hL⟩ : ∃ L, L = b.length := ⟨_, rfl⟩
  rw [← hL] at HRd1 hcn hb hc0 ⊢
  obtain ⟨CN, hCN⟩ : ∃ CN, CN = cs.length := ⟨_, rfl⟩
  rw [← hCN] at hr1 hc1 hcb ⊢
  have HC1 := Aside0.mk hr1
  have HCN := Aside0.mk hCN
  have hnz : (n : Int) ≤ 1048576 := by omega
  have hcz : (CN : Int) ≤ 1048576 := by omega
  have hnc : (n : Int) ≤ (c0 : Int) := by omega
  have HNL : Aside0 (n ≤ L ∧ L ≤ c0) := ⟨⟨hcn, hc0⟩⟩
  have HQ := Aside0.mk hq
  clear hI0 hcn hinv htk hpc hr0 hr1 hG hq hx hdd hxl hM hL hCN hb hc0 hc1 hcb
  go_enter Tryz.func10, Tryz.ntmps10
  go_wp2_with fail
  refine (HNw.out _).mono ?_
  rintro e w1 ⟨q1, rfl, hC1, hb1⟩
  have HA1 := Aside0.mk hC1.trim
  have HB1 := Aside0.mk hb1
  clear hC1 hb1
  go_wp2_with fail
  refine (HNw.out _).mono ?_
  rintro e w2 ⟨q2, rfl, hC2, hb2⟩
  have HA2 := Aside0.mk (HA1.out.below hb2)
  have HD2 := Aside0.mk hC2.trim
  have HB12 := Aside0.mk hb2
  have HB2 := Aside0.mk (below_step HB1.out hb2)
  clear hC2 hb2 HA1
  go_wp2_with fail
  refine (HRd1.out _ _ _ HA2.out HB2.out (fun k hk => hk.1)).mono ?_
  rintro e w3 ⟨rfl, hC3, hs3⟩
  have HA3 := Aside0.mk hC3.trim
  have HD3 := Aside0.mk (HD2.out.stay hs3 (fun k hk hl h5 => by have := hk.1; have := h5.2; omega))
  have HB3 := Aside0.mk (hs3.out HB2.out (fun i hi => hi.1) HB2.out.size)
  have HZ3 := Aside0.mk hs3.size
  clear hC3 hs3 HA2 HD2
  go_wp2
  go_loopw [11, 12, 13] (fun n11 n12 n13 wr => ∃ (at_ i : Nat), at_ ≤ n ∧ i ≤ at_ ∧ n11 = .int .i64 at_ ∧ n12 = .bool (readC (newC 200 20) (b.take at_)).1.waits ∧ n13 = .int .i64 i ∧ Aside0 (CRep wr (fun k => (w1.heap.size ≤ k ∧ k < w2.heap.size) ∨ w3.heap.size ≤ k) q2 (readC (newC 200 20) (b.take at_)).1) ∧ Aside0 (Stay (fun k => (w1.heap.size ≤ k ∧ k < w2.heap.size) ∨ w3.heap.size ≤ k) w3 wr)) (fun n11 _ _ _ => n - (intOf n11).toNat)
  case atStart => exact ⟨0, 0, Nat.zero_le _, Nat.le_refl _, rfl, rfl, rfl, ⟨HD3.out.mono (fun k hk => .inl hk)⟩, ⟨Stay.refl _ _⟩⟩
  case round =>
    obtain ⟨at_, i, hat, hia, rfl, rfl, rfl, HDk, HSt⟩ := hrel
    have HFw : Aside0 (∀ k, ((w1.heap.size ≤ k ∧ k < w2.heap.size) ∨ w3.heap.size ≤ k) → w.heap.size ≤ k) := ⟨fun k hk => by
      have h1 := HB1.out.size
      have h3 := HB3.out.size
      rcases hk with h5 | h5
      · have := h5.1; omega
      · omega⟩
    have HBr := Aside0.mk (HSt.out.out HB3.out HFw.out HB3.out.size)
    by_cases hlt : at_ < n
    · have hltz : (at_ : Int) < (n : Int) := by omega
      have hac : ¬ c0 = at_ := by have := HNL.out; omega
      obtain ⟨ad0, eA0, hx0⟩ := Kd.at_int (Kd.C_below HC0.out HBr.out) (at_ : Int) (by omega) (by have := HNL.out; have := (readC_count b (newC 200 20)).1; rw [← HQ.out] at this; simp only at this; omega)
      cases eA0
      clear hx0
      obtain ⟨dw, hdw⟩ : ∃ d, d = (readC (newC 200 20) (b.take at_)).1.waits := ⟨_, rfl⟩
      rw [← hdw]
      clear hdw
      by_cases hi : i < CN
      · have hiz : (i : Int) < (CN : Int) := by omega
        obtain ⟨ad, eA, hxi⟩ := Kd.at_int (Kd.C_below HC1.out HBr.out) (i : Int) (by omega) (by omega)
        cases eA
        rw [Int.toNat_natCast] at hxi
        obtain ⟨xi, hxe⟩ : ∃ xi, xi = rd cs (i : Int) := ⟨_, rfl⟩
        rw [← hxe] at hxi
        clear hxe
        by_cases h0 : 0 < xi
        · by_cases h1 : xi < (n : Int) - (at_ : Int)
          · obtain ⟨m, rfl⟩ : ∃ m : Nat, xi = (m : Int) := ⟨xi.toNat, by omega⟩
            have hm1 : 0 < m := by omega
            have hmn : at_ + m ≤ n := by omega
            have hamz : (at_ : Int) + (m : Int) ≤ (n : Int) := by omega
            have hac0 : (at_ : Int) + (m : Int) ≤ (c0 : Int) := by omega
            have hwq : IntKind.i64.wrap ((at_ : Int) + (m : Int)) = (at_ : Int) + (m : Int) := IntWalk.i64_in _ (by omega)
            have hwn : IntKind.i64.wrap ((n : Int) - (at_ : Int)) = (n : Int) - (at_ : Int) := IntWalk.i64_in _ (by omega)
            have hcall := fun (W : World) (hC : CRep W (fun k => (w1.heap.size ≤ k ∧ k < w2.heap.size) ∨ w3.heap.size ≤ k) q2 (readC (newC 200 20) (b.take at_)).1) (hB : Below w.heap.size w W) => HRd2.out W _ q2 at_ (at_ + m) (by omega) (by omega) hC hB HFw.out
            simp only [if_neg hac, Option.map_some] at hcall
            rw [show at_ + m - at_ = m by omega] at hcall
            have HCall := Aside0.mk hcall
            clear hcall
            go_wp2_with fail
            refine (HCall.out _ HDk.out HBr.out).mono ?_
            rintro e w4 ⟨rfl, hC4, hs4⟩
            have HD4 := Aside0.mk (hC4.mono (G := fun k => (w1.heap.size ≤ k ∧ k < w2.heap.size) ∨ w3.heap.size ≤ k) (fun k hk => hk.elim id (fun h5 => .inr (Nat.le_trans HSt.out.size h5))))
            have HS4 := Aside0.mk (HSt.out.trans hs4 (fun i hi => .inl hi))
            clear hC4 hs4
            go_wp2
            go_roundw
            case rel => exact ⟨at_ + m, i + 1, by omega, by omega, by go_num, rfl, by go_num, HD4, HS4⟩
            case measure => simp [intOf]; omega
          · have h1z : ¬ xi < (n : Int) - (at_ : Int) := h1
            have hwn : IntKind.i64.wrap ((n : Int) - (at_ : Int)) = (n : Int) - (at_ : Int) := IntWalk.i64_in _ (by omega)
            have hcall := fun (W : World) (hC : CRep W (fun k => (w1.heap.size ≤ k ∧ k < w2.heap.size) ∨ w3.heap.size ≤ k) q2 (readC (newC 200 20) (b.take at_)).1) (hB : Below w.heap.size w W) => HRd2.out W _ q2 at_ (n) (by omega) (by omega) hC hB HFw.out
            simp only [if_neg hac, Option.map_some] at hcall
            have hsub : ((n - at_ : Nat) : Int) = (n : Int) - (at_ : Int) := by omega
            have HCall := Aside0.mk hcall
            clear hcall
            go_wp2_with fail
            refine (HCall.out _ HDk.out HBr.out).mono ?_
            rintro e w4 ⟨rfl, hC4, hs4⟩
            have HD4 := Aside0.mk (hC4.mono (G := fun k => (w1.heap.size ≤ k ∧ k < w2.heap.size) ∨ w3.heap.size ≤ k) (fun k hk => hk.elim id (fun h5 => .inr (Nat.le_trans HSt.out.size h5))))
            have HS4 := Aside0.mk (HSt.out.trans hs4 (fun i hi => .inl hi))
            clear hC4 hs4
            go_wp2
            go_roundw
            case rel => exact ⟨n, i + 1, by omega, by omega, by go_num, rfl, by go_num, HD4, HS4⟩
            case measure => simp [intOf]; omega
        · have h0z : ¬ 0 < xi := h0
          have hcall := fun (W : World) (hC : CRep W (fun k => (w1.heap.size ≤ k ∧ k < w2.heap.size) ∨ w3.heap.size ≤ k) q2 (readC (newC 200 20) (b.take at_)).1) (hB : Below w.heap.size w W) => HRd2.out W _ q2 at_ (n) (by omega) (by omega) hC hB HFw.out
          simp only [if_neg hac, Option.map_some] at hcall
          have hsub : ((n - at_ : Nat) : Int) = (n : Int) - (at_ : Int) := by omega
          have HCall := Aside0.mk hcall
          clear hcall
          go_wp2_with fail
          refine (HCall.out _ HDk.out HBr.out).mono ?_
          rintro e w4 ⟨rfl, hC4, hs4⟩
          have HD4 := Aside0.mk (hC4.mono (G := fun k => (w1.heap.size ≤ k ∧ k < w2.heap.size) ∨ w3.heap.size ≤ k) (fun k hk => hk.elim id (fun h5 => .inr (Nat.le_trans HSt.out.size h5))))
          have HS4 := Aside0.mk (HSt.out.trans hs4 (fun i hi => .inl hi))
          clear hC4 hs4
          go_wp2
          go_roundw
          case rel => exact ⟨n, i + 1, by omega, by omega, by go_num, rfl, by go_num, HD4, HS4⟩
          case measure => simp [intOf]; omega
      · have hiz : ¬ (i : Int) < (CN : Int) := by omega
        have hcall := fun (W : World) (hC : CRep W (fun k => (w1.heap.size ≤ k ∧ k < w2.heap.size) ∨ w3.heap.size ≤ k) q2 (readC (newC 200 20) (b.take at_)).1) (hB : Below w.heap.size w W) => HRd2.out W _ q2 at_ (n) (by omega) (by omega) hC hB HFw.out
        simp only [if_neg hac, Option.map_some] at hcall
        have hsub : ((n - at_ : Nat) : Int) = (n : Int) - (at_ : Int) := by omega
        have HCall := Aside0.mk hcall
        clear hcall
        go_wp2_with fail
        refine (HCall.out _ HDk.out HBr.out).mono ?_
        rintro e w4 ⟨rfl, hC4, hs4⟩
        have HD4 := Aside0.mk (hC4.mono (G := fun k => (w1.heap.size ≤ k ∧ k < w2.heap.size) ∨ w3.heap.size ≤ k) (fun k hk => hk.elim id (fun h5 => .inr (Nat.le_trans HSt.out.size h5))))
        have HS4 := Aside0.mk (HSt.out.trans hs4 (fun i hi => .inl hi))
        clear hC4 hs4
        go_wp2
        go_roundw
        case rel => exact ⟨n, i + 1, by omega, by omega, by go_num, rfl, by go_num, HD4, HS4⟩
        case measure => simp [intOf]; omega
    · have hltz : ¬ (at_ : Int) < (n : Int) := by omega
      obtain rfl : at_ = n := by omega
      rw [HTk.out] at HDk ⊢
      simp only at HDk ⊢
      have HAk := Aside0.mk (HA3.out.stay HSt.out (fun k hk hl h5 => by
        have hz := HZ3.out
        have hz2 := HB12.out.size
        rcases h5 with h5 | h5
        · rcases hk.1 with h6 | h6
          · have := h6.2; omega
          · omega
        · have := hk.2; omega))
      go_wp2_with fail
      refine (HRq.out _ _ _ HAk.out).mono ?_
      rintro e w5 ⟨A5, c5, B5, d5, rfl, hc5, hC5, hd5, hD5, hb5⟩
      have HA5 := Aside0.mk (HAk.out.below hb5)
      have HD5 := Aside0.mk (HDk.out.below hb5)
      have HB5 := Aside0.mk (below_step HBr.out hb5)
      have HC5 := Aside0.mk hC5
      have Hc5 := Aside0.mk hc5
      have HE5 := Aside0.mk hD5
      have HK5 := Aside0.mk (blk_new w5 (.cells #[.bool x.f0, .string x.f1, .string x.f2, .int .i64 x.f3, .int .i64 x.f4, .string x.f5, .slice A5 x.f6.length c5] 24))
      have HWa := Aside0.mk (below_alloc (Below.refl w5.heap.size w5) (.cells #[.bool x.f0, .string x.f1, .string x.f2, .int .i64 x.f3, .int .i64 x.f4, .string x.f5, .slice A5 x.f6.length c5] 24))
      clear hb5 hC5 hc5 hD5 hd5
      go_wp2_with fail
      refine (HRq.out _ _ _ (HD5.out.below HWa.out)).mono ?_
      rintro e w6 ⟨A6, c6, B6, d6, rfl, hc6, hC6, hd6, hD6, hb6⟩
      have HB56 := Aside0.mk (below_step HWa.out hb6)
      have HA6 := Aside0.mk (HA5.out.below (below_alloc HB56.out (.cells #[.bool x.f0, .string x.f1, .string x.f2, .int .i64 x.f3, .int .i64 x.f4, .string x.f5, .slice A6 x.f6.length c6] 24)))
      have HD6 := Aside0.mk (HD5.out.below (below_alloc HB56.out (.cells #[.bool x.f0, .string x.f1, .string x.f2, .int .i64 x.f3, .int .i64 x.f4, .string x.f5, .slice A6 x.f6.length c6] 24)))
      have HB6 := Aside0.mk (below_step HB5.out (below_alloc HB56.out (.cells #[.bool x.f0, .string x.f1, .string x.f2, .int .i64 x.f3, .int .i64 x.f4, .string x.f5, .slice A6 x.f6.length c6] 24)))
      have HC6 := Aside0.mk (Kd.C_below hC6 (below_alloc (Below.refl w6.heap.size w6) (.cells #[.bool x.f0, .string x.f1, .string x.f2, .int .i64 x.f3, .int .i64 x.f4, .string x.f5, .slice A6 x.f6.length c6] 24)))
      have HE6 := Aside0.mk (Kd.C_below hD6 (below_alloc (Below.refl w6.heap.size w6) (.cells #[.bool x.f0, .string x.f1, .string x.f2, .int .i64 x.f3, .int .i64 x.f4, .string x.f5, .slice A6 x.f6.length c6] 24)))
      have HC5' := Aside0.mk (Kd.C_below HC5.out (below_alloc HB56.out (.cells #[.bool x.f0, .string x.f1, .string x.f2, .int .i64 x.f3, .int .i64 x.f4, .string x.f5, .slice A6 x.f6.length c6] 24)))
      have HE5' := Aside0.mk (Kd.C_below HE5.out (below_alloc HB56.out (.cells #[.bool x.f0, .string x.f1, .string x.f2, .int .i64 x.f3, .int .i64 x.f4, .string x.f5, .slice A6 x.f6.length c6] 24)))
      have Hc6 := Aside0.mk hc6
      have HK5' := Aside0.mk (blk_alloc (blk_below HK5.out hb6) (.cells #[.bool x.f0, .string x.f1, .string x.f2, .int .i64 x.f3, .int .i64 x.f4, .string x.f5, .slice A6 x.f6.length c6] 24))
      have HK6 := Aside0.mk (blk_new w6 (.cells #[.bool x.f0, .string x.f1, .string x.f2, .int .i64 x.f3, .int .i64 x.f4, .string x.f5, .slice A6 x.f6.length c6] 24))
      have HBn := Aside0.mk (Below.refl (w6.alloc (.cells #[.bool x.f0, .string x.f1, .string x.f2, .int .i64 x.f3, .int .i64 x.f4, .string x.f5, .slice A6 x.f6.length c6] 24)).heap.size (w6.alloc (.cells #[.bool x.f0, .string x.f1, .string x.f2, .int .i64 x.f3, .int .i64 x.f4, .string x.f5, .slice A6 x.f6.length c6] 24)))
      clear hb6 hC6 hc6 hD6 hd6
      go_wp2_with fail
      refine (wrong_c (HA6.out.below (by repeat (first | exact HBn.out | apply below_alloc | apply below_drew1 | apply pw_below_drewN)))).mono ?_
      rintro e w7 ⟨rfl, hb⟩
      have HBn := Aside0.mk (below_step (by repeat (first | exact HBn.out | apply below_alloc | apply below_drew1 | apply pw_below_drewN)) hb)
      clear hb
      go_wp2_with fail
      refine (wrong_c (HD6.out.below (by repeat (first | exact HBn.out | apply below_alloc | apply below_drew1 | apply pw_below_drewN)))).mono ?_
      rintro e w7 ⟨rfl, hb⟩
      have HBn := Aside0.mk (below_step (by repeat (first | exact HBn.out | apply below_alloc | apply below_drew1 | apply pw_below_drewN)) hb)
      clear hb
      go_wp2_with fail
      refine (shut_c (HA6.out.below (by repeat (first | exact HBn.out | apply below_alloc | apply below_drew1 | apply pw_below_drewN)))).mono ?_
      rintro e w7 ⟨rfl, hb⟩
      have HBn := Aside0.mk (below_step (by repeat (first | exact HBn.out | apply below_alloc | apply below_drew1 | apply pw_below_drewN)) hb)
      clear hb
      go_wp2_with fail
      refine (shut_c (HD6.out.below (by repeat (first | exact HBn.out | apply below_alloc | apply below_drew1 | apply pw_below_drewN)))).mono ?_
      rintro e w7 ⟨rfl, hb⟩
      have HBn := Aside0.mk (below_step (by repeat (first | exact HBn.out | apply below_alloc | apply below_drew1 | apply pw_below_drewN)) hb)
      clear hb
      go_wp2_with fail
      refine (begun_c (HA6.out.below (by repeat (first | exact HBn.out | apply below_alloc | apply below_drew1 | apply pw_below_drewN)))).mono ?_
      rintro e w7 ⟨rfl, hb⟩
      have HBn := Aside0.mk (below_step (by repeat (first | exact HBn.out | apply below_alloc | apply below_drew1 | apply pw_below_drewN)) hb)
      clear hb
      go_wp2_with fail
      refine (begun_c (HD6.out.below (by repeat (first | exact HBn.out | apply below_alloc | apply below_drew1 | apply pw_below_drewN)))).mono ?_
      rintro e w7 ⟨rfl, hb⟩
      have HBn := Aside0.mk (below_step (by repeat (first | exact HBn.out | apply below_alloc | apply below_drew1 | apply pw_below_drewN)) hb)
      clear hb
      have hk5 := blk_below HK5'.out HBn.out
      have hk6 := blk_below HK6.out HBn.out
      have y0 : w7.cell? ⟨w5.heap.size, 0, none⟩ = some (.bool x.f0) := (blk_cell hk5 0).trans rfl
      have y1 : w7.cell? ⟨w5.heap.size, 1, none⟩ = some (.string x.f1) := (blk_cell hk5 1).trans rfl
      have y2 : w7.cell? ⟨w5.heap.size, 2, none⟩ = some (.string x.f2) := (blk_cell hk5 2).trans rfl
      have y3 : w7.cell? ⟨w5.heap.size, 3, none⟩ = some (.int .i64 x.f3) := (blk_cell hk5 3).trans rfl
      have y4 : w7.cell? ⟨w5.heap.size, 4, none⟩ = some (.int .i64 x.f4) := (blk_cell hk5 4).trans rfl
      have y5 : w7.cell? ⟨w5.heap.size, 5, none⟩ = some (.string x.f5) := (blk_cell hk5 5).trans rfl
      have y6 : w7.cell? ⟨w5.heap.size, 6, none⟩ = some (.slice A5 x.f6.length c5) := (blk_cell hk5 6).trans rfl
      have z0 : w7.cell? ⟨w6.heap.size, 0, none⟩ = some (.bool x.f0) := (blk_cell hk6 0).trans rfl
      have z1 : w7.cell? ⟨w6.heap.size, 1, none⟩ = some (.string x.f1) := (blk_cell hk6 1).trans rfl
      have z2 : w7.cell? ⟨w6.heap.size, 2, none⟩ = some (.string x.f2) := (blk_cell hk6 2).trans rfl
      have z3 : w7.cell? ⟨w6.heap.size, 3, none⟩ = some (.int .i64 x.f3) := (blk_cell hk6 3).trans rfl
      have z4 : w7.cell? ⟨w6.heap.size, 4, none⟩ = some (.int .i64 x.f4) := (blk_cell hk6 4).trans rfl
      have z5 : w7.cell? ⟨w6.heap.size, 5, none⟩ = some (.string x.f5) := (blk_cell hk6 5).trans rfl
      have z6 : w7.cell? ⟨w6.heap.size, 6, none⟩ = some (.slice A6 x.f6.length c6) := (blk_cell hk6 6).trans rfl
      go_wp2_with fail
      refine (plain_same x A5 A6 c5 c6 _ HXl.out (Kd.C_below HC5'.out (by repeat (first | exact HBn.out | apply below_alloc | apply below_drew1 | apply pw_below_drewN))) Hc5.out (Kd.C_below HC6.out (by repeat (first | exact HBn.out | apply below_alloc | apply below_drew1 | apply pw_below_drewN))) Hc6.out).mono ?_
      rintro e w8 ⟨rfl, hb⟩
      have HBm := Aside0.mk (below_step (by repeat (first | exact HBn.out | apply below_alloc | apply below_drew1 | apply pw_below_drewN)) hb)
      have hcv1 : (convert 33 9 (.slice B5 M d5)).run Tryz.prog w8 = Result.ok (.string (strOfNums dd)) w8 := Kd.C_string Tryz.underlying33 Tryz.underlying5 Tryz.underlying9 (Kd.C_below HE5'.out HBm.out)
      have hcv2 : (convert 33 9 (.slice B6 M d6)).run Tryz.prog w8 = Result.ok (.string (strOfNums dd)) w8 := Kd.C_string Tryz.underlying33 Tryz.underlying5 Tryz.underlying9 (Kd.C_below HE6.out HBm.out)
      obtain ⟨ss, hss⟩ : ∃ s, s = strOfNums dd := ⟨_, rfl⟩
      rw [← hss] at hcv1 hcv2
      clear hb hss hk5 hk6
      go_wp2_with fail
      refine (speaks_calls _ (HG.out.below (below_step HB6.out (by repeat (first | exact HBm.out | apply below_alloc | apply below_drew1 | apply pw_below_drewN))))).mono ?_
      rintro e w9 ⟨rfl, hb9⟩
      have HB9 := Aside0.mk (below_step (below_step HB6.out (by repeat (first | exact HBm.out | apply below_alloc | apply below_drew1 | apply pw_below_drewN))) hb9)
      clear hb9
      go_wp2
      go_ret
      exact ⟨rfl, HB9.out⟩
end Go.Proofs.YtccolnlfjbgnmaaGreatDoor.Cli
namespace Go.Proofs.YtccolnlfjbgnmaaGreatDoor.P
open Go.RowKit Go.Proofs.YtccolnlfjbgnmaaGreatDoorW.PrintWords Go.Proofs.YtccolnlfjbgnmaaGreatDoorW.PrintLast
set_option linter.unusedVariables false
def headracelaw23_ClientPieces.f (k : Nat) (l0 : List Int) (l1 : List Int) : Option Bool := if l0.length ≤ 1048576 ∧ l1.length ≤ 1048576 then some true else none
theorem headracelaw23_ClientPieces.calls (k : Nat) (A0 : Option Addr) (c0 : Nat) (l0 : List Int) (A1 : Option Addr) (c1 : Nat) (l1 : List Int) (r : Bool) (w : World) (hr0 : Kd.C (Kd.int .u8) w A0 l0.length l0) (hc0 : l0.length ≤ c0) (hr1 : Kd.C (Kd.int .i64) w A1 l1.length l1) (hc1 : l1.length ≤ c1) (h : headracelaw23_ClientPieces.f k l0 l1 = some r) (hG_ : GInv w) :
    Calls Tryz.prog 10 #[.slice A0 l0.length c0, .slice A1 l1.length c1] w fun e w' => e = .returned (.bool r) ∧ Below w.heap.size w w' := by
  unfold headracelaw23_ClientPieces.f at h
  split at h
  · rename_i hb
    obtain rfl := Option.some.inj h
    exact Cli.pieces_law l0 A0 c0 l1 A1 c1 w hr0 hc0 hr1 hc1 hb.1 hb.2 hG_
  · cases h
end Go.Proofs.YtccolnlfjbgnmaaGreatDoor.P
namespace Go.Proofs.YtccolnlfjbgnmaaGreatDoor.Px
set_option linter.unusedVariables false
theorem pure_ClientPieces (l m : List Int) (hb : l.length ≤ 1048576) (_ : ∀ x ∈ l, (Go.Lit.int .u8 x).wf = true) (hm : m.length ≤ 1048576) (_ : ∀ x ∈ m, (Go.Lit.int .i64 x).wf = true) : ∃ k, P.headracelaw23_ClientPieces.f k l m = some true := ⟨0, by unfold P.headracelaw23_ClientPieces.f; rw [if_pos ⟨hb, hm⟩]⟩
end Go.Proofs.YtccolnlfjbgnmaaGreatDoor.Px
