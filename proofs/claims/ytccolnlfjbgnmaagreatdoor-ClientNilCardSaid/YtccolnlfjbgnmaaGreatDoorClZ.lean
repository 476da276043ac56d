/- A client's connection: its two states, a piece at a time; own text of this session (gen_cl4.py). -/
import Derived.Test.YtccolnlfjbgnmaaGreatDoorClA
namespace Go.Proofs.YtccolnlfjbgnmaaGreatDoor.Cli
open Go.RowKit Go.Proofs.YtccolnlfjbgnmaaGreatDoorW.PrintWords Go.Proofs.YtccolnlfjbgnmaaGreatDoorW.PrintLast Chk Px Hr Hd
open Bod (Bd feedB byteB feedB_stop feedB_next feedB_count BFine newB BRep FeedB feedB_calls)
set_option linter.unusedVariables false
set_option linter.unusedSimpArgs false
/-- What a state's function leaves. -/
def StateP (w : World) (F : Nat → Prop) (q : Nat) (r : Cl × Nat) (e : Ending) (w' : World) : Prop :=
  e = .returned (.int .i64 (r.2 : Int)) ∧ CRep w' (fun k => F k ∨ w.heap.size ≤ k) q r.1 ∧ Stay F w w'
theorem headP_one {c : Cl} {b : List Int} {p1 : Par} {n1 : Nat} (hf : feedP c.par b 0 = (p1, n1)) (hn : 1 ≤ n1) : headP c b = (headE ⟨c.most, c.room, c.st, p1, c.rdr, c.data, true, c.waits, c.shut, c.wrong⟩, n1) := by
  unfold headP
  rw [hf]
  simp only
  rw [show decide (0 < n1) = true from decide_eq_true hn, Bool.or_true]
set_option maxHeartbeats 8000000 in
set_option maxRecDepth 100000 in
theorem chead_calls (w0 w : World) (F : Nat → Prop) (q : Nat) (c : Cl) (hC : CRep w F q c) (hH : Held w0 w F) (hI : CInv c) (hr : ¬ c.rests) (hst : c.st = 0) (b : List Int) (A : Option Addr) (cap : Nat) (hbn : b ≠ []) (hbl : b.length ≤ 2000000000) (hb : ∀ W', Stay F w W' → (Kd.int .u8).C W' A b.length b) :
    Calls Tryz.prog 80 #[.pointer (some ⟨q, 0, none⟩), .slice A b.length cap] w (StateP w F q (headP c b)) := by
  obtain ⟨hFq, kp, rv, vd, vl, vf, Fp, Fr, Fd, h, hFp, hFr, hFd⟩ := hC
  have hl : live c.par := by
    rcases hI.reads with h5 | ⟨_, h5⟩ | ⟨h5, _⟩
    · exact absurd h5 hr
    · exact h5
    · exact absurd hst h5
  have hpf := hI.par hl.2
  have hn1 := feedP_one b c.par hl hbn
  have hcd := feed_code b c.par 0 hl.2
  have hpf1 := hpf.feed b c.par 0 hl.2
  have hfe := Hd.feed_calls w0 w Fp kp vl vf c.par A cap b h.par ⟨hH.inv, hH.below, fun k hk => hH.over k (hFp k hk)⟩ (hpf.sane hI.most1 b.length (by omega)) (fun W' hs => hb W' (hs.mono hFp))
  obtain ⟨⟨p1, n1⟩, hf⟩ : ∃ r, r = feedP c.par b 0 := ⟨_, rfl⟩
  rw [← hf] at hn1 hcd hpf1 hfe
  simp only at hn1 hcd hpf1
  rw [headP_one hf.symm hn1]
  have HFe := Aside0.mk hfe
  have H := Aside0.mk h
  have HFq := Aside0.mk hFq
  have HFp := Aside0.mk hFp
  have HFr := Aside0.mk hFr
  have HFd := Aside0.mk hFd
  have HH := Aside0.mk hH
  have HI := Aside0.mk hI
  have HPF := Aside0.mk (fun e => hpf1 (hcd e))
  have hn0 : 0 < n1 := hn1
  have hnz : (0 : Int) < (n1 : Int) := by omega
  have hz3 : w.cell? ⟨q, 3, none⟩ = some (.pointer (some ⟨kp, 0, none⟩)) := (blk_cell h.blk 3).trans rfl
  obtain ⟨ec, hec⟩ : ∃ ec, ec = codeOf p1.err := ⟨_, rfl⟩
  rw [← hec] at HPF
  have HEc := Aside0.mk hec
  obtain ⟨L, hL⟩ : ∃ L, L = b.length := ⟨_, rfl⟩
  rw [← hL] at HFe ⊢
  unfold Hd.FeedPost at HFe
  simp only at HFe
  rw [← hec] at HFe
  obtain ⟨bg, hbg⟩ : ∃ bg, bg = c.begun := ⟨_, rfl⟩
  have HBg := Aside0.mk hbg
  clear hf hfe hl hpf hcd hpf1 h hFq hFp hFr hFd hH hI hr hst hbn hbl hb hec hL hn1 hbg
  unfold StateP
  simp only
  by_cases e1 : ec = 85
  · have hres : headE ⟨c.most, c.room, c.st, p1, c.rdr, c.data, true, c.waits, c.shut, c.wrong⟩ = failC ⟨c.most, c.room, c.st, p1, c.rdr, c.data, true, c.waits, c.shut, c.wrong⟩ 431 := by unfold headE; rw [← HEc.out, if_pos e1]
    rw [hres]
    subst e1
    clear hres HPF
    cases bg with
    | true =>
      go_enter Tryz.func80, Tryz.ntmps80
      go_wp2_with fail
      refine HFe.out.mono ?_
      rintro e w1 ⟨rfl, ⟨vl1, vf1, hrep⟩, hst⟩
      have h1 := H.out.parTo hrep hst
      have hf6 := blk_frozen h1.blk 6
      have hz6 : w1.cell? ⟨q, 6, none⟩ = some (.bool true) := (blk_cell h1.blk 6).trans (by rw [HBg.out]; rfl)
      have H2 := Aside0.mk (h1.scal (i := 6) (v := .bool true) (c' := ⟨c.most, c.room, c.st, p1, c.rdr, c.data, true, c.waits, c.shut, c.wrong⟩) rfl rfl rfl rfl)
      have HS2 : Aside0 (Stay F w (w1.setCell ⟨q, 6, none⟩ (.bool true))) := ⟨(hst.mono HFp.out).set (p := ⟨q, 6, none⟩) HFq.out _⟩
      clear h1 hrep hst
      go_wp2_with fail
      refine (fail_calls _ q _ kp rv vd vl1 vf1 _ Fr Fd 431 H2.out).mono ?_
      rintro e w4 ⟨rfl, h4, hs4⟩
      have H4 := Aside0.mk h4
      have HS4 := Aside0.mk hs4
      clear h4 hs4
      go_wp2
      go_ret
      exact ⟨rfl, H4.out.rep (.inl HFq.out) (fun k hk => hk.1.imp (HFp.out k) id) (fun k hk => .inl (HFr.out k hk)) (fun k hk => hk.elim), HS2.out.trans HS4.out (fun i hi => .inl (by rw [hi]; exact HFq.out))⟩
    | false =>
      go_enter Tryz.func80, Tryz.ntmps80
      go_wp2_with fail
      refine HFe.out.mono ?_
      rintro e w1 ⟨rfl, ⟨vl1, vf1, hrep⟩, hst⟩
      have h1 := H.out.parTo hrep hst
      have hf6 := blk_frozen h1.blk 6
      have hz6 : w1.cell? ⟨q, 6, none⟩ = some (.bool false) := (blk_cell h1.blk 6).trans (by rw [HBg.out]; rfl)
      have H2 := Aside0.mk (h1.scal (i := 6) (v := .bool true) (c' := ⟨c.most, c.room, c.st, p1, c.rdr, c.data, true, c.waits, c.shut, c.wrong⟩) rfl rfl rfl rfl)
      have HS2 : Aside0 (Stay F w (w1.setCell ⟨q, 6, none⟩ (.bool true))) := ⟨(hst.mono HFp.out).set (p := ⟨q, 6, none⟩) HFq.out _⟩
      clear h1 hrep hst
      go_wp2_with fail
      refine (fail_calls _ q _ kp rv vd vl1 vf1 _ Fr Fd 431 H2.out).mono ?_
      rintro e w4 ⟨rfl, h4, hs4⟩
      have H4 := Aside0.mk h4
      have HS4 := Aside0.mk hs4
      clear h4 hs4
      go_wp2
      go_ret
      exact ⟨rfl, H4.out.rep (.inl HFq.out) (fun k hk => hk.1.imp (HFp.out k) id) (fun k hk => .inl (HFr.out k hk)) (fun k hk => hk.elim), HS2.out.trans HS4.out (fun i hi => .inl (by rw [hi]; exact HFq.out))⟩
  · by_cases e2 : ec = 0
    · subst e2
      have hfs := (HPF.out rfl).fields HI.out.most1
      cases hwh : p1.whole with
      | true =>
        have hres : headE ⟨c.most, c.room, c.st, p1, c.rdr, c.data, true, c.waits, c.shut, c.wrong⟩ = framed ⟨c.most, c.room, c.st, p1, c.rdr, c.data, true, c.waits, c.shut, c.wrong⟩ (Px.reqS p1.hd.f0 p1.hd.f3 p1.hd.f6) := by unfold headE; rw [← HEc.out, if_neg e1, if_neg (by decide), if_pos hwh]
        rw [hres]
        rw [hwh] at HFe
        clear hres e1
        cases bg with
        | true =>
          go_enter Tryz.func80, Tryz.ntmps80
          go_wp2_with fail
          refine HFe.out.mono ?_
          rintro e w1 ⟨rfl, ⟨vl1, vf1, hrep⟩, hst⟩
          have h1 := H.out.parTo hrep hst
          have hf6 := blk_frozen h1.blk 6
          have hz6 : w1.cell? ⟨q, 6, none⟩ = some (.bool true) := (blk_cell h1.blk 6).trans (by rw [HBg.out]; rfl)
          have H2 := Aside0.mk (h1.scal (i := 6) (v := .bool true) (c' := ⟨c.most, c.room, c.st, p1, c.rdr, c.data, true, c.waits, c.shut, c.wrong⟩) rfl rfl rfl rfl)
          have HS2 : Aside0 (Stay F w (w1.setCell ⟨q, 6, none⟩ (.bool true))) := ⟨(hst.mono HFp.out).set (p := ⟨q, 6, none⟩) HFq.out _⟩
          clear h1 hrep hst
          go_wp2_with fail
          refine (framed_calls _ q _ kp rv vd vl1 vf1 _ Fr Fd H2.out (HH.out.next HS2.out).g hwh hfs.1 hfs.2 HI.out.room0 HI.out.room1).mono ?_
          rintro e w4 ⟨rfl, ⟨rv', vd', Fr', Fd', h4, hr4, hd4⟩, hs4⟩
          have H4 := Aside0.mk h4
          have HS4 := Aside0.mk hs4
          have HR4 := Aside0.mk hr4
          have HD4 := Aside0.mk hd4
          clear h4 hs4 hr4 hd4
          go_wp2
          go_ret
          exact ⟨rfl, H4.out.rep (.inl HFq.out) (fun k hk => hk.1.imp (HFp.out k) id) (fun k hk => (HR4.out k hk).imp (HFr.out k) (fun h5 => Nat.le_trans HS2.out.size h5)) (fun k hk => .inl (HFd.out k (HD4.out k hk))), HS2.out.trans HS4.out (fun i hi => .inl (by rw [hi]; exact HFq.out))⟩
        | false =>
          go_enter Tryz.func80, Tryz.ntmps80
          go_wp2_with fail
          refine HFe.out.mono ?_
          rintro e w1 ⟨rfl, ⟨vl1, vf1, hrep⟩, hst⟩
          have h1 := H.out.parTo hrep hst
          have hf6 := blk_frozen h1.blk 6
          have hz6 : w1.cell? ⟨q, 6, none⟩ = some (.bool false) := (blk_cell h1.blk 6).trans (by rw [HBg.out]; rfl)
          have H2 := Aside0.mk (h1.scal (i := 6) (v := .bool true) (c' := ⟨c.most, c.room, c.st, p1, c.rdr, c.data, true, c.waits, c.shut, c.wrong⟩) rfl rfl rfl rfl)
          have HS2 : Aside0 (Stay F w (w1.setCell ⟨q, 6, none⟩ (.bool true))) := ⟨(hst.mono HFp.out).set (p := ⟨q, 6, none⟩) HFq.out _⟩
          clear h1 hrep hst
          go_wp2_with fail
          refine (framed_calls _ q _ kp rv vd vl1 vf1 _ Fr Fd H2.out (HH.out.next HS2.out).g hwh hfs.1 hfs.2 HI.out.room0 HI.out.room1).mono ?_
          rintro e w4 ⟨rfl, ⟨rv', vd', Fr', Fd', h4, hr4, hd4⟩, hs4⟩
          have H4 := Aside0.mk h4
          have HS4 := Aside0.mk hs4
          have HR4 := Aside0.mk hr4
          have HD4 := Aside0.mk hd4
          clear h4 hs4 hr4 hd4
          go_wp2
          go_ret
          exact ⟨rfl, H4.out.rep (.inl HFq.out) (fun k hk => hk.1.imp (HFp.out k) id) (fun k hk => (HR4.out k hk).imp (HFr.out k) (fun h5 => Nat.le_trans HS2.out.size h5)) (fun k hk => .inl (HFd.out k (HD4.out k hk))), HS2.out.trans HS4.out (fun i hi => .inl (by rw [hi]; exact HFq.out))⟩
      | false =>
        have hres : headE ⟨c.most, c.room, c.st, p1, c.rdr, c.data, true, c.waits, c.shut, c.wrong⟩ = ⟨c.most, c.room, c.st, p1, c.rdr, c.data, true, c.waits, c.shut, c.wrong⟩ := by unfold headE; rw [← HEc.out, if_neg e1, if_neg (by decide), if_neg (by rw [hwh]; decide)]
        rw [hres]
        rw [hwh] at HFe
        clear hres e1 hfs
        cases bg with
        | true =>
          go_enter Tryz.func80, Tryz.ntmps80
          go_wp2_with fail
          refine HFe.out.mono ?_
          rintro e w1 ⟨rfl, ⟨vl1, vf1, hrep⟩, hst⟩
          have h1 := H.out.parTo hrep hst
          have hf6 := blk_frozen h1.blk 6
          have hz6 : w1.cell? ⟨q, 6, none⟩ = some (.bool true) := (blk_cell h1.blk 6).trans (by rw [HBg.out]; rfl)
          have H2 := Aside0.mk (h1.scal (i := 6) (v := .bool true) (c' := ⟨c.most, c.room, c.st, p1, c.rdr, c.data, true, c.waits, c.shut, c.wrong⟩) rfl rfl rfl rfl)
          have HS2 : Aside0 (Stay F w (w1.setCell ⟨q, 6, none⟩ (.bool true))) := ⟨(hst.mono HFp.out).set (p := ⟨q, 6, none⟩) HFq.out _⟩
          clear h1 hrep hst
          go_wp2
          go_ret
          exact ⟨rfl, H2.out.rep (.inl HFq.out) (fun k hk => hk.1.imp (HFp.out k) id) (fun k hk => .inl (HFr.out k hk)) (fun k hk => .inl (HFd.out k hk)), HS2.out⟩
        | false =>
          go_enter Tryz.func80, Tryz.ntmps80
          go_wp2_with fail
          refine HFe.out.mono ?_
          rintro e w1 ⟨rfl, ⟨vl1, vf1, hrep⟩, hst⟩
          have h1 := H.out.parTo hrep hst
          have hf6 := blk_frozen h1.blk 6
          have hz6 : w1.cell? ⟨q, 6, none⟩ = some (.bool false) := (blk_cell h1.blk 6).trans (by rw [HBg.out]; rfl)
          have H2 := Aside0.mk (h1.scal (i := 6) (v := .bool true) (c' := ⟨c.most, c.room, c.st, p1, c.rdr, c.data, true, c.waits, c.shut, c.wrong⟩) rfl rfl rfl rfl)
          have HS2 : Aside0 (Stay F w (w1.setCell ⟨q, 6, none⟩ (.bool true))) := ⟨(hst.mono HFp.out).set (p := ⟨q, 6, none⟩) HFq.out _⟩
          clear h1 hrep hst
          go_wp2
          go_ret
          exact ⟨rfl, H2.out.rep (.inl HFq.out) (fun k hk => hk.1.imp (HFp.out k) id) (fun k hk => .inl (HFr.out k hk)) (fun k hk => .inl (HFd.out k hk)), HS2.out⟩
    · have hres : headE ⟨c.most, c.room, c.st, p1, c.rdr, c.data, true, c.waits, c.shut, c.wrong⟩ = failC ⟨c.most, c.room, c.st, p1, c.rdr, c.data, true, c.waits, c.shut, c.wrong⟩ 400 := by unfold headE; rw [← HEc.out, if_neg e1, if_pos e2]
      rw [hres]
      have be : (ec != 0) = true := by simpa using e2
      have be85 : (ec == 85) = false := by simpa using e1
      clear hres HPF
      cases bg with
      | true =>
        go_enter Tryz.func80, Tryz.ntmps80
        go_wp2_with fail
        refine HFe.out.mono ?_
        rintro e w1 ⟨rfl, ⟨vl1, vf1, hrep⟩, hst⟩
        have h1 := H.out.parTo hrep hst
        have hf6 := blk_frozen h1.blk 6
        have hz6 : w1.cell? ⟨q, 6, none⟩ = some (.bool true) := (blk_cell h1.blk 6).trans (by rw [HBg.out]; rfl)
        have H2 := Aside0.mk (h1.scal (i := 6) (v := .bool true) (c' := ⟨c.most, c.room, c.st, p1, c.rdr, c.data, true, c.waits, c.shut, c.wrong⟩) rfl rfl rfl rfl)
        have HS2 : Aside0 (Stay F w (w1.setCell ⟨q, 6, none⟩ (.bool true))) := ⟨(hst.mono HFp.out).set (p := ⟨q, 6, none⟩) HFq.out _⟩
        clear h1 hrep hst
        go_wp2_with fail
        refine (fail_calls _ q _ kp rv vd vl1 vf1 _ Fr Fd 400 H2.out).mono ?_
        rintro e w4 ⟨rfl, h4, hs4⟩
        have H4 := Aside0.mk h4
        have HS4 := Aside0.mk hs4
        clear h4 hs4
        go_wp2
        go_ret
        exact ⟨rfl, H4.out.rep (.inl HFq.out) (fun k hk => hk.1.imp (HFp.out k) id) (fun k hk => .inl (HFr.out k hk)) (fun k hk => hk.elim), HS2.out.trans HS4.out (fun i hi => .inl (by rw [hi]; exact HFq.out))⟩
      | false =>
        go_enter Tryz.func80, Tryz.ntmps80
        go_wp2_with fail
        refine HFe.out.mono ?_
        rintro e w1 ⟨rfl, ⟨vl1, vf1, hrep⟩, hst⟩
        have h1 := H.out.parTo hrep hst
        have hf6 := blk_frozen h1.blk 6
        have hz6 : w1.cell? ⟨q, 6, none⟩ = some (.bool false) := (blk_cell h1.blk 6).trans (by rw [HBg.out]; rfl)
        have H2 := Aside0.mk (h1.scal (i := 6) (v := .bool true) (c' := ⟨c.most, c.room, c.st, p1, c.rdr, c.data, true, c.waits, c.shut, c.wrong⟩) rfl rfl rfl rfl)
        have HS2 : Aside0 (Stay F w (w1.setCell ⟨q, 6, none⟩ (.bool true))) := ⟨(hst.mono HFp.out).set (p := ⟨q, 6, none⟩) HFq.out _⟩
        clear h1 hrep hst
        go_wp2_with fail
        refine (fail_calls _ q _ kp rv vd vl1 vf1 _ Fr Fd 400 H2.out).mono ?_
        rintro e w4 ⟨rfl, h4, hs4⟩
        have H4 := Aside0.mk h4
        have HS4 := Aside0.mk hs4
        clear h4 hs4
        go_wp2
        go_ret
        exact ⟨rfl, H4.out.rep (.inl HFq.out) (fun k hk => hk.1.imp (HFp.out k) id) (fun k hk => .inl (HFr.out k hk)) (fun k hk => hk.elim), HS2.out.trans HS4.out (fun i hi => .inl (by rw [hi]; exact HFq.out))⟩
/-- The body's bytes were appended to, and the connection's cell bears them. -/
theorem CAt.bodyTo {w w1 w5 : World} {q : Nat} {c : Cl} {kp p : Nat} {vd vl vf v5 : Value} {Fp Fr Fd F' : Nat → Prop} {r1 : Bd} {o1 : List Int} (h : CAt w q c kp (.pointer (some ⟨p, 0, none⟩)) vd vl vf Fp Fr Fd) (hs : Stay Fr w w1) (hb : BRep w1 F' p r1) (hF' : ∀ k, F' k → (Fr k ∨ w.heap.size ≤ k) ∧ k < w1.heap.size)
    (hg : w1.grownBy w5 vd.ownBlock) (hat : v5.ownBlock = vd.ownBlock ∨ ∃ b, v5.ownBlock = some b ∧ w1.heap.size ≤ b) (hR : (Kd.int .u8).R 5 w5 0 (fun k => Fd k ∨ w1.heap.size ≤ k) v5 (c.data ++ o1)) :
    CAt (w5.setCell ⟨q, 5, none⟩ v5) q ⟨c.most, c.room, c.st, c.par, some r1, c.data ++ o1, c.begun, c.waits, c.shut, c.wrong⟩ kp (.pointer (some ⟨p, 0, none⟩)) v5 vl vf Fp F' (fun k => (Fd k ∨ w1.heap.size ≤ k) ∧ k < w5.heap.size) ∧ Stay (fun k => Fr k ∨ Fd k ∨ k = q) w (w5.setCell ⟨q, 5, none⟩ v5) := by
  have hown : ∀ k, some k = vd.ownBlock → Fd k := fun k hk => h.data.1 k hk.symm
  have hs5 : (w5.setCell ⟨q, 5, none⟩ v5).heap.size = w5.heap.size := Bod.set_size _ _ _
  have hqr : ¬ Fr q := fun h5 => (h.hr q h5).2.1 rfl
  have hqd : ¬ Fd q := fun h5 => (h.hd q h5).2 rfl
  have hq1 := (hs.block q h.lt hqr).trans h.blk
  have hq5 := (hg.block q (Nat.lt_of_lt_of_le h.lt hs.size) (fun e => hqd (hown q e))).trans hq1
  have hk5 : ∀ k, k < w1.heap.size → ¬ Fd k → k ≠ q → (w5.setCell ⟨q, 5, none⟩ v5).heap[k]? = w1.heap[k]? := fun k hk hd hq => (set_other _ _ k hq).trans (hg.block k hk (fun e => hd (hown k e)))
  refine ⟨⟨by rw [blk_set hq5]; rfl, ?_, .inr ⟨r1, p, rfl, rfl, ?_⟩, ?_, ?_, ?_, ?_⟩, ?_⟩
  · exact h.par.move (fun k hk hl => (hk5 k (Nat.lt_of_lt_of_le hl hs.size) (h.hp k hk).2.2.2 (h.hp k hk).2.1).trans (hs.block k hl (h.hp k hk).2.2.1))
  · refine hb.move (fun k hk hl => hk5 k hl (fun hd => ?_) (fun e => ?_))
    · exact (hF' k hk).1.elim (fun h5 => (h.hr k h5).2.2 hd) (fun h5 => by have := (h.hd k hd).1; omega)
    · rw [e] at hk
      exact (hF' q hk).1.elim hqr (fun h5 => by have := h.lt; omega)
  · have h6 := Kd.R_bound hR
    refine Kd.R_mono (Kd.R_step h6 (fun k hk hl => set_other _ _ k (fun e => ?_))) (fun k hk => ⟨hk.1, hk.2.2.1⟩)
    rw [e] at hk
    exact hk.1.elim hqd (fun h5 => by have := h.lt; have := hs.size; omega)
  · intro k hk
    rw [hs5]
    have h5 := h.hp k hk
    refine ⟨Nat.lt_of_lt_of_le h5.1 (Nat.le_trans hs.size hg.size), h5.2.1, fun h6 => ?_, fun h6 => ?_⟩
    · exact (hF' k h6).1.elim h5.2.2.1 (fun h7 => by omega)
    · exact h6.1.elim h5.2.2.2 (fun h7 => by have := hs.size; omega)
  · intro k hk
    rw [hs5]
    have h5 := hF' k hk
    refine ⟨Nat.lt_of_lt_of_le h5.2 hg.size, fun e => ?_, fun h6 => ?_⟩
    · rw [e] at h5
      exact h5.1.elim hqr (fun h7 => by have := h.lt; omega)
    · refine h6.1.elim (fun hd => ?_) (fun h7 => by have := h5.2; omega)
      exact h5.1.elim (fun h8 => (h.hr k h8).2.2 hd) (fun h8 => by have := (h.hd k hd).1; omega)
  · intro k hk
    rw [hs5]
    refine ⟨hk.2, fun e => ?_⟩
    rw [e] at hk
    exact hk.1.elim hqd (fun h7 => by have := h.lt; have := hs.size; omega)
  · have hg1 : Stay (fun k => Fd k) w1 w5 := Stay.grown hg (fun k hk => hown k hk.symm)
    exact ((hs.mono (G := fun k => Fr k ∨ Fd k ∨ k = q) (fun k hk => .inl hk)).trans hg1 (fun i hi => .inl (.inr (.inl hi)))).set (p := ⟨q, 5, none⟩) (.inr (.inr rfl)) _
set_option maxHeartbeats 8000000 in
set_option maxRecDepth 100000 in
theorem cbody_calls (w0 w : World) (F : Nat → Prop) (q : Nat) (c : Cl) (hC : CRep w F q c) (hH : Held w0 w F) (r : Bd) (hrd : c.rdr = some r) (T : Nat) (hM : CMass T c) (b : List Int) (A : Option Addr) (cap : Nat) (hbl : T + b.length ≤ 2000000000) (hbc : b.length ≤ cap) (hb : ∀ W', Stay F w W' → (Kd.int .u8).C W' A b.length b) :
    Calls Tryz.prog 137 #[.pointer (some ⟨q, 0, none⟩), .slice A b.length cap] w (StateP w F q (bodyP c r b)) := by
  obtain ⟨hFq, kp, rv, vd, vl, vf, Fp, Fr, Fd, h, hFp, hFr, hFd⟩ := hC
  obtain ⟨pr, hrv, hbr⟩ : ∃ pr, rv = .pointer (some ⟨pr, 0, none⟩) ∧ BRep w Fr pr r := by
    rcases h.rdr with ⟨e, _⟩ | ⟨r', p', e1, e2, h3⟩
    · rw [hrd] at e; cases e
    · rw [hrd] at e1
      obtain rfl := Option.some.inj e1
      exact ⟨p', e2, h3⟩
  subst hrv
  obtain ⟨f1, f2, f3⟩ := hM.rdr r hrd
  have hdl := hM.data
  have hfe := feedB_calls w0 w Fr pr r A cap b hbr ⟨hH.inv, hH.below, fun k hk => hH.over k (hFr k hk)⟩ (by omega) (by omega) hbc (fun W' hs => hb W' (hs.mono hFr))
  have hpot := feedB_pot b r f1
  unfold bodyP
  obtain ⟨⟨r1, o1, n1⟩, hf⟩ : ∃ x, x = feedB r b := ⟨_, rfl⟩
  rw [← hf] at hfe hpot ⊢
  simp only at hpot ⊢
  have hol : o1.length ≤ 2000000000 := by omega
  have HFe := Aside0.mk hfe
  have H := Aside0.mk h
  have HFq := Aside0.mk hFq
  have HFp := Aside0.mk hFp
  have HFr := Aside0.mk hFr
  have HFd := Aside0.mk hFd
  have HH := Aside0.mk hH
  have HOl := Aside0.mk hol
  have HDl : Aside0 (c.data.length ≤ 2000000000) := ⟨by omega⟩
  have hz4 : w.cell? ⟨q, 4, none⟩ = some (.pointer (some ⟨pr, 0, none⟩)) := (blk_cell h.blk 4).trans rfl
  obtain ⟨ec, hec⟩ : ∃ ec, ec = r1.wrong := ⟨_, rfl⟩
  have HEc := Aside0.mk hec
  obtain ⟨wh, hwh⟩ : ∃ wh, wh = r1.whole := ⟨_, rfl⟩
  have HWh := Aside0.mk hwh
  obtain ⟨L, hL⟩ : ∃ L, L = b.length := ⟨_, rfl⟩
  rw [← hL] at HFe ⊢
  unfold FeedB at HFe
  simp only at HFe
  rw [← hec, ← hwh] at HFe
  clear hf hfe hpot hol hdl f1 f2 f3 hbr h hFq hFp hFr hFd hH hM hbl hbc hb hec hwh hL hrd
  unfold StateP
  simp only
  by_cases e1 : ec = 2
  · have hres : bodyE ⟨c.most, c.room, c.st, c.par, some r1, c.data ++ o1, c.begun, c.waits, c.shut, c.wrong⟩ r1 = failC ⟨c.most, c.room, c.st, c.par, some r1, c.data ++ o1, c.begun, c.waits, c.shut, c.wrong⟩ 413 := by unfold bodyE; rw [← HEc.out, if_pos e1]
    rw [hres]
    subst e1
    clear hres
    go_enter Tryz.func137, Tryz.ntmps137
    go_wp2_with fail
    refine HFe.out.mono ?_
    rintro e w1 ⟨v, rfl, ⟨F', G, hb1, hR1, hF', hG'⟩, hs1⟩
    obtain ⟨A1, c1, e1, hc1, hC1⟩ := Kd.R_reads hR1
    subst e1
    have hRd : (Kd.int .u8).R 5 w1 0 Fd vd c.data := Kd.R_step H.out.data (fun k hk hl => hs1.block k hl (fun h5 => (H.out.hr k h5).2.2 hk))
    have hq1 := (hs1.block q H.out.lt (fun h5 => (H.out.hr q h5).2.1 rfl)).trans H.out.blk
    have hz5 : w1.cell? ⟨q, 5, none⟩ = some vd := (blk_cell hq1 5).trans rfl
    have HRd := Aside0.mk hRd
    have HC1 := Aside0.mk hC1
    have HS1 := Aside0.mk hs1
    have HB1 := Aside0.mk hb1
    have HF' := Aside0.mk hF'
    have HQ1 := Aside0.mk hq1
    have HDn := Aside0.mk (fun k (hk : some k = vd.ownBlock) => H.out.data.1 k hk.symm)
    clear hb1 hR1 hF' hG' hs1 hRd hC1 hc1 hq1
    go_wp2_with ((with_reducible refine gate_builtin (b := .append) (xs := #[.tmp 24, .tmp 25]) rfl ?_); at_builtin; go_loud (refine Kd.R_append_row (Value.int .u8) 0 (h1 := fun _ => rfl) (w0 := w1) 0 rfl (.tmp 24) (.tmp 25) 33 5 (.int .u8 0) 1 rfl Tryz.underlying33 info_u8 rfl (by decide) vd c.data o1 A1 o1.length c1 (fun k => Fd k ∨ w1.heap.size ≤ k) rfl rfl (fun k hk => .inr hk) (Kd.R_mono HRd.out (fun k hk => .inl hk)) HC1.out (Below.refl _ _) (Nat.zero_le _) (by have := HDl.out; have := HOl.out; omega) ?_; intro v5 w5 hR5 hb5 hg5 hat5; obtain ⟨A5, c5, e5, hc5, hC5⟩ := Kd.R_reads hR5; obtain ⟨M5, hM5⟩ : ∃ M5, M5 = (c.data ++ o1).length := ⟨_, rfl⟩; rw [← hM5] at e5; subst e5; clear hc5 hC5 hM5; have hT := H.out.bodyTo HS1.out HB1.out HF'.out hg5 hat5 hR5; have HT := Aside0.mk hT; have hq5 := (hg5.block q (blk_lt HQ1.out) (fun e => (H.out.hd q (HDn.out q e)).2 rfl)).trans HQ1.out; have hf5 := blk_frozen hq5 5; have hy5 := blk_cell hq5 5; have hyT7 := blk_cell hT.1.blk 7; have hfT7 := blk_frozen hT.1.blk 7; clear hR5 hb5 hg5 hat5 hT hq5))
    refine (fail_calls _ q _ kp _ _ vl vf Fp _ _ 413 HT.out.1).mono ?_
    rintro e w6 ⟨rfl, h6, hs6⟩
    have H6 := Aside0.mk h6
    have HS6 := Aside0.mk hs6
    clear h6 hs6
    go_wp2
    go_ret
    exact ⟨rfl, H6.out.rep (.inl HFq.out) (fun k hk => .inl (HFp.out k hk)) (fun k hk => (HF'.out k hk).1.imp (HFr.out k) id) (fun k hk => hk.elim), (HT.out.2.mono (fun k hk => hk.elim (HFr.out k) (fun h5 => h5.elim (HFd.out k) (fun e => by rw [e]; exact HFq.out)))).trans HS6.out (fun i hi => .inl (by rw [hi]; exact HFq.out))⟩
  · by_cases e2 : ec = 0
    · have hres : bodyE ⟨c.most, c.room, c.st, c.par, some r1, c.data ++ o1, c.begun, c.waits, c.shut, c.wrong⟩ r1 = ⟨c.most, c.room, c.st, c.par, some r1, c.data ++ o1, c.begun, wh, c.shut, c.wrong⟩ := by unfold bodyE; rw [← HEc.out, if_neg e1, if_neg (fun h5 => h5 e2), HWh.out]
      rw [hres]
      subst e2
      clear hres e1
      go_enter Tryz.func137, Tryz.ntmps137
      go_wp2_with fail
      refine HFe.out.mono ?_
      rintro e w1 ⟨v, rfl, ⟨F', G, hb1, hR1, hF', hG'⟩, hs1⟩
      obtain ⟨A1, c1, e1, hc1, hC1⟩ := Kd.R_reads hR1
      subst e1
      have hRd : (Kd.int .u8).R 5 w1 0 Fd vd c.data := Kd.R_step H.out.data (fun k hk hl => hs1.block k hl (fun h5 => (H.out.hr k h5).2.2 hk))
      have hq1 := (hs1.block q H.out.lt (fun h5 => (H.out.hr q h5).2.1 rfl)).trans H.out.blk
      have hz5 : w1.cell? ⟨q, 5, none⟩ = some vd := (blk_cell hq1 5).trans rfl
      have HRd := Aside0.mk hRd
      have HC1 := Aside0.mk hC1
      have HS1 := Aside0.mk hs1
      have HB1 := Aside0.mk hb1
      have HF' := Aside0.mk hF'
      have HQ1 := Aside0.mk hq1
      have HDn := Aside0.mk (fun k (hk : some k = vd.ownBlock) => H.out.data.1 k hk.symm)
      clear hb1 hR1 hF' hG' hs1 hRd hC1 hc1 hq1
      go_wp2_with ((with_reducible refine gate_builtin (b := .append) (xs := #[.tmp 24, .tmp 25]) rfl ?_); at_builtin; go_loud (refine Kd.R_append_row (Value.int .u8) 0 (h1 := fun _ => rfl) (w0 := w1) 0 rfl (.tmp 24) (.tmp 25) 33 5 (.int .u8 0) 1 rfl Tryz.underlying33 info_u8 rfl (by decide) vd c.data o1 A1 o1.length c1 (fun k => Fd k ∨ w1.heap.size ≤ k) rfl rfl (fun k hk => .inr hk) (Kd.R_mono HRd.out (fun k hk => .inl hk)) HC1.out (Below.refl _ _) (Nat.zero_le _) (by have := HDl.out; have := HOl.out; omega) ?_; intro v5 w5 hR5 hb5 hg5 hat5; obtain ⟨A5, c5, e5, hc5, hC5⟩ := Kd.R_reads hR5; obtain ⟨M5, hM5⟩ : ∃ M5, M5 = (c.data ++ o1).length := ⟨_, rfl⟩; rw [← hM5] at e5; subst e5; clear hc5 hC5 hM5; have hT := H.out.bodyTo HS1.out HB1.out HF'.out hg5 hat5 hR5; have HT := Aside0.mk hT; have hq5 := (hg5.block q (blk_lt HQ1.out) (fun e => (H.out.hd q (HDn.out q e)).2 rfl)).trans HQ1.out; have hf5 := blk_frozen hq5 5; have hy5 := blk_cell hq5 5; have hyT7 := blk_cell hT.1.blk 7; have hfT7 := blk_frozen hT.1.blk 7; clear hR5 hb5 hg5 hat5 hT hq5))
      go_ret
      have h7 := HT.out.1.scal (i := 7) (v := .bool wh) (c' := ⟨c.most, c.room, c.st, c.par, some r1, c.data ++ o1, c.begun, wh, c.shut, c.wrong⟩) rfl rfl rfl rfl
      have hs7 := HT.out.2
      exact ⟨rfl, h7.rep (.inl HFq.out) (fun k hk => .inl (HFp.out k hk)) (fun k hk => (HF'.out k hk).1.imp (HFr.out k) id) (fun k hk => hk.1.elim (fun h5 => .inl (HFd.out k h5)) (fun h5 => .inr (Nat.le_trans HS1.out.size h5))), (hs7.mono (fun k hk => hk.elim (HFr.out k) (fun h5 => h5.elim (HFd.out k) (fun e => by rw [e]; exact HFq.out)))).set (p := ⟨q, 7, none⟩) HFq.out _⟩
    · have hres : bodyE ⟨c.most, c.room, c.st, c.par, some r1, c.data ++ o1, c.begun, c.waits, c.shut, c.wrong⟩ r1 = failC ⟨c.most, c.room, c.st, c.par, some r1, c.data ++ o1, c.begun, c.waits, c.shut, c.wrong⟩ 400 := by unfold bodyE; rw [← HEc.out, if_neg e1, if_pos e2]
      rw [hres]
      have be : (ec != 0) = true := by simpa using e2
      have be2 : (ec == 2) = false := by simpa using e1
      clear hres
      go_enter Tryz.func137, Tryz.ntmps137
      go_wp2_with fail
      refine HFe.out.mono ?_
      rintro e w1 ⟨v, rfl, ⟨F', G, hb1, hR1, hF', hG'⟩, hs1⟩
      obtain ⟨A1, c1, e1, hc1, hC1⟩ := Kd.R_reads hR1
      subst e1
      have hRd : (Kd.int .u8).R 5 w1 0 Fd vd c.data := Kd.R_step H.out.data (fun k hk hl => hs1.block k hl (fun h5 => (H.out.hr k h5).2.2 hk))
      have hq1 := (hs1.block q H.out.lt (fun h5 => (H.out.hr q h5).2.1 rfl)).trans H.out.blk
      have hz5 : w1.cell? ⟨q, 5, none⟩ = some vd := (blk_cell hq1 5).trans rfl
      have HRd := Aside0.mk hRd
      have HC1 := Aside0.mk hC1
      have HS1 := Aside0.mk hs1
      have HB1 := Aside0.mk hb1
      have HF' := Aside0.mk hF'
      have HQ1 := Aside0.mk hq1
      have HDn := Aside0.mk (fun k (hk : some k = vd.ownBlock) => H.out.data.1 k hk.symm)
      clear hb1 hR1 hF' hG' hs1 hRd hC1 hc1 hq1
      go_wp2_with ((with_reducible refine gate_builtin (b := .append) (xs := #[.tmp 24, .tmp 25]) rfl ?_); at_builtin; go_loud (refine Kd.R_append_row (Value.int .u8) 0 (h1 := fun _ => rfl) (w0 := w1) 0 rfl (.tmp 24) (.tmp 25) 33 5 (.int .u8 0) 1 rfl Tryz.underlying33 info_u8 rfl (by decide) vd c.data o1 A1 o1.length c1 (fun k => Fd k ∨ w1.heap.size ≤ k) rfl rfl (fun k hk => .inr hk) (Kd.R_mono HRd.out (fun k hk => .inl hk)) HC1.out (Below.refl _ _) (Nat.zero_le _) (by have := HDl.out; have := HOl.out; omega) ?_; intro v5 w5 hR5 hb5 hg5 hat5; obtain ⟨A5, c5, e5, hc5, hC5⟩ := Kd.R_reads hR5; obtain ⟨M5, hM5⟩ : ∃ M5, M5 = (c.data ++ o1).length := ⟨_, rfl⟩; rw [← hM5] at e5; subst e5; clear hc5 hC5 hM5; have hT := H.out.bodyTo HS1.out HB1.out HF'.out hg5 hat5 hR5; have HT := Aside0.mk hT; have hq5 := (hg5.block q (blk_lt HQ1.out) (fun e => (H.out.hd q (HDn.out q e)).2 rfl)).trans HQ1.out; have hf5 := blk_frozen hq5 5; have hy5 := blk_cell hq5 5; have hyT7 := blk_cell hT.1.blk 7; have hfT7 := blk_frozen hT.1.blk 7; clear hR5 hb5 hg5 hat5 hT hq5))
      refine (fail_calls _ q _ kp _ _ vl vf Fp _ _ 400 HT.out.1).mono ?_
      rintro e w6 ⟨rfl, h6, hs6⟩
      have H6 := Aside0.mk h6
      have HS6 := Aside0.mk hs6
      clear h6 hs6
      go_wp2
      go_ret
      exact ⟨rfl, H6.out.rep (.inl HFq.out) (fun k hk => .inl (HFp.out k hk)) (fun k hk => (HF'.out k hk).1.imp (HFr.out k) id) (fun k hk => hk.elim), (HT.out.2.mono (fun k hk => hk.elim (HFr.out k) (fun h5 => h5.elim (HFd.out k) (fun e => by rw [e]; exact HFq.out)))).trans HS6.out (fun i hi => .inl (by rw [hi]; exact HFq.out))⟩
end Go.Proofs.YtccolnlfjbgnmaaGreatDoor.Cli
/- A client's connection: Read, by hand; own text of this session. -/
namespace Go.Proofs.YtccolnlfjbgnmaaGreatDoor.Cli
open Go.RowKit Go.Proofs.YtccolnlfjbgnmaaGreatDoorW.PrintWords Go.Proofs.YtccolnlfjbgnmaaGreatDoorW.PrintLast Chk Px Hr Hd
open Bod (Bd feedB byteB feedB_stop feedB_next feedB_count BFine newB BRep FeedB feedB_calls)
set_option linter.unusedVariables false
set_option linter.unusedSimpArgs false
theorem CMass.le {T U : Nat} {c : Cl} (h : CMass T c) (hl : T ≤ U) : CMass U c := ⟨Nat.le_trans h.data hl, fun r hr => by obtain ⟨a, b, d⟩ := h.rdr r hr; exact ⟨a, by omega, by omega⟩⟩
theorem stateP_read {c : Cl} (hI : CInv c) (hr : ¬ c.rests) (b : List Int) (hb : b ≠ []) : 1 ≤ (stateP c b).2 ∧ (stateP c b).2 ≤ b.length ∧ readC c b = ((readC (stateP c b).1 (b.drop (stateP c b).2)).1, (stateP c b).2 + (readC (stateP c b).1 (b.drop (stateP c b).2)).2) := by
  unfold stateP
  rcases hI.reads with h5 | ⟨h1, h2⟩ | ⟨h1, r, h2, h3⟩
  · exact absurd h5 hr
  · rw [if_pos h1]; exact headP_read b c hr h1 h2 hb
  · rw [if_neg h1, h2]; exact bodyP_read b c r hr h1 h2 h3 hb
theorem stateP_inv {c : Cl} {T : Nat} (hI : CInv c) (hM : CMass T c) (hr : ¬ c.rests) (b : List Int) : CInv (stateP c b).1 ∧ CMass (T + (stateP c b).2) (stateP c b).1 := by
  unfold stateP
  rcases hI.reads with h5 | ⟨h1, h2⟩ | ⟨h1, r, h2, h3⟩
  · exact absurd h5 hr
  · rw [if_pos h1]
    obtain ⟨a, b5⟩ := headP_inv hI hM hr h1 h2 b
    exact ⟨a, b5.le (Nat.le_add_right _ _)⟩
  · rw [if_neg h1, h2]; exact bodyP_inv hI hM hr h1 h2 h3 b
theorem readC_inv (b : List Int) : ∀ {c : Cl} {T : Nat}, CInv c → CMass T c → CInv (readC c b).1 ∧ CMass (T + (readC c b).2) (readC c b).1 := by
  induction b with
  | nil => intro c T hI hM; exact ⟨hI, hM⟩
  | cons x t ih =>
    intro c T hI hM
    by_cases hr : c.rests
    · rw [readC_stop c _ (.inr hr)]; exact ⟨hI, hM⟩
    · rw [readC_next c x t hr]
      obtain ⟨h1, h2⟩ := stateP_inv hI hM hr [x]
      have hn := (stateP_read hI hr [x] (by simp)).2.1
      obtain ⟨h3, h4⟩ := ih (c := byteC c x) (T := T + 1) h1 (h2.le (by simp only [List.length_singleton] at hn; omega))
      exact ⟨h3, h4.le (by show T + 1 + _ ≤ T + (_ + 1); omega)⟩
set_option maxRecDepth 100000 in
theorem stF_enters (n : Nat) : ∀ args w, (callFunc (stF n) args).run Tryz.prog w = .ok (.enter (stF n) args) w := by
  intro args w
  match n with
  | 0 => rfl
  | n + 1 => rfl
theorem state_calls (w0 w : World) (F : Nat → Prop) (q : Nat) (c : Cl) (hC : CRep w F q c) (hH : Held w0 w F) (hI : CInv c) (hr : ¬ c.rests) (T : Nat) (hM : CMass T c) (b : List Int) (A : Option Addr) (cap : Nat) (hbn : b ≠ []) (hbl : T + b.length ≤ 2000000000) (hbc : b.length ≤ cap) (hb : ∀ W', Stay F w W' → (Kd.int .u8).C W' A b.length b) :
    Calls Tryz.prog (stF c.st) #[.pointer (some ⟨q, 0, none⟩), .slice A b.length cap] w (StateP w F q (stateP c b)) := by
  unfold stateP
  rcases hI.reads with h5 | ⟨h1, h2⟩ | ⟨h1, r, h2, h3⟩
  · exact absurd h5 hr
  · rw [if_pos h1, h1]
    exact chead_calls w0 w F q c hC hH hI hr h1 b A cap hbn (by omega) hb
  · rw [if_neg h1, h2]
    obtain ⟨n, hn⟩ : ∃ n, c.st = n + 1 := ⟨c.st - 1, by omega⟩
    rw [hn]
    exact cbody_calls w0 w F q c hC hH r h2 T hM b A cap hbl hbc hb
/-- What Read leaves. -/
def ReadP (w : World) (F : Nat → Prop) (q : Nat) (r : Cl × Nat) (e : Ending) (w' : World) : Prop :=
  e = .returned (.tuple #[.int .i64 (r.2 : Int), .bool r.1.waits]) ∧ CRep w' (fun k => F k ∨ w.heap.size ≤ k) q r.1 ∧ Stay F w w'
theorem CRep.below {w w1 : World} {F : Nat → Prop} {q : Nat} {c : Cl} (h : CRep w F q c) (hb : Below w.heap.size w w1) : CRep w1 F q c := by
  obtain ⟨a, kp, rv, vd, vl, vf, Fp, Fr, Fd, h1, h2, h3, h4⟩ := h
  exact ⟨a, kp, rv, vd, vl, vf, Fp, Fr, Fd, h1.below hb, h2, h3, h4⟩
theorem CRep.mono {w : World} {F G : Nat → Prop} {q : Nat} {c : Cl} (h : CRep w F q c) (hG : ∀ k, F k → G k) : CRep w G q c := by
  obtain ⟨a, kp, rv, vd, vl, vf, Fp, Fr, Fd, h1, h2, h3, h4⟩ := h
  exact ⟨hG _ a, kp, rv, vd, vl, vf, Fp, Fr, Fd, h1, fun k hk => hG k (h2 k hk), fun k hk => hG k (h3 k hk), fun k hk => hG k (h4 k hk)⟩
theorem C_drop {w : World} {A : Option Addr} {n c : Nat} {xs : List Int} (h : (Kd.int .u8).C w A n xs) (i : Nat) (hi : i ≤ n) (hc : n ≤ c) : (Kd.int .u8).C w (if c = i then A else A.map (·.add i)) (n - i) (xs.drop i) :=
  Kd.C_of_reads (d := (0 : Int)) (h1 := fun _ => rfl) (ReadsOf.drop_ (Kd.reads_of_C (enc := Value.int .u8) (d := (0 : Int)) (h1 := fun _ => rfl) h) i hi hc)
set_option maxRecDepth 100000 in
theorem read_nil (v : Value) (w : World) : Calls Tryz.prog 31 #[.pointer none, v] w fun e w' => e = .returned (.tuple #[.int .i64 0, .bool false]) ∧ Below w.heap.size w w' := by
  go_enter Tryz.func31, Tryz.ntmps31
  go_wp2
  go_ret2
  exact ⟨rfl, Below.refl _ _⟩
set_option maxHeartbeats 8000000 in
set_option maxRecDepth 100000 in
theorem read_calls (w0 w : World) (F : Nat → Prop) (q : Nat) (c : Cl) (hC : CRep w F q c) (hH : Held w0 w F) (hI : CInv c) (T : Nat) (hM : CMass T c) (b : List Int) (A : Option Addr) (cap : Nat) (hbl : T + b.length ≤ 2000000000) (hbc : b.length ≤ cap) (hb : ∀ W', Stay F w W' → (Kd.int .u8).C W' A b.length b) :
    Calls Tryz.prog 31 #[.pointer (some ⟨q, 0, none⟩), .slice A b.length cap] w (ReadP w F q (readC c b)) := by
  obtain ⟨r, hr⟩ : ∃ r, r = readC c b := ⟨_, rfl⟩
  rw [← hr]
  obtain ⟨N, hN⟩ : ∃ N, N = b.length := ⟨_, rfl⟩
  rw [← hN]
  have HN := Aside0.mk hN
  have HE0 : Aside0 (r = ((readC c (b.drop 0)).1, 0 + (readC c (b.drop 0)).2)) := ⟨by rw [hr, List.drop_zero, Nat.zero_add]⟩
  have HC0 := Aside0.mk (hC.mono (G := fun k => F k ∨ w.heap.size ≤ k) (fun _ hk => .inl hk))
  have HH := Aside0.mk hH
  have HI0 := Aside0.mk hI
  have HM0 : Aside0 (CMass (T + 0) c) := ⟨hM⟩
  have HBy := Aside0.mk hb
  have HFq := Aside0.mk hC.1
  have hNle : (N : Int) ≤ 2000000000 := by omega
  have HTN : Aside0 (T + N ≤ 2000000000) := ⟨by omega⟩
  have hNc : (N : Int) ≤ (cap : Int) := by omega
  clear hC hH hI hM hb hr hN hbl hbc
  go_enter Tryz.func31, Tryz.ntmps31
  go_wp2
  go_loopw [6] (fun n6 wr => ∃ (kk : Nat) (ck : Cl), kk ≤ N ∧ n6 = .int .i64 kk ∧ Aside0 (CRep wr (fun k => F k ∨ w.heap.size ≤ k) q ck) ∧ Aside0 (Stay F w wr) ∧ Aside0 (r = ((readC ck (b.drop kk)).1, kk + (readC ck (b.drop kk)).2)) ∧ Aside0 (CInv ck) ∧ Aside0 (CMass (T + kk) ck)) (fun n6 _ => N - (intOf n6).toNat)
  case atStart => exact ⟨0, c, Nat.zero_le _, rfl, HC0, ⟨Stay.refl _ _⟩, HE0, HI0, HM0⟩
  case round =>
    obtain ⟨kk, ck, hkk, rfl, HCk, HSt, HFe, HIk, HMk⟩ := hrel
    obtain ⟨hFq, kp, rv, vd, vl, vf, Fp, Fr, Fd, h, hFp, hFr, hFd⟩ := HCk.out
    have hz7 : wr.cell? ⟨q, 7, none⟩ = some (.bool ck.waits) := (blk_cell h.blk 7).trans rfl
    have hz8 : wr.cell? ⟨q, 8, none⟩ = some (.bool ck.shut) := (blk_cell h.blk 8).trans rfl
    have hz2 : wr.cell? ⟨q, 2, none⟩ = some (.func (.func (stF ck.st)) #[.pointer (some ⟨q, 0, none⟩)] #[]) := (blk_cell h.blk 2).trans rfl
    clear h hFq hFp hFr hFd HC0 HE0 HI0 HM0
    by_cases hst : (kk < N ∧ ck.waits = false) ∧ ck.shut = false
    · obtain ⟨⟨hlt, hcw⟩, hcs⟩ := hst
      rw [hcw] at hz7
      rw [hcs] at hz8
      have hnr : ¬ ck.rests := fun h5 => h5.elim (fun e => by rw [hcw] at e; cases e) (fun e => by rw [hcs] at e; cases e)
      have hltz : (kk : Int) < (N : Int) := by omega
      have hdl : (b.drop kk).length = N - kk := by rw [List.length_drop, HN.out]
      have hdn : b.drop kk ≠ [] := fun e => by rw [e] at hdl; simp only [List.length_nil] at hdl; omega
      have hrd := stateP_read HIk.out hnr (b.drop kk) hdn
      have hiv := stateP_inv HIk.out HMk.out hnr (b.drop kk)
      obtain ⟨ad, eA, hx⟩ := Kd.at_int (HBy.out wr HSt.out) (kk : Int) (by omega) (by have := HN.out; omega)
      cases eA
      clear hx
      obtain ⟨g, hg⟩ : ∃ g, g = stF ck.st := ⟨_, rfl⟩
      have eg : ∀ args w, (callFunc g args).run Tryz.prog w = .ok (.enter g args) w := by rw [hg]; exact stF_enters _
      rw [← hg] at hz2
      have HS : Aside0 (∀ W, Below wr.heap.size wr W → Calls Tryz.prog g #[.pointer (some ⟨q, 0, none⟩), .slice (if cap = kk then some ad else some (ad.add kk)) (N - kk) (cap - kk)] W (StateP W (fun k => F k ∨ w.heap.size ≤ k) q (stateP ck (b.drop kk)))) := ⟨fun W hW => by
        have h5 := state_calls w0 W _ q ck (HCk.out.below hW) ((HH.out.step HSt.out).next (Stay.below hW)) HIk.out hnr (T + kk) HMk.out (b.drop kk) (if cap = kk then some ad else some (ad.add kk)) (cap - kk) hdn (by rw [hdl]; have := HTN.out; omega) (by rw [hdl]; omega) (fun W' hs => by
          rw [hdl]
          refine C_drop ?_ kk (by omega) (by omega)
          rw [HN.out]
          exact HBy.out W' ((stay_low HSt.out hW).trans hs (fun i hi => hi)))
        rw [hdl, ← hg] at h5
        exact h5⟩
      obtain ⟨⟨c2, n2⟩, hq⟩ : ∃ x, x = stateP ck (b.drop kk) := ⟨_, rfl⟩
      rw [← hq] at hrd hiv HS
      simp only at hrd hiv
      have HRd := Aside0.mk hrd
      have HIv := Aside0.mk hiv
      have hn1 : 1 ≤ n2 := hrd.1
      have hn2 : kk + n2 ≤ N := by have := hrd.2.1; rw [hdl] at this; omega
      have hn2z : (kk : Int) + (n2 : Int) ≤ (N : Int) := by omega
      have hcne : ¬ cap = kk := by omega
      have hwr2 : IntKind.i64.wrap ((kk : Int) + (n2 : Int)) = (kk : Int) + (n2 : Int) := IntWalk.i64_in _ (by omega)
      clear hrd hiv hdl hdn hnr hcw hcs hg hq
      unfold StateP at HS
      simp only [if_neg hcne] at HS
      go_wp2
      go_region_with (go_at_fn g; go_loud (refine (HS.out _ (by repeat (first | exact Below.refl _ _ | apply below_drew1 | apply pw_below_drewN))).mono ?_; rintro e w2 ⟨rfl, hrep, hst2⟩; have HP2 := Aside0.mk hrep; have HS2 : Aside0 (Stay (fun k => F k ∨ w.heap.size ≤ k) wr w2) := ⟨(Stay.below (F := fun k => F k ∨ w.heap.size ≤ k) (by repeat (first | exact Below.refl _ _ | apply below_drew1 | apply pw_below_drewN))).trans hst2 (fun i hi => .inl hi)⟩; have HZ2 : Aside0 (wr.heap.size ≤ w2.heap.size) := ⟨HS2.out.size⟩; clear hrep hst2))
      all_goals
        (try simp only [Act.put, List.setIfInBounds_toArray, List.set_cons_zero, List.set_cons_succ, List.getElem_toArray, List.getElem_cons_succ, List.getElem_cons_zero])
        go_wp2
        go_roundw
        case rel =>
          have h5 := HFe.out
          rw [HRd.out.2.2, List.drop_drop] at h5
          have h6 := HIv.out
          exact ⟨kk + n2, c2, by omega, by go_num, ⟨HP2.out.mono (fun k hk => hk.elim id (fun h7 => .inr (Nat.le_trans HSt.out.size h7)))⟩, ⟨HSt.out.trans HS2.out (fun i hi => hi)⟩, ⟨by rw [h5, Nat.add_assoc]⟩, ⟨h6.1⟩, ⟨h6.2.le (by omega)⟩⟩
        case measure => simp [intOf]; omega
    · by_cases hlt : kk < N
      · have hltz : (kk : Int) < (N : Int) := by omega
        cases hcw : ck.waits with
        | true =>
          rw [hcw] at hz7
          have HCw := Aside0.mk hcw
          have HR : Aside0 (r = (ck, kk)) := ⟨by have h5 := HFe.out; rw [readC_stop ck _ (.inr (.inl hcw))] at h5; exact h5⟩
          clear hst hcw
          go_wp2
          go_region
          all_goals
            go_wp2
            go_ret2
            rw [HR.out]
            exact ⟨by rw [HCw.out]; rfl, HCk.out.below (below_drew (Below.refl _ _)), stay_low HSt.out (below_drew (Below.refl _ _))⟩
        | false =>
          rw [hcw] at hz7
          have hcs : ck.shut = true := by cases h5 : ck.shut with | true => rfl | false => exact absurd ⟨⟨hlt, hcw⟩, h5⟩ hst
          rw [hcs] at hz8
          have HCw := Aside0.mk hcw
          have HR : Aside0 (r = (ck, kk)) := ⟨by have h5 := HFe.out; rw [readC_stop ck _ (.inr (.inr hcs))] at h5; exact h5⟩
          clear hst hcw hcs
          go_wp2
          go_region
          all_goals
            go_wp2
            go_ret2
            rw [HR.out]
            exact ⟨by rw [HCw.out]; rfl, HCk.out.below (below_drew (Below.refl _ _)), stay_low HSt.out (below_drew (Below.refl _ _))⟩
      · have hltz : ¬ (kk : Int) < (N : Int) := by omega
        have hkn : b.drop kk = [] := by rw [List.drop_eq_nil_iff]; have := HN.out; omega
        have HR : Aside0 (r = (ck, kk)) := ⟨by have h5 := HFe.out; rw [readC_stop ck _ (.inl hkn)] at h5; exact h5⟩
        clear hst hkn
        go_wp2
        go_region
        all_goals
          go_wp2
          go_ret2
          rw [HR.out]
          exact ⟨rfl, HCk.out.below (below_drew (Below.refl _ _)), stay_low HSt.out (below_drew (Below.refl _ _))⟩
end Go.Proofs.YtccolnlfjbgnmaaGreatDoor.Cli
/- A client's connection: New, Answered, End, Request, by hand; own text of this session (gen_cl6.py). -/
namespace Go.Proofs.YtccolnlfjbgnmaaGreatDoor.Cli
open Go.RowKit Go.Proofs.YtccolnlfjbgnmaaGreatDoorW.PrintWords Go.Proofs.YtccolnlfjbgnmaaGreatDoorW.PrintLast Chk Px Hr Hd
open Bod (Bd feedB byteB feedB_stop feedB_next feedB_count BFine newB BRep FeedB feedB_calls)
set_option linter.unusedVariables false
set_option linter.unusedSimpArgs false
/-! ### New -/
def NewP (most room : Int) (w : World) (e : Ending) (w' : World) : Prop :=
  ∃ q, e = .returned (.tuple #[.pointer (some ⟨q, 0, none⟩), .int .i64 0]) ∧ CRep w' (fun k => w.heap.size ≤ k) q (newC most room) ∧ Below w.heap.size w w'
set_option maxHeartbeats 4000000 in
set_option maxRecDepth 100000 in
theorem new_ok (most room : Int) (w : World) (h0 : 16 ≤ most) (h1 : most ≤ 65536) (h2 : 0 ≤ room) (h3 : room ≤ 1048576) :
    Calls Tryz.prog 30 #[.int .i64 most, .int .i64 room] w (NewP most room w) := by
  have HN := Aside0.mk (fun W => new_calls true most W h0 h1)
  have hr0 : ¬ room < 0 := by omega
  have hr1 : ¬ 1048576 < room := by omega
  have HA := Aside0.mk (fun (W : World) q x2 x3 x4 x5 x6 x7 sh wr hb => again_raw W q most room x2 x3 x4 x5 x6 x7 sh wr hb h0 h1)
  clear h0 h1 h2 h3
  go_enter Tryz.func30, Tryz.ntmps30
  go_wp2_with fail
  refine (HN.out _).mono ?_
  rintro e w1 ⟨k1, rfl, hk1, hrep, hb1⟩
  have HB1 := Aside0.mk hb1
  clear hk1 hrep hb1
  go_wp2_with fail
  refine (HA.out _ _ _ _ _ _ _ _ _ _ (blk_new _ _)).mono ?_
  rintro e w2 ⟨rfl, ⟨k2, h2, hk2⟩, hs2⟩
  have H2 := Aside0.mk h2
  have HK2 := Aside0.mk hk2
  have HS2 := Aside0.mk hs2
  clear h2 hk2 hs2
  go_wp2
  go_ret2
  have hbA : Below w.heap.size w (w1.alloc (.cells #[.int .i64 most, .int .i64 room, .nilFunc, .pointer none, .pointer none, .slice none 0 0, .bool false, .bool false, .bool false, .int .i64 0] 119)) := below_alloc HB1.out _
  have hs1 := HB1.out.size
  refine ⟨_, rfl, H2.out.rep hs1 (fun k hk => by rw [hk]; have h5 := HK2.out; have h6 := hbA.size; omega) (fun k hk => hk.elim) (fun k hk => hk.elim), HS2.out.out hbA (fun i hi => by rw [hi]; exact hs1) hbA.size⟩
/-! ### Answered -/
def answC (c : Cl) (keep : Bool) : Cl := ⟨c.most, c.room, 0, newPar true c.most, none, [], false, false, !keep, c.wrong⟩
set_option maxRecDepth 100000 in
theorem answered_nil (v : Value) (w : World) : Calls Tryz.prog 34 #[.pointer none, v] w fun e w' => e = .returned (.int .i64 7) ∧ Below w.heap.size w w' := by
  go_enter Tryz.func34, Tryz.ntmps34
  go_wp2
  go_ret
  exact ⟨rfl, Below.refl _ _⟩
set_option maxHeartbeats 4000000 in
set_option maxRecDepth 100000 in
theorem answered_yes (keep : Bool) (w : World) (q : Nat) (c : Cl) (F : Nat → Prop) (h : CRep w F q c) (hw : c.waits = true) (h0 : 16 ≤ c.most) (h1 : c.most ≤ 65536) : Calls Tryz.prog 34 #[.pointer (some ⟨q, 0, none⟩), .bool keep] w fun e w' => e = .returned (.int .i64 0) ∧ CRep w' (fun k => F k ∨ w.heap.size ≤ k) q (answC c keep) ∧ Stay F w w' := by
  obtain ⟨hq, kp, rv, vd, vl, vf, Fp, Fr, Fd, h, _, _, _⟩ := h
  have hz7 : w.cell? ⟨q, 7, none⟩ = some (.bool true) := by rw [← hw]; exact (blk_cell h.blk 7).trans rfl
  have HA := Aside0.mk (again_calls w q c kp rv vd vl vf Fp Fr Fd h h0 h1)
  have HQ := Aside0.mk hq
  clear h hw h0 h1 hq
  go_enter Tryz.func34, Tryz.ntmps34
  go_wp2_with fail
  refine HA.out.mono ?_
  rintro e w2 ⟨rfl, ⟨k2, h2, hk2⟩, hs2⟩
  have hf8 := blk_frozen h2.blk 8
  have hz8 := blk_cell h2.blk 8
  have H2 := Aside0.mk h2
  have HK2 := Aside0.mk hk2
  have HS2 := Aside0.mk hs2
  clear h2 hk2 hs2
  go_wp2
  go_ret
  have h5 := H2.out.scal (i := 8) (v := .bool (!keep)) (c' := answC c keep) rfl rfl rfl rfl
  exact ⟨rfl, h5.rep (.inl HQ.out) (fun k hk => .inr (by rw [hk]; exact HK2.out)) (fun k hk => hk.elim) (fun k hk => hk.elim), (HS2.out.mono (fun k hk => by rw [hk]; exact HQ.out)).set (p := ⟨q, 8, none⟩) HQ.out _⟩
set_option maxRecDepth 100000 in
theorem end_nil (w : World) : Calls Tryz.prog 39 #[.pointer none] w fun e w' => e = .returned (.bool true) ∧ Below w.heap.size w w' := by
  go_enter Tryz.func39, Tryz.ntmps39
  go_wp2
  go_ret
  exact ⟨rfl, Below.refl _ _⟩
/-! ### Request -/
def ReqP (h : Head) (d : List Int) (ok : Bool) (w : World) (e : Ending) (w' : World) : Prop :=
  ∃ (A1 : Option Addr) (c1 : Nat) (A2 : Option Addr) (c2 : Nat), e = .returned (.tuple #[.agg #[.bool h.f0, .string h.f1, .string h.f2, .int .i64 h.f3, .int .i64 h.f4, .string h.f5, .slice A1 h.f6.length c1], .slice A2 d.length c2, .bool ok]) ∧ h.f6.length ≤ c1 ∧ Kd.C P.k37 w' A1 h.f6.length h.f6 ∧ d.length ≤ c2 ∧ Kd.C (Kd.int .u8) w' A2 d.length d ∧ Below w.heap.size w w'
set_option maxHeartbeats 4000000 in
set_option maxRecDepth 100000 in
theorem request_nil (w : World) : Calls Tryz.prog 36 #[.pointer none] w (ReqP (head0 false) [] false w) := by
  have HK := Aside0.mk (blk_new w (.cells #[.bool false, .string ⟨#[]⟩, .string ⟨#[]⟩, .int .i64 0, .int .i64 0, .string ⟨#[]⟩, .slice none 0 0] 24))
  go_enter Tryz.func36, Tryz.ntmps36
  go_wp2
  refine bodyPost_ret (results_ctt rfl _ _ w.heap.size 24 #[.bool false, .string ⟨#[]⟩, .string ⟨#[]⟩, .int .i64 0, .int .i64 0, .string ⟨#[]⟩, .slice none 0 0] (0, 0) _ rfl HK.out Tryz.underlying24 rfl (by kernel_rfl)) rfl ?_
  exact ⟨none, 0, none, 0, rfl, Nat.le_refl _, Kd.C_nil _ _, Nat.le_refl _, Kd.C_nil _ _, below_alloc (Below.refl _ _) _⟩
set_option maxHeartbeats 4000000 in
set_option maxRecDepth 100000 in
theorem request_no (w : World) (q : Nat) (c : Cl) (F : Nat → Prop) (h : CRep w F q c) (hw : c.waits = false) : Calls Tryz.prog 36 #[.pointer (some ⟨q, 0, none⟩)] w (ReqP (head0 false) [] false w) := by
  obtain ⟨_, kp, rv, vd, vl, vf, Fp, Fr, Fd, h, _, _, _⟩ := h
  have hz7 : w.cell? ⟨q, 7, none⟩ = some (.bool false) := by rw [← hw]; exact (blk_cell h.blk 7).trans rfl
  have hlt := h.lt
  have hne : ¬ q = w.heap.size := by omega
  have hne2 : ¬ w.heap.size = q := by omega
  have HK := Aside0.mk (blk_new w (.cells #[.bool false, .string ⟨#[]⟩, .string ⟨#[]⟩, .int .i64 0, .int .i64 0, .string ⟨#[]⟩, .slice none 0 0] 24))
  clear h hw
  go_enter Tryz.func36, Tryz.ntmps36
  go_wp2
  refine bodyPost_ret (results_ctt rfl _ _ w.heap.size 24 #[.bool false, .string ⟨#[]⟩, .string ⟨#[]⟩, .int .i64 0, .int .i64 0, .string ⟨#[]⟩, .slice none 0 0] (0, 0) _ rfl HK.out Tryz.underlying24 rfl (by kernel_rfl)) rfl ?_
  exact ⟨none, 0, none, 0, rfl, Nat.le_refl _, Kd.C_nil _ _, Nat.le_refl _, Kd.C_nil _ _, below_alloc (Below.refl _ _) _⟩
set_option maxHeartbeats 8000000 in
set_option maxRecDepth 100000 in
theorem request_yes (w : World) (q : Nat) (c : Cl) (F : Nat → Prop) (h : CRep w F q c) (hw : c.waits = true) (hwh : c.par.whole = true) (hfl : c.par.hd.f6.length ≤ 100) (hdl : c.data.length ≤ 2000000000) : Calls Tryz.prog 36 #[.pointer (some ⟨q, 0, none⟩)] w (ReqP c.par.hd c.data true w) := by
  obtain ⟨_, kp, rv, vd, vl, vf, Fp, Fr, Fd, h, _, _, _⟩ := h
  obtain ⟨x, hx⟩ : ∃ x, x = c.par.hd := ⟨_, rfl⟩
  obtain ⟨Ad, cd, hvd, hcd, hCd⟩ := Kd.R_reads h.data
  obtain ⟨N, hN⟩ : ∃ N, N = c.data.length := ⟨_, rfl⟩
  rw [← hN] at hvd hcd hCd
  subst hvd
  have hz7 : w.cell? ⟨q, 7, none⟩ = some (.bool true) := by rw [← hw]; exact (blk_cell h.blk 7).trans rfl
  have hz3 : w.cell? ⟨q, 3, none⟩ = some (.pointer (some ⟨kp, 0, none⟩)) := (blk_cell h.blk 3).trans rfl
  have hz5 : w.cell? ⟨q, 5, none⟩ = some (.slice Ad N cd) := (blk_cell h.blk 5).trans rfl
  have hlt := h.lt
  have hne : ¬ q = w.heap.size := by omega
  have hne2 : ¬ w.heap.size = q := by omega
  have HHd : Aside0 (∀ W, Below w.heap.size w W → w.heap.size + 1 ≤ W.heap.size → Calls Tryz.prog 21 #[.pointer (some ⟨kp, 0, none⟩)] W fun e w1 => ∃ A1 c1, e = .returned (.agg #[.bool x.f0, .string x.f1, .string x.f2, .int .i64 x.f3, .int .i64 x.f4, .string x.f5, .slice A1 x.f6.length c1]) ∧ fldK.R 37 w1 0 (fun i => w.heap.size + 1 ≤ i) (.slice A1 x.f6.length c1) x.f6 ∧ Below W.heap.size W w1) := ⟨fun W hW hs => by
    refine (head_yes W Fp kp vl vf c.par (h.par.below hW) hwh (by omega)).mono ?_
    rintro e w1 ⟨v, rfl, hR, hb⟩
    obtain ⟨A1, c1, e1, hc1, hC1⟩ := Kd.R_reads hR
    subst e1
    rw [← hx] at hR ⊢
    exact ⟨A1, c1, rfl, Kd.R_lower (Kd.R_mono hR (fun i hi => Nat.le_trans hs hi)) (Nat.zero_le _), hb⟩⟩
  have HCl : Aside0 (∀ W, Below w.heap.size w W → w.heap.size + 1 ≤ W.heap.size → Calls Tryz.prog 63 #[.slice Ad N cd] W fun e w1 => ∃ A2 c2, e = .returned (.slice A2 N c2) ∧ (Kd.int .u8).R 5 w1 0 (fun i => w.heap.size + 1 ≤ i) (.slice A2 N c2) c.data ∧ Below W.heap.size W w1) := ⟨fun W hW hs => by
    refine (Bod.cloneB_calls c.data N hN Ad cd W (by rw [← hN]; exact Kd.C_below hCd hW) hcd (by omega)).mono ?_
    rintro e w1 ⟨v, rfl, hR, hb⟩
    obtain ⟨A2, c2, e2, hc2, hC2⟩ := Kd.R_reads hR
    subst e2
    rw [← hN] at hR ⊢
    exact ⟨A2, c2, rfl, Kd.R_lower (Kd.R_mono (Kd.R_bound hR) (fun i hi => Nat.le_trans hs hi.2.1)) (Nat.zero_le _), hb⟩⟩
  have HW1 : Aside0 (Below w.heap.size w (w.alloc (.cells #[.bool false, .string ⟨#[]⟩, .string ⟨#[]⟩, .int .i64 0, .int .i64 0, .string ⟨#[]⟩, .slice none 0 0] 24))) := ⟨below_alloc (Below.refl _ _) _⟩
  have HK := Aside0.mk (blk_new w (.cells #[.bool false, .string ⟨#[]⟩, .string ⟨#[]⟩, .int .i64 0, .int .i64 0, .string ⟨#[]⟩, .slice none 0 0] 24))
  have HS1 : Aside0 ((w.alloc (.cells #[.bool false, .string ⟨#[]⟩, .string ⟨#[]⟩, .int .i64 0, .int .i64 0, .string ⟨#[]⟩, .slice none 0 0] 24)).heap.size = w.heap.size + 1) := ⟨World.size_alloc ..⟩
  have HN := Aside0.mk hN
  unfold ReqP
  rw [← hx, ← hN]
  clear h hw hx hN hcd hCd hwh hfl hdl
  go_enter Tryz.func36, Tryz.ntmps36
  go_wp2
  go_region_with (first
    | (go_at_call 21; go_loud (refine (HHd.out _ (by repeat (first | exact HW1.out | apply below_alloc | apply below_drew1 | apply pw_below_drewN)) (by rw [← HS1.out]; exact (show Below 0 _ _ from (by repeat (first | exact Below.refl _ _ | apply below_alloc | apply below_drew1 | apply pw_below_drewN))).size)).mono ?_; rintro e w3 ⟨A1, c1, rfl, hR1, hb⟩; have HB3 := Aside0.mk (below_step (by repeat (first | exact HW1.out | apply below_alloc | apply below_drew1 | apply pw_below_drewN)) hb); have HR1 := Aside0.mk hR1; have HK3 := Aside0.mk (blk_below (show _ from (by repeat (first | exact HK.out | apply blk_drew))) hb); have x5 : w3.cell? ⟨q, 5, none⟩ = some (.slice Ad N cd) := (HB3.out.cell (World.block_lt_of_cell? w _ hz5)).trans hz5; clear hb hR1))
    | (go_at_call 63; go_loud (refine (HCl.out _ (by repeat (first | exact HB3.out | apply below_alloc | apply below_drew1 | apply pw_below_drewN)) (Nat.le_trans (blk_lt HK3.out) (show Below 0 w3 _ from (by repeat (first | exact Below.refl _ _ | apply below_alloc | apply below_drew1 | apply pw_below_drewN))).size)).mono ?_; rintro e w4 ⟨A2, c2, rfl, hR2, hb⟩; have HB4 := Aside0.mk (below_step (by repeat (first | exact HB3.out | apply below_alloc | apply below_drew1 | apply pw_below_drewN)) hb); have HB34 : Aside0 (Below w3.heap.size w3 w4) := ⟨below_step (by repeat (first | exact Below.refl _ _ | apply below_alloc | apply below_drew1 | apply pw_below_drewN)) hb⟩; have HR2 := Aside0.mk hR2; have hk4 := blk_below HK3.out HB34.out; have HK4 := Aside0.mk hk4; have y0 : w4.cell? ⟨w.heap.size, 0, none⟩ = some (.bool false) := (blk_cell hk4 0).trans rfl; have yf0 := blk_frozen hk4 0; have y1 : w4.cell? ⟨w.heap.size, 1, none⟩ = some (.string ⟨#[]⟩) := (blk_cell hk4 1).trans rfl; have yf1 := blk_frozen hk4 1; have y2 : w4.cell? ⟨w.heap.size, 2, none⟩ = some (.string ⟨#[]⟩) := (blk_cell hk4 2).trans rfl; have yf2 := blk_frozen hk4 2; have y3 : w4.cell? ⟨w.heap.size, 3, none⟩ = some (.int .i64 0) := (blk_cell hk4 3).trans rfl; have yf3 := blk_frozen hk4 3; have y4 : w4.cell? ⟨w.heap.size, 4, none⟩ = some (.int .i64 0) := (blk_cell hk4 4).trans rfl; have yf4 := blk_frozen hk4 4; have y5 : w4.cell? ⟨w.heap.size, 5, none⟩ = some (.string ⟨#[]⟩) := (blk_cell hk4 5).trans rfl; have yf5 := blk_frozen hk4 5; have y6 : w4.cell? ⟨w.heap.size, 6, none⟩ = some (.slice none 0 0) := (blk_cell hk4 6).trans rfl; have yf6 := blk_frozen hk4 6;  clear hb hR2 hk4)))
  all_goals
    (try simp only [Act.put, List.setIfInBounds_toArray, List.set_cons_zero, List.set_cons_succ, List.getElem_toArray, List.getElem_cons_succ, List.getElem_cons_zero])
    go_wp2
    refine bodyPost_ret (results_ctt rfl _ _ w.heap.size 24 #[.bool x.f0, .string x.f1, .string x.f2, .int .i64 x.f3, .int .i64 x.f4, .string x.f5, .slice A1 x.f6.length c1] (0, 0) _ rfl (by refine blk_put (cs := #[.bool x.f0, .string x.f1, .string x.f2, .int .i64 x.f3, .int .i64 x.f4, .string x.f5, .slice none 0 0]) ?_ 6 _ rfl; refine blk_put (cs := #[.bool x.f0, .string x.f1, .string x.f2, .int .i64 x.f3, .int .i64 x.f4, .string ⟨#[]⟩, .slice none 0 0]) ?_ 5 _ rfl; refine blk_put (cs := #[.bool x.f0, .string x.f1, .string x.f2, .int .i64 x.f3, .int .i64 0, .string ⟨#[]⟩, .slice none 0 0]) ?_ 4 _ rfl; refine blk_put (cs := #[.bool x.f0, .string x.f1, .string x.f2, .int .i64 0, .int .i64 0, .string ⟨#[]⟩, .slice none 0 0]) ?_ 3 _ rfl; refine blk_put (cs := #[.bool x.f0, .string x.f1, .string ⟨#[]⟩, .int .i64 0, .int .i64 0, .string ⟨#[]⟩, .slice none 0 0]) ?_ 2 _ rfl; refine blk_put (cs := #[.bool x.f0, .string ⟨#[]⟩, .string ⟨#[]⟩, .int .i64 0, .int .i64 0, .string ⟨#[]⟩, .slice none 0 0]) ?_ 1 _ rfl; refine blk_put (cs := #[.bool false, .string ⟨#[]⟩, .string ⟨#[]⟩, .int .i64 0, .int .i64 0, .string ⟨#[]⟩, .slice none 0 0]) ?_ 0 _ rfl; exact HK4.out) Tryz.underlying24 rfl (by kernel_rfl)) rfl ?_
    have hst : ∀ i, w.heap.size + 1 ≤ i → ((((((((w4.setCell ⟨w.heap.size, 0, none⟩ (.bool x.f0)).setCell ⟨w.heap.size, 1, none⟩ (.string x.f1)).setCell ⟨w.heap.size, 2, none⟩ (.string x.f2)).setCell ⟨w.heap.size, 3, none⟩ (.int .i64 x.f3)).setCell ⟨w.heap.size, 4, none⟩ (.int .i64 x.f4)).setCell ⟨w.heap.size, 5, none⟩ (.string x.f5)).setCell ⟨w.heap.size, 6, none⟩ (.slice A1 x.f6.length c1))).heap[i]? = w4.heap[i]? := fun i hi => by
      rw [Below.heap_setCell _ _ _ _ (by show i ≠ w.heap.size; omega), Below.heap_setCell _ _ _ _ (by show i ≠ w.heap.size; omega), Below.heap_setCell _ _ _ _ (by show i ≠ w.heap.size; omega), Below.heap_setCell _ _ _ _ (by show i ≠ w.heap.size; omega), Below.heap_setCell _ _ _ _ (by show i ≠ w.heap.size; omega), Below.heap_setCell _ _ _ _ (by show i ≠ w.heap.size; omega), Below.heap_setCell _ _ _ _ (by show i ≠ w.heap.size; omega)]
    have hRa := Kd.R_step (w1 := (((((((w4.setCell ⟨w.heap.size, 0, none⟩ (.bool x.f0)).setCell ⟨w.heap.size, 1, none⟩ (.string x.f1)).setCell ⟨w.heap.size, 2, none⟩ (.string x.f2)).setCell ⟨w.heap.size, 3, none⟩ (.int .i64 x.f3)).setCell ⟨w.heap.size, 4, none⟩ (.int .i64 x.f4)).setCell ⟨w.heap.size, 5, none⟩ (.string x.f5)).setCell ⟨w.heap.size, 6, none⟩ (.slice A1 x.f6.length c1))) (Kd.R_below HR1.out HB34.out) (fun i hi _ => hst i hi)
    have hRb := Kd.R_step (w1 := (((((((w4.setCell ⟨w.heap.size, 0, none⟩ (.bool x.f0)).setCell ⟨w.heap.size, 1, none⟩ (.string x.f1)).setCell ⟨w.heap.size, 2, none⟩ (.string x.f2)).setCell ⟨w.heap.size, 3, none⟩ (.int .i64 x.f3)).setCell ⟨w.heap.size, 4, none⟩ (.int .i64 x.f4)).setCell ⟨w.heap.size, 5, none⟩ (.string x.f5)).setCell ⟨w.heap.size, 6, none⟩ (.slice A1 x.f6.length c1))) HR2.out (fun i hi _ => hst i hi)
    obtain ⟨_, _, ea, ha1, ha2⟩ := Kd.R_reads hRa
    obtain ⟨_, _, eb, hb1, hb2⟩ := Kd.R_reads hRb
    injection ea with ea1 ea2 ea3
    injection eb with eb1 eb2 eb3
    rw [← ea1] at ha2
    rw [← ea3] at ha1
    rw [← eb1, ← HN.out] at hb2
    rw [← eb3, ← HN.out] at hb1
    exact ⟨A1, c1, A2, c2, rfl, ha1, ha2, hb1, hb2, (((((((HB4.out).setCell (p := ⟨w.heap.size, 0, none⟩) (Nat.le_refl _) (.bool x.f0)).setCell (p := ⟨w.heap.size, 1, none⟩) (Nat.le_refl _) (.string x.f1)).setCell (p := ⟨w.heap.size, 2, none⟩) (Nat.le_refl _) (.string x.f2)).setCell (p := ⟨w.heap.size, 3, none⟩) (Nat.le_refl _) (.int .i64 x.f3)).setCell (p := ⟨w.heap.size, 4, none⟩) (Nat.le_refl _) (.int .i64 x.f4)).setCell (p := ⟨w.heap.size, 5, none⟩) (Nat.le_refl _) (.string x.f5)).setCell (p := ⟨w.heap.size, 6, none⟩) (Nat.le_refl _) (.slice A1 x.f6.length c1)⟩
end Go.Proofs.YtccolnlfjbgnmaaGreatDoor.Cli
/- A client's connection: the small case that the laws of layer 23 ask first; own text of this session (gen_cl7.py). -/
namespace Go.Proofs.YtccolnlfjbgnmaaGreatDoor.Cli
open Go.RowKit Go.Proofs.YtccolnlfjbgnmaaGreatDoorW.PrintWords Go.Proofs.YtccolnlfjbgnmaaGreatDoorW.PrintLast Chk Px Hr Hd
open Bod (Bd feedB byteB feedB_stop feedB_next feedB_count BFine newB BRep FeedB feedB_calls)
set_option linter.unusedVariables false
set_option linter.unusedSimpArgs false
theorem CRep.trim {w : World} {F : Nat → Prop} {q : Nat} {c : Cl} (h : CRep w F q c) : CRep w (fun k => F k ∧ k < w.heap.size) q c := by
  obtain ⟨a, kp, rv, vd, vl, vf, Fp, Fr, Fd, h1, h2, h3, h4⟩ := h
  exact ⟨⟨a, h1.lt⟩, kp, rv, vd, vl, vf, Fp, Fr, Fd, h1, fun k hk => ⟨h2 k hk, (h1.hp k hk).1⟩, fun k hk => ⟨h3 k hk, (h1.hr k hk).1⟩, fun k hk => ⟨h4 k hk, (h1.hd k hk).1⟩⟩
theorem hconst_at (g : Nat) (xs : List Int) (n : Nat) (hn : n ≤ 4294940000) : ∀ W' : World, W'.heap[g]? = some (.cells ((xs.map (Value.int .u8)).toArray) 5 (n, n + 1)) → xs.length = n → (Kd.int .u8).C W' (some ⟨g, 0, none⟩) xs.length xs := by
  intro W' h hl
  refine C_of_block h ?_ (by omega)
  intro i hi
  simp [List.getElem?_eq_getElem hi]
/-- Bytes of the text are read. -/
theorem read_const (w W : World) (F : Nat → Prop) (q : Nat) (c : Cl) (T : Nat) (xs : List Int) (n : Nat) (hn : xs.length = n) (hn2 : n ≤ 1000) (h : CRep W F q c) (hG : GInv w) (hB : Below w.heap.size w W) (hF : ∀ k, F k → w.heap.size ≤ k) (hI : CInv c) (hM : CMass T c) (hT : T ≤ 1000000000) :
    Calls Tryz.prog 31 #[.pointer (some ⟨q, 0, none⟩), .slice (some ⟨W.heap.size, 0, none⟩) n n] (W.alloc (.cells ((xs.map (Value.int .u8)).toArray) 5 (n, n + 1))) fun e w' =>
      e = .returned (.tuple #[.int .i64 ((readC c xs).2 : Int), .bool (readC c xs).1.waits]) ∧ CRep w' (fun k => (F k ∧ k < W.heap.size) ∨ W.heap.size + 1 ≤ k) q (readC c xs).1 ∧ Stay (fun k => F k ∧ k < W.heap.size) (W.alloc (.cells ((xs.map (Value.int .u8)).toArray) 5 (n, n + 1))) w' := by
  have hb1 : Below W.heap.size W (W.alloc (.cells ((xs.map (Value.int .u8)).toArray) 5 (n, n + 1))) := below_alloc (Below.refl _ _) _
  have hs1 : (W.alloc (.cells ((xs.map (Value.int .u8)).toArray) 5 (n, n + 1))).heap.size = W.heap.size + 1 := World.size_alloc ..
  have h5 := read_calls w _ _ q c (h.trim.below hb1) ⟨hG, below_step hB hb1, fun k hk => hF k hk.1⟩ hI T hM xs (some ⟨W.heap.size, 0, none⟩) n (by omega) (by omega) (fun W' hs => by
    refine hconst_at W.heap.size xs n (by omega) W' ?_ hn
    exact (hs.block W.heap.size (by rw [hs1]; omega) (fun hk => by have := hk.2; omega)).trans (blk_new _ _))
  rw [hn] at h5
  refine h5.mono ?_
  rintro e w' ⟨rfl, hC, hs⟩
  rw [hs1] at hC
  exact ⟨rfl, hC, hs⟩
def say1 : List Int := [71, 69, 84, 32, 47, 32, 72, 84, 84, 80, 47, 49, 46, 49, 13, 10, 13, 10, 80, 85, 84, 32, 47, 97, 32, 72, 84, 84, 80, 47, 49, 46, 49, 13, 10]
def say2 : List Int := [120]
def cB : Cl := (readC (newC 100 10) say1).1
def cD : Cl := (readC (answC cB true) say2).1
set_option maxRecDepth 100000
theorem sp_n : (readC (newC 100 10) say1).2 = 18 := by decide +kernel
theorem sp_w : cB.waits = true := by decide +kernel
theorem sp_h : cB.par.hd.f1.data.toList = [71, 69, 84] := by decide +kernel
theorem sp_l : cB.par.hd.f6.length ≤ 100 := by decide +kernel
theorem sp_d : cB.data.length ≤ 2000000000 := by decide +kernel
theorem sp_p : cB.par.whole = true := by decide +kernel
theorem sp_m : cB.most = 100 := by decide +kernel
theorem sp_n2 : (readC (answC cB true) say2).2 = 1 := by decide +kernel
theorem sp_w2 : cD.waits = false := by decide +kernel
theorem sp_b : cD.begun = true := by decide +kernel
theorem sp_s : cD.shut = false := by decide +kernel
theorem sp_e : cD.wrong = 0 := by decide +kernel
theorem answC_inv {c : Cl} (h : CInv c) (keep : Bool) : CInv (answC c keep) ∧ CMass 0 (answC c keep) := by
  refine ⟨⟨h.most0, h.most1, h.room0, h.room1, fun _ => PFine.new (show (0 : Int) ≤ c.most by have := h.most0; omega), ?_, fun h5 => absurd rfl h5, fun h5 => absurd (show false = true from h5) (by decide)⟩, ⟨Nat.le_refl _, fun r h5 => by cases h5⟩⟩
  exact .inr (.inl ⟨rfl, rfl, rfl⟩)
theorem CRep.at_ {w : World} {F : Nat → Prop} {q : Nat} {c : Cl} (h : CRep w F q c) : ∃ kp rv vd vl vf Fp Fr Fd, CAt w q c kp rv vd vl vf Fp Fr Fd := by
  obtain ⟨a, kp, rv, vd, vl, vf, Fp, Fr, Fd, h1, h2, h3, h4⟩ := h
  exact ⟨kp, rv, vd, vl, vf, Fp, Fr, Fd, h1⟩
theorem begun_c {w : World} {F : Nat → Prop} {q : Nat} {c : Cl} (h : CRep w F q c) : Calls Tryz.prog 37 #[.pointer (some ⟨q, 0, none⟩)] w fun e w' => e = .returned (.bool (c.begun && !c.waits && !c.shut)) ∧ Below w.heap.size w w' := by
  obtain ⟨kp, rv, vd, vl, vf, Fp, Fr, Fd, h1⟩ := h.at_
  exact begun_calls w q c kp rv vd vl vf Fp Fr Fd h1
theorem shut_c {w : World} {F : Nat → Prop} {q : Nat} {c : Cl} (h : CRep w F q c) : Calls Tryz.prog 33 #[.pointer (some ⟨q, 0, none⟩)] w fun e w' => e = .returned (.bool c.shut) ∧ Below w.heap.size w w' := by
  obtain ⟨kp, rv, vd, vl, vf, Fp, Fr, Fd, h1⟩ := h.at_
  exact shut_calls w q c kp rv vd vl vf Fp Fr Fd h1
theorem wrong_c {w : World} {F : Nat → Prop} {q : Nat} {c : Cl} (h : CRep w F q c) : Calls Tryz.prog 32 #[.pointer (some ⟨q, 0, none⟩)] w fun e w' => e = .returned (.int .i64 c.wrong) ∧ Below w.heap.size w w' := by
  obtain ⟨kp, rv, vd, vl, vf, Fp, Fr, Fd, h1⟩ := h.at_
  exact wrong_calls w q c kp rv vd vl vf Fp Fr Fd h1
set_option maxHeartbeats 8000000 in
theorem speaks_calls (w : World) (hG : GInv w) : Calls Tryz.prog 35 #[] w fun e w' => e = .returned (.bool true) ∧ Below w.heap.size w w' := by
  have hcc1 : ∀ W : World, (convert 33 33 (.slice (some ⟨W.heap.size, 0, none⟩) 35 35)).run Tryz.prog (W.alloc (.cells #[.int .u8 71, .int .u8 69, .int .u8 84, .int .u8 32, .int .u8 47, .int .u8 32, .int .u8 72, .int .u8 84, .int .u8 84, .int .u8 80, .int .u8 47, .int .u8 49, .int .u8 46, .int .u8 49, .int .u8 13, .int .u8 10, .int .u8 13, .int .u8 10, .int .u8 80, .int .u8 85, .int .u8 84, .int .u8 32, .int .u8 47, .int .u8 97, .int .u8 32, .int .u8 72, .int .u8 84, .int .u8 84, .int .u8 80, .int .u8 47, .int .u8 49, .int .u8 46, .int .u8 49, .int .u8 13, .int .u8 10] 5)) = Result.ok (.slice (some ⟨W.heap.size, 0, none⟩) 35 35) (W.alloc (.cells #[.int .u8 71, .int .u8 69, .int .u8 84, .int .u8 32, .int .u8 47, .int .u8 32, .int .u8 72, .int .u8 84, .int .u8 84, .int .u8 80, .int .u8 47, .int .u8 49, .int .u8 46, .int .u8 49, .int .u8 13, .int .u8 10, .int .u8 13, .int .u8 10, .int .u8 80, .int .u8 85, .int .u8 84, .int .u8 32, .int .u8 47, .int .u8 97, .int .u8 32, .int .u8 72, .int .u8 84, .int .u8 84, .int .u8 80, .int .u8 47, .int .u8 49, .int .u8 46, .int .u8 49, .int .u8 13, .int .u8 10] 5 (35, 36))) := fun W => Lib.run_convert_bytes_const W _ _ #[.int .u8 71, .int .u8 69, .int .u8 84, .int .u8 32, .int .u8 47, .int .u8 32, .int .u8 72, .int .u8 84, .int .u8 84, .int .u8 80, .int .u8 47, .int .u8 49, .int .u8 46, .int .u8 49, .int .u8 13, .int .u8 10, .int .u8 13, .int .u8 10, .int .u8 80, .int .u8 85, .int .u8 84, .int .u8 32, .int .u8 47, .int .u8 97, .int .u8 32, .int .u8 72, .int .u8 84, .int .u8 84, .int .u8 80, .int .u8 47, .int .u8 49, .int .u8 46, .int .u8 49, .int .u8 13, .int .u8 10] 35 35 Tryz.underlying33 Tryz.underlying5
  have hcc2 : ∀ W : World, (convert 33 33 (.slice (some ⟨W.heap.size, 0, none⟩) 1 1)).run Tryz.prog (W.alloc (.cells #[.int .u8 120] 5)) = Result.ok (.slice (some ⟨W.heap.size, 0, none⟩) 1 1) (W.alloc (.cells #[.int .u8 120] 5 (1, 2))) := fun W => Lib.run_convert_bytes_const W _ _ #[.int .u8 120] 1 1 Tryz.underlying33 Tryz.underlying5
  have i0 : CInv (newC 100 10) := CInv.new (by decide) (by decide) (by decide) (by decide)
  have iB := readC_inv say1 i0 CMass.new
  have iA := answC_inv iB.1 true
  obtain ⟨x, hx⟩ : ∃ x, x = cB.par.hd := ⟨_, rfl⟩
  have hx1 : x.f1 = ⟨#[71, 69, 84]⟩ := by rw [hx]; exact ba_eq sp_h
  have HR1 : Aside0 (∀ (W : World) (F : Nat → Prop) (q : Nat), CRep W F q (newC 100 10) → Below w.heap.size w W → (∀ k, F k → w.heap.size ≤ k) → Calls Tryz.prog 31 #[.pointer (some ⟨q, 0, none⟩), .slice (some ⟨W.heap.size, 0, none⟩) 35 35] (W.alloc (.cells #[.int .u8 71, .int .u8 69, .int .u8 84, .int .u8 32, .int .u8 47, .int .u8 32, .int .u8 72, .int .u8 84, .int .u8 84, .int .u8 80, .int .u8 47, .int .u8 49, .int .u8 46, .int .u8 49, .int .u8 13, .int .u8 10, .int .u8 13, .int .u8 10, .int .u8 80, .int .u8 85, .int .u8 84, .int .u8 32, .int .u8 47, .int .u8 97, .int .u8 32, .int .u8 72, .int .u8 84, .int .u8 84, .int .u8 80, .int .u8 47, .int .u8 49, .int .u8 46, .int .u8 49, .int .u8 13, .int .u8 10] 5 (35, 36))) fun e w' =>
      e = .returned (.tuple #[.int .i64 18, .bool true]) ∧ CRep w' (fun k => (F k ∧ k < W.heap.size) ∨ W.heap.size + 1 ≤ k) q cB ∧ Stay (fun k => F k ∧ k < W.heap.size) (W.alloc (.cells #[.int .u8 71, .int .u8 69, .int .u8 84, .int .u8 32, .int .u8 47, .int .u8 32, .int .u8 72, .int .u8 84, .int .u8 84, .int .u8 80, .int .u8 47, .int .u8 49, .int .u8 46, .int .u8 49, .int .u8 13, .int .u8 10, .int .u8 13, .int .u8 10, .int .u8 80, .int .u8 85, .int .u8 84, .int .u8 32, .int .u8 47, .int .u8 97, .int .u8 32, .int .u8 72, .int .u8 84, .int .u8 84, .int .u8 80, .int .u8 47, .int .u8 49, .int .u8 46, .int .u8 49, .int .u8 13, .int .u8 10] 5 (35, 36))) w') := ⟨fun W F q hC hB hF => by
    have h5 := read_const w W F q (newC 100 10) 0 say1 35 rfl (by decide) hC hG hB hF i0 CMass.new (by decide)
    rw [sp_n, show (readC (newC 100 10) say1).1.waits = true from sp_w] at h5
    exact h5⟩
  have HR2 : Aside0 (∀ (W : World) (F : Nat → Prop) (q : Nat), CRep W F q (answC cB true) → Below w.heap.size w W → (∀ k, F k → w.heap.size ≤ k) → Calls Tryz.prog 31 #[.pointer (some ⟨q, 0, none⟩), .slice (some ⟨W.heap.size, 0, none⟩) 1 1] (W.alloc (.cells #[.int .u8 120] 5 (1, 2))) fun e w' =>
      e = .returned (.tuple #[.int .i64 1, .bool false]) ∧ CRep w' (fun k => (F k ∧ k < W.heap.size) ∨ W.heap.size + 1 ≤ k) q cD ∧ Stay (fun k => F k ∧ k < W.heap.size) (W.alloc (.cells #[.int .u8 120] 5 (1, 2))) w') := ⟨fun W F q hC hB hF => by
    have h5 := read_const w W F q (answC cB true) 0 say2 1 rfl (by decide) hC hG hB hF iA.1 iA.2 (by decide)
    rw [sp_n2, show (readC (answC cB true) say2).1.waits = false from sp_w2] at h5
    exact h5⟩
  have HRq : Aside0 (∀ (W : World) (F : Nat → Prop) (q : Nat), CRep W F q cB → Calls Tryz.prog 36 #[.pointer (some ⟨q, 0, none⟩)] W fun e w' => ∃ A1 c1 A2 n2 c2, e = .returned (.tuple #[.agg #[.bool x.f0, .string ⟨#[71, 69, 84]⟩, .string x.f2, .int .i64 x.f3, .int .i64 x.f4, .string x.f5, .slice A1 x.f6.length c1], .slice A2 n2 c2, .bool true]) ∧ Below W.heap.size W w') := ⟨fun W F q hC => by
    refine (request_yes W q cB F hC sp_w sp_p sp_l sp_d).mono ?_
    rintro e w' ⟨A1, c1, A2, c2, rfl, _, _, _, _, hb⟩
    rw [← hx, hx1]
    exact ⟨A1, c1, A2, _, c2, rfl, hb⟩⟩
  have HAn : Aside0 (∀ (W : World) (F : Nat → Prop) (q : Nat), CRep W F q cB → Calls Tryz.prog 34 #[.pointer (some ⟨q, 0, none⟩), .bool true] W fun e w' => e = .returned (.int .i64 0) ∧ CRep w' (fun k => F k ∨ W.heap.size ≤ k) q (answC cB true) ∧ Stay F W w') := ⟨fun W F q hC => answered_yes true W q cB F hC sp_w (by rw [sp_m]; decide) (by rw [sp_m]; decide)⟩
  have HBe : Aside0 (∀ (W : World) (F : Nat → Prop) (q : Nat), CRep W F q cD → Calls Tryz.prog 37 #[.pointer (some ⟨q, 0, none⟩)] W fun e w' => e = .returned (.bool true) ∧ Below W.heap.size W w') := ⟨fun W F q hC => by
    have h5 := begun_c hC
    rw [sp_b, sp_w2, sp_s] at h5
    exact h5⟩
  have HSh : Aside0 (∀ (W : World) (F : Nat → Prop) (q : Nat), CRep W F q cD → Calls Tryz.prog 33 #[.pointer (some ⟨q, 0, none⟩)] W fun e w' => e = .returned (.bool false) ∧ Below W.heap.size W w') := ⟨fun W F q hC => by
    have h5 := shut_c hC
    rw [sp_s] at h5
    exact h5⟩
  have HWr : Aside0 (∀ (W : World) (F : Nat → Prop) (q : Nat), CRep W F q cD → Calls Tryz.prog 32 #[.pointer (some ⟨q, 0, none⟩)] W fun e w' => e = .returned (.int .i64 0) ∧ Below W.heap.size W w') := ⟨fun W F q hC => by
    have h5 := wrong_c hC
    rw [sp_e] at h5
    exact h5⟩
  have HNw := Aside0.mk (new_ok 100 10 w (by decide) (by decide) (by decide) (by decide))
  clear hG i0 iB iA hx hx1
  go_enter Tryz.func35, Tryz.ntmps35
  go_wp2_with fail
  refine HNw.out.mono ?_
  rintro e w1 ⟨q, rfl, hC1, hb1⟩
  have HC1 := Aside0.mk hC1
  have HB1 := Aside0.mk hb1
  clear hC1 hb1
  go_wp2_with fail
  refine (HR1.out _ _ _ HC1.out HB1.out (fun k hk => hk)).mono ?_
  rintro e w2 ⟨rfl, hC2, hs2⟩
  have HC2 := Aside0.mk (hC2.mono (G := fun k => w.heap.size ≤ k) (fun k hk => hk.elim (fun h5 => h5.1) (fun h5 => by have := HB1.out.size; omega)))
  have HB2 := Aside0.mk (hs2.out (below_alloc HB1.out _) (fun i hi => hi.1) (by exact (below_alloc HB1.out (.cells #[.int .u8 71, .int .u8 69, .int .u8 84, .int .u8 32, .int .u8 47, .int .u8 32, .int .u8 72, .int .u8 84, .int .u8 84, .int .u8 80, .int .u8 47, .int .u8 49, .int .u8 46, .int .u8 49, .int .u8 13, .int .u8 10, .int .u8 13, .int .u8 10, .int .u8 80, .int .u8 85, .int .u8 84, .int .u8 32, .int .u8 47, .int .u8 97, .int .u8 32, .int .u8 72, .int .u8 84, .int .u8 84, .int .u8 80, .int .u8 47, .int .u8 49, .int .u8 46, .int .u8 49, .int .u8 13, .int .u8 10] 5 (35, 36))).size))
  clear hC2 hs2
  go_wp2_with fail
  refine (HRq.out _ _ _ HC2.out).mono ?_
  rintro e w3 ⟨A1, c1, A2, n2, c2, rfl, hb3⟩
  have HB3 := Aside0.mk (below_step HB2.out hb3)
  have HC3 := Aside0.mk (HC2.out.below hb3).trim
  have HK3 := Aside0.mk (blk_new w3 (.cells #[.bool x.f0, .string ⟨#[71, 69, 84]⟩, .string x.f2, .int .i64 x.f3, .int .i64 x.f4, .string x.f5, .slice A1 x.f6.length c1] 24))
  have HS3 : Aside0 ((w3.alloc (.cells #[.bool x.f0, .string ⟨#[71, 69, 84]⟩, .string x.f2, .int .i64 x.f3, .int .i64 x.f4, .string x.f5, .slice A1 x.f6.length c1] 24)).heap.size = w3.heap.size + 1) := ⟨World.size_alloc ..⟩
  clear hb3
  go_wp2_with fail
  refine (HAn.out _ _ _ (HC3.out.below (below_alloc (Below.refl _ _) _))).mono ?_
  rintro e w4 ⟨rfl, hC4, hs4⟩
  have HK4 := Aside0.mk ((hs4.block w3.heap.size (blk_lt HK3.out) (fun h5 => by have := h5.2; omega)).trans HK3.out)
  have HB4 := Aside0.mk (hs4.out (below_alloc HB3.out _) (fun i hi => hi.1) (by exact (below_alloc HB3.out (.cells #[.bool x.f0, .string ⟨#[71, 69, 84]⟩, .string x.f2, .int .i64 x.f3, .int .i64 x.f4, .string x.f5, .slice A1 x.f6.length c1] 24)).size))
  have HC4 := Aside0.mk hC4
  clear hC4 hs4
  go_wp2_with fail
  refine (HR2.out _ _ _ HC4.out HB4.out (fun k hk => hk.elim (fun h5 => h5.1) (fun h5 => by have := HB3.out.size; rw [HS3.out] at h5; omega))).mono ?_
  rintro e w5 ⟨rfl, hC5, hs5⟩
  have hK5 := (hs5.block w3.heap.size (Nat.lt_of_lt_of_le (blk_lt HK4.out) (by rw [World.size_alloc]; exact Nat.le_succ _)) (fun h5 => h5.1.elim (fun h6 => by have := h6.2; omega) (fun h6 => by rw [HS3.out] at h6; omega))).trans (blk_alloc HK4.out _)
  have y1 : w5.cell? ⟨w3.heap.size, 1, none⟩ = some (.string ⟨#[71, 69, 84]⟩) := (blk_cell hK5 1).trans rfl
  have HB5 := Aside0.mk (hs5.out (below_alloc HB4.out _) (fun i hi => hi.1.elim (fun h5 => h5.1) (fun h5 => by have := HB3.out.size; rw [HS3.out] at h5; omega)) (by exact (below_alloc HB4.out (.cells #[.int .u8 120] 5 (1, 2))).size))
  have HC5 := Aside0.mk hC5
  clear hC5 hs5 hK5
  go_wp2_with (first
    | (go_at_call 37; go_loud (refine (HBe.out _ _ _ (HC5.out.below (by repeat (first | exact Below.refl _ _ | apply below_alloc | apply below_drew1 | apply pw_below_drewN)))).mono ?_; rintro e w6 ⟨rfl, hb⟩; have HB56 : Aside0 (Below w5.heap.size w5 w6) := ⟨below_step (by repeat (first | exact Below.refl _ _ | apply below_alloc | apply below_drew1 | apply pw_below_drewN)) hb⟩; clear hb))
    | (go_at_call 33; go_loud (refine (HSh.out _ _ _ (HC5.out.below (by repeat (first | exact HB56.out | apply below_alloc | apply below_drew1 | apply pw_below_drewN)))).mono ?_; rintro e w7 ⟨rfl, hb⟩; have HB57 : Aside0 (Below w5.heap.size w5 w7) := ⟨below_step (by repeat (first | exact HB56.out | apply below_alloc | apply below_drew1 | apply pw_below_drewN)) hb⟩; clear hb))
    | (go_at_call 32; go_loud (refine (HWr.out _ _ _ (HC5.out.below (by repeat (first | exact HB57.out | apply below_alloc | apply below_drew1 | apply pw_below_drewN)))).mono ?_; rintro e w8 ⟨rfl, hb⟩; have HB58 : Aside0 (Below w5.heap.size w5 w8) := ⟨below_step (by repeat (first | exact HB57.out | apply below_alloc | apply below_drew1 | apply pw_below_drewN)) hb⟩; clear hb)))
  go_ret
  exact ⟨rfl, below_step HB5.out HB58.out⟩
end Go.Proofs.YtccolnlfjbgnmaaGreatDoor.Cli
