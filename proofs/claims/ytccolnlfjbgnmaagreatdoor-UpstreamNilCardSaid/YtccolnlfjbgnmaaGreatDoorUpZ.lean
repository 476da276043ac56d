/- A host's connection: its two states, a piece at a time; own text of this session (gen_up4.py). -/
import Derived.Test.YtccolnlfjbgnmaaGreatDoorUpA
namespace Go.Proofs.YtccolnlfjbgnmaaGreatDoor.Ups
open Go.RowKit Go.Proofs.YtccolnlfjbgnmaaGreatDoorW.PrintWords Go.Proofs.YtccolnlfjbgnmaaGreatDoorW.PrintLast Chk Px Hr Hd
open Bod (Bd feedB byteB feedB_stop feedB_next feedB_count BFine newB BRep NewB newB_calls FeedB feedB_calls)
open Cli (live feedP_shift FrOk rtoldS_ok fsz_wt feedP_one byteB_pot feedB_potN feedB_pot newB_fine set_other)
set_option linter.unusedVariables false
set_option linter.unusedSimpArgs false
theorem got_calls (w : World) (q : Nat) (u : Up) (kp : Nat) (rv vh vl vf : Value) (Fp Fr Fh Fx : Nat → Prop) (h : UAt w q u kp rv vh vl vf Fp Fr Fh) (hG : GInv w) (x : Head) (A1 : Option Addr) (c1 : Nat) (hR : fldK.R 37 w 0 Fx (.slice A1 x.f6.length c1) x.f6) (hx : ∀ k, Fx k → k < w.heap.size ∧ k ≠ q ∧ ¬ Fp k ∧ ¬ Fr k) (hc : x.f6.length ≤ c1) (hfs : Px.fsz x.f6 ≤ 4194304) (hi0 : 0 ≤ u.interim) (hi1 : u.interim ≤ 9) (hm0 : 16 ≤ u.most) (hm1 : u.most ≤ 65536) :
    Calls Tryz.prog 77 #[.pointer (some ⟨q, 0, none⟩), .agg #[.bool x.f0, .string x.f1, .string x.f2, .int .i64 x.f3, .int .i64 x.f4, .string x.f5, .slice A1 x.f6.length c1]] w fun e w' => e = .returned (.tuple #[]) ∧ (∃ kp' rv' vh' vl' vf' Fp' Fr' Fh', UAt w' q (gotU u x) kp' rv' vh' vl' vf' Fp' Fr' Fh' ∧ (∀ k, Fp' k → Fp k ∨ w.heap.size ≤ k) ∧ (∀ k, Fr' k → Fr k ∨ w.heap.size ≤ k) ∧ (∀ k, Fh' k → Fh k ∨ Fx k)) ∧ Stay (fun k => k = q) w w' := by
  by_cases h1 : x.f4 < 200
  · by_cases h2 : x.f4 = 101 ∨ 8 < u.interim + 1
    · refine (got_bad w q u kp rv vh vl vf Fp Fr Fh h x A1 c1 h1 h2 hi0 hi1).mono ?_
      rintro e w' ⟨rfl, h5, hs⟩
      exact ⟨rfl, ⟨_, _, _, _, _, _, _, _, h5, fun k hk => .inl hk, fun k hk => .inl hk, fun k hk => .inl hk⟩, hs⟩
    · refine (got_next w q u kp rv vh vl vf Fp Fr Fh h x A1 c1 h1 h2 hi0 hi1 hm0 hm1).mono ?_
      rintro e w' ⟨rfl, ⟨k1, h5, hk1⟩, hs⟩
      exact ⟨rfl, ⟨_, _, _, _, _, _, _, _, h5, fun k hk => .inr (by rw [hk]; exact hk1), fun k hk => .inl hk, fun k hk => .inl hk⟩, hs⟩
  · refine (got_high w q u kp rv vh vl vf Fp Fr Fh Fx h hG x A1 c1 hR hx hc hfs h1).mono ?_
    rintro e w' ⟨rfl, ⟨rv', vh', Fr', Fh', h5, h6, h7⟩, hs⟩
    exact ⟨rfl, ⟨_, _, _, _, _, _, _, _, h5, fun k hk => .inl hk, h6, h7⟩, hs⟩
/-- What a state's function leaves. -/
def StateP (w : World) (F : Nat → Prop) (q : Nat) (r : Up × List Int × Nat) (e : Ending) (w' : World) : Prop :=
  ∃ v, e = .returned (.tuple #[.int .i64 (r.2.2 : Int), v]) ∧ (∃ (F' G : Nat → Prop), URep w' F' q r.1 ∧ (Kd.int .u8).R 5 w' 0 G v r.2.1 ∧
    (∀ k, F' k → (F k ∨ w.heap.size ≤ k) ∧ k < w'.heap.size) ∧ (∀ k, G k → (F k ∨ w.heap.size ≤ k) ∧ k < w'.heap.size ∧ ¬ F' k)) ∧ Stay F w w'
theorem UAt.repB {w : World} {q : Nat} {u : Up} {kp : Nat} {rv vh vl vf : Value} {Fp Fr Fh F : Nat → Prop} {B : Nat} (h : UAt w q u kp rv vh vl vf Fp Fr Fh) (hq : F q) (hp : ∀ k, Fp k → F k ∨ B ≤ k) (hr : ∀ k, Fr k → F k ∨ B ≤ k) (hh : ∀ k, Fh k → F k ∨ B ≤ k) : URep w (fun k => (F k ∨ B ≤ k) ∧ k < w.heap.size) q u :=
  h.rep ⟨.inl hq, h.lt⟩ (fun k hk => ⟨hp k hk, (h.hp k hk).1⟩) (fun k hk => ⟨hr k hk, (h.hr k hk).1⟩) (fun k hk => ⟨hh k hk, (h.hh k hk).1⟩)
set_option maxHeartbeats 8000000 in
set_option maxRecDepth 100000 in
theorem rhead_calls (w0 w : World) (F : Nat → Prop) (q : Nat) (u : Up) (hC : URep w F q u) (hH : Held w0 w F) (hI : UInv u) (hst : u.st = 0) (hl : live u.par) (b : List Int) (A : Option Addr) (cap : Nat) (hbl : b.length ≤ 2000000000) (hb : ∀ W', Stay F w W' → (Kd.int .u8).C W' A b.length b) :
    Calls Tryz.prog 59 #[.pointer (some ⟨q, 0, none⟩), .slice A b.length cap] w (StateP w F q (headU u b)) := by
  obtain ⟨hFq, kp, rv, vh, vl, vf, Fp, Fr, Fh, h, hFp, hFr, hFh⟩ := hC
  have hpf := hI.par hl.2
  have hpf1 := hpf.feed b u.par 0 hl.2
  have hfw := feed_whole b u.par 0 hl.1 hl.2
  have hfe := Hd.feed_calls w0 w Fp kp vl vf u.par A cap b h.par ⟨hH.inv, hH.below, fun k hk => hH.over k (hFp k hk)⟩ (hpf.sane hI.most1 b.length (by omega)) (fun W' hs => hb W' (hs.mono hFp))
  unfold headU
  obtain ⟨⟨p1, n1⟩, hf⟩ : ∃ r, r = feedP u.par b 0 := ⟨_, rfl⟩
  rw [← hf] at hpf1 hfw hfe ⊢
  simp only at hpf1 hfw ⊢
  obtain ⟨L, hL⟩ : ∃ L, L = b.length := ⟨_, rfl⟩
  rw [← hL] at hfe ⊢
  unfold Hd.FeedPost at hfe
  simp only at hfe
  have HFe := Aside0.mk hfe
  have H := Aside0.mk h
  have HFq := Aside0.mk hFq
  have HFp := Aside0.mk hFp
  have HFr := Aside0.mk hFr
  have HFh := Aside0.mk hFh
  have HH := Aside0.mk hH
  have HI := Aside0.mk hI
  have hz4 : w.cell? ⟨q, 4, none⟩ = some (.pointer (some ⟨kp, 0, none⟩)) := (blk_cell h.blk 4).trans rfl
  obtain ⟨ec, hec⟩ : ∃ ec, ec = codeOf p1.err := ⟨_, rfl⟩
  have HEc := Aside0.mk hec
  rw [← hec] at HFe
  unfold StateP
  simp only
  cases hwh : p1.whole with
  | false =>
    have hres : headE u p1 = parU u p1 := by unfold headE; rw [if_neg (by rw [hwh]; decide)]
    rw [hres]
    rw [hwh] at HFe
    clear hres hf hfe hl hpf hpf1 hfw h hFq hFp hFr hFh hH hI hst hbl hb hec hL hwh
    go_enter Tryz.func59, Tryz.ntmps59
    go_wp2_with fail
    refine HFe.out.mono ?_
    rintro e w1 ⟨rfl, ⟨vl1, vf1, hrep⟩, hst⟩
    have h1 := H.out.parTo hrep hst
    have hf17 := blk_frozen h1.blk 17
    have hz17 : w1.cell? ⟨q, 17, none⟩ = some (.int .i64 u.wrong) := (blk_cell h1.blk 17).trans rfl
    have H2 : Aside0 (UAt (w1.setCell ⟨q, 17, none⟩ (.int .i64 ec)) q (parU u p1) kp rv vh vl1 vf1 (fun k => (Fp k ∨ w.heap.size ≤ k) ∧ k < w1.heap.size) Fr Fh) := ⟨h1.scal (by rw [HEc.out]; rfl) rfl rfl rfl⟩
    have HS2 : Aside0 (Stay F w (w1.setCell ⟨q, 17, none⟩ (.int .i64 ec))) := ⟨(hst.mono HFp.out).set (p := ⟨q, 17, none⟩) HFq.out _⟩
    clear h1 hrep hst
    go_wp2
    go_ret2
    exact ⟨_, rfl, ⟨_, fun _ => False, H2.out.repB (B := w.heap.size) HFq.out (fun k hk => hk.1.imp (HFp.out k) id) (fun k hk => .inl (HFr.out k hk)) (fun k hk => .inl (HFh.out k hk)), Kd.R_nil _ _ _ _ _, fun k hk => hk, fun k hk => hk.elim⟩, HS2.out⟩
  | true =>
    have hen := hfw hwh
    have hres : headE u p1 = gotU (parU u p1) p1.hd := by unfold headE; rw [if_pos hwh]
    rw [hres]
    rw [hwh] at HFe
    have HFs := Aside0.mk ((hpf1 hen).fields hI.most1)
    have HWh := Aside0.mk hwh
    obtain ⟨x, hx⟩ : ∃ x, x = p1.hd := ⟨_, rfl⟩
    rw [← hx] at HFs ⊢
    have HX := Aside0.mk hx
    clear hres hf hfe hl hpf hpf1 hfw h hFq hFp hFr hFh hH hI hst hbl hb hec hL hwh hen hx
    go_enter Tryz.func59, Tryz.ntmps59
    go_wp2_with fail
    refine HFe.out.mono ?_
    rintro e w1 ⟨rfl, ⟨vl1, vf1, hrep⟩, hst⟩
    have h1 := H.out.parTo hrep hst
    have hf17 := blk_frozen h1.blk 17
    have hz17 : w1.cell? ⟨q, 17, none⟩ = some (.int .i64 u.wrong) := (blk_cell h1.blk 17).trans rfl
    have hy4 : w1.cell? ⟨q, 4, none⟩ = some (.pointer (some ⟨kp, 0, none⟩)) := (blk_cell h1.blk 4).trans rfl
    have H2 : Aside0 (UAt (w1.setCell ⟨q, 17, none⟩ (.int .i64 ec)) q (parU u p1) kp rv vh vl1 vf1 (fun k => (Fp k ∨ w.heap.size ≤ k) ∧ k < w1.heap.size) Fr Fh) := ⟨h1.scal (by rw [HEc.out]; rfl) rfl rfl rfl⟩
    have HS2 : Aside0 (Stay F w (w1.setCell ⟨q, 17, none⟩ (.int .i64 ec))) := ⟨(hst.mono HFp.out).set (p := ⟨q, 17, none⟩) HFq.out _⟩
    clear h1 hrep hst
    go_wp2_with fail
    obtain ⟨W2, hW2⟩ : ∃ W2, W2 = w1.setCell ⟨q, 17, none⟩ (.int .i64 ec) := ⟨_, rfl⟩
    rw [← hW2] at H2 HS2 ⊢
    refine (head_yes W2 _ kp vl1 vf1 p1 H2.out.par HWh.out (by have := HFs.out.2; rw [HX.out] at this; omega)).mono ?_
    rintro e w3 ⟨v, rfl, hR, hb⟩
    rw [← HX.out] at hR ⊢
    obtain ⟨A1, c1, e1, hc1, hC1⟩ := Kd.R_reads hR
    subst e1
    have h3 := H2.out.below hb
    have HRx := Kd.R_mono (Kd.R_bound (Kd.R_lower hR (Nat.zero_le _))) (ok' := fun k => W2.heap.size ≤ k ∧ k < w3.heap.size) (fun k hk => ⟨hk.1, hk.2.2.1⟩)
    have HS3 := Aside0.mk (stay_low HS2.out hb)
    have HGo := Aside0.mk (got_calls w3 q (parU u p1) kp rv vh vl1 vf1 _ Fr Fh _ h3 (HH.out.next HS3.out).g x A1 c1 HRx (fun k hk => ⟨hk.2, fun e => by rw [e] at hk; have := H2.out.lt; omega, fun h5 => by have := (H2.out.hp k h5).1; omega, fun h5 => by have := (H2.out.hr k h5).1; omega⟩) hc1 HFs.out.1 HI.out.int0.1 HI.out.int0.2 HI.out.most0 HI.out.most1)
    have HSz : Aside0 (w.heap.size ≤ W2.heap.size ∧ W2.heap.size ≤ w3.heap.size) := ⟨HS2.out.size, hb.size⟩
    clear hR hc1 hC1 h3 HRx hb hW2
    go_wp2_with fail
    refine HGo.out.mono ?_
    rintro e w4 ⟨rfl, ⟨kp', rv', vh', vl', vf', Fp', Fr', Fh', h4, hp4, hr4, hh4⟩, hs4⟩
    have H4 := Aside0.mk h4
    have HP4 := Aside0.mk hp4
    have HR4 := Aside0.mk hr4
    have HH4 := Aside0.mk hh4
    have HS4 := Aside0.mk hs4
    clear h4 hp4 hr4 hh4 hs4
    go_wp2
    go_ret2
    have hz := HSz.out
    exact ⟨_, rfl, ⟨_, fun _ => False, H4.out.repB (B := w.heap.size) HFq.out (fun k hk => (HP4.out k hk).elim (fun h5 => h5.1.imp (HFp.out k) id) (fun h5 => .inr (by omega))) (fun k hk => (HR4.out k hk).elim (fun h5 => .inl (HFr.out k h5)) (fun h5 => .inr (by omega))) (fun k hk => (HH4.out k hk).elim (fun h5 => .inl (HFh.out k h5)) (fun h5 => .inr (by have := h5.1; omega))), Kd.R_nil _ _ _ _ _, fun k hk => hk, fun k hk => hk.elim⟩, HS3.out.trans HS4.out (fun i hi => .inl (by rw [hi]; exact HFq.out))⟩
set_option maxHeartbeats 8000000 in
set_option maxRecDepth 100000 in
theorem rbody_calls (w0 w : World) (F : Nat → Prop) (q : Nat) (u : Up) (hC : URep w F q u) (hH : Held w0 w F) (r : Bd) (hrd : u.rdr = some r) (T o : Nat) (hM : UMass T o u) (b : List Int) (A : Option Addr) (cap : Nat) (hbl : T + b.length ≤ 2000000000) (hbc : b.length ≤ cap) (hb : ∀ W', Stay F w W' → (Kd.int .u8).C W' A b.length b) :
    Calls Tryz.prog 104 #[.pointer (some ⟨q, 0, none⟩), .slice A b.length cap] w (StateP w F q (bodyU u r b)) := by
  obtain ⟨hFq, kp, rv, vh, vl, vf, Fp, Fr, Fh, h, hFp, hFr, hFh⟩ := hC
  obtain ⟨pr, hrv, hbr⟩ : ∃ pr, rv = .pointer (some ⟨pr, 0, none⟩) ∧ BRep w Fr pr r := by
    rcases h.rdr with ⟨e, _⟩ | ⟨r', p', e1, e2, h3⟩
    · rw [hrd] at e; cases e
    · rw [hrd] at e1
      obtain rfl := Option.some.inj e1
      exact ⟨p', e2, h3⟩
  subst hrv
  obtain ⟨f1, f2, f3⟩ := hM.2 r hrd
  have hfe := feedB_calls w0 w Fr pr r A cap b hbr ⟨hH.inv, hH.below, fun k hk => hH.over k (hFr k hk)⟩ (by omega) (by omega) hbc (fun W' hs => hb W' (hs.mono hFr))
  unfold bodyU
  obtain ⟨⟨r1, o1, n1⟩, hf⟩ : ∃ x, x = feedB r b := ⟨_, rfl⟩
  rw [← hf] at hfe ⊢
  simp only
  have HFe := Aside0.mk hfe
  have H := Aside0.mk h
  have HFq := Aside0.mk hFq
  have HFp := Aside0.mk hFp
  have HFr := Aside0.mk hFr
  have HFh := Aside0.mk hFh
  have HH := Aside0.mk hH
  have hz5 : w.cell? ⟨q, 5, none⟩ = some (.pointer (some ⟨pr, 0, none⟩)) := (blk_cell h.blk 5).trans rfl
  obtain ⟨ec, hec⟩ : ∃ ec, ec = r1.wrong := ⟨_, rfl⟩
  have HEc := Aside0.mk hec
  obtain ⟨L, hL⟩ : ∃ L, L = b.length := ⟨_, rfl⟩
  rw [← hL] at HFe ⊢
  unfold FeedB at HFe
  simp only at HFe
  rw [← hec] at HFe
  clear hf hfe f1 f2 f3 hbr h hFq hFp hFr hFh hH hM hbl hbc hb hec hL hrd
  unfold StateP
  simp only
  go_enter Tryz.func104, Tryz.ntmps104
  go_wp2_with fail
  refine HFe.out.mono ?_
  rintro e w1 ⟨v, rfl, ⟨F', G, hb1, hR1, hF', hG'⟩, hs1⟩
  have h1 := H.out.rdrTo hs1 hb1 hF'
  have hf17 := blk_frozen h1.blk 17
  have hz17 : w1.cell? ⟨q, 17, none⟩ = some (.int .i64 u.wrong) := (blk_cell h1.blk 17).trans rfl
  have H2 : Aside0 (UAt (w1.setCell ⟨q, 17, none⟩ (.int .i64 ec)) q (bodyE u r1) kp (.pointer (some ⟨pr, 0, none⟩)) vh vl vf Fp F' Fh) := ⟨h1.scal (by rw [HEc.out]; rfl) rfl rfl rfl⟩
  have HS2 : Aside0 (Stay F w (w1.setCell ⟨q, 17, none⟩ (.int .i64 ec))) := ⟨(hs1.mono HFr.out).set (p := ⟨q, 17, none⟩) HFq.out _⟩
  have hgq : ∀ k, G k → k ≠ q := fun k hk e => by rw [e] at hk; exact (hG' q hk).1.elim (fun h5 => (H.out.hr q h5).2.1 rfl) (fun h5 => by have := H.out.lt; omega)
  have HR2 : Aside0 ((Kd.int .u8).R 5 (w1.setCell ⟨q, 17, none⟩ (.int .i64 ec)) 0 G v o1) := ⟨Kd.R_step hR1 (fun k hk _ => set_other _ _ k (hgq k hk))⟩
  have HGp : Aside0 (∀ k, G k → (F k ∨ w.heap.size ≤ k) ∧ k < w1.heap.size ∧ ¬ (k = q ∨ Fp k ∨ F' k ∨ Fh k)) := ⟨fun k hk => by
    have h5 := hG' k hk
    refine ⟨h5.1.imp (HFr.out k) id, h5.2.1, ?_⟩
    rintro (e | h6 | h6 | h6)
    · exact hgq k hk e
    · exact h5.1.elim (fun h7 => (H.out.hp k h6).2.2.1 h7) (fun h7 => by have := (H.out.hp k h6).1; omega)
    · exact h5.2.2 h6
    · exact h5.1.elim (fun h7 => (H.out.hr k h7).2.2 h6) (fun h7 => by have := (H.out.hh k h6).1; omega)⟩
  have HF' := Aside0.mk hF'
  clear h1 hs1 hb1 hR1 hF' hG' hgq
  go_wp2
  go_ret2
  refine ⟨v, rfl, ⟨fun k => k = q ∨ Fp k ∨ F' k ∨ Fh k, G, H2.out.rep (.inl rfl) (fun k hk => .inr (.inl hk)) (fun k hk => .inr (.inr (.inl hk))) (fun k hk => .inr (.inr (.inr hk))), HR2.out, ?_, ?_⟩, HS2.out⟩
  · rintro k (e | hk | hk | hk)
    · rw [e]; exact ⟨.inl HFq.out, H2.out.lt⟩
    · exact ⟨.inl (HFp.out k hk), (H2.out.hp k hk).1⟩
    · exact ⟨(HF'.out k hk).1.imp (HFr.out k) id, (H2.out.hr k hk).1⟩
    · exact ⟨.inl (HFh.out k hk), (H2.out.hh k hk).1⟩
  · intro k hk
    have h5 := HGp.out k hk
    exact ⟨h5.1, by rw [Bod.set_size]; exact h5.2.1, h5.2.2⟩
end Go.Proofs.YtccolnlfjbgnmaaGreatDoor.Ups
/- A host's connection: Read, by hand; own text of this session. -/
namespace Go.Proofs.YtccolnlfjbgnmaaGreatDoor.Ups
open Go.RowKit Go.Proofs.YtccolnlfjbgnmaaGreatDoorW.PrintWords Go.Proofs.YtccolnlfjbgnmaaGreatDoorW.PrintLast Chk Px Hr Hd
open Bod (Bd feedB byteB feedB_stop feedB_next feedB_count BFine newB BRep NewB newB_calls FeedB feedB_calls)
open Cli (live feedP_shift FrOk rtoldS_ok fsz_wt feedP_one byteB_pot feedB_potN feedB_pot newB_fine set_other)
set_option linter.unusedVariables false
set_option linter.unusedSimpArgs false
theorem C_drop {w : World} {A : Option Addr} {n c : Nat} {xs : List Int} (h : (Kd.int .u8).C w A n xs) (i : Nat) (hi : i ≤ n) (hc : n ≤ c) : (Kd.int .u8).C w (if c = i then A else A.map (·.add i)) (n - i) (xs.drop i) :=
  Kd.C_of_reads (d := (0 : Int)) (h1 := fun _ => rfl) (ReadsOf.drop_ (Kd.reads_of_C (enc := Value.int .u8) (d := (0 : Int)) (h1 := fun _ => rfl) h) i hi hc)
theorem stateU_read {u : Up} (hI : UInv u) (hr : ¬ u.rests) (b : List Int) (hb : b ≠ []) : Pieced u b (stateU u b) := by
  unfold stateU
  rcases hI.reads with h5 | ⟨h1, h2⟩ | ⟨h1, r, h2, h3⟩
  · exact absurd h5 hr
  · rw [if_pos h1]; exact headU_read b u hr h1 h2 hb
  · rw [if_neg h1, h2]; exact bodyU_read b u r hr h1 h2 h3 hb
theorem stateU_inv {u : Up} {T o : Nat} (hI : UInv u) (hM : UMass T o u) (hr : ¬ u.rests) (b : List Int) : UInv (stateU u b).1 ∧ UMass (T + (stateU u b).2.2) (o + (stateU u b).2.1.length) (stateU u b).1 := by
  unfold stateU
  rcases hI.reads with h5 | ⟨h1, h2⟩ | ⟨h1, r, h2, h3⟩
  · exact absurd h5 hr
  · rw [if_pos h1]
    obtain ⟨a, b5⟩ := headU_inv hI hM hr h1 h2 b
    exact ⟨a, (b5.le (Nat.le_add_right _ _))⟩
  · rw [if_neg h1, h2]; exact bodyU_inv hI hM h1 h2 b
set_option maxRecDepth 100000 in
theorem stF_enters (n : Nat) : ∀ args w, (callFunc (stF n) args).run Tryz.prog w = .ok (.enter (stF n) args) w := by
  intro args w
  match n with
  | 0 => rfl
  | n + 1 => rfl
theorem state_calls (w0 w : World) (F : Nat → Prop) (q : Nat) (u : Up) (hC : URep w F q u) (hH : Held w0 w F) (hI : UInv u) (hr : ¬ u.rests) (T o : Nat) (hM : UMass T o u) (b : List Int) (A : Option Addr) (cap : Nat) (hbl : T + b.length ≤ 2000000000) (hbc : b.length ≤ cap) (hb : ∀ W', Stay F w W' → (Kd.int .u8).C W' A b.length b) :
    Calls Tryz.prog (stF u.st) #[.pointer (some ⟨q, 0, none⟩), .slice A b.length cap] w (StateP w F q (stateU u b)) := by
  unfold stateU
  rcases hI.reads with h5 | ⟨h1, h2⟩ | ⟨h1, r, h2, h3⟩
  · exact absurd h5 hr
  · rw [if_pos h1, h1]
    exact rhead_calls w0 w F q u hC hH hI h1 h2 b A cap (by omega) hb
  · rw [if_neg h1, h2]
    obtain ⟨n, hn⟩ : ∃ n, u.st = n + 1 := ⟨u.st - 1, by omega⟩
    rw [hn]
    exact rbody_calls w0 w F q u hC hH r h2 T o hM b A cap hbl hbc hb
/-- What Read leaves. -/
def ReadP (w : World) (F : Nat → Prop) (q : Nat) (r : Up × List Int × Nat) (e : Ending) (w' : World) : Prop :=
  ∃ v, e = .returned (.tuple #[.int .i64 (r.2.2 : Int), v, .int .i64 r.1.wrong]) ∧ (∃ (F' G : Nat → Prop), URep w' F' q r.1 ∧ (Kd.int .u8).R 5 w' 0 G v r.2.1 ∧
    (∀ k, F' k → (F k ∨ w.heap.size ≤ k) ∧ k < w'.heap.size) ∧ (∀ k, G k → w.heap.size ≤ k ∧ k < w'.heap.size ∧ ¬ F' k)) ∧ Stay F w w'
theorem URep.move {w w1 : World} {F : Nat → Prop} {q : Nat} {u : Up} (h : URep w F q u) (hs : w.heap.size ≤ w1.heap.size) (hm : ∀ k, F k → k < w.heap.size → w1.heap[k]? = w.heap[k]?) : URep w1 F q u := by
  obtain ⟨a, kp, rv, vh, vl, vf, Fp, Fr, Fh, h1, h2, h3, h4⟩ := h
  exact ⟨a, kp, rv, vh, vl, vf, Fp, Fr, Fh, h1.move hs (fun k hk hl => hm k (by rcases hk with e | hk | hk | hk; (rw [e]; exact a); exact h2 k hk; exact h3 k hk; exact h4 k hk) hl), h2, h3, h4⟩
theorem URep.below {w w1 : World} {F : Nat → Prop} {q : Nat} {u : Up} (h : URep w F q u) (hb : Below w.heap.size w w1) : URep w1 F q u := h.move hb.size (fun k _ hl => hb.block k hl)
theorem URep.mono {w : World} {F G : Nat → Prop} {q : Nat} {u : Up} (h : URep w F q u) (hG : ∀ k, F k → G k) : URep w G q u := by
  obtain ⟨a, kp, rv, vh, vl, vf, Fp, Fr, Fh, h1, h2, h3, h4⟩ := h
  exact ⟨hG _ a, kp, rv, vh, vl, vf, Fp, Fr, Fh, h1, fun k hk => hG k (h2 k hk), fun k hk => hG k (h3 k hk), fun k hk => hG k (h4 k hk)⟩
theorem URep.trim {w : World} {F : Nat → Prop} {q : Nat} {u : Up} (h : URep w F q u) : URep w (fun k => F k ∧ k < w.heap.size) q u := by
  obtain ⟨a, kp, rv, vh, vl, vf, Fp, Fr, Fh, h1, h2, h3, h4⟩ := h
  exact ⟨⟨a, h1.lt⟩, kp, rv, vh, vl, vf, Fp, Fr, Fh, h1, fun k hk => ⟨h2 k hk, (h1.hp k hk).1⟩, fun k hk => ⟨h3 k hk, (h1.hr k hk).1⟩, fun k hk => ⟨h4 k hk, (h1.hh k hk).1⟩⟩
theorem URep.whole {w : World} {F : Nat → Prop} {q : Nat} {u : Up} (h : URep w F q u) : Calls Tryz.prog 27 #[.pointer (some ⟨q, 0, none⟩)] w fun e w' => e = .returned (.bool u.whole) ∧ Below w.heap.size w w' := by
  obtain ⟨a, kp, rv, vh, vl, vf, Fp, Fr, Fh, h1, h2, h3, h4⟩ := h
  exact whole_calls w q u kp rv vh vl vf Fp Fr Fh h1
set_option maxRecDepth 100000 in
theorem read_nil (v : Value) (w : World) : Calls Tryz.prog 26 #[.pointer none, v] w fun e w' => e = .returned (.tuple #[.int .i64 0, .slice none 0 0, .int .i64 7]) ∧ Below w.heap.size w w' := by
  go_enter Tryz.func26, Tryz.ntmps26
  go_wp2
  refine bodyPost_ret (results_list (rs := [.tmp 4, .tmp 5, .tmp 6]) rfl (by simp) (.tmp (.tmp (.tmp .nil)))) rfl ?_
  exact ⟨rfl, Below.refl _ _⟩
/-- What stands while Read goes round. -/
structure RdInv (w wr : World) (F : Nat → Prop) (q : Nat) (T kk : Nat) (b : List Int) (r : Up × List Int × Nat) (v : Value) (uk : Up) (ok : List Int) (Fk Gk : Nat → Prop) : Prop where
  rep : URep wr Fk q uk
  out : (Kd.int .u8).R 5 wr 0 Gk v ok
  fk : ∀ k, Fk k → (F k ∨ w.heap.size ≤ k) ∧ k < wr.heap.size
  gk : ∀ k, Gk k → w.heap.size ≤ k ∧ k < wr.heap.size ∧ ¬ Fk k
  stay : Stay F w wr
  eq : r = ((readU uk (b.drop kk)).1, ok ++ (readU uk (b.drop kk)).2.1, kk + (readU uk (b.drop kk)).2.2)
  inv : UInv uk
  mass : UMass (T + kk) ok.length uk
theorem RdInv.below {w wr w1 : World} {F : Nat → Prop} {q T kk : Nat} {b : List Int} {r : Up × List Int × Nat} {v : Value} {uk : Up} {ok : List Int} {Fk Gk : Nat → Prop} (h : RdInv w wr F q T kk b r v uk ok Fk Gk) (hb : Below wr.heap.size wr w1) : RdInv w w1 F q T kk b r v uk ok Fk Gk :=
  ⟨h.rep.below hb, Kd.R_below h.out hb, fun k hk => ⟨(h.fk k hk).1, Nat.lt_of_lt_of_le (h.fk k hk).2 hb.size⟩, fun k hk => ⟨(h.gk k hk).1, Nat.lt_of_lt_of_le (h.gk k hk).2.1 hb.size, (h.gk k hk).2.2⟩, stay_low h.stay hb, h.eq, h.inv, h.mass⟩
theorem RdInv.done {w wr : World} {F : Nat → Prop} {q T kk : Nat} {b : List Int} {r : Up × List Int × Nat} {v : Value} {uk : Up} {ok : List Int} {Fk Gk : Nat → Prop} (h : RdInv w wr F q T kk b r v uk ok Fk Gk) (he : b.drop kk = [] ∨ uk.rests) : r = (uk, ok, kk) := by
  have h5 := h.eq
  rw [readU_stop uk _ he] at h5
  rw [h5]
  simp
/-- A round. -/
theorem RdInv.next {w wr w2 w5 : World} {F : Nat → Prop} {q T kk n2 : Nat} {b : List Int} {r : Up × List Int × Nat} {v v5 : Value} {uk u2 : Up} {ok o2 : List Int} {Fk Gk F' : Nat → Prop} (h : RdInv w wr F q T kk b r v uk ok Fk Gk) (hr : ¬ uk.rests) (hb : b.drop kk ≠ []) (hs : stateU uk (b.drop kk) = (u2, o2, n2))
    (hrep : URep w2 F' q u2) (hF' : ∀ k, F' k → (Fk k ∨ wr.heap.size ≤ k) ∧ k < w2.heap.size) (hst : Stay Fk wr w2) (hR : (Kd.int .u8).R 5 w5 0 (fun k => Gk k ∨ w2.heap.size ≤ k) v5 (ok ++ o2)) (hg : w2.grownBy w5 v.ownBlock) :
    RdInv w w5 F q T (kk + n2) b r v5 u2 (ok ++ o2) F' (fun k => (Gk k ∨ w2.heap.size ≤ k) ∧ k < w5.heap.size) := by
  have hown : ∀ k, some k = v.ownBlock → Gk k := fun k hk => h.out.1 k hk.symm
  have hgf : ∀ k, Gk k → ¬ F' k := fun k h1 h2 => (hF' k h2).1.elim (h.gk k h1).2.2 (fun h3 => by have := (h.gk k h1).2.1; omega)
  have hrd := stateU_read h.inv hr _ hb
  have hiv := stateU_inv h.inv h.mass hr (b.drop kk)
  rw [hs] at hrd hiv
  obtain ⟨h1, h2, h3⟩ := hrd
  simp only at h1 h2 h3 hiv
  have hs1 := h.stay.size
  have hs2 := hst.size
  have hs3 := hg.size
  refine ⟨hrep.move hg.size (fun k hk hl => hg.block k hl (fun e => hgf k (hown k e) hk)), Kd.R_mono (Kd.R_bound hR) (fun k hk => ⟨hk.1, hk.2.2.1⟩), ?_, ?_, ?_, ?_, hiv.1, ?_⟩
  · intro k hk
    have h5 := hF' k hk
    exact ⟨h5.1.elim (fun h6 => (h.fk k h6).1) (fun h6 => .inr (by omega)), by omega⟩
  · intro k hk
    refine ⟨hk.1.elim (fun h6 => (h.gk k h6).1) (fun h6 => by omega), hk.2, fun h6 => ?_⟩
    exact hk.1.elim (fun h7 => hgf k h7 h6) (fun h7 => by have := (hF' k h6).2; omega)
  · refine (h.stay.trans hst (fun i hi => (h.fk i hi).1)).trans (Stay.grown hg (F := fun k => some k = v.ownBlock) (fun k hk => hk.symm)) (fun i hi => .inr (h.gk i (hown i hi)).1)
  · have h5 := h.eq
    rw [h3, List.drop_drop] at h5
    rw [h5, List.append_assoc, Nat.add_assoc]
  · have h5 := hiv.2
    rw [Nat.add_assoc, ← List.length_append] at h5
    exact h5
end Go.Proofs.YtccolnlfjbgnmaaGreatDoor.Ups
/- A host's connection: Read's walk, by hand; own text of this session (gen_up6.py). -/
namespace Go.Proofs.YtccolnlfjbgnmaaGreatDoor.Ups
open Go.RowKit Go.Proofs.YtccolnlfjbgnmaaGreatDoorW.PrintWords Go.Proofs.YtccolnlfjbgnmaaGreatDoorW.PrintLast Chk Px Hr Hd
open Bod (Bd feedB byteB feedB_stop feedB_next feedB_count BFine newB BRep NewB newB_calls FeedB feedB_calls)
open Cli (live feedP_shift FrOk rtoldS_ok fsz_wt feedP_one byteB_pot feedB_potN feedB_pot newB_fine set_other)
set_option linter.unusedVariables false
set_option linter.unusedSimpArgs false
set_option maxHeartbeats 8000000 in
set_option maxRecDepth 100000 in
theorem read_calls (w0 w : World) (F : Nat → Prop) (q : Nat) (u : Up) (hC : URep w F q u) (hH : Held w0 w F) (hI : UInv u) (T : Nat) (hM : UMass T 0 u) (b : List Int) (A : Option Addr) (cap : Nat) (hbl : T + b.length ≤ 2000000000) (hbc : b.length ≤ cap) (hb : ∀ W', Stay F w W' → (Kd.int .u8).C W' A b.length b) :
    Calls Tryz.prog 26 #[.pointer (some ⟨q, 0, none⟩), .slice A b.length cap] w (ReadP w F q (readU u b)) := by
  obtain ⟨r, hr⟩ : ∃ r, r = readU u b := ⟨_, rfl⟩
  rw [← hr]
  obtain ⟨N, hN⟩ : ∃ N, N = b.length := ⟨_, rfl⟩
  rw [← hN]
  have HN := Aside0.mk hN
  have HI0 : Aside0 (RdInv w w F q T 0 b r (.slice none 0 0) u [] (fun k => F k ∧ k < w.heap.size) (fun _ => False)) := ⟨hC.trim, Kd.R_nil _ _ _ _ _, fun k hk => ⟨.inl hk.1, hk.2⟩, fun k hk => hk.elim, Stay.refl _ _, by rw [hr, List.drop_zero, List.nil_append, Nat.zero_add], hI, hM⟩
  have HH := Aside0.mk hH
  have HBy := Aside0.mk hb
  have hNle : (N : Int) ≤ 2000000000 := by omega
  have HTN : Aside0 (T + N ≤ 2000000000) := ⟨by omega⟩
  have hNc : (N : Int) ≤ (cap : Int) := by omega
  clear hC hH hI hM hb hr hN hbl hbc
  go_enter Tryz.func26, Tryz.ntmps26
  go_wp2
  go_loopw [7, 8] (fun x7 x8 wr => ∃ (kk : Nat) (v : Value) (uk : Up) (ok : List Int) (Fk Gk : Nat → Prop), kk ≤ N ∧ v = x7 ∧ x8 = .int .i64 kk ∧ Aside0 (RdInv w wr F q T kk b r v uk ok Fk Gk)) (fun _ x8 _ => N - (intOf x8).toNat)
  case atStart => exact ⟨0, _, u, [], _, _, Nat.zero_le _, rfl, rfl, HI0⟩
  case round =>
    obtain ⟨kk, v, uk, ok, Fk, Gk, hkk, rfl, rfl, HI⟩ := hrel
    obtain ⟨hFq, kp, rv, vh, vl, vf, Fp, Fr, Fh, h, hFp, hFr, hFh⟩ := HI.out.rep
    have hz17 : wr.cell? ⟨q, 17, none⟩ = some (.int .i64 uk.wrong) := (blk_cell h.blk 17).trans rfl
    have HWh : Aside0 (∀ W, Below wr.heap.size wr W → Calls Tryz.prog 27 #[.pointer (some ⟨q, 0, none⟩)] W fun e w' => e = .returned (.bool uk.whole) ∧ Below W.heap.size W w') := ⟨fun W hW => (HI.out.rep.below hW).whole⟩
    clear h hFq hFp hFr hFh HI0
    by_cases hlt : kk < N
    · have hltz : (kk : Int) < (N : Int) := by omega
      by_cases hw0 : uk.wrong = 0
      · rw [hw0] at hz17
        cases hwh : uk.whole with
        | true =>
          rw [hwh] at HWh
          have HR : Aside0 (r = (uk, ok, kk)) := ⟨HI.out.done (.inr (.inr hwh))⟩
          have HW0 := Aside0.mk hw0
          clear hw0 hwh
          go_wp2_with (go_at_call 27; go_loud (refine (HWh.out _ (by repeat (first | exact Below.refl _ _ | apply below_drew1 | apply pw_below_drewN))).mono ?_; rintro e ww ⟨rfl, hbw⟩; have HB : Aside0 (Below wr.heap.size wr ww) := ⟨below_step (by repeat (first | exact Below.refl _ _ | apply below_drew1 | apply pw_below_drewN)) hbw⟩; have HI2 := Aside0.mk (HI.out.below HB.out); obtain ⟨hFq, kp, rv, vh, vl, vf, Fp, Fr, Fh, h2, hFp, hFr, hFh⟩ := HI2.out.rep; have hy17 : ww.cell? ⟨q, 17, none⟩ = some (.int .i64 uk.wrong) := (blk_cell h2.blk 17).trans rfl; clear h2 hFq hFp hFr hFh hbw))
          go_region
          all_goals
            go_wp2
            refine bodyPost_ret (results_list (rs := [.tmp 4, .tmp 5, .tmp 6]) rfl (by simp) (.tmp (.tmp (.tmp .nil)))) rfl ?_
            rw [HR.out]
            have HIe := (HI2.out).below (below_drew (Below.refl _ _))
            exact ⟨_, rfl, ⟨Fk, Gk, HIe.rep, HIe.out, HIe.fk, HIe.gk⟩, HIe.stay⟩
        | false =>
          rw [hwh] at HWh
          have hnr : ¬ uk.rests := fun h5 => h5.elim (fun e => e hw0) (fun e => by rw [hwh] at e; cases e)
          have hdl : (b.drop kk).length = N - kk := by rw [List.length_drop, HN.out]
          have hdn : b.drop kk ≠ [] := fun e => by rw [e] at hdl; simp only [List.length_nil] at hdl; omega
          have hrd := stateU_read HI.out.inv hnr (b.drop kk) hdn
          have hiv := stateU_inv HI.out.inv HI.out.mass hnr (b.drop kk)
          obtain ⟨ad, eA, hx⟩ := Kd.at_int (HBy.out wr HI.out.stay) (kk : Int) (by omega) (by have := HN.out; omega)
          cases eA
          clear hx
          obtain ⟨g, hg⟩ : ∃ g, g = stF uk.st := ⟨_, rfl⟩
          have HG := Aside0.mk hg
          have eg : ∀ args w, (callFunc g args).run Tryz.prog w = .ok (.enter g args) w := by rw [hg]; exact stF_enters _
          have HS : Aside0 (∀ W, Below wr.heap.size wr W → Calls Tryz.prog g #[.pointer (some ⟨q, 0, none⟩), .slice (if cap = kk then some ad else some (ad.add kk)) (N - kk) (cap - kk)] W (StateP W Fk q (stateU uk (b.drop kk)))) := ⟨fun W hW => by
            have hIW := HI.out.below hW
            have hHW := HH.out.step hIW.stay
            have h5 := state_calls w0 W Fk q uk hIW.rep ⟨hHW.inv, hHW.below, fun k hk => hHW.over k (hIW.fk k hk).1⟩ HI.out.inv hnr (T + kk) ok.length HI.out.mass (b.drop kk) (if cap = kk then some ad else some (ad.add kk)) (cap - kk) (by rw [hdl]; have := HTN.out; omega) (by rw [hdl]; omega) (fun W' hs => by
              rw [hdl]
              refine C_drop ?_ kk (by omega) (by omega)
              rw [HN.out]
              exact HBy.out W' (hIW.stay.trans hs (fun i hi => (HI.out.fk i hi).1)))
            rw [hdl, ← hg] at h5
            exact h5⟩
          obtain ⟨⟨u2, o2, n2⟩, hq⟩ : ∃ x, x = stateU uk (b.drop kk) := ⟨_, rfl⟩
          rw [← hq] at hrd hiv HS
          have HQ := Aside0.mk hq.symm
          have HNr := Aside0.mk hnr
          have HDn := Aside0.mk hdn
          have hn1 : 1 ≤ n2 := hrd.1
          have hn2 : kk + n2 ≤ N := by have h5 : n2 ≤ _ := hrd.2.1; rw [hdl] at h5; omega
          have HOl : Aside0 (ok.length + o2.length ≤ 2000000000) := ⟨by have h5 : ok.length + o2.length ≤ T + kk + n2 := hiv.2.1; have := HTN.out; omega⟩
          have hn2z : (kk : Int) + (n2 : Int) ≤ (N : Int) := by omega
          have hcne : ¬ cap = kk := by omega
          have hwr2 : IntKind.i64.wrap ((kk : Int) + (n2 : Int)) = (kk : Int) + (n2 : Int) := IntWalk.i64_in _ (by omega)
          clear hrd hiv hdl hdn hnr hq hg hw0 hwh
          unfold StateP at HS
          simp only [if_neg hcne] at HS
          go_wp2_with (go_at_call 27; go_loud (refine (HWh.out _ (by repeat (first | exact Below.refl _ _ | apply below_drew1 | apply pw_below_drewN))).mono ?_; rintro e ww ⟨rfl, hbw⟩; have HB : Aside0 (Below wr.heap.size wr ww) := ⟨below_step (by repeat (first | exact Below.refl _ _ | apply below_drew1 | apply pw_below_drewN)) hbw⟩; have HI2 := Aside0.mk (HI.out.below HB.out); obtain ⟨hFq, kp, rv, vh, vl, vf, Fp, Fr, Fh, h2, hFp, hFr, hFh⟩ := HI2.out.rep; have hy3 : ww.cell? ⟨q, 3, none⟩ = some (.func (.func g) #[.pointer (some ⟨q, 0, none⟩)] #[]) := (blk_cell h2.blk 3).trans (by rw [HG.out]; rfl); clear h2 hFq hFp hFr hFh hbw))
          go_region_with (go_at_fn g; go_loud (refine (HS.out _ (below_step HB.out (by repeat (first | exact Below.refl _ _ | apply below_drew1 | apply pw_below_drewN)))).mono ?_; rintro e w2 ⟨v2, rfl, ⟨F', G2, hrep, hR2, hF', hG2⟩, hst2⟩; obtain ⟨A2, c2, e2, hc2, hC2⟩ := Kd.R_reads hR2; subst e2; have HBW : Aside0 (Stay Fk ww w2) := ⟨(Stay.below (F := Fk) (by repeat (first | exact Below.refl _ _ | apply below_drew1 | apply pw_below_drewN))).trans hst2 (fun i hi => .inl hi)⟩; have HP2 := Aside0.mk hrep; have HC2 := Aside0.mk hC2; have HFF : Aside0 (∀ k, F' k → (Fk k ∨ ww.heap.size ≤ k) ∧ k < w2.heap.size) := ⟨fun k hk => ⟨(hF' k hk).1.imp id (fun h5 => Nat.le_trans (show Below 0 ww _ from (by repeat (first | exact Below.refl _ _ | apply below_drew1 | apply pw_below_drewN))).size h5), (hF' k hk).2⟩⟩; clear hrep hR2 hF' hG2 hst2 hc2 hC2))
          all_goals
            (try simp only [Act.put, List.setIfInBounds_toArray, List.set_cons_zero, List.set_cons_succ, List.getElem_toArray, List.getElem_cons_succ, List.getElem_cons_zero])
            have HRw : Aside0 ((Kd.int .u8).R 5 w2 0 Gk v ok) := ⟨Kd.R_step HI2.out.out (fun k hk hl => HBW.out.block k hl (HI2.out.gk k hk).2.2)⟩
            go_wp2_with ((with_reducible refine gate_builtin (b := .append) (xs := #[.tmp 43, .tmp 44]) rfl ?_); at_builtin; go_loud (refine Kd.R_append_row (Value.int .u8) 0 (h1 := fun _ => rfl) (w0 := w2) 0 rfl (.tmp 43) (.tmp 44) 33 5 (.int .u8 0) 1 rfl Tryz.underlying33 info_u8 rfl (by decide) v ok o2 A2 o2.length c2 (fun k => Gk k ∨ w2.heap.size ≤ k) rfl rfl (fun k hk => .inr hk) (Kd.R_mono HRw.out (fun k hk => .inl hk)) HC2.out (Below.refl _ _) (Nat.zero_le _) (by have := HOl.out; omega) ?_; intro v5 w5 hR5 hb5 hg5 hat5; have HIn := Aside0.mk (HI2.out.next HNr.out HDn.out HQ.out HP2.out HFF.out HBW.out hR5 hg5); clear hR5 hb5 hg5 hat5))
            go_roundw
            case rel => exact ⟨kk + n2, v5, u2, ok ++ o2, _, _, by omega, rfl, by go_num, HIn⟩
            case measure => simp [intOf]; omega
      · have hwb : (uk.wrong == 0) = false := by simpa using hw0
        have HR : Aside0 (r = (uk, ok, kk)) := ⟨HI.out.done (.inr (.inl hw0))⟩
        clear hw0
        go_wp2
        go_region
        all_goals
          go_wp2
          refine bodyPost_ret (results_list (rs := [.tmp 4, .tmp 5, .tmp 6]) rfl (by simp) (.tmp (.tmp (.tmp .nil)))) rfl ?_
          rw [HR.out]
          have HIe := (HI.out).below (below_drew (Below.refl _ _))
          exact ⟨_, rfl, ⟨Fk, Gk, HIe.rep, HIe.out, HIe.fk, HIe.gk⟩, HIe.stay⟩
    · have hltz : ¬ (kk : Int) < (N : Int) := by omega
      have HR : Aside0 (r = (uk, ok, kk)) := ⟨HI.out.done (.inl (by rw [List.drop_eq_nil_iff]; have := HN.out; omega))⟩
      go_wp2
      go_region
      all_goals
        go_wp2
        refine bodyPost_ret (results_list (rs := [.tmp 4, .tmp 5, .tmp 6]) rfl (by simp) (.tmp (.tmp (.tmp .nil)))) rfl ?_
        rw [HR.out]
        have HIe := (HI.out).below (below_drew (Below.refl _ _))
        exact ⟨_, rfl, ⟨Fk, Gk, HIe.rep, HIe.out, HIe.fk, HIe.gk⟩, HIe.stay⟩
end Go.Proofs.YtccolnlfjbgnmaaGreatDoor.Ups
/- A host's connection: New, Head, Framing, End at nil, by hand; own text of this session (gen_up7.py). -/
namespace Go.Proofs.YtccolnlfjbgnmaaGreatDoor.Ups
open Go.RowKit Go.Proofs.YtccolnlfjbgnmaaGreatDoorW.PrintWords Go.Proofs.YtccolnlfjbgnmaaGreatDoorW.PrintLast Chk Px Hr Hd
open Bod (Bd feedB byteB feedB_stop feedB_next feedB_count BFine newB BRep NewB newB_calls FeedB feedB_calls)
open Cli (live feedP_shift FrOk rtoldS_ok fsz_wt feedP_one byteB_pot feedB_potN feedB_pot newB_fine set_other)
set_option linter.unusedVariables false
set_option linter.unusedSimpArgs false
/-! ### New -/
def NewP (m : ByteArray) (most : Int) (w : World) (e : Ending) (w' : World) : Prop :=
  ∃ q, e = .returned (.tuple #[.pointer (some ⟨q, 0, none⟩), .int .i64 0]) ∧ URep w' (fun k => w.heap.size ≤ k) q (newU m most) ∧ Below w.heap.size w w'
set_option maxHeartbeats 4000000 in
set_option maxRecDepth 100000 in
theorem new_ok (m : ByteArray) (most : Int) (w : World) (h0 : 16 ≤ most) (h1 : most ≤ 65536) (hs : m.size ≤ 4611686018427387904) (ht : token m.data.toList = true) :
    Calls Tryz.prog 25 #[.string m, .int .i64 most] w (NewP m most w) := by
  have HN := Aside0.mk (fun W => new_calls false most W h0 h1)
  have HTk : Aside0 (∀ W', Calls Tryz.prog 58 #[.string m] W' fun e w2 => e = .returned (.bool true) ∧ Below W'.heap.size W' w2) := ⟨fun W' => by have h5 := token_calls m W' hs; rw [ht] at h5; exact h5⟩
  clear h0 h1 hs ht
  go_enter Tryz.func25, Tryz.ntmps25
  go_wp2_with fail
  refine (HTk.out _).mono ?_
  rintro e wt ⟨rfl, hbt⟩
  have HBt := Aside0.mk hbt
  clear hbt
  go_wp2_with fail
  refine (HN.out _).mono ?_
  rintro e w1 ⟨k1, rfl, hk1, hrep, hb1⟩
  have HB1 := Aside0.mk (below_step HBt.out hb1)
  have HK1 : Aside0 (w.heap.size ≤ k1) := ⟨by have := HBt.out.size; omega⟩
  have HRp := Aside0.mk hrep
  have hbk := blk_new w1 (.cells #[.string m, .int .i64 most, .int .i64 0, .nilFunc, .pointer (some ⟨k1, 0, none⟩), .pointer none, .bool false, .string ⟨#[]⟩, .string ⟨#[]⟩, .int .i64 0, .int .i64 0, .string ⟨#[]⟩, .slice none 0 0, .int .i64 0, .int .i64 0, .bool false, .bool false, .int .i64 0] 113)
  have HBk := Aside0.mk hbk
  have hf3 := blk_frozen hbk 3
  have hz3 : (w1.alloc (.cells #[.string m, .int .i64 most, .int .i64 0, .nilFunc, .pointer (some ⟨k1, 0, none⟩), .pointer none, .bool false, .string ⟨#[]⟩, .string ⟨#[]⟩, .int .i64 0, .int .i64 0, .string ⟨#[]⟩, .slice none 0 0, .int .i64 0, .int .i64 0, .bool false, .bool false, .int .i64 0] 113)).cell? ⟨w1.heap.size, 3, none⟩ = some .nilFunc := (blk_cell hbk 3).trans rfl
  clear hk1 hrep hb1 hbk
  go_wp2
  go_ret2
  have hs1 := HB1.out.size
  have hbA : Below w.heap.size w (w1.alloc (.cells #[.string m, .int .i64 most, .int .i64 0, .func (.func (stF 0)) #[.pointer (some ⟨w1.heap.size, 0, none⟩)] #[], .pointer (some ⟨k1, 0, none⟩), .pointer none, .bool false, .string ⟨#[]⟩, .string ⟨#[]⟩, .int .i64 0, .int .i64 0, .string ⟨#[]⟩, .slice none 0 0, .int .i64 0, .int .i64 0, .bool false, .bool false, .int .i64 0] 113)) := below_alloc HB1.out _
  have hsz : (w1.alloc (.cells #[.string m, .int .i64 most, .int .i64 0, .func (.func (stF 0)) #[.pointer (some ⟨w1.heap.size, 0, none⟩)] #[], .pointer (some ⟨k1, 0, none⟩), .pointer none, .bool false, .string ⟨#[]⟩, .string ⟨#[]⟩, .int .i64 0, .int .i64 0, .string ⟨#[]⟩, .slice none 0 0, .int .i64 0, .int .i64 0, .bool false, .bool false, .int .i64 0] 113)).heap.size = w1.heap.size + 1 := World.size_alloc ..
  have hkl := HRp.out.lt
  refine ⟨_, rfl, UAt.rep (kp := k1) (rv := .pointer none) (vh := .slice none 0 0) (vl := .slice none 0 0) (vf := .slice none 0 0) (Fp := fun k => k = k1) (Fr := fun _ => False) (Fh := fun _ => False) ⟨blk_new _ _, HRp.out.below (below_alloc (Below.refl _ _) _), .inl ⟨rfl, rfl⟩, Kd.R_nil _ _ _ _ _, ?_, fun k hk => hk.elim, fun k hk => hk.elim⟩ hs1 (fun k hk => by rw [hk]; exact HK1.out) (fun k hk => hk.elim) (fun k hk => hk.elim), hbA⟩
  rintro k rfl
  exact ⟨by have h5 := hsz; show k < (w1.alloc _).heap.size; rw [World.size_alloc]; omega, by omega, id, id⟩
/-! ### End, Framing, Head -/
set_option maxRecDepth 100000 in
theorem end_nil (w : World) : Calls Tryz.prog 40 #[.pointer none] w fun e w' => e = .returned (.int .i64 7) ∧ Below w.heap.size w w' := by
  go_enter Tryz.func40, Tryz.ntmps40
  go_wp2
  go_ret
  exact ⟨rfl, Below.refl _ _⟩
set_option maxRecDepth 100000 in
theorem framing_calls (w : World) (q : Nat) (u : Up) (F : Nat → Prop) (hC : URep w F q u) : Calls Tryz.prog 42 #[.pointer (some ⟨q, 0, none⟩)] w (FrP u.frm w) := by
  obtain ⟨a, kp, rv, vh, vl, vf, Fp, Fr, Fh, h, h2, h3, h4⟩ := hC
  have hz13 : w.cell? ⟨q, 13, none⟩ = some (.int .i64 u.frm.1) := (blk_cell h.blk 13).trans rfl
  have hz14 : w.cell? ⟨q, 14, none⟩ = some (.int .i64 u.frm.2.1) := (blk_cell h.blk 14).trans rfl
  have hz15 : w.cell? ⟨q, 15, none⟩ = some (.bool u.frm.2.2) := (blk_cell h.blk 15).trans rfl
  have hlt := h.lt
  have hne : ¬ q = w.heap.size := by omega
  have hne2 : ¬ w.heap.size = q := by omega
  have HK := Aside0.mk (blk_new w (.cells #[.int .i64 0, .int .i64 0, .bool false] 50))
  have HB : Aside0 (Below w.heap.size w (w.alloc (.cells #[.int .i64 0, .int .i64 0, .bool false] 50))) := ⟨below_alloc (Below.refl _ _) _⟩
  clear h
  go_enter Tryz.func42, Tryz.ntmps42
  go_wp2
  refine bodyPost_ret (results_c rfl _ _ w.heap.size 50 #[.int .i64 u.frm.1, .int .i64 u.frm.2.1, .bool u.frm.2.2] (0, 0) _ rfl (blk_new _ _) Tryz.underlying50 rfl (by kernel_rfl)) rfl ?_
  exact ⟨rfl, below_alloc (Below.refl _ _) _⟩
/-- What Head tells. -/
def HeadP (h : Head) (ok : Bool) (w : World) (e : Ending) (w' : World) : Prop :=
  ∃ v : Value, e = .returned (.tuple #[hdV h v, .bool ok]) ∧ fldK.R 37 w' w.heap.size (fun i => w.heap.size ≤ i) v h.f6 ∧ Below w.heap.size w w'
theorem results_ct {P : Program} {fn : Func} {p u : Tmp} {ty : TypeId} (h : fn.results = #[.cell p ty, .tmp u]) (tmps : Array Value) (w : World) (g : Nat) (t : TypeId) (cs : Array Value) (fr : Nat × Nat) (d : TypeDesc)
    (hp : tmps.getD p undef = .pointer (some ⟨g, 0, none⟩)) (hg : w.heap[g]? = some (.cells cs t fr))
    (hu : P.underlying ty = some d) (hd : (match d with | .struct _ | .array _ _ => true | _ => false) = true) (hi : (P.info? ty).map (·.size) = some cs.size) :
    (results fn tmps).run P w = .ok (.tuple #[.agg cs, tmps.getD u undef]) w := by
  have hp' : tmps[p]?.getD undef = .pointer (some ⟨g, 0, none⟩) := by simpa using hp
  simp [results, h, hp', asAddr, run_loadVar_row w g t ty cs fr d hg hu hd hi]
set_option maxRecDepth 100000 in
theorem head_nil (w : World) : Calls Tryz.prog 29 #[.pointer none] w (HeadP (head0 false) false w) := by
  have HK := Aside0.mk (blk_new w (.cells #[.bool false, .string ⟨#[]⟩, .string ⟨#[]⟩, .int .i64 0, .int .i64 0, .string ⟨#[]⟩, .slice none 0 0] 24))
  go_enter Tryz.func29, Tryz.ntmps29
  go_wp2
  refine bodyPost_ret (results_ct rfl _ _ w.heap.size 24 #[.bool false, .string ⟨#[]⟩, .string ⟨#[]⟩, .int .i64 0, .int .i64 0, .string ⟨#[]⟩, .slice none 0 0] (0, 0) _ rfl HK.out Tryz.underlying24 rfl (by kernel_rfl)) rfl ?_
  exact ⟨_, rfl, Kd.R_nil _ _ _ _ _, below_alloc (Below.refl _ _) _⟩
set_option maxHeartbeats 4000000 in
set_option maxRecDepth 100000 in
theorem head_yes (w : World) (k : Nat) (u : Up) (kp : Nat) (rv vh vl vf : Value) (Fp Fr Fh : Nat → Prop) (h : UAt w k u kp rv vh vl vf Fp Fr Fh) (r0 : Bd) (pr : Nat) (hrv : rv = .pointer (some ⟨pr, 0, none⟩)) (hl : u.hd.f6.length ≤ 4294960000) :
    Calls Tryz.prog 29 #[.pointer (some ⟨k, 0, none⟩)] w (HeadP u.hd true w) := by
  obtain ⟨Af, cf, hvf, hcf, hCf⟩ := Kd.R_reads h.flds
  obtain ⟨N, hN⟩ : ∃ N, N = u.hd.f6.length := ⟨_, rfl⟩
  have HN := Aside0.mk hN
  rw [← hN] at hvf hcf hCf hl
  subst hvf
  have Hz6 : w.cell? ⟨k, 6, none⟩ = some (.bool u.hd.f0) := (blk_cell h.blk 6).trans rfl
  have Hz7 : w.cell? ⟨k, 7, none⟩ = some (.string u.hd.f1) := (blk_cell h.blk 7).trans rfl
  have Hz8 : w.cell? ⟨k, 8, none⟩ = some (.string u.hd.f2) := (blk_cell h.blk 8).trans rfl
  have Hz9 : w.cell? ⟨k, 9, none⟩ = some (.int .i64 u.hd.f3) := (blk_cell h.blk 9).trans rfl
  have Hz10 : w.cell? ⟨k, 10, none⟩ = some (.int .i64 u.hd.f4) := (blk_cell h.blk 10).trans rfl
  have Hz11 : w.cell? ⟨k, 11, none⟩ = some (.string u.hd.f5) := (blk_cell h.blk 11).trans rfl
  have Hz12 : w.cell? ⟨k, 12, none⟩ = some (.slice Af N cf) := (blk_cell h.blk 12).trans rfl
  have hz5 : w.cell? ⟨k, 5, none⟩ = some (.pointer (some ⟨pr, 0, none⟩)) := by rw [← hrv]; exact (blk_cell h.blk 5).trans rfl
  have HC := Aside0.mk hCf
  have HL := Aside0.mk hl
  have hne : ¬ k = w.heap.size := by have := h.lt; omega
  have hne2 : ¬ w.heap.size = k := fun h5 => hne h5.symm
  have hlt := h.lt
  clear h hrv hN hcf hCf hl
  have HS2 : Aside0 (((w.alloc (.cells #[.bool false, .string ⟨#[]⟩, .string ⟨#[]⟩, .int .i64 0, .int .i64 0, .string ⟨#[]⟩, .slice none 0 0] 24)).alloc (.cells #[.bool u.hd.f0, .string u.hd.f1, .string u.hd.f2, .int .i64 u.hd.f3, .int .i64 u.hd.f4, .string u.hd.f5, .slice Af N cf] 24)).heap.size = w.heap.size + 2) := ⟨by simp⟩
  have HB21 : Aside0 (((w.alloc (.cells #[.bool false, .string ⟨#[]⟩, .string ⟨#[]⟩, .int .i64 0, .int .i64 0, .string ⟨#[]⟩, .slice none 0 0] 24)).alloc (.cells #[.bool u.hd.f0, .string u.hd.f1, .string u.hd.f2, .int .i64 u.hd.f3, .int .i64 u.hd.f4, .string u.hd.f5, .slice Af N cf] 24)).heap[w.heap.size + 1]? = some (.cells #[.bool u.hd.f0, .string u.hd.f1, .string u.hd.f2, .int .i64 u.hd.f3, .int .i64 u.hd.f4, .string u.hd.f5, .slice Af N cf] 24 (0, 0))) := ⟨blk_two _ _ _⟩
  have HB20 : Aside0 (((w.alloc (.cells #[.bool false, .string ⟨#[]⟩, .string ⟨#[]⟩, .int .i64 0, .int .i64 0, .string ⟨#[]⟩, .slice none 0 0] 24)).alloc (.cells #[.bool u.hd.f0, .string u.hd.f1, .string u.hd.f2, .int .i64 u.hd.f3, .int .i64 u.hd.f4, .string u.hd.f5, .slice Af N cf] 24)).heap[w.heap.size]? = some (.cells #[.bool false, .string ⟨#[]⟩, .string ⟨#[]⟩, .int .i64 0, .int .i64 0, .string ⟨#[]⟩, .slice none 0 0] 24 (0, 0))) := ⟨blk_alloc (blk_new _ _) _⟩
  go_enter Tryz.func29, Tryz.ntmps29
  go_wp2_with (at_builtin; go_loud (refine Kd.R_append_rows fldK (Rr := P.k37.K ((w.alloc (.cells #[.bool false, .string ⟨#[]⟩, .string ⟨#[]⟩, .int .i64 0, .int .i64 0, .string ⟨#[]⟩, .slice none 0 0] 24)).alloc (.cells #[.bool u.hd.f0, .string u.hd.f1, .string u.hd.f2, .int .i64 u.hd.f3, .int .i64 u.hd.f4, .string u.hd.f5, .slice Af N cf] 24))) (w0 := ((w.alloc (.cells #[.bool false, .string ⟨#[]⟩, .string ⟨#[]⟩, .int .i64 0, .int .i64 0, .string ⟨#[]⟩, .slice none 0 0] 24)).alloc (.cells #[.bool u.hd.f0, .string u.hd.f1, .string u.hd.f2, .int .i64 u.hd.f3, .int .i64 u.hd.f4, .string u.hd.f5, .slice Af N cf] 24))) w.heap.size rfl (.const (.slice none 0 0)) (.tmp 20) 22 37 (.agg #[.string ⟨#[]⟩, .string ⟨#[]⟩]) 32 rfl Tryz.underlying22 info_fld rfl (by decide) (by omega) (.slice none 0 0) [] u.hd.f6 Af N cf (fun i => w.heap.size + 2 ≤ i) (fun _ => False) rfl rfl (Kd.R_nil _ _ _ _ _) (by have h5 := HC.out; exact Kd.C_alloc (Kd.C_alloc h5 _) _) (fun x cs hx => by rw [P.k37_open hx]; exact P.k37_mkM _ _ _ x) (fun _ h => h.elim) (fun i hi => by rw [HS2.out] at hi; exact hi) (Below.refl _ _) (by rw [HS2.out]; omega) (by have := HL.out; simp only [List.length_nil]; omega) ?_; intro v1 w3 hR hb hg hat; rw [Hd.own_nil] at hg; have hb1 : w3.heap[w.heap.size + 1]? = some (.cells #[.bool u.hd.f0, .string u.hd.f1, .string u.hd.f2, .int .i64 u.hd.f3, .int .i64 u.hd.f4, .string u.hd.f5, .slice Af N cf] 24 (0, 0)) := (hg.block _ (blk_lt HB21.out) (fun h5 => by cases h5)).trans HB21.out; have hb0 : w3.heap[w.heap.size]? = some (.cells #[.bool false, .string ⟨#[]⟩, .string ⟨#[]⟩, .int .i64 0, .int .i64 0, .string ⟨#[]⟩, .slice none 0 0] 24 (0, 0)) := (hg.block _ (blk_lt HB20.out) (fun h5 => by cases h5)).trans HB20.out; have HR1 := Aside0.mk hR; have HG1 := Aside0.mk hg; have HK0 := Aside0.mk hb0; have x0 : w3.cell? ⟨w.heap.size + 1, 0, none⟩ = some (.bool u.hd.f0) := (blk_cell hb1 0).trans rfl; have x1 : w3.cell? ⟨w.heap.size + 1, 1, none⟩ = some (.string u.hd.f1) := (blk_cell hb1 1).trans rfl; have x2 : w3.cell? ⟨w.heap.size + 1, 2, none⟩ = some (.string u.hd.f2) := (blk_cell hb1 2).trans rfl; have x3 : w3.cell? ⟨w.heap.size + 1, 3, none⟩ = some (.int .i64 u.hd.f3) := (blk_cell hb1 3).trans rfl; have x4 : w3.cell? ⟨w.heap.size + 1, 4, none⟩ = some (.int .i64 u.hd.f4) := (blk_cell hb1 4).trans rfl; have x5 : w3.cell? ⟨w.heap.size + 1, 5, none⟩ = some (.string u.hd.f5) := (blk_cell hb1 5).trans rfl; have x6 : w3.cell? ⟨w.heap.size + 1, 6, none⟩ = some (.slice Af N cf) := (blk_cell hb1 6).trans rfl; have y0 : w3.cell? ⟨w.heap.size, 0, none⟩ = some (.bool false) := (blk_cell hb0 0).trans rfl; have yf0 := blk_frozen hb0 0; have y1 : w3.cell? ⟨w.heap.size, 1, none⟩ = some (.string ⟨#[]⟩) := (blk_cell hb0 1).trans rfl; have yf1 := blk_frozen hb0 1; have y2 : w3.cell? ⟨w.heap.size, 2, none⟩ = some (.string ⟨#[]⟩) := (blk_cell hb0 2).trans rfl; have yf2 := blk_frozen hb0 2; have y3 : w3.cell? ⟨w.heap.size, 3, none⟩ = some (.int .i64 0) := (blk_cell hb0 3).trans rfl; have yf3 := blk_frozen hb0 3; have y4 : w3.cell? ⟨w.heap.size, 4, none⟩ = some (.int .i64 0) := (blk_cell hb0 4).trans rfl; have yf4 := blk_frozen hb0 4; have y5 : w3.cell? ⟨w.heap.size, 5, none⟩ = some (.string ⟨#[]⟩) := (blk_cell hb0 5).trans rfl; have yf5 := blk_frozen hb0 5; have y6 : w3.cell? ⟨w.heap.size, 6, none⟩ = some (.slice none 0 0) := (blk_cell hb0 6).trans rfl; have yf6 := blk_frozen hb0 6; have xf6 := blk_frozen hb1 6; obtain ⟨A1, c1, e1, hc1, hC1⟩ := Kd.R_reads hR; rw [List.nil_append, ← HN.out] at e1; have HC1 := Aside0.mk hc1; subst e1; clear hR hb hg hat hb1 hb0 hc1 hC1))
  refine bodyPost_ret (results_ct rfl _ _ w.heap.size 24 #[.bool u.hd.f0, .string u.hd.f1, .string u.hd.f2, .int .i64 u.hd.f3, .int .i64 u.hd.f4, .string u.hd.f5, .slice A1 N c1] (0, 0) _ rfl (by refine blk_put (cs := #[.bool u.hd.f0, .string u.hd.f1, .string u.hd.f2, .int .i64 u.hd.f3, .int .i64 u.hd.f4, .string u.hd.f5, .slice none 0 0]) ?_ 6 _ rfl; refine blk_put (cs := #[.bool u.hd.f0, .string u.hd.f1, .string u.hd.f2, .int .i64 u.hd.f3, .int .i64 u.hd.f4, .string ⟨#[]⟩, .slice none 0 0]) ?_ 5 _ rfl; refine blk_put (cs := #[.bool u.hd.f0, .string u.hd.f1, .string u.hd.f2, .int .i64 u.hd.f3, .int .i64 0, .string ⟨#[]⟩, .slice none 0 0]) ?_ 4 _ rfl; refine blk_put (cs := #[.bool u.hd.f0, .string u.hd.f1, .string u.hd.f2, .int .i64 0, .int .i64 0, .string ⟨#[]⟩, .slice none 0 0]) ?_ 3 _ rfl; refine blk_put (cs := #[.bool u.hd.f0, .string u.hd.f1, .string ⟨#[]⟩, .int .i64 0, .int .i64 0, .string ⟨#[]⟩, .slice none 0 0]) ?_ 2 _ rfl; refine blk_put (cs := #[.bool u.hd.f0, .string ⟨#[]⟩, .string ⟨#[]⟩, .int .i64 0, .int .i64 0, .string ⟨#[]⟩, .slice none 0 0]) ?_ 1 _ rfl; refine blk_put (cs := #[.bool false, .string ⟨#[]⟩, .string ⟨#[]⟩, .int .i64 0, .int .i64 0, .string ⟨#[]⟩, .slice none 0 0]) ?_ 0 _ rfl; (rw [Below.heap_setCell _ _ _ _ (by show w.heap.size ≠ w.heap.size + 1; omega)]; exact HK0.out)) Tryz.underlying24 rfl (by kernel_rfl)) rfl ?_
  have hst : ∀ i, w.heap.size + 2 ≤ i → ((((((((w3.setCell ⟨w.heap.size + 1, 6, none⟩ (.slice A1 N c1)).setCell ⟨w.heap.size, 0, none⟩ (.bool u.hd.f0)).setCell ⟨w.heap.size, 1, none⟩ (.string u.hd.f1)).setCell ⟨w.heap.size, 2, none⟩ (.string u.hd.f2)).setCell ⟨w.heap.size, 3, none⟩ (.int .i64 u.hd.f3)).setCell ⟨w.heap.size, 4, none⟩ (.int .i64 u.hd.f4)).setCell ⟨w.heap.size, 5, none⟩ (.string u.hd.f5)).setCell ⟨w.heap.size, 6, none⟩ (.slice A1 N c1)).heap[i]? = w3.heap[i]? := fun i hi => by
    rw [Below.heap_setCell _ _ _ _ (by show i ≠ w.heap.size; omega), Below.heap_setCell _ _ _ _ (by show i ≠ w.heap.size; omega), Below.heap_setCell _ _ _ _ (by show i ≠ w.heap.size; omega), Below.heap_setCell _ _ _ _ (by show i ≠ w.heap.size; omega), Below.heap_setCell _ _ _ _ (by show i ≠ w.heap.size; omega), Below.heap_setCell _ _ _ _ (by show i ≠ w.heap.size; omega), Below.heap_setCell _ _ _ _ (by show i ≠ w.heap.size; omega), Below.heap_setCell _ _ _ _ (by show i ≠ w.heap.size + 1; omega)]
  have hR4 := Kd.R_step HR1.out (w1 := ((((((((w3.setCell ⟨w.heap.size + 1, 6, none⟩ (.slice A1 N c1)).setCell ⟨w.heap.size, 0, none⟩ (.bool u.hd.f0)).setCell ⟨w.heap.size, 1, none⟩ (.string u.hd.f1)).setCell ⟨w.heap.size, 2, none⟩ (.string u.hd.f2)).setCell ⟨w.heap.size, 3, none⟩ (.int .i64 u.hd.f3)).setCell ⟨w.heap.size, 4, none⟩ (.int .i64 u.hd.f4)).setCell ⟨w.heap.size, 5, none⟩ (.string u.hd.f5)).setCell ⟨w.heap.size, 6, none⟩ (.slice A1 N c1))) (fun i hi _ => hst i hi)
  have hB2 : Below w.heap.size w ((w.alloc (.cells #[.bool false, .string ⟨#[]⟩, .string ⟨#[]⟩, .int .i64 0, .int .i64 0, .string ⟨#[]⟩, .slice none 0 0] 24)).alloc (.cells #[.bool u.hd.f0, .string u.hd.f1, .string u.hd.f2, .int .i64 u.hd.f3, .int .i64 u.hd.f4, .string u.hd.f5, .slice Af N cf] 24)) := below_alloc (below_alloc (Below.refl _ _) _) _
  have HB3 : Below w.heap.size w w3 := below_then hB2 hB2.size (Chk.below_grown HG1.out)
  exact ⟨_, rfl, Kd.R_mono hR4 (fun i hi => by omega), (((((((HB3.setCell (p := ⟨w.heap.size + 1, 6, none⟩) (Nat.le_succ _) (.slice A1 N c1)).setCell (p := ⟨w.heap.size, 0, none⟩) (Nat.le_refl _) (.bool u.hd.f0)).setCell (p := ⟨w.heap.size, 1, none⟩) (Nat.le_refl _) (.string u.hd.f1)).setCell (p := ⟨w.heap.size, 2, none⟩) (Nat.le_refl _) (.string u.hd.f2)).setCell (p := ⟨w.heap.size, 3, none⟩) (Nat.le_refl _) (.int .i64 u.hd.f3)).setCell (p := ⟨w.heap.size, 4, none⟩) (Nat.le_refl _) (.int .i64 u.hd.f4)).setCell (p := ⟨w.heap.size, 5, none⟩) (Nat.le_refl _) (.string u.hd.f5)).setCell (p := ⟨w.heap.size, 6, none⟩) (Nat.le_refl _) (.slice A1 N c1)⟩
end Go.Proofs.YtccolnlfjbgnmaaGreatDoor.Ups
/- A host's connection: the small case that the laws of layer 24 ask first, and UpstreamNil; own text of this session (gen_up8.py). -/
namespace Go.Proofs.YtccolnlfjbgnmaaGreatDoor.Ups
open Go.RowKit Go.Proofs.YtccolnlfjbgnmaaGreatDoorW.PrintWords Go.Proofs.YtccolnlfjbgnmaaGreatDoorW.PrintLast Chk Px Hr Hd
open Bod (Bd feedB byteB feedB_stop feedB_next feedB_count BFine newB BRep NewB newB_calls FeedB feedB_calls)
set_option linter.unusedVariables false
set_option linter.unusedSimpArgs false
theorem uconst_at (g : Nat) (xs : List Int) (n : Nat) (hn : n ≤ 4294940000) : ∀ W' : World, W'.heap[g]? = some (.cells ((xs.map (Value.int .u8)).toArray) 5 (n, n + 1)) → xs.length = n → (Kd.int .u8).C W' (some ⟨g, 0, none⟩) xs.length xs := by
  intro W' h hl
  refine C_of_block h ?_ (by omega)
  intro i hi
  simp [List.getElem?_eq_getElem hi]
theorem head_c {w : World} {F : Nat → Prop} {q : Nat} {u : Up} (hC : URep w F q u) (hw : u.rdr.isSome = true) (hl : u.hd.f6.length ≤ 100) : Calls Tryz.prog 29 #[.pointer (some ⟨q, 0, none⟩)] w (HeadP u.hd true w) := by
  obtain ⟨a, kp, rv, vh, vl, vf, Fp, Fr, Fh, h, h2, h3, h4⟩ := hC
  rcases h.rdr with ⟨e, _⟩ | ⟨r', p', e1, e2, h3⟩
  · rw [e] at hw; cases hw
  · exact head_yes w q u kp rv vh vl vf Fp Fr Fh h r' p' e2 (by omega)
theorem again_c {w : World} {F : Nat → Prop} {q : Nat} {u : Up} (hC : URep w F q u) : Calls Tryz.prog 41 #[.pointer (some ⟨q, 0, none⟩)] w fun e w' => e = .returned (.bool (u.whole && u.frm.2.2 && !u.ended)) ∧ Below w.heap.size w w' := by
  obtain ⟨a, kp, rv, vh, vl, vf, Fp, Fr, Fh, h, h2, h3, h4⟩ := hC
  exact again_calls w q u kp rv vh vl vf Fp Fr Fh h
def say : List Int := [72, 84, 84, 80, 47, 49, 46, 49, 32, 49, 48, 51, 32, 88, 13, 10, 13, 10, 72, 84, 84, 80, 47, 49, 46, 49, 32, 50, 48, 48, 32, 79, 75, 13, 10, 67, 111, 110, 116, 101, 110, 116, 45, 76, 101, 110, 103, 116, 104, 58, 32, 50, 13, 10, 13, 10, 97, 98, 99]
def uE : Up := (readU (newU ⟨#[71, 69, 84]⟩ 200) say).1
set_option maxRecDepth 100000
theorem sp_n : (readU (newU ⟨#[71, 69, 84]⟩ 200) say).2.2 = 58 := by decide +kernel
theorem sp_o : (readU (newU ⟨#[71, 69, 84]⟩ 200) say).2.1 = [97, 98] := by decide +kernel
theorem sp_w : uE.wrong = 0 := by decide +kernel
theorem sp_h : uE.hd.f4 = 200 := by decide +kernel
theorem sp_wh : uE.whole = true := by decide +kernel
theorem sp_f : uE.frm = (2, 2, true) := by decide +kernel
theorem sp_e : uE.ended = false := by decide +kernel
theorem sp_r : uE.rdr.isSome = true := by decide +kernel
theorem sp_l : uE.hd.f6.length ≤ 100 := by decide +kernel
theorem sp_t : token (⟨#[71, 69, 84]⟩ : ByteArray).data.toList = true := by decide +kernel
set_option maxHeartbeats 8000000 in
theorem speaks_calls (w : World) (hG : GInv w) : Calls Tryz.prog 24 #[] w fun e w' => e = .returned (.bool true) ∧ Below w.heap.size w w' := by
  have hcc1 : ∀ W : World, (convert 33 33 (.slice (some ⟨W.heap.size, 0, none⟩) 59 59)).run Tryz.prog (W.alloc (.cells #[.int .u8 72, .int .u8 84, .int .u8 84, .int .u8 80, .int .u8 47, .int .u8 49, .int .u8 46, .int .u8 49, .int .u8 32, .int .u8 49, .int .u8 48, .int .u8 51, .int .u8 32, .int .u8 88, .int .u8 13, .int .u8 10, .int .u8 13, .int .u8 10, .int .u8 72, .int .u8 84, .int .u8 84, .int .u8 80, .int .u8 47, .int .u8 49, .int .u8 46, .int .u8 49, .int .u8 32, .int .u8 50, .int .u8 48, .int .u8 48, .int .u8 32, .int .u8 79, .int .u8 75, .int .u8 13, .int .u8 10, .int .u8 67, .int .u8 111, .int .u8 110, .int .u8 116, .int .u8 101, .int .u8 110, .int .u8 116, .int .u8 45, .int .u8 76, .int .u8 101, .int .u8 110, .int .u8 103, .int .u8 116, .int .u8 104, .int .u8 58, .int .u8 32, .int .u8 50, .int .u8 13, .int .u8 10, .int .u8 13, .int .u8 10, .int .u8 97, .int .u8 98, .int .u8 99] 5)) = Result.ok (.slice (some ⟨W.heap.size, 0, none⟩) 59 59) (W.alloc (.cells #[.int .u8 72, .int .u8 84, .int .u8 84, .int .u8 80, .int .u8 47, .int .u8 49, .int .u8 46, .int .u8 49, .int .u8 32, .int .u8 49, .int .u8 48, .int .u8 51, .int .u8 32, .int .u8 88, .int .u8 13, .int .u8 10, .int .u8 13, .int .u8 10, .int .u8 72, .int .u8 84, .int .u8 84, .int .u8 80, .int .u8 47, .int .u8 49, .int .u8 46, .int .u8 49, .int .u8 32, .int .u8 50, .int .u8 48, .int .u8 48, .int .u8 32, .int .u8 79, .int .u8 75, .int .u8 13, .int .u8 10, .int .u8 67, .int .u8 111, .int .u8 110, .int .u8 116, .int .u8 101, .int .u8 110, .int .u8 116, .int .u8 45, .int .u8 76, .int .u8 101, .int .u8 110, .int .u8 103, .int .u8 116, .int .u8 104, .int .u8 58, .int .u8 32, .int .u8 50, .int .u8 13, .int .u8 10, .int .u8 13, .int .u8 10, .int .u8 97, .int .u8 98, .int .u8 99] 5 (59, 60))) := fun W => Lib.run_convert_bytes_const W _ _ #[.int .u8 72, .int .u8 84, .int .u8 84, .int .u8 80, .int .u8 47, .int .u8 49, .int .u8 46, .int .u8 49, .int .u8 32, .int .u8 49, .int .u8 48, .int .u8 51, .int .u8 32, .int .u8 88, .int .u8 13, .int .u8 10, .int .u8 13, .int .u8 10, .int .u8 72, .int .u8 84, .int .u8 84, .int .u8 80, .int .u8 47, .int .u8 49, .int .u8 46, .int .u8 49, .int .u8 32, .int .u8 50, .int .u8 48, .int .u8 48, .int .u8 32, .int .u8 79, .int .u8 75, .int .u8 13, .int .u8 10, .int .u8 67, .int .u8 111, .int .u8 110, .int .u8 116, .int .u8 101, .int .u8 110, .int .u8 116, .int .u8 45, .int .u8 76, .int .u8 101, .int .u8 110, .int .u8 103, .int .u8 116, .int .u8 104, .int .u8 58, .int .u8 32, .int .u8 50, .int .u8 13, .int .u8 10, .int .u8 13, .int .u8 10, .int .u8 97, .int .u8 98, .int .u8 99] 59 59 Tryz.underlying33 Tryz.underlying5
  have hfd : ∀ W : World, Sem.run Tryz.prog (Instr.field 50 (.agg #[.int .i64 2, .int .i64 2, .bool true]) 1) W = Result.ok (.int .i64 2) W := fun W => rfl
  have i0 : UInv (newU ⟨#[71, 69, 84]⟩ 200) := UInv.new (by decide) (by decide)
  obtain ⟨x, hx⟩ : ∃ x, x = uE.hd := ⟨_, rfl⟩
  have hx4 : x.f4 = 200 := by rw [hx]; exact sp_h
  have HNw := Aside0.mk (new_ok ⟨#[71, 69, 84]⟩ 200 w (by decide) (by decide) (by decide) sp_t)
  have HR1 : Aside0 (∀ (W : World) (F : Nat → Prop) (q : Nat), URep W F q (newU ⟨#[71, 69, 84]⟩ 200) → Below w.heap.size w W → (∀ k, F k → w.heap.size ≤ k) → Calls Tryz.prog 26 #[.pointer (some ⟨q, 0, none⟩), .slice (some ⟨W.heap.size, 0, none⟩) 59 59] (W.alloc (.cells #[.int .u8 72, .int .u8 84, .int .u8 84, .int .u8 80, .int .u8 47, .int .u8 49, .int .u8 46, .int .u8 49, .int .u8 32, .int .u8 49, .int .u8 48, .int .u8 51, .int .u8 32, .int .u8 88, .int .u8 13, .int .u8 10, .int .u8 13, .int .u8 10, .int .u8 72, .int .u8 84, .int .u8 84, .int .u8 80, .int .u8 47, .int .u8 49, .int .u8 46, .int .u8 49, .int .u8 32, .int .u8 50, .int .u8 48, .int .u8 48, .int .u8 32, .int .u8 79, .int .u8 75, .int .u8 13, .int .u8 10, .int .u8 67, .int .u8 111, .int .u8 110, .int .u8 116, .int .u8 101, .int .u8 110, .int .u8 116, .int .u8 45, .int .u8 76, .int .u8 101, .int .u8 110, .int .u8 103, .int .u8 116, .int .u8 104, .int .u8 58, .int .u8 32, .int .u8 50, .int .u8 13, .int .u8 10, .int .u8 13, .int .u8 10, .int .u8 97, .int .u8 98, .int .u8 99] 5 (59, 60))) fun e w' =>
      ∃ A2 c2, e = .returned (.tuple #[.int .i64 58, .slice A2 2 c2, .int .i64 0]) ∧ (∃ F', URep w' F' q uE) ∧ Kd.C (Kd.int .u8) w' A2 2 [97, 98] ∧ Stay (fun k => F k ∧ k < W.heap.size) (W.alloc (.cells #[.int .u8 72, .int .u8 84, .int .u8 84, .int .u8 80, .int .u8 47, .int .u8 49, .int .u8 46, .int .u8 49, .int .u8 32, .int .u8 49, .int .u8 48, .int .u8 51, .int .u8 32, .int .u8 88, .int .u8 13, .int .u8 10, .int .u8 13, .int .u8 10, .int .u8 72, .int .u8 84, .int .u8 84, .int .u8 80, .int .u8 47, .int .u8 49, .int .u8 46, .int .u8 49, .int .u8 32, .int .u8 50, .int .u8 48, .int .u8 48, .int .u8 32, .int .u8 79, .int .u8 75, .int .u8 13, .int .u8 10, .int .u8 67, .int .u8 111, .int .u8 110, .int .u8 116, .int .u8 101, .int .u8 110, .int .u8 116, .int .u8 45, .int .u8 76, .int .u8 101, .int .u8 110, .int .u8 103, .int .u8 116, .int .u8 104, .int .u8 58, .int .u8 32, .int .u8 50, .int .u8 13, .int .u8 10, .int .u8 13, .int .u8 10, .int .u8 97, .int .u8 98, .int .u8 99] 5 (59, 60))) w') := ⟨fun W F q hC hB hF => by
    have hw' : GInv w := hG
    have h5 := read_calls w (W.alloc (.cells #[.int .u8 72, .int .u8 84, .int .u8 84, .int .u8 80, .int .u8 47, .int .u8 49, .int .u8 46, .int .u8 49, .int .u8 32, .int .u8 49, .int .u8 48, .int .u8 51, .int .u8 32, .int .u8 88, .int .u8 13, .int .u8 10, .int .u8 13, .int .u8 10, .int .u8 72, .int .u8 84, .int .u8 84, .int .u8 80, .int .u8 47, .int .u8 49, .int .u8 46, .int .u8 49, .int .u8 32, .int .u8 50, .int .u8 48, .int .u8 48, .int .u8 32, .int .u8 79, .int .u8 75, .int .u8 13, .int .u8 10, .int .u8 67, .int .u8 111, .int .u8 110, .int .u8 116, .int .u8 101, .int .u8 110, .int .u8 116, .int .u8 45, .int .u8 76, .int .u8 101, .int .u8 110, .int .u8 103, .int .u8 116, .int .u8 104, .int .u8 58, .int .u8 32, .int .u8 50, .int .u8 13, .int .u8 10, .int .u8 13, .int .u8 10, .int .u8 97, .int .u8 98, .int .u8 99] 5 (59, 60))) _ q (newU ⟨#[71, 69, 84]⟩ 200) (hC.trim.below (below_alloc (Below.refl _ _) _)) ⟨hG, below_step hB (below_alloc (Below.refl _ _) _), fun k hk => hF k hk.1⟩ i0 0 UMass.new say (some ⟨W.heap.size, 0, none⟩) 59 (by decide) (by decide) (fun W' hs => by
      refine uconst_at W.heap.size say 59 (by decide) W' ?_ rfl
      exact (hs.block W.heap.size (by rw [World.size_alloc]; omega) (fun hk => by have := hk.2; omega)).trans (blk_new _ _))
    refine Calls.mono (show Calls _ _ #[_, .slice _ 59 59] _ _ from h5) ?_
    rintro e w' ⟨v, rfl, ⟨F', G, h6, h7, _, _⟩, hs⟩
    rw [sp_o] at h7
    obtain ⟨A2, c2, e2, hc2, hC2⟩ := Kd.R_reads h7
    subst e2
    exact ⟨A2, c2, by rw [sp_n, show (readU (newU ⟨#[71, 69, 84]⟩ 200) say).1.wrong = 0 from sp_w]; rfl, ⟨F', h6⟩, hC2, hs⟩⟩
  have HHd : Aside0 (∀ (W : World) (F : Nat → Prop) (q : Nat), URep W F q uE → Calls Tryz.prog 29 #[.pointer (some ⟨q, 0, none⟩)] W fun e w' => ∃ A3 c3, e = .returned (.tuple #[.agg #[.bool x.f0, .string x.f1, .string x.f2, .int .i64 x.f3, .int .i64 200, .string x.f5, .slice A3 x.f6.length c3], .bool true]) ∧ Below W.heap.size W w') := ⟨fun W F q hC => by
    refine (head_c hC sp_r sp_l).mono ?_
    rintro e w' ⟨v, rfl, hR, hb⟩
    obtain ⟨A3, c3, e3, hc3, hC3⟩ := Kd.R_reads hR
    subst e3
    rw [← hx]
    exact ⟨A3, c3, by unfold hdV; rw [hx4], hb⟩⟩
  have HWh : Aside0 (∀ (W : World) (F : Nat → Prop) (q : Nat), URep W F q uE → Calls Tryz.prog 27 #[.pointer (some ⟨q, 0, none⟩)] W fun e w' => e = .returned (.bool true) ∧ Below W.heap.size W w') := ⟨fun W F q hC => by
    have h5 := hC.whole
    rw [sp_wh] at h5
    exact h5⟩
  have HAg : Aside0 (∀ (W : World) (F : Nat → Prop) (q : Nat), URep W F q uE → Calls Tryz.prog 41 #[.pointer (some ⟨q, 0, none⟩)] W fun e w' => e = .returned (.bool true) ∧ Below W.heap.size W w') := ⟨fun W F q hC => by
    have h5 := again_c hC
    rw [sp_wh, sp_f, sp_e] at h5
    exact h5⟩
  have HFr : Aside0 (∀ (W : World) (F : Nat → Prop) (q : Nat), URep W F q uE → Calls Tryz.prog 42 #[.pointer (some ⟨q, 0, none⟩)] W fun e w' => e = .returned (.agg #[.int .i64 2, .int .i64 2, .bool true]) ∧ Below W.heap.size W w') := ⟨fun W F q hC => by
    have h5 := framing_calls W q uE F hC
    rw [sp_f] at h5
    exact h5⟩
  clear hG i0 hx hx4
  go_enter Tryz.func24, Tryz.ntmps24
  go_wp2_with fail
  refine HNw.out.mono ?_
  rintro e w1 ⟨q, rfl, hC1, hb1⟩
  have HC1 := Aside0.mk hC1
  have HB1 := Aside0.mk hb1
  clear hC1 hb1
  go_wp2_with fail
  refine (HR1.out _ _ _ HC1.out HB1.out (fun k hk => hk)).mono ?_
  rintro e w2 ⟨A2, c2, rfl, ⟨F2, hC2⟩, hR2, hs2⟩
  have HC2 := Aside0.mk hC2
  have HR2 := Aside0.mk hR2
  have HB2 := Aside0.mk (hs2.out (below_alloc HB1.out _) (fun i hi => hi.1) (by exact (below_alloc HB1.out (.cells #[.int .u8 72, .int .u8 84, .int .u8 84, .int .u8 80, .int .u8 47, .int .u8 49, .int .u8 46, .int .u8 49, .int .u8 32, .int .u8 49, .int .u8 48, .int .u8 51, .int .u8 32, .int .u8 88, .int .u8 13, .int .u8 10, .int .u8 13, .int .u8 10, .int .u8 72, .int .u8 84, .int .u8 84, .int .u8 80, .int .u8 47, .int .u8 49, .int .u8 46, .int .u8 49, .int .u8 32, .int .u8 50, .int .u8 48, .int .u8 48, .int .u8 32, .int .u8 79, .int .u8 75, .int .u8 13, .int .u8 10, .int .u8 67, .int .u8 111, .int .u8 110, .int .u8 116, .int .u8 101, .int .u8 110, .int .u8 116, .int .u8 45, .int .u8 76, .int .u8 101, .int .u8 110, .int .u8 103, .int .u8 116, .int .u8 104, .int .u8 58, .int .u8 32, .int .u8 50, .int .u8 13, .int .u8 10, .int .u8 13, .int .u8 10, .int .u8 97, .int .u8 98, .int .u8 99] 5 (59, 60))).size))
  clear hC2 hs2 hR2
  go_wp2_with fail
  refine (HHd.out _ _ _ HC2.out).mono ?_
  rintro e w3 ⟨A3, c3, rfl, hb3⟩
  have HB3 := Aside0.mk (below_alloc (o := .cells #[.bool x.f0, .string x.f1, .string x.f2, .int .i64 x.f3, .int .i64 200, .string x.f5, .slice A3 x.f6.length c3] 24) (below_step HB2.out hb3))
  have HC3 := Aside0.mk ((HC2.out.below hb3).below (below_alloc (o := .cells #[.bool x.f0, .string x.f1, .string x.f2, .int .i64 x.f3, .int .i64 200, .string x.f5, .slice A3 x.f6.length c3] 24) (Below.refl _ _)))
  have hv : (convert 33 9 (.slice A2 2 c2)).run Tryz.prog (w3.alloc (.cells #[.bool x.f0, .string x.f1, .string x.f2, .int .i64 x.f3, .int .i64 200, .string x.f5, .slice A3 x.f6.length c3] 24)) = Result.ok (.string ⟨#[97, 98]⟩) (w3.alloc (.cells #[.bool x.f0, .string x.f1, .string x.f2, .int .i64 x.f3, .int .i64 200, .string x.f5, .slice A3 x.f6.length c3] 24)) := Kd.C_string (xs := [97, 98]) Tryz.underlying33 Tryz.underlying5 Tryz.underlying9 (Kd.C_below (Kd.C_below HR2.out hb3) (below_alloc (Below.refl _ _) _))
  have hy4 : (w3.alloc (.cells #[.bool x.f0, .string x.f1, .string x.f2, .int .i64 x.f3, .int .i64 200, .string x.f5, .slice A3 x.f6.length c3] 24)).cell? ⟨w3.heap.size, 4, none⟩ = some (.int .i64 200) := (blk_cell (blk_new w3 (.cells #[.bool x.f0, .string x.f1, .string x.f2, .int .i64 x.f3, .int .i64 200, .string x.f5, .slice A3 x.f6.length c3] 24)) 4).trans rfl
  clear hb3
  go_wp2_with (first
    | (go_at_call 27; go_loud (refine (HWh.out _ _ _ (HC3.out.below (by repeat (first | exact Below.refl _ _ | apply below_alloc | apply below_drew1 | apply pw_below_drewN)))).mono ?_; rintro e w6 ⟨rfl, hb⟩; have HC6 := Aside0.mk (HC3.out.below (below_step (by repeat (first | exact Below.refl _ _ | apply below_alloc | apply below_drew1 | apply pw_below_drewN)) hb)); have HB6 := Aside0.mk (below_step (by repeat (first | exact HB3.out | apply below_alloc | apply below_drew1 | apply pw_below_drewN)) hb); clear hb))
    | (go_at_call 41; go_loud (refine (HAg.out _ _ _ (HC6.out.below (by repeat (first | exact Below.refl _ _ | apply below_alloc | apply below_drew1 | apply pw_below_drewN)))).mono ?_; rintro e w7 ⟨rfl, hb⟩; have HC7 := Aside0.mk (HC6.out.below (below_step (by repeat (first | exact Below.refl _ _ | apply below_alloc | apply below_drew1 | apply pw_below_drewN)) hb)); have HB7 := Aside0.mk (below_step (by repeat (first | exact HB6.out | apply below_alloc | apply below_drew1 | apply pw_below_drewN)) hb); clear hb))
    | (go_at_call 42; go_loud (refine (HFr.out _ _ _ (HC7.out.below (by repeat (first | exact Below.refl _ _ | apply below_alloc | apply below_drew1 | apply pw_below_drewN)))).mono ?_; rintro e w8 ⟨rfl, hb⟩; have HB8 := Aside0.mk (below_step (by repeat (first | exact HB7.out | apply below_alloc | apply below_drew1 | apply pw_below_drewN)) hb); clear hb)))
  go_ret
  exact ⟨rfl, HB8.out⟩
end Go.Proofs.YtccolnlfjbgnmaaGreatDoor.Ups
