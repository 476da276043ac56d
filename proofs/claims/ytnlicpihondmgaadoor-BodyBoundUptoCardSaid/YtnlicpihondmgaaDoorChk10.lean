/- Package chunked, by hand: what Feed comes to; own text of this session. -/
import Derived.Test.YtnlicpihondmgaaDoorChk9
import Derived.Deep.RegionWith
namespace Go.Proofs.YtnlicpihondmgaaDoor.Chk
open Go.RowKit Go.Proofs.YtnlicpihondmgaaDoorW.PrintWords Go.Proofs.YtnlicpihondmgaaDoorW.PrintLast
set_option linter.unusedVariables false
/-- Byte by byte, until the body is whole or something is wrong: the decoder then, and how many bytes were read. -/
def feedGo : Dec → List Int → Nat → Dec × Nat
  | d, [], n => (d, n)
  | d, c :: r, n => if d.whole = true ∨ ¬ d.wrong = 0 then (d, n) else feedGo { (stepE d c).1 with wrong := (stepE d c).2 } r (n + 1)
theorem feed_stop (d : Dec) (b : List Int) (n : Nat) (h : b = [] ∨ d.whole = true ∨ ¬ d.wrong = 0) : feedGo d b n = (d, n) := by
  cases b with
  | nil => rfl
  | cons c r => rcases h with h | h | h; cases h; all_goals (unfold feedGo; rw [if_pos (by first | exact .inl h | exact .inr h)])
set_option maxRecDepth 100000 in
theorem stF_enters (n : Nat) : ∀ args w, (callFunc (stF n) args).run Tryd.prog w = .ok (.enter (stF n) args) w := by
  intro args w
  match n with
  | 0 => rfl
  | 1 => rfl
  | 2 => rfl
  | n + 3 => rfl
/-- What Feed leaves. -/
def FeedPost (w : World) (F : Nat → Prop) (p : Nat) (r : Dec × Nat) (e : Ending) (w' : World) : Prop :=
  ∃ v, e = .returned (.tuple #[v, .int .i64 (r.2 : Int), .bool r.1.whole, .int .i64 r.1.wrong]) ∧
    (∃ (F' G : Nat → Prop) (vl vt : Value), Rep w' F' p vl (.slice none 0 0) vt { r.1 with out := [] } ∧ (Kd.int .u8).R 5 w' 0 G v r.1.out ∧
      (∀ k, F' k → (F k ∨ w.heap.size ≤ k) ∧ k < w'.heap.size) ∧ (∀ k, G k → (F k ∨ w.heap.size ≤ k) ∧ k < w'.heap.size ∧ ¬ F' k)) ∧ Stay F w w'
/-- A row of numbers lies in its own block alone. -/
theorem own_only {w : World} {base : Nat} {ok : Nat → Prop} {v : Value} {xs : List Int} (h : (Kd.int .u8).R 5 w base ok v xs) : (Kd.int .u8).R 5 w base (fun k => ok k ∧ some k = v.ownBlock) v xs :=
  Kd.R_of_own (h1 := fun _ => rfl) (Kd.own_of_R h) (fun k hk => ⟨h.1 k hk, hk.symm⟩)
/-- The bytes that were read are handed out. -/
theorem Rep.outNil {w : World} {F : Nat → Prop} {p : Nat} {vl vo vt : Value} {d : Dec} (h : Rep w F p vl vo vt d) :
    Rep (w.setCell ⟨p, 4, none⟩ (.slice none 0 0)) (fun k => (F k ∧ some k ≠ vo.ownBlock) ∧ k < (w.setCell ⟨p, 4, none⟩ (.slice none 0 0)).heap.size) p vl (.slice none 0 0) vt { d with out := [] } ∧
    (Kd.int .u8).R 5 (w.setCell ⟨p, 4, none⟩ (.slice none 0 0)) 0 (fun k => F k ∧ some k = vo.ownBlock ∧ k < (w.setCell ⟨p, 4, none⟩ (.slice none 0 0)).heap.size) vo d.out := by
  have htr : fldK.R 49 w 0 (fun k => F k ∧ some k ≠ vo.ownBlock) vt d.tr := by
    refine Kd.R_mono (Kd.R_bound h.tr) ?_
    rintro k ⟨h1, _, _, q, hq, cells, hc⟩
    refine ⟨h1, ?_⟩
    rcases List.mem_cons.1 hq with rfl | h2
    · exact R_neT h.out hc ne_dec.2.2.2
    · exact absurd h2 (by simp [fldK, P.k49, Kd.iso, Kd.pair, Kd.string, Kd.scalar])
  have hp := R_neT h.out h.blk ne_dec.1
  refine ⟨(Rep.store (F := fun k => F k ∧ some k ≠ vo.ownBlock) (d := { d with out := [] }) (i := 4) (v := .slice none 0 0) h.blk rfl ⟨h.inF, hp⟩ (Kd.R_mono h.line (fun k hk => ⟨hk, by rw [own_nilS]; simp⟩)) (Kd.R_nil _ _ _ _ _) htr).trim, ?_⟩
  have h2 := row_u8 (own_only h.out) h.blk 4 (.slice none 0 0)
  exact Kd.R_mono (Kd.R_bound h2) (fun k hk => ⟨hk.1.1.1, hk.1.2, hk.2.2.1⟩)
theorem feed_next (d : Dec) (c : Int) (r : List Int) (n : Nat) (h1 : d.whole = false) (h2 : d.wrong = 0) : feedGo d (c :: r) n = feedGo { (stepE d c).1 with wrong := (stepE d c).2 } r (n + 1) := by
  show (if d.whole = true ∨ ¬ d.wrong = 0 then (d, n) else _) = _
  rw [if_neg (by rw [h1, h2]; simp)]
theorem held_drew {w0 w : World} {F : Nat → Prop} (h : Held w0 w F) : Held w0 w.drew F := ⟨h.inv, below_drew h.below, h.over⟩
theorem feed_end {w wr : World} {F : Nat → Prop} {p kk : Nat} {vl vo vt : Value} {dk : Dec}
    (h : Rep (wr.setCell ⟨p, 4, none⟩ (.slice none 0 0)) (fun k => ((F k ∨ w.heap.size ≤ k) ∧ some k ≠ vo.ownBlock) ∧ k < (wr.setCell ⟨p, 4, none⟩ (.slice none 0 0)).heap.size) p vl (.slice none 0 0) vt { dk with out := [] } ∧
      (Kd.int .u8).R 5 (wr.setCell ⟨p, 4, none⟩ (.slice none 0 0)) 0 (fun k => (F k ∨ w.heap.size ≤ k) ∧ some k = vo.ownBlock ∧ k < (wr.setCell ⟨p, 4, none⟩ (.slice none 0 0)).heap.size) vo dk.out)
    (hs : Stay F w (wr.setCell ⟨p, 4, none⟩ (.slice none 0 0))) : FeedPost w F p (dk, kk) (.returned (.tuple #[vo, .int .i64 (kk : Int), .bool dk.whole, .int .i64 dk.wrong])) (wr.setCell ⟨p, 4, none⟩ (.slice none 0 0)).drew := by
  refine ⟨vo, rfl, ⟨_, _, vl, vt, h.1.below (below_drew (Below.refl _ _)), Kd.R_drew h.2, fun k hk => ⟨hk.1.1, hk.2⟩, fun k hk => ⟨hk.1, hk.2.2, fun h5 => h5.1.2 hk.2.1⟩⟩, ?_⟩
  exact stay_low hs (below_drew (Below.refl _ _))
set_option maxHeartbeats 4000000 in
set_option maxRecDepth 100000 in
theorem feed_calls (w0 w : World) (F : Nat → Prop) (p : Nat) (vl vo vt : Value) (d : Dec) (A : Option Addr) (cap : Nat) (b : List Int) (h : Rep w F p vl vo vt d) (hH : Held w0 w F) (hm : d.mass + b.length ≤ 4294960000) (hd : Fine d) (hb : ∀ W', Stay F w W' → (Kd.int .u8).C W' A b.length b) :
    Calls Tryd.prog 16 #[.pointer (some ⟨p, 0, none⟩), .slice A b.length cap] w (FeedPost w F p (feedGo d b 0)) := by
  obtain ⟨r, hr⟩ : ∃ r, r = feedGo d b 0 := ⟨_, rfl⟩
  rw [← hr]
  obtain ⟨N, hN⟩ : ∃ N, N = b.length := ⟨_, rfl⟩
  rw [← hN]
  have HN := Aside0.mk hN
  have HIN := Aside0.mk h.inF
  have HH := Aside0.mk hH
  have HBy := Aside0.mk hb
  have HE0 := Aside0.mk hr
  have HR0 := Aside0.mk (h.mono (G := fun k => F k ∨ w.heap.size ≤ k) (fun _ hk => .inl hk))
  have HM0 := Aside0.mk hm
  have HD0 := Aside0.mk hd
  have hNle : (N : Int) ≤ 4294960000 := by omega
  clear h hH hm hd hb hr hN
  go_enter Tryd.func16, Tryd.ntmps16
  go_wp2
  go_loopw [8] (fun n8 wr => ∃ (kk : Nat) (dk : Dec), kk ≤ N ∧ n8 = .int .i64 kk ∧ Aside0 (∃ vl vo vt, Rep wr (fun k => F k ∨ w.heap.size ≤ k) p vl vo vt dk) ∧ Aside0 (Stay F w wr) ∧ Aside0 (r = feedGo dk (b.drop kk) kk) ∧ Aside0 (dk.mass + (b.length - kk) ≤ 4294960000) ∧ Aside0 (Fine dk)) (fun n8 _ => N - (intOf n8).toNat)
  case atStart => exact ⟨0, d, Nat.zero_le _, rfl, ⟨_, _, _, HR0.out⟩, ⟨Stay.refl _ _⟩, HE0, ⟨by have := HM0.out; omega⟩, HD0⟩
  case round =>
    obtain ⟨kk, dk, hkk, rfl, ⟨vl, vo, vt, hrp⟩, HSt, HFe, HMs, HDk⟩ := hrel
    have HRp := Aside0.mk hrp
    have hz6 : wr.cell? ⟨p, 6, none⟩ = some (.bool dk.whole) := (blk_cell hrp.blk 6).trans rfl
    have hz7 : wr.cell? ⟨p, 7, none⟩ = some (.int .i64 dk.wrong) := (blk_cell hrp.blk 7).trans rfl
    clear hrp HR0 HE0 HM0 HD0
    by_cases hlt : kk < N
    · have hltz : (kk : Int) < (N : Int) := by omega
      cases hwh : dk.whole with
      | true =>
        rw [hwh] at hz6
        have HW := Aside0.mk hwh
        clear hwh
        obtain ⟨Ao, no, hvo, hco, hCo⟩ := Kd.R_reads HRp.out.out
        subst hvo
        have hz4 : wr.cell? ⟨p, 4, none⟩ = some (.slice Ao dk.out.length no) := (blk_cell HRp.out.blk 4).trans rfl
        have hf4 := blk_frozen HRp.out.blk 4
        have HON := Aside0.mk HRp.out.outNil
        have HSN := Aside0.mk ((HSt.out.mono (G := F) (fun _ h => h)).set (p := ⟨p, 4, none⟩) HIN.out (.slice none 0 0))
        clear hco hCo
        go_wp2
        go_region
        all_goals
          go_wp2
          refine bodyPost_ret (results_list (rs := [.tmp 4, .tmp 5, .tmp 6, .tmp 7]) rfl (by simp) (.tmp (.tmp (.tmp (.tmp .nil))))) rfl ?_
          have hfe := HFe.out
          rw [feed_stop dk (b.drop kk) kk (.inr (.inl HW.out))] at hfe
          rw [hfe]
          have hfin := feed_end (kk := kk) HON.out HSN.out
          (try rw [HW.out] at hfin)
          exact hfin

      | false =>
        rw [hwh] at hz6
        have HW := Aside0.mk hwh
        clear hwh
        by_cases hwr : dk.wrong = 0
        · rw [hwr] at hz7
          obtain ⟨ad, eA, hx⟩ := Kd.at_int (HBy.out wr HSt.out) (kk : Int) (by omega) (by have := HN.out; omega)
          cases eA
          rw [Int.toNat_natCast] at hx
          have hdr : b.drop kk = rd b (kk : Int) :: b.drop (kk + 1) := by
            have hkl : kk < b.length := by have := HN.out; omega
            rw [List.drop_eq_getElem_cons hkl]
            simp [rd, hkl]
          obtain ⟨c, hc⟩ : ∃ c, c = rd b (kk : Int) := ⟨_, rfl⟩
          rw [← hc] at hx hdr
          have HDr := Aside0.mk hdr
          have HWr := Aside0.mk hwr
          obtain ⟨g, hg⟩ : ∃ g, g = stF dk.st := ⟨_, rfl⟩
          have eg : ∀ args w, (callFunc g args).run Tryd.prog w = .ok (.enter g args) w := by rw [hg]; exact stF_enters _
          have hz3 : wr.cell? ⟨p, 3, none⟩ = some (.func (.func g) #[.pointer (some ⟨p, 0, none⟩)] #[]) := by rw [hg]; exact (blk_cell HRp.out.blk 3).trans rfl
          have hC0 := step_calls w0 wr.drew _ p vl vo vt dk c (HRp.out.below (below_drew (Below.refl _ _))) (held_drew (HH.out.step HSt.out)) (by have := HMs.out; have := HN.out; omega) HDk.out
          rw [← hg] at hC0
          have HC := Aside0.mk hC0
          clear hdr hwr hc hg hC0
          go_wp2
          go_region_with (go_at_fn g; refine HC.out.mono ?_; rintro e w2 ⟨rfl, ⟨vl2, vo2, vt2, hrep2⟩, hst2⟩; have HP2 := Aside0.mk hrep2; have HS2 := Aside0.mk hst2; have hy7 : w2.cell? ⟨p, 7, none⟩ = some (.int .i64 (stepE dk c).1.wrong) := (blk_cell hrep2.blk 7).trans rfl; have hx7 := blk_frozen hrep2.blk 7; clear hrep2 hst2)
          all_goals
            go_wp2
            go_roundw
            case rel =>
              have hsm := step_mass dk c
              have hsf := step_fine dk c HDk.out
              have hfe := HFe.out
              rw [HDr.out, feed_next dk c _ kk HW.out HWr.out] at hfe
              exact ⟨kk + 1, { (stepE dk c).1 with wrong := (stepE dk c).2 }, by omega, by go_num, ⟨_, _, _, (HP2.out.scal (i := 7) (v := .int .i64 (stepE dk c).2) (d' := { (stepE dk c).1 with wrong := (stepE dk c).2 }) rfl rfl rfl rfl).mono (fun k hk => hk.elim id (fun h2 => .inr (Nat.le_trans HSt.out.size h2)))⟩,
                ⟨((stay_low HSt.out (below_drew (Below.refl _ _))).trans HS2.out (fun i hi => hi)).set (p := ⟨p, 7, none⟩) HIN.out _⟩, ⟨hfe⟩, ⟨by show (stepE dk c).1.mass + _ ≤ _; have := HMs.out; have := HN.out; omega⟩, ⟨⟨hsf.left0, hsf.left1, hsf.need1, hsf.need0⟩⟩⟩
            case measure => simp [intOf]; omega
        · have bw : (dk.wrong == 0) = false := by simpa using hwr
          have HWr := Aside0.mk hwr
          clear hwr
          obtain ⟨Ao, no, hvo, hco, hCo⟩ := Kd.R_reads HRp.out.out
          subst hvo
          have hz4 : wr.cell? ⟨p, 4, none⟩ = some (.slice Ao dk.out.length no) := (blk_cell HRp.out.blk 4).trans rfl
          have hf4 := blk_frozen HRp.out.blk 4
          have HON := Aside0.mk HRp.out.outNil
          have HSN := Aside0.mk ((HSt.out.mono (G := F) (fun _ h => h)).set (p := ⟨p, 4, none⟩) HIN.out (.slice none 0 0))
          clear hco hCo
          go_wp2
          go_region
          all_goals
            go_wp2
            refine bodyPost_ret (results_list (rs := [.tmp 4, .tmp 5, .tmp 6, .tmp 7]) rfl (by simp) (.tmp (.tmp (.tmp (.tmp .nil))))) rfl ?_
            have hfe := HFe.out
            rw [feed_stop dk (b.drop kk) kk (.inr (.inr HWr.out))] at hfe
            rw [hfe]
            have hfin := feed_end (kk := kk) HON.out HSN.out
            (try rw [HW.out] at hfin)
            exact hfin

    · have hltz : ¬ (kk : Int) < (N : Int) := by omega
      have hkn : b.drop kk = [] := by rw [List.drop_eq_nil_iff]; have := HN.out; omega
      have HKN := Aside0.mk hkn
      clear hkn
      obtain ⟨Ao, no, hvo, hco, hCo⟩ := Kd.R_reads HRp.out.out
      subst hvo
      have hz4 : wr.cell? ⟨p, 4, none⟩ = some (.slice Ao dk.out.length no) := (blk_cell HRp.out.blk 4).trans rfl
      have hf4 := blk_frozen HRp.out.blk 4
      have HON := Aside0.mk HRp.out.outNil
      have HSN := Aside0.mk ((HSt.out.mono (G := F) (fun _ h => h)).set (p := ⟨p, 4, none⟩) HIN.out (.slice none 0 0))
      clear hco hCo
      go_wp2
      go_region
      all_goals
        go_wp2
        refine bodyPost_ret (results_list (rs := [.tmp 4, .tmp 5, .tmp 6, .tmp 7]) rfl (by simp) (.tmp (.tmp (.tmp (.tmp .nil))))) rfl ?_
        have hfe := HFe.out
        rw [feed_stop dk (b.drop kk) kk (.inl HKN.out)] at hfe
        rw [hfe]
        have hfin := feed_end (kk := kk) HON.out HSN.out
        (try rw [HW.out] at hfin)
        exact hfin

end Go.Proofs.YtnlicpihondmgaaDoor.Chk
