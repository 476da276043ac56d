/- Package chunked, by hand: one byte in a decoder, whatever its state; own text of this session. -/
import Derived.Test.YtcfmihghgecefaaDoorChB
import Derived.Deep.RegionWith
import Derived.Test.YtcfmihghgecefaaDoorP
namespace Go.Proofs.YtcfmihghgecefaaDoor.Chk
open Go.RowKit Go.Proofs.YtcfmihghgecefaaDoorW.PrintWords Go.Proofs.YtcfmihghgecefaaDoorW.PrintLast
set_option linter.unusedVariables false
/-- What the walks ask of a decoder's numbers. -/
structure Fine (d : Dec) : Prop where
  left0 : 0 ≤ d.left
  left1 : d.left ≤ 9007199254740992
  need1 : d.need ≤ 9007199254740992
  need0 : d.st = 1 → 1 ≤ d.need
theorem size_calls (w0 w : World) (F : Nat → Prop) (p : Nat) (vl vo vt : Value) (d : Dec) (c : Int) (h : Rep w F p vl vo vt d) (hH : Held w0 w F) (hl : d.line.length ≤ 4294960000) (hd : Fine d) :
    Calls Tryd.prog 20 #[.pointer (some ⟨p, 0, none⟩), .int .u8 c] w (StepPost w F p (sizeS d c)) := by
  unfold sizeS
  obtain ⟨⟨l1, so, e1⟩, hr⟩ : ∃ r, r = lined d.line c := ⟨_, rfl⟩
  rw [← hr]
  cases so with
  | none => exact size_none w0 w F p vl vo vt d c h hH hl l1 e1 hr.symm
  | some s =>
    obtain ⟨⟨n, f⟩, hx⟩ : ∃ r, r = Hr.digits 16 (Lib.cut s.data.toList [59]).1 := ⟨_, rfl⟩
    have hn0 : 0 ≤ n := by have := digits_nonneg 16 (Lib.cut s.data.toList [59]).1; rw [← hx] at this; exact this
    show Calls _ _ _ _ (StepPost w F p (match sizeLine s with | none => ({ d with line := l1 }, 100) | some n => sizeN d l1 n))
    unfold sizeLine
    rw [← hx]
    by_cases hf : f = 0
    · cases hv : Px.value ([97] ++ (Lib.cut s.data.toList [59]).2.1 ++ [97]) with
      | false =>
        rw [if_neg (by simp)]
        exact size_v w0 w F p vl vo vt d c h hH hl l1 s e1 hr.symm n f hx.symm hf hv
      | true =>
        rw [if_pos ⟨hf, rfl⟩]
        show Calls _ _ _ _ (StepPost w F p (sizeN d l1 n))
        unfold sizeN
        by_cases hn : n > d.left
        · rw [if_pos hn]
          exact size_long w0 w F p vl vo vt d c h hH hl l1 s e1 hr.symm n f hx.symm hf hv (by omega)
        · rw [if_neg hn]
          by_cases hz : n = 0
          · rw [if_pos hz]
            exact size_zero w0 w F p vl vo vt d c h hH hl l1 s e1 hr.symm n f hx.symm hf hv hz hd.left0
          · rw [if_neg hz]
            exact size_go w0 w F p vl vo vt d c h hH hl l1 s e1 hr.symm n f hx.symm hf hv (by omega) (by omega) hd.left1
    · rw [if_neg (fun h5 => hf h5.1)]
      exact size_f w0 w F p vl vo vt d c h hH hl l1 s e1 hr.symm n f hx.symm hf
theorem trailer_calls (w0 w : World) (F : Nat → Prop) (p : Nat) (vl vo vt : Value) (d : Dec) (c : Int) (h : Rep w F p vl vo vt d) (hH : Held w0 w F) (hl : d.line.length ≤ 4294960000) (ht : d.tr.length ≤ 4294960000) :
    Calls Tryd.prog 28 #[.pointer (some ⟨p, 0, none⟩), .int .u8 c] w (StepPost w F p (trailerS d c)) := by
  unfold trailerS
  obtain ⟨⟨l1, so, e1⟩, hr⟩ : ∃ r, r = lined d.line c := ⟨_, rfl⟩
  rw [← hr]
  cases so with
  | none => exact trailer_none w0 w F p vl vo vt d c h hH hl l1 e1 hr.symm
  | some s =>
    show Calls _ _ _ _ (StepPost w F p (if s.size = 0 then ({ d with line := l1, whole := true }, 0) else if (Lib.cut s.data.toList [58]).2.2 = false ∨ d.tr.length = 100 ∨ ¬ fldE (trailerF s) = 0 then ({ d with line := l1 }, 100) else ({ d with line := l1, tr := d.tr ++ [trailerF s] }, 0)))
    by_cases hse : s.size = 0
    · rw [if_pos hse]
      exact trailer_end w0 w F p vl vo vt d c h hH hl l1 s e1 hr.symm hse
    · rw [if_neg hse]
      cases hok : (Lib.cut s.data.toList [58]).2.2 with
      | false =>
        rw [if_pos (.inl rfl)]
        exact trailer_nok w0 w F p vl vo vt d c h hH hl l1 s e1 hr.symm hse hok
      | true =>
        by_cases hm : d.tr.length = 100
        · rw [if_pos (.inr (.inl hm))]
          exact trailer_many w0 w F p vl vo vt d c h hH hl l1 s e1 hr.symm hse hok hm
        · by_cases hfe : fldE (trailerF s) = 0
          · rw [if_neg (fun h5 => h5.elim (fun h6 => by cases h6) (fun h6 => h6.elim hm (fun h7 => h7 hfe)))]
            exact trailer_go w0 w F p vl vo vt d c h hH hl l1 s e1 hr.symm hse hok hm ht hfe
          · rw [if_pos (.inr (.inr hfe))]
            exact trailer_bad w0 w F p vl vo vt d c h hH hl l1 s e1 hr.symm hse hok hm _ rfl hfe
/-- One byte: the decoder then, and what is wrong. -/
def stepE (d : Dec) (c : Int) : Dec × Int := match d.st with
  | 0 => sizeS d c
  | 1 => dataS d c
  | 2 => endS d c
  | _ => trailerS d c
/-- How long its rows are. -/
def Dec.mass (d : Dec) : Nat := d.line.length + d.out.length + d.tr.length
theorem step_calls (w0 w : World) (F : Nat → Prop) (p : Nat) (vl vo vt : Value) (d : Dec) (c : Int) (h : Rep w F p vl vo vt d) (hH : Held w0 w F) (hm : d.mass ≤ 4294960000) (hd : Fine d) :
    Calls Tryd.prog (stF d.st) #[.pointer (some ⟨p, 0, none⟩), .int .u8 c] w (StepPost w F p (stepE d c)) := by
  unfold Dec.mass at hm
  unfold stepE
  match hs : d.st with
  | 0 => exact size_calls w0 w F p vl vo vt d c h hH (by omega) hd
  | 1 => exact data_calls w F p vl vo vt d c h (by omega) (hd.need0 hs) hd.need1
  | 2 => exact end_calls w F p vl vo vt d c h (by omega)
  | n + 3 => exact trailer_calls w0 w F p vl vo vt d c h hH (by omega) (by omega)
theorem lined_len (l : List Int) (c : Int) : (lined l c).1.length ≤ l.length + 1 := by
  unfold lined
  repeat' split
  all_goals simp
theorem step_mass (d : Dec) (c : Int) : (stepE d c).1.mass ≤ d.mass + 1 := by
  have hl := lined_len d.line c
  unfold stepE Dec.mass
  repeat' split
  · unfold sizeS
    split
    · simp only; omega
    · split
      · simp only; omega
      · unfold sizeN
        repeat' split
        all_goals (simp only; omega)
  · unfold dataS; simp only [List.length_append, List.length_singleton]; omega
  · unfold endS
    by_cases h1 : c ≠ (if d.line.length = 1 then 10 else 13)
    · rw [if_pos h1]; simp only; omega
    · rw [if_neg h1]
      split
      · simp only [List.length_nil]; omega
      · simp only [List.length_append, List.length_singleton]; omega
  · unfold trailerS
    split
    · simp only; omega
    · rename_i s hs
      have hl0 : (lined d.line c).1 = [] := by
        obtain ⟨⟨l1, so, e1⟩, hr⟩ : ∃ r, r = lined d.line c := ⟨_, rfl⟩
        rw [← hr] at hs ⊢
        simp only at hs
        subst hs
        exact (lined_size d.line c l1 s e1 hr.symm).2
      rw [hl0]
      repeat' split
      all_goals (simp only [List.length_nil, List.length_append, List.length_singleton]; omega)
theorem step_fine (d : Dec) (c : Int) (h : Fine d) : Fine (stepE d c).1 := by
  obtain ⟨h0, h1, h2, h3⟩ := h
  unfold stepE
  match hs : d.st with
  | 0 =>
    show Fine (sizeS d c).1
    unfold sizeS
    split
    · exact ⟨h0, h1, h2, fun h => by rw [show ({ d with line := (lined d.line c).1 } : Dec).st = d.st from rfl, hs] at h; cases h⟩
    · split
      · exact ⟨h0, h1, h2, fun h => by rw [show ({ d with line := (lined d.line c).1 } : Dec).st = d.st from rfl, hs] at h; cases h⟩
      · rename_i s hs2 n hn2
        have hn0 : 0 ≤ n := by
          unfold sizeLine at hn2
          split at hn2
          · injection hn2 with hn2; rw [← hn2]; exact digits_nonneg _ _
          · cases hn2
        unfold sizeN
        split
        · exact ⟨h0, h1, h2, fun h => by rw [show ({ d with line := (lined d.line c).1 } : Dec).st = d.st from rfl, hs] at h; cases h⟩
        · split
          · exact ⟨h0, h1, h2, fun h => by cases h⟩
          · exact ⟨by show 0 ≤ d.left - n; omega, by show d.left - n ≤ _; omega, by show n ≤ _; omega, fun _ => by show 1 ≤ n; omega⟩
  | 1 =>
    have h4 := h3 hs
    refine ⟨h0, h1, by show d.need - 1 ≤ _; omega, fun h => ?_⟩
    show 1 ≤ d.need - 1
    by_cases h5 : d.need - 1 = 0
    · have : (dataS d c).1.st = 2 := by unfold dataS; simp only [if_pos h5]
      have h' : (dataS d c).1.st = 1 := h
      rw [this] at h'; cases h'
    · omega
  | 2 =>
    show Fine (endS d c).1
    unfold endS
    repeat' split
    all_goals first
      | exact ⟨h0, h1, h2, h3⟩
      | exact ⟨h0, h1, h2, fun h => by cases h⟩
  | n + 3 =>
    show Fine (trailerS d c).1
    unfold trailerS
    repeat' split
    all_goals exact ⟨h0, h1, h2, h3⟩
end Go.Proofs.YtcfmihghgecefaaDoor.Chk
/- Package chunked, by hand: what Feed comes to; own text of this session. -/
namespace Go.Proofs.YtcfmihghgecefaaDoor.Chk
open Go.RowKit Go.Proofs.YtcfmihghgecefaaDoorW.PrintWords Go.Proofs.YtcfmihghgecefaaDoorW.PrintLast
set_option linter.unusedVariables false
/-- Byte by byte, until the body is whole or something is wrong: the decoder then, and how many bytes were read. -/
def feedGo : Dec → List Int → Nat → Dec × Nat
  | d, [], n => (d, n)
  | d, c :: r, n => if d.whole = true ∨ ¬ d.wrong = 0 then (d, n) else feedGo { (stepE d c).1 with wrong := (stepE d c).2 } r (n + 1)
theorem feed_stop (d : Dec) (b : List Int) (n : Nat) (h : b = [] ∨ d.whole = true ∨ ¬ d.wrong = 0) : feedGo d b n = (d, n) := by
  cases b with
  | nil => rfl
  | cons c r => rcases h with h | h | h; cases h; all_goals (unfold feedGo; rw [if_pos (by first | exact .inl h | exact .inr h)])
set_option maxRecDepth 100000 in
theorem stF_enters (n : Nat) : ∀ args w, (callFunc (stF n) args).run Tryd.prog w = .ok (.enter (stF n) args) w := by
  intro args w
  match n with
  | 0 => rfl
  | 1 => rfl
  | 2 => rfl
  | n + 3 => rfl
/-- What Feed leaves. -/
def FeedPost (w : World) (F : Nat → Prop) (p : Nat) (r : Dec × Nat) (e : Ending) (w' : World) : Prop :=
  ∃ v, e = .returned (.tuple #[v, .int .i64 (r.2 : Int), .bool r.1.whole, .int .i64 r.1.wrong]) ∧
    (∃ (F' G : Nat → Prop) (vl vt : Value), Rep w' F' p vl (.slice none 0 0) vt { r.1 with out := [] } ∧ (Kd.int .u8).R 5 w' 0 G v r.1.out ∧
      (∀ k, F' k → (F k ∨ w.heap.size ≤ k) ∧ k < w'.heap.size) ∧ (∀ k, G k → (F k ∨ w.heap.size ≤ k) ∧ k < w'.heap.size ∧ ¬ F' k)) ∧ Stay F w w'
/-- A row of numbers lies in its own block alone. -/
theorem own_only {w : World} {base : Nat} {ok : Nat → Prop} {v : Value} {xs : List Int} (h : (Kd.int .u8).R 5 w base ok v xs) : (Kd.int .u8).R 5 w base (fun k => ok k ∧ some k = v.ownBlock) v xs :=
  Kd.R_of_own (h1 := fun _ => rfl) (Kd.own_of_R h) (fun k hk => ⟨h.1 k hk, hk.symm⟩)
/-- The bytes that were read are handed out. -/
theorem Rep.outNil {w : World} {F : Nat → Prop} {p : Nat} {vl vo vt : Value} {d : Dec} (h : Rep w F p vl vo vt d) :
    Rep (w.setCell ⟨p, 4, none⟩ (.slice none 0 0)) (fun k => (F k ∧ some k ≠ vo.ownBlock) ∧ k < (w.setCell ⟨p, 4, none⟩ (.slice none 0 0)).heap.size) p vl (.slice none 0 0) vt { d with out := [] } ∧
    (Kd.int .u8).R 5 (w.setCell ⟨p, 4, none⟩ (.slice none 0 0)) 0 (fun k => F k ∧ some k = vo.ownBlock ∧ k < (w.setCell ⟨p, 4, none⟩ (.slice none 0 0)).heap.size) vo d.out := by
  have htr : fldK.R 62 w 0 (fun k => F k ∧ some k ≠ vo.ownBlock) vt d.tr := by
    refine Kd.R_mono (Kd.R_bound h.tr) ?_
    rintro k ⟨h1, _, _, q, hq, cells, hc⟩
    refine ⟨h1, ?_⟩
    rcases List.mem_cons.1 hq with rfl | h2
    · exact R_neT h.out hc ne_dec.2.2.2
    · exact absurd h2 (by simp [fldK, P.k62, Kd.iso, Kd.pair, Kd.string, Kd.scalar])
  have hp := R_neT h.out h.blk ne_dec.1
  refine ⟨(Rep.store (F := fun k => F k ∧ some k ≠ vo.ownBlock) (d := { d with out := [] }) (i := 4) (v := .slice none 0 0) h.blk rfl ⟨h.inF, hp⟩ (Kd.R_mono h.line (fun k hk => ⟨hk, by rw [own_nilS]; simp⟩)) (Kd.R_nil _ _ _ _ _) htr).trim, ?_⟩
  have h2 := row_u8 (own_only h.out) h.blk 4 (.slice none 0 0)
  exact Kd.R_mono (Kd.R_bound h2) (fun k hk => ⟨hk.1.1.1, hk.1.2, hk.2.2.1⟩)
theorem feed_next (d : Dec) (c : Int) (r : List Int) (n : Nat) (h1 : d.whole = false) (h2 : d.wrong = 0) : feedGo d (c :: r) n = feedGo { (stepE d c).1 with wrong := (stepE d c).2 } r (n + 1) := by
  show (if d.whole = true ∨ ¬ d.wrong = 0 then (d, n) else _) = _
  rw [if_neg (by rw [h1, h2]; simp)]
theorem held_drew {w0 w : World} {F : Nat → Prop} (h : Held w0 w F) : Held w0 w.drew F := ⟨h.inv, below_drew h.below, h.over⟩
theorem feed_end {w wr : World} {F : Nat → Prop} {p kk : Nat} {vl vo vt : Value} {dk : Dec}
    (h : Rep (wr.setCell ⟨p, 4, none⟩ (.slice none 0 0)) (fun k => ((F k ∨ w.heap.size ≤ k) ∧ some k ≠ vo.ownBlock) ∧ k < (wr.setCell ⟨p, 4, none⟩ (.slice none 0 0)).heap.size) p vl (.slice none 0 0) vt { dk with out := [] } ∧
      (Kd.int .u8).R 5 (wr.setCell ⟨p, 4, none⟩ (.slice none 0 0)) 0 (fun k => (F k ∨ w.heap.size ≤ k) ∧ some k = vo.ownBlock ∧ k < (wr.setCell ⟨p, 4, none⟩ (.slice none 0 0)).heap.size) vo dk.out)
    (hs : Stay F w (wr.setCell ⟨p, 4, none⟩ (.slice none 0 0))) : FeedPost w F p (dk, kk) (.returned (.tuple #[vo, .int .i64 (kk : Int), .bool dk.whole, .int .i64 dk.wrong])) (wr.setCell ⟨p, 4, none⟩ (.slice none 0 0)).drew := by
  refine ⟨vo, rfl, ⟨_, _, vl, vt, h.1.below (below_drew (Below.refl _ _)), Kd.R_drew h.2, fun k hk => ⟨hk.1.1, hk.2⟩, fun k hk => ⟨hk.1, hk.2.2, fun h5 => h5.1.2 hk.2.1⟩⟩, ?_⟩
  exact stay_low hs (below_drew (Below.refl _ _))
set_option maxHeartbeats 4000000 in
set_option maxRecDepth 100000 in
theorem feed_calls (w0 w : World) (F : Nat → Prop) (p : Nat) (vl vo vt : Value) (d : Dec) (A : Option Addr) (cap : Nat) (b : List Int) (h : Rep w F p vl vo vt d) (hH : Held w0 w F) (hm : d.mass + b.length ≤ 4294960000) (hd : Fine d) (hb : ∀ W', Stay F w W' → (Kd.int .u8).C W' A b.length b) :
    Calls Tryd.prog 16 #[.pointer (some ⟨p, 0, none⟩), .slice A b.length cap] w (FeedPost w F p (feedGo d b 0)) := by
  obtain ⟨r, hr⟩ : ∃ r, r = feedGo d b 0 := ⟨_, rfl⟩
  rw [← hr]
  obtain ⟨N, hN⟩ : ∃ N, N = b.length := ⟨_, rfl⟩
  rw [← hN]
  have HN := Aside0.mk hN
  have HIN := Aside0.mk h.inF
  have HH := Aside0.mk hH
  have HBy := Aside0.mk hb
  have HE0 := Aside0.mk hr
  have HR0 := Aside0.mk (h.mono (G := fun k => F k ∨ w.heap.size ≤ k) (fun _ hk => .inl hk))
  have HM0 := Aside0.mk hm
  have HD0 := Aside0.mk hd
  have hNle : (N : Int) ≤ 4294960000 := by omega
  clear h hH hm hd hb hr hN
  go_enter Tryd.func16, Tryd.ntmps16
  go_wp2
  go_loopw [8] (fun n8 wr => ∃ (kk : Nat) (dk : Dec), kk ≤ N ∧ n8 = .int .i64 kk ∧ Aside0 (∃ vl vo vt, Rep wr (fun k => F k ∨ w.heap.size ≤ k) p vl vo vt dk) ∧ Aside0 (Stay F w wr) ∧ Aside0 (r = feedGo dk (b.drop kk) kk) ∧ Aside0 (dk.mass + (b.length - kk) ≤ 4294960000) ∧ Aside0 (Fine dk)) (fun n8 _ => N - (intOf n8).toNat)
  case atStart => exact ⟨0, d, Nat.zero_le _, rfl, ⟨_, _, _, HR0.out⟩, ⟨Stay.refl _ _⟩, HE0, ⟨by have := HM0.out; omega⟩, HD0⟩
  case round =>
    obtain ⟨kk, dk, hkk, rfl, ⟨vl, vo, vt, hrp⟩, HSt, HFe, HMs, HDk⟩ := hrel
    have HRp := Aside0.mk hrp
    have hz6 : wr.cell? ⟨p, 6, none⟩ = some (.bool dk.whole) := (blk_cell hrp.blk 6).trans rfl
    have hz7 : wr.cell? ⟨p, 7, none⟩ = some (.int .i64 dk.wrong) := (blk_cell hrp.blk 7).trans rfl
    clear hrp HR0 HE0 HM0 HD0
    by_cases hlt : kk < N
    · have hltz : (kk : Int) < (N : Int) := by omega
      cases hwh : dk.whole with
      | true =>
        rw [hwh] at hz6
        have HW := Aside0.mk hwh
        clear hwh
        obtain ⟨Ao, no, hvo, hco, hCo⟩ := Kd.R_reads HRp.out.out
        subst hvo
        have hz4 : wr.cell? ⟨p, 4, none⟩ = some (.slice Ao dk.out.length no) := (blk_cell HRp.out.blk 4).trans rfl
        have hf4 := blk_frozen HRp.out.blk 4
        have HON := Aside0.mk HRp.out.outNil
        have HSN := Aside0.mk ((HSt.out.mono (G := F) (fun _ h => h)).set (p := ⟨p, 4, none⟩) HIN.out (.slice none 0 0))
        clear hco hCo
        go_wp2
        go_region
        all_goals
          go_wp2
          refine bodyPost_ret (results_list (rs := [.tmp 4, .tmp 5, .tmp 6, .tmp 7]) rfl (by simp) (.tmp (.tmp (.tmp (.tmp .nil))))) rfl ?_
          have hfe := HFe.out
          rw [feed_stop dk (b.drop kk) kk (.inr (.inl HW.out))] at hfe
          rw [hfe]
          have hfin := feed_end (kk := kk) HON.out HSN.out
          (try rw [HW.out] at hfin)
          exact hfin
      | false =>
        rw [hwh] at hz6
        have HW := Aside0.mk hwh
        clear hwh
        by_cases hwr : dk.wrong = 0
        · rw [hwr] at hz7
          obtain ⟨ad, eA, hx⟩ := Kd.at_int (HBy.out wr HSt.out) (kk : Int) (by omega) (by have := HN.out; omega)
          cases eA
          rw [Int.toNat_natCast] at hx
          have hdr : b.drop kk = rd b (kk : Int) :: b.drop (kk + 1) := by
            have hkl : kk < b.length := by have := HN.out; omega
            rw [List.drop_eq_getElem_cons hkl]
            simp [rd, hkl]
          obtain ⟨c, hc⟩ : ∃ c, c = rd b (kk : Int) := ⟨_, rfl⟩
          rw [← hc] at hx hdr
          have HDr := Aside0.mk hdr
          have HWr := Aside0.mk hwr
          obtain ⟨g, hg⟩ : ∃ g, g = stF dk.st := ⟨_, rfl⟩
          have eg : ∀ args w, (callFunc g args).run Tryd.prog w = .ok (.enter g args) w := by rw [hg]; exact stF_enters _
          have hz3 : wr.cell? ⟨p, 3, none⟩ = some (.func (.func g) #[.pointer (some ⟨p, 0, none⟩)] #[]) := by rw [hg]; exact (blk_cell HRp.out.blk 3).trans rfl
          have hC0 := step_calls w0 wr.drew _ p vl vo vt dk c (HRp.out.below (below_drew (Below.refl _ _))) (held_drew (HH.out.step HSt.out)) (by have := HMs.out; have := HN.out; omega) HDk.out
          rw [← hg] at hC0
          have HC := Aside0.mk hC0
          clear hdr hwr hc hg hC0
          go_wp2
          go_region_with (go_at_fn g; refine HC.out.mono ?_; rintro e w2 ⟨rfl, ⟨vl2, vo2, vt2, hrep2⟩, hst2⟩; have HP2 := Aside0.mk hrep2; have HS2 := Aside0.mk hst2; have hy7 : w2.cell? ⟨p, 7, none⟩ = some (.int .i64 (stepE dk c).1.wrong) := (blk_cell hrep2.blk 7).trans rfl; have hx7 := blk_frozen hrep2.blk 7; clear hrep2 hst2)
          all_goals
            go_wp2
            go_roundw
            case rel =>
              have hsm := step_mass dk c
              have hsf := step_fine dk c HDk.out
              have hfe := HFe.out
              rw [HDr.out, feed_next dk c _ kk HW.out HWr.out] at hfe
              exact ⟨kk + 1, { (stepE dk c).1 with wrong := (stepE dk c).2 }, by omega, by go_num, ⟨_, _, _, (HP2.out.scal (i := 7) (v := .int .i64 (stepE dk c).2) (d' := { (stepE dk c).1 with wrong := (stepE dk c).2 }) rfl rfl rfl rfl).mono (fun k hk => hk.elim id (fun h2 => .inr (Nat.le_trans HSt.out.size h2)))⟩,
                ⟨((stay_low HSt.out (below_drew (Below.refl _ _))).trans HS2.out (fun i hi => hi)).set (p := ⟨p, 7, none⟩) HIN.out _⟩, ⟨hfe⟩, ⟨by show (stepE dk c).1.mass + _ ≤ _; have := HMs.out; have := HN.out; omega⟩, ⟨⟨hsf.left0, hsf.left1, hsf.need1, hsf.need0⟩⟩⟩
            case measure => simp [intOf]; omega
        · have bw : (dk.wrong == 0) = false := by simpa using hwr
          have HWr := Aside0.mk hwr
          clear hwr
          obtain ⟨Ao, no, hvo, hco, hCo⟩ := Kd.R_reads HRp.out.out
          subst hvo
          have hz4 : wr.cell? ⟨p, 4, none⟩ = some (.slice Ao dk.out.length no) := (blk_cell HRp.out.blk 4).trans rfl
          have hf4 := blk_frozen HRp.out.blk 4
          have HON := Aside0.mk HRp.out.outNil
          have HSN := Aside0.mk ((HSt.out.mono (G := F) (fun _ h => h)).set (p := ⟨p, 4, none⟩) HIN.out (.slice none 0 0))
          clear hco hCo
          go_wp2
          go_region
          all_goals
            go_wp2
            refine bodyPost_ret (results_list (rs := [.tmp 4, .tmp 5, .tmp 6, .tmp 7]) rfl (by simp) (.tmp (.tmp (.tmp (.tmp .nil))))) rfl ?_
            have hfe := HFe.out
            rw [feed_stop dk (b.drop kk) kk (.inr (.inr HWr.out))] at hfe
            rw [hfe]
            have hfin := feed_end (kk := kk) HON.out HSN.out
            (try rw [HW.out] at hfin)
            exact hfin
    · have hltz : ¬ (kk : Int) < (N : Int) := by omega
      have hkn : b.drop kk = [] := by rw [List.drop_eq_nil_iff]; have := HN.out; omega
      have HKN := Aside0.mk hkn
      clear hkn
      obtain ⟨Ao, no, hvo, hco, hCo⟩ := Kd.R_reads HRp.out.out
      subst hvo
      have hz4 : wr.cell? ⟨p, 4, none⟩ = some (.slice Ao dk.out.length no) := (blk_cell HRp.out.blk 4).trans rfl
      have hf4 := blk_frozen HRp.out.blk 4
      have HON := Aside0.mk HRp.out.outNil
      have HSN := Aside0.mk ((HSt.out.mono (G := F) (fun _ h => h)).set (p := ⟨p, 4, none⟩) HIN.out (.slice none 0 0))
      clear hco hCo
      go_wp2
      go_region
      all_goals
        go_wp2
        refine bodyPost_ret (results_list (rs := [.tmp 4, .tmp 5, .tmp 6, .tmp 7]) rfl (by simp) (.tmp (.tmp (.tmp (.tmp .nil))))) rfl ?_
        have hfe := HFe.out
        rw [feed_stop dk (b.drop kk) kk (.inl HKN.out)] at hfe
        rw [hfe]
        have hfin := feed_end (kk := kk) HON.out HSN.out
        (try rw [HW.out] at hfin)
        exact hfin
end Go.Proofs.YtcfmihghgecefaaDoor.Chk
/- Package chunked, by hand: New; a nil decoder; own text of this session. -/
namespace Go.Proofs.YtcfmihghgecefaaDoor.Chk
open Go.RowKit Go.Proofs.YtcfmihghgecefaaDoorW.PrintWords Go.Proofs.YtcfmihghgecefaaDoorW.PrintLast
set_option linter.unusedVariables false
def newDec (most : Int) : Dec := ⟨most, 0, [], 0, [], [], false, 0⟩
theorem fine_new (most : Int) (h0 : 0 ≤ most) (h1 : most ≤ 9007199254740992) : Fine (newDec most) := ⟨h0, h1, by show (0 : Int) ≤ _; omega, fun h => by cases h⟩
def NewPost (most : Int) (w : World) (e : Ending) (w' : World) : Prop :=
  ∃ p, e = .returned (.tuple #[.pointer (some ⟨p, 0, none⟩), .int .i64 0]) ∧ w.heap.size ≤ p ∧ Rep w' (fun k => k = p) p (.slice none 0 0) (.slice none 0 0) (.slice none 0 0) (newDec most) ∧ Below w.heap.size w w'
set_option maxHeartbeats 4000000 in
set_option maxRecDepth 100000 in
theorem new_calls (most : Int) (w : World) (h0 : 0 ≤ most) (h1 : most ≤ 9007199254740992) :
    Calls Tryd.prog 14 #[.int .i64 most] w (NewPost most w) := by
  have hn0 : ¬ most < 0 := by omega
  have hn1 : ¬ 9007199254740992 < most := by omega
  go_enter Tryd.func14, Tryd.ntmps14
  go_wp2_with ((with_reducible refine gate_dst (N := 13) rfl ?_); refine box_event ?hg (N := 13) ?hd (cs := #[.int .i64 most, .int .i64 0, .slice none 0 0, .nilFunc, .slice none 0 0, .slice none 0 0, .bool false, .int .i64 0]) (t := 57) ?hr ?_; (case hd => rfl); (case hg => rfl); (case hr => first | (go_simp; done) | (go_simp; rfl)); intro gb hg w1 hbox hb; have BK := Aside0.mk hbox; have HB := Aside0.mk hb; have HE := Aside0.mk hg; have hz3 : w1.cell? ⟨gb, 3, none⟩ = some .nilFunc := (blk_cell hbox 3).trans rfl; have hf3 := blk_frozen hbox 3; clear hbox hb hg)
  go_ret2
  refine ⟨gb, rfl, by rw [HE.out]; exact Nat.le_refl _, Rep.store BK.out rfl rfl (Kd.R_nil _ _ _ _ _) (Kd.R_nil _ _ _ _ _) (Kd.R_nil _ _ _ _ _), ?_⟩
  exact HB.out.setCell (p := ⟨gb, 3, none⟩) (by show w.heap.size ≤ gb; rw [HE.out]; exact Nat.le_refl _) _
end Go.Proofs.YtcfmihghgecefaaDoor.Chk
/- Package chunked's laws, by hand: speaks; own text of this session. -/
namespace Go.Proofs.YtcfmihghgecefaaDoor.Chk
open Go.RowKit Go.Proofs.YtcfmihghgecefaaDoorW.PrintWords Go.Proofs.YtcfmihghgecefaaDoorW.PrintLast Go.Proofs.YtcfmihghgecefaaDoorW.PrintMore
set_option linter.unusedVariables false
set_option linter.unusedSimpArgs false
end Go.Proofs.YtcfmihghgecefaaDoor.Chk
/- A decoder, plainly: how far it reads, and never more than it may; own text of this session. -/
namespace Go.Proofs.YtcfmihghgecefaaDoor.Chk
open Go.RowKit Go.Proofs.YtcfmihghgecefaaDoorW.PrintWords Go.Proofs.YtcfmihghgecefaaDoorW.PrintLast
set_option linter.unusedVariables false
theorem feed_mass (b : List Int) : ∀ (d : Dec) (n : Nat), (feedGo d b n).1.mass ≤ d.mass + b.length := by
  induction b with
  | nil => intro d n; exact Nat.le_refl _
  | cons c r ih =>
    intro d n
    unfold feedGo
    split
    · simp
    · have h1 := step_mass d c
      refine Nat.le_trans (ih _ (n + 1)) ?_
      show (stepE d c).1.mass + r.length ≤ d.mass + (r.length + 1)
      omega
end Go.Proofs.YtcfmihghgecefaaDoor.Chk
