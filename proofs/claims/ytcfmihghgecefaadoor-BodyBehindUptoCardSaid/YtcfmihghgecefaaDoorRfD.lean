/- The reference's trailer's line, and its trailers, by hand; own text of this session. -/
import Derived.Test.YtcfmihghgecefaaDoorRfA
import Derived.Test.YtcfmihghgecefaaDoorRfX
import Derived.Handy
import Derived.Deep.RegionWith
namespace Go.Proofs.YtcfmihghgecefaaDoor.Chk
open Go.RowKit Go.Proofs.YtcfmihghgecefaaDoorW.PrintWords Go.Proofs.YtcfmihghgecefaaDoorW.PrintLast Px
set_option linter.unusedVariables false
set_option linter.unusedSimpArgs false
theorem ev_trailer_l0 (s : ByteArray) (hs : s.size ≤ 1099511627776) (rest : List UInt8) : ∀ i : Nat, s.data.toList.drop i = rest → (58 : UInt8) ∉ s.data.toList.take i → i ≤ s.size → Ev (fun k => P.headraceref10_trailer.l0 k s (i : Int)) (trailerR s) := by
  induction rest with
  | nil =>
    intro i hi hn hle
    have h1 := Px.drop_nil hi
    rw [← Px.sz] at h1
    have e : s.data.toList.take i = s.data.toList := List.take_of_length_le (by rw [← Px.sz]; exact h1)
    rw [e] at hn
    refine Ev.step (fun k => rfl) ?_
    simp only [P.headraceref10_trailer.l0, if_neg (show ¬ ((i : Int) < (s.size : Int)) by omega)]
    unfold trailerR
    rw [cut_none _ 58 hn, if_neg (by simp)]
    exact Ev.now _
  | cons c r ih =>
    intro i hi hn hle
    have h1 := Px.drop_lt hi
    have h1' := h1
    rw [← Px.sz] at h1
    have hw := Px.w64 (i := i) (by omega)
    have hsn : s.data.toList = s.data.toList.take i ++ c :: r := by rw [← hi, List.take_append_drop]
    refine Ev.step (fun k => rfl) ?_
    simp only [P.headraceref10_trailer.l0, if_pos (show (i : Int) < (s.size : Int) by omega), if_pos (show 0 ≤ (i : Int) by omega), Px.bt_nat hi, hw]
    refine Px.ev_ite (fun h2 => ?_) (fun h2 => ?_)
    · have hc : c = 58 := (eq_int c 58 (by decide)).1 h2
      subst hc
      have hcut := cut_one (s.data.toList.take i) r 58 hn
      rw [← hsn] at hcut
      have hdr : s.data.toList.drop (i + 1) = r := Px.drop_succ hi
      simp only [if_pos (show (i : Int) ≤ (s.size : Int) by omega), if_pos (show 0 ≤ ((i + 1 : Nat) : Int) by omega), if_pos (show ((i + 1 : Nat) : Int) ≤ (s.size : Int) by omega), Int.toNat_natCast, ext_take, ext_drop, hdr]
      have hrs : r.length ≤ s.size := by
        have := congrArg List.length hdr
        rw [List.length_drop, ← Px.sz] at this
        omega
      have htrim := Px.ev_rTrim (Px.mkB r) (by rw [Px.mkB_size]; omega)
      rw [Px.mkB_data] at htrim
      refine Ev.bind htrim ?_
      have hf : trailerF s = ⟨Px.mkB (s.data.toList.take i), Px.mkB (Hr.trim r)⟩ := by unfold trailerF; rw [hcut]
      have hck := ev_rCheck [(⟨Px.mkB (s.data.toList.take i), Px.mkB (Hr.trim r)⟩ : Fld)] (fun f hf => by
        rw [List.mem_singleton.1 hf]
        have := trim_len r
        refine ⟨?_, ?_⟩
        · show (Px.mkB (s.data.toList.take i)).size ≤ _
          rw [Px.mkB_size, List.length_take, ← Px.sz]; omega
        · show (Px.mkB (Hr.trim r)).size ≤ _
          rw [Px.mkB_size]; omega)
      rw [chk_one] at hck
      refine Ev.bind hck ?_
      unfold trailerR
      rw [hcut, if_pos rfl, hf]
      exact Ev.now _
    · refine ih (i + 1) (Px.drop_succ hi) ?_ (by omega)
      rw [List.take_succ_eq_append_getElem h1', List.mem_append]
      rintro (h5 | h5)
      · exact hn h5
      · have h6 : s.data.toList[i] = c := by
          have h7 := List.drop_eq_getElem_cons h1'
          rw [hi] at h7
          injection h7 with h8 _
          exact h8.symm
        rw [h6] at h5
        exact h2 ((eq_int c 58 (by decide)).2 (List.mem_singleton.1 h5).symm)
theorem rtrailer_calls (s : ByteArray) (hs : s.size ≤ 1099511627776) (w : World) : Calls Tryd.prog 23 #[.string s] w fun e w' => e = .returned (.tuple #[.agg #[.string (trailerR s).1, .string (trailerR s).2.1], .bool (trailerR s).2.2]) ∧ Below w.heap.size w w' := by
  obtain ⟨k, hk⟩ := (ev_trailer_l0 s hs _ 0 rfl (by simp) (Nat.zero_le _)).rounds
  exact P.headraceref10_trailer.calls k s _ _ _ w hk
/-- A line's text is no longer than the line. -/
theorem line_size (r : List Int) : ∀ (l : List Int) (s : ByteArray), (lineGo l r).1 = some s → s.size ≤ l.length + r.length := by
  induction r with
  | nil => intro l s h; cases h
  | cons c r ih =>
    intro l s h
    unfold lineGo at h
    match hl : lined l c with
    | (l', some s', e) =>
      rw [hl] at h
      simp only [Option.some.injEq] at h
      subst h
      have := (lined_size l c l' s' e hl).1
      simp only [List.length_cons]
      omega
    | (l', none, e) =>
      rw [hl] at h
      simp only at h
      split at h
      · have h2 := ih l' s h
        have h3 : l'.length ≤ l.length + 1 := by
          unfold lined at hl
          split at hl
          · simp only [Prod.mk.injEq] at hl; rw [← hl.1]; omega
          · split at hl
            · simp at hl
            · split at hl
              · simp only [Prod.mk.injEq] at hl; rw [← hl.1]; omega
              · simp only [Prod.mk.injEq] at hl; rw [← hl.1, List.length_append]; simp
        simp only [List.length_cons]
        omega
      · cases h
end Go.Proofs.YtcfmihghgecefaaDoor.Chk
/- The reference's trailers, by hand; own text of this session. -/
namespace Go.Proofs.YtcfmihghgecefaaDoor.Chk
open Go.RowKit Go.Proofs.YtcfmihghgecefaaDoorW.PrintWords Go.Proofs.YtcfmihghgecefaaDoorW.PrintLast
set_option linter.unusedVariables false
set_option linter.unusedSimpArgs false
def rdc (vO vT : Value) (n : Int) (wh : Bool) (e : Int) : Array Value := #[vO, vT, .int .i64 n, .bool wh, .int .i64 e]
def lenOf : Value → Nat
  | .slice _ n _ => n
  | _ => 0
/-- What trailers hands back. -/
def TrPost (vO : Value) (r : Dec × Nat) (w : World) (e : Ending) (w' : World) : Prop :=
  ∃ vT, e = .returned (.agg #[vO, vT, .int .i64 (r.2 : Int), .bool r.1.whole, .int .i64 r.1.wrong]) ∧ fldK.R 62 w' w.heap.size (fun _ => True) vT (if r.1.whole = true then r.1.tr else []) ∧ Below w.heap.size w w'
theorem set_size' (w : World) (p : Addr) (u : Value) : (w.setCell p u).heap.size = w.heap.size := by unfold World.setCell; split <;> simp
theorem blk_five {W : World} {g : Nat} {a b v0 v1 v2 v3 v4 : Value} {n e : Int} {wh : Bool} (h : W.heap[g]? = some (.cells (rdc a b n wh e) 27 (0, 0))) :
    (((((W.setCell ⟨g, 0, none⟩ v0).setCell ⟨g, 1, none⟩ v1).setCell ⟨g, 2, none⟩ v2).setCell ⟨g, 3, none⟩ v3).setCell ⟨g, 4, none⟩ v4).heap[g]? = some (.cells #[v0, v1, v2, v3, v4] 27 (0, 0)) :=
  blk_put (blk_put (blk_put (blk_put (blk_put h 0 _ rfl) 1 _ rfl) 2 _ rfl) 3 _ rfl) 4 _ rfl
set_option maxHeartbeats 16000000 in
set_option maxRecDepth 100000 in
theorem trailers_ref (b : List Int) (hbl : b.length ≤ 1073741824) (N : Nat) (hN : N ≤ b.length) (left need e0 : Int) (out : List Int) (AO : Option Addr) (LO CO : Nat) (A : Option Addr) (c : Nat) (w : World) (hr : (Kd.int .u8).C w A b.length b) (hc : b.length ≤ c) :
    Calls Tryd.prog 19 #[.agg #[.slice AO LO CO, .slice none 0 0, .int .i64 (N : Int), .bool false, .int .i64 e0], .slice A b.length c] w (TrPost (.slice AO LO CO) (feedGo (D left need [] 3 out []) (b.drop N) N) w) := by
  have HBl : Aside0 (b.length ≤ 1099511627776) := ⟨by omega⟩
  have HCb := Aside0.mk hr
  have Hc := Aside0.mk hc
  have HN := Aside0.mk hN
  obtain ⟨L, hL⟩ : ∃ L, L = b.length := ⟨_, rfl⟩
  have HL := Aside0.mk hL
  have hLle : (L : Int) ≤ 1073741824 := by omega
  rw [← hL]
  clear hbl hr hc hN hL
  go_enter Tryd.func19, Tryd.ntmps19
  go_wp2_with (first
    | ((with_reducible refine gate_dst (N := 2) rfl ?_); refine box_event ?hg (N := 2) ?hd (cs := #[.slice AO LO CO, .slice none 0 0, .int .i64 (N : Int), .bool false, .int .i64 e0]) (t := 27) ?hr ?_; (case hd => rfl); (case hg => rfl); (case hr => first | (go_simp; done) | (go_simp; rfl)); intro g2 hg2 w2 hbox2 hb2; have HK2' := Aside0.mk hbox2; have HB2' := Aside0.mk hb2; have HG2 := Aside0.mk hg2; clear hbox2 hb2 hg2)
    | ((with_reducible refine gate_dst (N := 4) rfl ?_); refine box_event ?hg (N := 4) ?hd (cs := #[.slice none 0 0, .slice none 0 0, .int .i64 0, .bool false, .int .i64 0]) (t := 27) ?hr ?_; (case hd => rfl); (case hg => rfl); (case hr => first | (go_simp; done) | (go_simp; rfl)); intro g4 hg4 w4 hbox4 hb4; have HK4' := Aside0.mk hbox4; have HB4' := Aside0.mk hb4; have HG4 := Aside0.mk hg4; clear hbox4 hb4 hg4))
  have hne : g2 ≠ g4 := by rw [HG2.out, HG4.out]; have h5 := blk_lt HK2'.out; rw [HG2.out] at h5; omega
  have hne1 : ¬ g2 = g4 := hne
  have hne2 : ¬ g4 = g2 := fun h => hne h.symm
  have HGE2 : Aside0 (w.heap.size ≤ g2) := ⟨by rw [HG2.out]; exact Nat.le_refl _⟩
  have HGE4 : Aside0 (w.heap.size ≤ g4) := ⟨by rw [HG4.out]; exact HB2'.out.size⟩
  have HS2 : Aside0 (w4.heap[g2]? = some (.cells (rdc (.slice AO LO CO) (.slice none 0 0) (N : Int) false e0) 27 (0, 0))) := ⟨(HB4'.out.block g2 (blk_lt HK2'.out)).trans HK2'.out⟩
  have HB4 : Aside0 (Below w.heap.size w w4) := ⟨below_step HB2'.out HB4'.out⟩
  clear HK2' HB2' HB4' HG2 HG4
  go_loopw [5] (fun v5 wr => ∃ (n : Nat) (e : Int) (tr : List Fld) (v : Value), v = v5 ∧ Aside0 (wr.heap[g2]? = some (.cells (rdc (.slice AO LO CO) (.slice none 0 0) (n : Int) false e) 27 (0, 0))) ∧ Aside0 (wr.heap[g4]? = some (.cells (rdc (.slice none 0 0) (.slice none 0 0) 0 false 0) 27 (0, 0))) ∧
    Aside0 (fldK.R 62 wr w.heap.size (fun k => k ≠ g2 ∧ k ≠ g4) v tr) ∧ Aside0 (Below w.heap.size w wr) ∧ Aside0 (n ≤ b.length) ∧ tr.length ≤ 100 ∧ Aside0 (feedGo (D left need [] 3 out []) (b.drop N) N = feedGo (D left need [] 3 out tr) (b.drop n) n)) (fun v5 _ => 101 - lenOf v5)
  case atStart => exact ⟨N, e0, [], _, rfl, HS2, HK4', ⟨Kd.R_nil _ _ _ _ _⟩, HB4, HN, by decide, ⟨rfl⟩⟩
  case round =>
    obtain ⟨n, e1, tr, v5, rfl, HK2, HK4, HRo, HB, HNl, htr, HFe⟩ := hrel
    clear HS2 HK4' HB4
    obtain ⟨AV, cV, rfl, _⟩ := Kd.R_reads HRo.out
    obtain ⟨T, hT⟩ : ∃ T, T = tr.length := ⟨_, rfl⟩
    have HT := Aside0.mk hT
    rw [← hT] at HRo htr ⊢
    clear hT
    have rz2 : wr.cell? ⟨g2, 2, none⟩ = some (.int .i64 (n : Int)) := (blk_cell HK2.out 2).trans rfl
    go_wp2_with fail
    rw [HL.out]
    refine (line_calls b HBl.out n HNl.out A c wr (Kd.C_below HCb.out HB.out) Hc.out).mono ?_
    rintro e' w1 ⟨rfl, hd1⟩
    have hb1 := hd1.below
    have HB1 := Aside0.mk (below_step HB.out hb1)
    have hk2 : w1.heap[g2]? = some (.cells (rdc (.slice AO LO CO) (.slice none 0 0) n false e1) 27 (0, 0)) := (hb1.block g2 (blk_lt HK2.out)).trans HK2.out
    have hk4 : w1.heap[g4]? = some (.cells (rdc (.slice none 0 0) (.slice none 0 0) 0 false 0) 27 (0, 0)) := (hb1.block g4 (blk_lt HK4.out)).trans HK4.out
    have HRo1 := Aside0.mk (Kd.R_below HRo.out hb1)
    have K2 := Aside0.mk hk2
    have K4 := Aside0.mk hk4
    have az0 : w1.cell? ⟨g2, 0, none⟩ = some (.slice AO LO CO) := (blk_cell hk2 0).trans rfl
    have az1 : w1.cell? ⟨g2, 1, none⟩ = some (.slice none 0 0) := (blk_cell hk2 1).trans rfl
    have az2 : w1.cell? ⟨g2, 2, none⟩ = some (.int .i64 (n : Int)) := (blk_cell hk2 2).trans rfl
    have az3 : w1.cell? ⟨g2, 3, none⟩ = some (.bool false) := (blk_cell hk2 3).trans rfl
    have az4 : w1.cell? ⟨g2, 4, none⟩ = some (.int .i64 e1) := (blk_cell hk2 4).trans rfl
    have af0 := blk_frozen hk2 0
    have af1 := blk_frozen hk2 1
    have af2 := blk_frozen hk2 2
    have af3 := blk_frozen hk2 3
    have af4 := blk_frozen hk2 4
    have cz0 : w1.cell? ⟨g4, 0, none⟩ = some (.slice none 0 0) := (blk_cell hk4 0).trans rfl
    have cz1 : w1.cell? ⟨g4, 1, none⟩ = some (.slice none 0 0) := (blk_cell hk4 1).trans rfl
    have cz2 : w1.cell? ⟨g4, 2, none⟩ = some (.int .i64 0) := (blk_cell hk4 2).trans rfl
    have cz3 : w1.cell? ⟨g4, 3, none⟩ = some (.bool false) := (blk_cell hk4 3).trans rfl
    have cz4 : w1.cell? ⟨g4, 4, none⟩ = some (.int .i64 0) := (blk_cell hk4 4).trans rfl
    have cf0 := blk_frozen hk4 0
    have cf1 := blk_frozen hk4 1
    have cf2 := blk_frozen hk4 2
    have cf3 := blk_frozen hk4 3
    have cf4 := blk_frozen hk4 4
    clear hd1 hb1 hk2 hk4
    obtain ⟨⟨os, eL, m, l'⟩, hq⟩ : ∃ q, q = lineGo [] (b.drop n) := ⟨_, rfl⟩
    have HQ := Aside0.mk hq
    have hml : m ≤ b.length - n := by
      have h5 := line_len (b.drop n) []
      rw [← hq, List.length_drop] at h5
      exact h5
    rw [← hq, ← HL.out]
    clear hq
    have hnm : ((n + m : Nat) : Int) ≤ 1099511627776 := by have := HBl.out; have := HNl.out; omega
    obtain ⟨n2, hn2⟩ : ∃ x, x = n + m := ⟨_, rfl⟩
    have Hn2 := Aside0.mk hn2
    simp only []
    rw [← hn2] at hnm ⊢
    clear hn2 hml
    match os, HQ with
    | none, HQ =>
      have hfd := feed_none (left := left) (need := need) (out := out) (tr := tr) (.inr rfl) (b.drop n) [] n (by rw [← HQ.out])
      rw [← HQ.out] at hfd
      have HFd := Aside0.mk hfd
      clear hfd
      go_wp2
      refine bodyPost_ret (results_cell_row rfl _ _ g4 27 #[.slice AO LO CO, .slice none 0 0, .int .i64 (n2 : Int), .bool false, .int .i64 eL] (0, 0) _ rfl (blk_five ((Below.heap_setCell _ _ _ _ hne2).trans ((Below.heap_setCell _ _ _ _ hne2).trans (K4.out)))) Tryd.underlying27 rfl (by kernel_rfl)) rfl ?_
      refine ⟨.slice none 0 0, ?_, ?_, (((((((HB1.out).setCell (p := ⟨g2, 2, none⟩) HGE2.out _).setCell (p := ⟨g2, 4, none⟩) HGE2.out _).setCell (p := ⟨g4, 0, none⟩) HGE4.out _).setCell (p := ⟨g4, 1, none⟩) HGE4.out _).setCell (p := ⟨g4, 2, none⟩) HGE4.out _).setCell (p := ⟨g4, 3, none⟩) HGE4.out _).setCell (p := ⟨g4, 4, none⟩) HGE4.out _⟩
      · rw [HFe.out, HFd.out, Hn2.out]
        rfl
      · rw [HFe.out, HFd.out]
        exact Kd.R_nil _ _ _ _ _
    | some s, HQ =>
      have hE : eL = 0 := by
        obtain ⟨_, _, _, h5, _⟩ := feed_some (left := left) (need := need) (out := out) (tr := tr) (.inr rfl) (b.drop n) [] n s (by rw [← HQ.out])
        rw [← HQ.out] at h5
        exact h5
      subst hE
      have hfd := feed_trailer (left := left) (need := need) (out := out) (tr := tr) (b.drop n) n s (by rw [← HQ.out])
      rw [← HQ.out] at hfd
      have HFd := Aside0.mk hfd
      have hss : s.size ≤ 1099511627776 := by
        have h5 := line_size (b.drop n) [] s (by rw [← HQ.out])
        rw [List.length_drop] at h5
        have := HBl.out
        simp only [List.length_nil] at h5
        omega
      have HSs := Aside0.mk hss
      clear hfd hss
      by_cases hse : s.size = 0
      · have hemp : s.toList.isEmpty = true := Lex.emptyB hse
        have HSe := Aside0.mk hse
        clear hse
        go_wp2
        refine bodyPost_ret (results_cell_row rfl _ _ g4 27 #[.slice AO LO CO, .slice AV T cV, .int .i64 (n2 : Int), .bool true, .int .i64 0] (0, 0) _ rfl (blk_five ((Below.heap_setCell _ _ _ _ hne2).trans ((Below.heap_setCell _ _ _ _ hne2).trans ((Below.heap_setCell _ _ _ _ hne2).trans ((Below.heap_setCell _ _ _ _ hne2).trans (K4.out)))))) Tryd.underlying27 rfl (by kernel_rfl)) rfl ?_
        refine ⟨.slice AV T cV, ?_, ?_, (((((((((HB1.out).setCell (p := ⟨g2, 2, none⟩) HGE2.out _).setCell (p := ⟨g2, 4, none⟩) HGE2.out _).setCell (p := ⟨g2, 1, none⟩) HGE2.out _).setCell (p := ⟨g2, 3, none⟩) HGE2.out _).setCell (p := ⟨g4, 0, none⟩) HGE4.out _).setCell (p := ⟨g4, 1, none⟩) HGE4.out _).setCell (p := ⟨g4, 2, none⟩) HGE4.out _).setCell (p := ⟨g4, 3, none⟩) HGE4.out _).setCell (p := ⟨g4, 4, none⟩) HGE4.out _⟩
        · rw [HFe.out, HFd.out, if_pos HSe.out, Hn2.out]
          try rfl
        · rw [HFe.out, HFd.out, if_pos HSe.out]
          show fldK.R _ _ _ _ _ tr
          refine Kd.R_mono (Kd.R_step HRo1.out (fun k hk _ => ?_)) (fun _ _ => trivial)
          have h1 := hk.1
          have h2 := hk.2
          rw [Below.heap_setCell _ _ _ _ h2, Below.heap_setCell _ _ _ _ h2, Below.heap_setCell _ _ _ _ h2, Below.heap_setCell _ _ _ _ h2, Below.heap_setCell _ _ _ _ h2, Below.heap_setCell _ _ _ _ h1, Below.heap_setCell _ _ _ _ h1, Below.heap_setCell _ _ _ _ h1, Below.heap_setCell _ _ _ _ h1]
      · have hemp : s.toList.isEmpty = false := Lex.emptyB_no hse
        have HSe := Aside0.mk hse
        clear hse
        go_wp2_with fail
        have htc := rtrailer_calls s HSs.out ((w1.setCell ⟨g2, 2, none⟩ (.int .i64 (n2 : Int))).setCell ⟨g2, 4, none⟩ (.int .i64 0))
        obtain ⟨⟨ta, tt, tok⟩, htr⟩ : ∃ q, q = trailerR s := ⟨_, rfl⟩
        rw [← htr] at htc
        have HTr := Aside0.mk htr
        refine htc.mono ?_
        rintro e' w3 ⟨rfl, hb3⟩
        have hk2 : w3.heap[g2]? = some (.cells (rdc (.slice AO LO CO) (.slice none 0 0) n2 false 0) 27 (0, 0)) := (hb3.block g2 (by rw [set_size', set_size']; exact blk_lt K2.out)).trans (blk_put (blk_put K2.out 2 _ rfl) 4 _ rfl)
        have hk4 : w3.heap[g4]? = some (.cells (rdc (.slice none 0 0) (.slice none 0 0) 0 false 0) 27 (0, 0)) := (hb3.block g4 (by rw [set_size', set_size']; exact blk_lt K4.out)).trans ((Below.heap_setCell _ _ _ _ hne2).trans ((Below.heap_setCell _ _ _ _ hne2).trans K4.out))
        have HB3 : Aside0 (Below w.heap.size w w3) := ⟨below_step ((HB1.out.setCell (p := ⟨g2, 2, none⟩) HGE2.out _).setCell (p := ⟨g2, 4, none⟩) HGE2.out _) hb3⟩
        have HRo3 : Aside0 (fldK.R 62 w3 w.heap.size (fun k => k ≠ g2 ∧ k ≠ g4) (.slice AV T cV) tr) := ⟨Kd.R_below (Kd.R_step HRo1.out (fun k hk _ => by rw [Below.heap_setCell _ _ _ _ hk.1, Below.heap_setCell _ _ _ _ hk.1])) hb3⟩
        have K23 := Aside0.mk hk2
        have K43 := Aside0.mk hk4
        clear az0 az1 az2 az3 az4 af0 af1 af2 af3 af4 cz0 cz1 cz2 cz3 cz4 cf0 cf1 cf2 cf3 cf4 rz2 htc htr
        have az0 : w3.cell? ⟨g2, 0, none⟩ = some (.slice AO LO CO) := (blk_cell hk2 0).trans rfl
        have az1 : w3.cell? ⟨g2, 1, none⟩ = some (.slice none 0 0) := (blk_cell hk2 1).trans rfl
        have az2 : w3.cell? ⟨g2, 2, none⟩ = some (.int .i64 (n2 : Int)) := (blk_cell hk2 2).trans rfl
        have az3 : w3.cell? ⟨g2, 3, none⟩ = some (.bool false) := (blk_cell hk2 3).trans rfl
        have az4 : w3.cell? ⟨g2, 4, none⟩ = some (.int .i64 0) := (blk_cell hk2 4).trans rfl
        have af0 := blk_frozen hk2 0
        have af1 := blk_frozen hk2 1
        have af2 := blk_frozen hk2 2
        have af3 := blk_frozen hk2 3
        have af4 := blk_frozen hk2 4
        have cz0 : w3.cell? ⟨g4, 0, none⟩ = some (.slice none 0 0) := (blk_cell hk4 0).trans rfl
        have cz1 : w3.cell? ⟨g4, 1, none⟩ = some (.slice none 0 0) := (blk_cell hk4 1).trans rfl
        have cz2 : w3.cell? ⟨g4, 2, none⟩ = some (.int .i64 0) := (blk_cell hk4 2).trans rfl
        have cz3 : w3.cell? ⟨g4, 3, none⟩ = some (.bool false) := (blk_cell hk4 3).trans rfl
        have cz4 : w3.cell? ⟨g4, 4, none⟩ = some (.int .i64 0) := (blk_cell hk4 4).trans rfl
        have cf0 := blk_frozen hk4 0
        have cf1 := blk_frozen hk4 1
        have cf2 := blk_frozen hk4 2
        have cf3 := blk_frozen hk4 3
        have cf4 := blk_frozen hk4 4
        clear hb3 hk2 hk4
        have bad : ∀ (_ : (Lib.cut s.data.toList [58]).2.2 = false ∨ tr.length = 100 ∨ ¬ fldE (trailerF s) = 0), feedGo (D left need [] 3 out []) (b.drop N) N = (DW left need [] 3 out tr 100, n2) := fun h => by rw [HFe.out, HFd.out, if_neg HSe.out, if_pos h, Hn2.out]
        have HBad := Aside0.mk bad
        clear bad
        cases tok with
        | false =>
          have hb : (Lib.cut s.data.toList [58]).2.2 = false ∨ tr.length = 100 ∨ ¬ fldE (trailerF s) = 0 := by
            have h5 := HTr.out
            unfold trailerR at h5
            split at h5
            · simp only [Prod.mk.injEq] at h5
              have h6 := h5.2.2
              exact .inr (.inr (by simpa using h6.symm))
            · rename_i h6
              exact .inl (by simpa using h6)
          have HRes := Aside0.mk (HBad.out hb)
          clear hb
          go_wp2_with ((with_reducible refine gate_dst (N := 10) rfl ?_); refine box_event ?hg (N := 10) ?hd (cs := #[.string (⟨#[]⟩ : ByteArray), .string (⟨#[]⟩ : ByteArray)]) (t := 62) ?hr ?_; (case hd => rfl); (case hg => rfl); (case hr => first | (go_simp; done) | (go_simp; rfl)); intro gb hgb w5 hbox hb; have B5 := Aside0.mk hb; have GEE := Aside0.mk hgb; have hk2 := (hb.block g2 (blk_lt K23.out)).trans K23.out; have hk4 := (hb.block g4 (blk_lt K43.out)).trans K43.out; have hx1 : ¬ g2 = gb := (by have := blk_lt K23.out; omega); have hx2 : ¬ gb = g2 := (fun h => hx1 h.symm); have hx3 : ¬ g4 = gb := (by have := blk_lt K43.out; omega); have hx4 : ¬ gb = g4 := (fun h => hx3 h.symm); clear hb hgb az0 az1 az2 az3 az4 af0 af1 af2 af3 af4 cz0 cz1 cz2 cz3 cz4 cf0 cf1 cf2 cf3 cf4; have az0 : w5.cell? ⟨g2, 0, none⟩ = some (.slice AO LO CO) := (blk_cell hk2 0).trans rfl; have az1 : w5.cell? ⟨g2, 1, none⟩ = some (.slice none 0 0) := (blk_cell hk2 1).trans rfl; have az2 : w5.cell? ⟨g2, 2, none⟩ = some (.int .i64 (n2 : Int)) := (blk_cell hk2 2).trans rfl; have az3 : w5.cell? ⟨g2, 3, none⟩ = some (.bool false) := (blk_cell hk2 3).trans rfl; have az4 : w5.cell? ⟨g2, 4, none⟩ = some (.int .i64 0) := (blk_cell hk2 4).trans rfl; have af0 := blk_frozen hk2 0; have af1 := blk_frozen hk2 1; have af2 := blk_frozen hk2 2; have af3 := blk_frozen hk2 3; have af4 := blk_frozen hk2 4; have cz0 : w5.cell? ⟨g4, 0, none⟩ = some (.slice none 0 0) := (blk_cell hk4 0).trans rfl; have cz1 : w5.cell? ⟨g4, 1, none⟩ = some (.slice none 0 0) := (blk_cell hk4 1).trans rfl; have cz2 : w5.cell? ⟨g4, 2, none⟩ = some (.int .i64 0) := (blk_cell hk4 2).trans rfl; have cz3 : w5.cell? ⟨g4, 3, none⟩ = some (.bool false) := (blk_cell hk4 3).trans rfl; have cz4 : w5.cell? ⟨g4, 4, none⟩ = some (.int .i64 0) := (blk_cell hk4 4).trans rfl; have cf0 := blk_frozen hk4 0; have cf1 := blk_frozen hk4 1; have cf2 := blk_frozen hk4 2; have cf3 := blk_frozen hk4 3; have cf4 := blk_frozen hk4 4; have K25 := Aside0.mk hk2; have K45 := Aside0.mk hk4; have hc0 : w5.cell? ⟨gb, 0, none⟩ = some (.string (⟨#[]⟩ : ByteArray)) := (blk_cell hbox 0).trans rfl; have hc1 : w5.cell? ⟨gb, 1, none⟩ = some (.string (⟨#[]⟩ : ByteArray)) := (blk_cell hbox 1).trans rfl; have hfr0 := blk_frozen hbox 0; have hfr1 := blk_frozen hbox 1; clear hbox hk2 hk4; have HB5 : Aside0 (Below w.heap.size w ((w5.setCell ⟨gb, 0, none⟩ (.string ta)).setCell ⟨gb, 1, none⟩ (.string tt))) := ⟨((below_step HB3.out B5.out).setCell (p := ⟨gb, 0, none⟩) (by rw [GEE.out]; exact HB3.out.size) _).setCell (p := ⟨gb, 1, none⟩) (by rw [GEE.out]; exact HB3.out.size) _⟩)
          refine bodyPost_ret (results_cell_row rfl _ _ g4 27 #[.slice AO LO CO, .slice none 0 0, .int .i64 (n2 : Int), .bool false, .int .i64 100] (0, 0) _ rfl (blk_five ((Below.heap_setCell _ _ _ _ hne2).trans ((Below.heap_setCell _ _ _ _ hx3).trans ((Below.heap_setCell _ _ _ _ hx3).trans (K45.out))))) Tryd.underlying27 rfl (by kernel_rfl)) rfl ?_
          refine ⟨.slice none 0 0, ?_, ?_, ((((((HB5.out).setCell (p := ⟨g2, 4, none⟩) HGE2.out _).setCell (p := ⟨g4, 0, none⟩) HGE4.out _).setCell (p := ⟨g4, 1, none⟩) HGE4.out _).setCell (p := ⟨g4, 2, none⟩) HGE4.out _).setCell (p := ⟨g4, 3, none⟩) HGE4.out _).setCell (p := ⟨g4, 4, none⟩) HGE4.out _⟩
          · rw [HRes.out]
            rfl
          · rw [HRes.out]
            exact Kd.R_nil _ _ _ _ _
        | true =>
          by_cases hT : T = 100
          · have HRes := Aside0.mk (HBad.out (.inr (.inl (by rw [← HT.out]; exact hT))))
            have hTz : (100 : Int) ≤ (T : Int) := by omega
            clear hT
            go_wp2_with ((with_reducible refine gate_dst (N := 10) rfl ?_); refine box_event ?hg (N := 10) ?hd (cs := #[.string (⟨#[]⟩ : ByteArray), .string (⟨#[]⟩ : ByteArray)]) (t := 62) ?hr ?_; (case hd => rfl); (case hg => rfl); (case hr => first | (go_simp; done) | (go_simp; rfl)); intro gb hgb w5 hbox hb; have B5 := Aside0.mk hb; have GEE := Aside0.mk hgb; have hk2 := (hb.block g2 (blk_lt K23.out)).trans K23.out; have hk4 := (hb.block g4 (blk_lt K43.out)).trans K43.out; have hx1 : ¬ g2 = gb := (by have := blk_lt K23.out; omega); have hx2 : ¬ gb = g2 := (fun h => hx1 h.symm); have hx3 : ¬ g4 = gb := (by have := blk_lt K43.out; omega); have hx4 : ¬ gb = g4 := (fun h => hx3 h.symm); clear hb hgb az0 az1 az2 az3 az4 af0 af1 af2 af3 af4 cz0 cz1 cz2 cz3 cz4 cf0 cf1 cf2 cf3 cf4; have az0 : w5.cell? ⟨g2, 0, none⟩ = some (.slice AO LO CO) := (blk_cell hk2 0).trans rfl; have az1 : w5.cell? ⟨g2, 1, none⟩ = some (.slice none 0 0) := (blk_cell hk2 1).trans rfl; have az2 : w5.cell? ⟨g2, 2, none⟩ = some (.int .i64 (n2 : Int)) := (blk_cell hk2 2).trans rfl; have az3 : w5.cell? ⟨g2, 3, none⟩ = some (.bool false) := (blk_cell hk2 3).trans rfl; have az4 : w5.cell? ⟨g2, 4, none⟩ = some (.int .i64 0) := (blk_cell hk2 4).trans rfl; have af0 := blk_frozen hk2 0; have af1 := blk_frozen hk2 1; have af2 := blk_frozen hk2 2; have af3 := blk_frozen hk2 3; have af4 := blk_frozen hk2 4; have cz0 : w5.cell? ⟨g4, 0, none⟩ = some (.slice none 0 0) := (blk_cell hk4 0).trans rfl; have cz1 : w5.cell? ⟨g4, 1, none⟩ = some (.slice none 0 0) := (blk_cell hk4 1).trans rfl; have cz2 : w5.cell? ⟨g4, 2, none⟩ = some (.int .i64 0) := (blk_cell hk4 2).trans rfl; have cz3 : w5.cell? ⟨g4, 3, none⟩ = some (.bool false) := (blk_cell hk4 3).trans rfl; have cz4 : w5.cell? ⟨g4, 4, none⟩ = some (.int .i64 0) := (blk_cell hk4 4).trans rfl; have cf0 := blk_frozen hk4 0; have cf1 := blk_frozen hk4 1; have cf2 := blk_frozen hk4 2; have cf3 := blk_frozen hk4 3; have cf4 := blk_frozen hk4 4; have K25 := Aside0.mk hk2; have K45 := Aside0.mk hk4; have hc0 : w5.cell? ⟨gb, 0, none⟩ = some (.string (⟨#[]⟩ : ByteArray)) := (blk_cell hbox 0).trans rfl; have hc1 : w5.cell? ⟨gb, 1, none⟩ = some (.string (⟨#[]⟩ : ByteArray)) := (blk_cell hbox 1).trans rfl; have hfr0 := blk_frozen hbox 0; have hfr1 := blk_frozen hbox 1; clear hbox hk2 hk4; have HB5 : Aside0 (Below w.heap.size w ((w5.setCell ⟨gb, 0, none⟩ (.string ta)).setCell ⟨gb, 1, none⟩ (.string tt))) := ⟨((below_step HB3.out B5.out).setCell (p := ⟨gb, 0, none⟩) (by rw [GEE.out]; exact HB3.out.size) _).setCell (p := ⟨gb, 1, none⟩) (by rw [GEE.out]; exact HB3.out.size) _⟩)
            refine bodyPost_ret (results_cell_row rfl _ _ g4 27 #[.slice AO LO CO, .slice none 0 0, .int .i64 (n2 : Int), .bool false, .int .i64 100] (0, 0) _ rfl (blk_five ((Below.heap_setCell _ _ _ _ hne2).trans ((Below.heap_setCell _ _ _ _ hx3).trans ((Below.heap_setCell _ _ _ _ hx3).trans (K45.out))))) Tryd.underlying27 rfl (by kernel_rfl)) rfl ?_
            refine ⟨.slice none 0 0, ?_, ?_, ((((((HB5.out).setCell (p := ⟨g2, 4, none⟩) HGE2.out _).setCell (p := ⟨g4, 0, none⟩) HGE4.out _).setCell (p := ⟨g4, 1, none⟩) HGE4.out _).setCell (p := ⟨g4, 2, none⟩) HGE4.out _).setCell (p := ⟨g4, 3, none⟩) HGE4.out _).setCell (p := ⟨g4, 4, none⟩) HGE4.out _⟩
            · rw [HRes.out]
              rfl
            · rw [HRes.out]
              exact Kd.R_nil _ _ _ _ _
          · have hTz : ¬ (100 : Int) ≤ (T : Int) := by omega
            have hgood : feedGo (D left need [] 3 out []) (b.drop N) N = feedGo (D left need [] 3 out (tr ++ [(⟨ta, tt⟩ : Fld)])) (b.drop n2) n2 := by
              have h5 := HTr.out
              unfold trailerR at h5
              split at h5
              · rename_i h6
                simp only [Prod.mk.injEq] at h5
                have h7 : trailerF s = (⟨ta, tt⟩ : Fld) := by rw [h5.1, h5.2.1]
                have h8 : fldE (trailerF s) = 0 := by simpa using h5.2.2.symm
                rw [HFe.out, HFd.out, if_neg HSe.out, if_neg (by
                  rintro (h9 | h9 | h9)
                  · rw [h6] at h9; cases h9
                  · rw [← HT.out] at h9; exact hT h9
                  · exact h9 h8), h7, List.drop_drop, Hn2.out]
              · simp at h5
            have HGo := Aside0.mk hgood
            have HN2 : Aside0 (n2 ≤ b.length) := ⟨by
              have h5 := line_len (b.drop n) []
              rw [← HQ.out, List.length_drop] at h5
              have := Hn2.out; have := HNl.out
              simp only at h5
              omega⟩
            clear hgood
            go_wp2_with (first
              | ((with_reducible refine gate_dst (N := 10) rfl ?_); refine box_event ?hg (N := 10) ?hd (cs := #[.string (⟨#[]⟩ : ByteArray), .string (⟨#[]⟩ : ByteArray)]) (t := 62) ?hr ?_; (case hd => rfl); (case hg => rfl); (case hr => first | (go_simp; done) | (go_simp; rfl)); intro gb hgb w5 hbox hb; have B5 := Aside0.mk hb; have GEE := Aside0.mk hgb; clear hb hgb; have hc0 : w5.cell? ⟨gb, 0, none⟩ = some (.string (⟨#[]⟩ : ByteArray)) := (blk_cell hbox 0).trans rfl; have hc1 : w5.cell? ⟨gb, 1, none⟩ = some (.string (⟨#[]⟩ : ByteArray)) := (blk_cell hbox 1).trans rfl; have hfr0 := blk_frozen hbox 0; have hfr1 := blk_frozen hbox 1; clear hbox; have HB5 : Aside0 (Below w3.heap.size w3 ((w5.setCell ⟨gb, 0, none⟩ (.string ta)).setCell ⟨gb, 1, none⟩ (.string tt))) := ⟨(B5.out.setCell (p := ⟨gb, 0, none⟩) (by rw [GEE.out]; exact Nat.le_refl _) _).setCell (p := ⟨gb, 1, none⟩) (by rw [GEE.out]; exact Nat.le_refl _) _⟩)
              | ((with_reducible refine gate_builtin (b := .append) (xs := #[.tmp 48, .tmp 50]) rfl ?_); at_builtin; refine Kd.R_append fldK (w0 := w) w.heap.size rfl (.tmp 48) (.tmp 50) 25 62 (.agg #[.string ⟨#[]⟩, .string ⟨#[]⟩]) 32 rfl Tryd.underlying25 info_fld rfl (by decide) (by omega) (.slice AV T cV) tr (⟨ta, tt⟩ : Fld) [.string ta, .string tt] (fun k => k ≠ g2 ∧ k ≠ g4) (fun _ => False) rfl (by rw [set_size', set_size']; rfl) (P.k62_mkM _ _ _ (⟨ta, tt⟩ : Fld)) (fun _ hk => hk.elim) (fun k hk => by have h5 := blk_lt K23.out; have h6 := blk_lt K43.out; have h7 := HB5.out.size; omega) (Kd.R_below HRo3.out HB5.out) (below_step HB3.out HB5.out) (Nat.le_trans HB3.out.size HB5.out.size) (by have := HT.out; omega) ?_; intro v6 w6 hR6 hb6 hg6 hat6; have HR6 := Aside0.mk hR6; have HB6 := Aside0.mk hb6; have HG6 := Aside0.mk hg6; clear hR6 hb6 hg6 hat6))
            go_roundw
            case rel =>
              have far : ∀ g, w.heap.size ≤ g → g < w3.heap.size → (g = g2 ∨ g = g4) → w6.heap[g]? = w3.heap[g]? := by
                intro g _ hg hgo
                have h1 := HB5.out.block g hg
                have hlt2 : g < ((w5.setCell ⟨gb, 0, none⟩ (.string ta)).setCell ⟨gb, 1, none⟩ (.string tt)).heap.size := Nat.lt_of_lt_of_le hg HB5.out.size
                have h2 := HG6.out.block g hlt2 (fun e => by
                  have h5 := HRo3.out.1 g e.symm
                  rcases hgo with h6 | h6
                  · exact h5.1 h6
                  · exact h5.2 h6)
                exact h2.trans h1
              refine ⟨n2, 0, tr ++ [(⟨ta, tt⟩ : Fld)], v6, rfl, ⟨(far g2 HGE2.out (blk_lt K23.out) (.inl rfl)).trans K23.out⟩, ⟨(far g4 HGE4.out (blk_lt K43.out) (.inr rfl)).trans K43.out⟩, HR6, HB6, HN2, by rw [List.length_append, ← HT.out]; simp only [List.length_singleton]; omega, HGo⟩
            case measure =>
              obtain ⟨A6, c6, e6⟩ := Kd.R_slice HR6.out
              rw [e6, List.length_append, ← HT.out]
              simp only [lenOf, List.length_singleton]
              omega
end Go.Proofs.YtcfmihghgecefaaDoor.Chk
/- The reference's All, by hand; own text of this session. -/
namespace Go.Proofs.YtcfmihghgecefaaDoor.Chk
open Go.RowKit Go.Proofs.YtcfmihghgecefaaDoorW.PrintWords Go.Proofs.YtcfmihghgecefaaDoorW.PrintLast
set_option linter.unusedVariables false
set_option linter.unusedSimpArgs false
/-- Behind a size line: a chunk's bytes, so many more. -/
def dOf (left need : Int) (out : List Int) : Dec := if need = 0 then D left 0 [] 2 out [] else D left need [] 1 out []
theorem feed_dOf {left need : Int} {out : List Int} (h : 1 ≤ need) (c : Int) (r : List Int) (n : Nat) : feedGo (dOf left need out) (c :: r) n = feedGo (dOf left (need - 1) (out ++ [c])) r (n + 1) := by
  have e : dOf left need out = D left need [] 1 out [] := by unfold dOf; rw [if_neg (by omega)]
  rw [e, feed_byte]
  rfl
theorem dOf_at {left need : Int} {out : List Int} : (dOf left need out).whole = false ∧ (dOf left need out).wrong = 0 ∧ (dOf left need out).out = out ∧ (dOf left need out).tr = [] := by
  unfold dOf
  split <;> exact ⟨rfl, rfl, rfl, rfl⟩
/-- Behind a chunk's bytes: so many of the two that stand there. -/
def DE (left : Int) (out : List Int) (j : Nat) : Dec := D left 0 (if j = 1 then [13] else []) (if j = 2 then 0 else 2) out []
def wantOf (j : Nat) : Int := if j = 0 then 13 else 10
theorem feed_DE {left : Int} {out : List Int} {j : Nat} (hj : j < 2) (c : Int) (r : List Int) (n : Nat) :
    feedGo (DE left out j) (c :: r) n = if c = wantOf j then feedGo (DE left out (j + 1)) r (n + 1) else ({ DE left out j with wrong := 100 }, n + 1) := by
  match j, hj with
  | 0, _ =>
    show feedGo (D left 0 [] 2 out []) (c :: r) n = if c = 13 then feedGo (D left 0 [13] 2 out []) r (n + 1) else _
    rw [feed_one]
    have e : stepE (D left 0 [] 2 out []) c = endS (D left 0 [] 2 out []) c := rfl
    rw [e]
    unfold endS
    by_cases h : c = 13
    · subst h
      rw [if_neg (by simp [D]), if_neg (by decide), if_pos rfl]
      rfl
    · rw [if_pos (by simpa [D] using h), if_neg h]
      exact feed_stop _ _ _ (.inr (.inr (by show ¬ (100 : Int) = 0; decide)))
  | 1, _ =>
    show feedGo (D left 0 [13] 2 out []) (c :: r) n = if c = 10 then feedGo (D left 0 [] 0 out []) r (n + 1) else _
    rw [feed_one]
    have e : stepE (D left 0 [13] 2 out []) c = endS (D left 0 [13] 2 out []) c := rfl
    rw [e]
    unfold endS
    by_cases h : c = 10
    · subst h
      rw [if_neg (by simp [D]), if_pos rfl, if_pos rfl]
    · rw [if_pos (by simpa [D] using h), if_neg h]
      exact feed_stop _ _ _ (.inr (.inr (by show ¬ (100 : Int) = 0; decide)))
theorem trailer_keep (d : Dec) (c : Int) : (trailerS d c).1.out = d.out ∧ (trailerS d c).1.st = d.st := by
  unfold trailerS
  split
  · exact ⟨rfl, rfl⟩
  · split
    · exact ⟨rfl, rfl⟩
    · split <;> exact ⟨rfl, rfl⟩
theorem feed_keep (r : List Int) : ∀ (d : Dec) (n : Nat), d.st = 3 → (feedGo d r n).1.out = d.out := by
  induction r with
  | nil => intro d n h; rfl
  | cons c r ih =>
    intro d n h
    unfold feedGo
    split
    · rfl
    · have e : stepE d c = trailerS d c := by unfold stepE; rw [h]; rfl
      rw [ih _ _ (by show (stepE d c).1.st = 3; rw [e, (trailer_keep d c).2, h])]
      show (stepE d c).1.out = d.out
      rw [e, (trailer_keep d c).1]
/-- A line that is whole has a byte. -/
theorem line_pos (r : List Int) : ∀ (l : List Int) (s : ByteArray), (lineGo l r).1 = some s → 1 ≤ (lineGo l r).2.2.1 := by
  induction r with
  | nil => intro l s h; cases h
  | cons c r ih =>
    intro l s h
    unfold lineGo at h ⊢
    split
    · exact Nat.le_refl _
    · rename_i h2
      rw [h2] at h
      simp only at h
      split at h
      · split
        · simp
        · simp
      · cases h
/-- A row of fields stays where an elder block is written. -/
theorem R_up {w1 w3 : World} {b0 g : Nat} {v : Value} {xs : List Fld} {v0 v1 v2 v3 v4 : Value} (hb : b0 ≤ w3.heap.size) (hg : g < w3.heap.size) (h : fldK.R 62 w1 w3.heap.size (fun _ => True) v xs) :
    fldK.R 62 (((((w1.setCell ⟨g, 0, none⟩ v0).setCell ⟨g, 1, none⟩ v1).setCell ⟨g, 2, none⟩ v2).setCell ⟨g, 3, none⟩ v3).setCell ⟨g, 4, none⟩ v4) b0 (fun _ => True) v xs := by
  refine Kd.R_step ?_ (w := w1) (ok := fun k => k ≠ g) ?_ |> fun h => Kd.R_mono h (fun _ _ => trivial)
  · exact Kd.R_mono (Kd.R_lower (Kd.R_bound h) hb) (fun k hk he => by have := hk.2.1; omega)
  · intro k hk _
    rw [Below.heap_setCell _ _ _ _ hk, Below.heap_setCell _ _ _ _ hk, Below.heap_setCell _ _ _ _ hk, Below.heap_setCell _ _ _ _ hk, Below.heap_setCell _ _ _ _ hk]
/-- What All hands back. -/
def AllPost (r : Dec × Nat) (w : World) (e : Ending) (w' : World) : Prop :=
  ∃ vO vT, e = .returned (.agg #[vO, vT, .int .i64 (r.2 : Int), .bool r.1.whole, .int .i64 r.1.wrong]) ∧ (Kd.int .u8).R 5 w' w.heap.size (fun _ => True) vO r.1.out ∧ fldK.R 62 w' w.heap.size (fun _ => True) vT (if r.1.whole = true then r.1.tr else []) ∧ Below w.heap.size w w'
/-- How many bytes were read, in memory. -/
def nOf5 (w : World) (g : Nat) : Nat := match w.cell? ⟨g, 2, none⟩ with
  | some (.int _ n) => n.toNat
  | _ => 0
theorem nOf5_at {w : World} {g : Nat} {vO vT : Value} {n : Nat} {wh : Bool} {e : Int} (h : w.heap[g]? = some (.cells (rdc vO vT (n : Int) wh e) 27 (0, 0))) : nOf5 w g = n := by
  unfold nOf5
  have e : w.cell? ⟨g, 2, none⟩ = some (.int .i64 (n : Int)) := (blk_cell h 2).trans rfl
  rw [e]
  exact Int.toNat_natCast n
set_option maxHeartbeats 16000000 in
set_option maxRecDepth 100000 in
theorem all_ref (b : List Int) (hbl : b.length ≤ 1073741824) (most : Int) (h0 : 0 ≤ most) (h1 : most ≤ 9007199254740992) (A : Option Addr) (c : Nat) (w : World) (hr : (Kd.int .u8).C w A b.length b) (hc : b.length ≤ c) :
    Calls Tryd.prog 9 #[.slice A b.length c, .int .i64 most] w (AllPost (feedGo (newDec most) b 0) w) := by
  obtain ⟨Fq, hFq⟩ : ∃ q, q = feedGo (newDec most) b 0 := ⟨_, rfl⟩
  rw [← hFq]
  have HFq := Aside0.mk hFq
  have HBS : Aside0 (b.length ≤ 1073741824) := ⟨hbl⟩
  have HBl : Aside0 (b.length ≤ 1099511627776) := ⟨by omega⟩
  have HCb := Aside0.mk hr
  have Hc := Aside0.mk hc
  obtain ⟨L, hL⟩ : ∃ L, L = b.length := ⟨_, rfl⟩
  have HL := Aside0.mk hL
  have hLle : (L : Int) ≤ 1073741824 := by omega
  rw [← hL]
  clear hbl hr hc hL hFq
  go_enter Tryd.func9, Tryd.ntmps9
  go_wp2_with (first
    | ((with_reducible refine gate_dst (N := 4) rfl ?_); refine box_event ?hg (N := 4) ?hd (cs := #[.slice none 0 0, .slice none 0 0, .int .i64 0, .bool false, .int .i64 0]) (t := 27) ?hr ?_; (case hd => rfl); (case hg => rfl); (case hr => first | (go_simp; done) | (go_simp; rfl)); intro g4 hg4 w4 hbox4 hb4; have HK4' := Aside0.mk hbox4; have HB4' := Aside0.mk hb4; have HG4 := Aside0.mk hg4; clear hbox4 hb4 hg4)
    | ((with_reducible refine gate_dst (N := 5) rfl ?_); refine box_event ?hg (N := 5) ?hd (cs := #[.slice none 0 0, .slice none 0 0, .int .i64 0, .bool false, .int .i64 0]) (t := 27) ?hr ?_; (case hd => rfl); (case hg => rfl); (case hr => first | (go_simp; done) | (go_simp; rfl)); intro g5 hg5 w5 hbox5 hb5; have sz0 : w5.cell? ⟨g5, 0, none⟩ = some (.slice none 0 0) := (blk_cell hbox5 0).trans rfl; have sz1 : w5.cell? ⟨g5, 1, none⟩ = some (.slice none 0 0) := (blk_cell hbox5 1).trans rfl; have sz2 : w5.cell? ⟨g5, 2, none⟩ = some (.int .i64 0) := (blk_cell hbox5 2).trans rfl; have sz3 : w5.cell? ⟨g5, 3, none⟩ = some (.bool false) := (blk_cell hbox5 3).trans rfl; have sz4 : w5.cell? ⟨g5, 4, none⟩ = some (.int .i64 0) := (blk_cell hbox5 4).trans rfl; have sf0 := blk_frozen hbox5 0; have sf1 := blk_frozen hbox5 1; have sf2 := blk_frozen hbox5 2; have sf3 := blk_frozen hbox5 3; have sf4 := blk_frozen hbox5 4; have HK5' := Aside0.mk hbox5; have HB5' := Aside0.mk hb5; have HG5 := Aside0.mk hg5; clear hbox5 hb5 hg5))
  have hne : g4 ≠ g5 := by rw [HG4.out, HG5.out]; have h5 := blk_lt HK4'.out; rw [HG4.out] at h5; omega
  have hne2 : ¬ g4 = g5 := hne
  have hne1 : ¬ g5 = g4 := fun h => hne h.symm
  have HGE4 : Aside0 (w.heap.size ≤ g4) := ⟨by rw [HG4.out]; exact Nat.le_refl _⟩
  have HGE5 : Aside0 (w.heap.size ≤ g5) := ⟨by rw [HG5.out]; exact HB4'.out.size⟩
  have HS5 : Aside0 ((((((w5.setCell ⟨g5, 0, none⟩ (.slice none 0 0)).setCell ⟨g5, 1, none⟩ (.slice none 0 0)).setCell ⟨g5, 2, none⟩ (.int .i64 0)).setCell ⟨g5, 3, none⟩ (.bool false)).setCell ⟨g5, 4, none⟩ (.int .i64 0)).heap[g5]? = some (.cells (rdc (.slice none 0 0) (.slice none 0 0) ((0 : Nat) : Int) false 0) 27 (0, 0))) := ⟨blk_five HK5'.out⟩
  have HS4 : Aside0 ((((((w5.setCell ⟨g5, 0, none⟩ (.slice none 0 0)).setCell ⟨g5, 1, none⟩ (.slice none 0 0)).setCell ⟨g5, 2, none⟩ (.int .i64 0)).setCell ⟨g5, 3, none⟩ (.bool false)).setCell ⟨g5, 4, none⟩ (.int .i64 0)).heap[g4]? = some (.cells (rdc (.slice none 0 0) (.slice none 0 0) 0 false 0) 27 (0, 0))) := ⟨by
    rw [Below.heap_setCell _ _ _ _ hne2, Below.heap_setCell _ _ _ _ hne2, Below.heap_setCell _ _ _ _ hne2, Below.heap_setCell _ _ _ _ hne2, Below.heap_setCell _ _ _ _ hne2]
    exact (HB5'.out.block g4 (blk_lt HK4'.out)).trans HK4'.out⟩
  have HB5 : Aside0 (Below w.heap.size w (((((w5.setCell ⟨g5, 0, none⟩ (.slice none 0 0)).setCell ⟨g5, 1, none⟩ (.slice none 0 0)).setCell ⟨g5, 2, none⟩ (.int .i64 0)).setCell ⟨g5, 3, none⟩ (.bool false)).setCell ⟨g5, 4, none⟩ (.int .i64 0))) := ⟨((((((below_step HB4'.out HB5'.out)).setCell (p := ⟨g5, 0, none⟩) HGE5.out _).setCell (p := ⟨g5, 1, none⟩) HGE5.out _).setCell (p := ⟨g5, 2, none⟩) HGE5.out _).setCell (p := ⟨g5, 3, none⟩) HGE5.out _).setCell (p := ⟨g5, 4, none⟩) HGE5.out _⟩
  clear HK4' HB4' HB5' HK5' HG4 HG5 sz0 sz1 sz2 sz3 sz4 sf0 sf1 sf2 sf3 sf4
  go_loopw [] (fun wr => ∃ (n : Nat) (out : List Int) (v : Value) (left : Int), Aside0 (wr.heap[g5]? = some (.cells (rdc v (.slice none 0 0) (n : Int) false 0) 27 (0, 0))) ∧ Aside0 (wr.heap[g4]? = some (.cells (rdc (.slice none 0 0) (.slice none 0 0) 0 false 0) 27 (0, 0))) ∧
    Aside0 ((Kd.int .u8).R 5 wr w.heap.size (fun k => k ≠ g4 ∧ k ≠ g5) v out) ∧ Aside0 (Below w.heap.size w wr) ∧ Aside0 (n ≤ b.length) ∧ Aside0 (out.length ≤ n) ∧ left = most - (out.length : Int) ∧ 0 ≤ left ∧ Aside0 (Fq = feedGo (D left 0 [] 0 out []) (b.drop n) n)) (fun wr => b.length - nOf5 wr g5)
  case atStart => exact ⟨0, [], .slice none 0 0, most, HS5, HS4, ⟨Kd.R_nil _ _ _ _ _⟩, HB5, ⟨Nat.zero_le _⟩, ⟨Nat.le_refl _⟩, by simp, h0, ⟨by rw [List.drop_zero]; exact HFq.out⟩⟩
  case round =>
    obtain ⟨n, out, v0, left, HK5, HK4, HRo, HB, HNl, HOl, hleft, hleft0, HFe⟩ := hrel
    clear HS5 HS4 HB5
    obtain ⟨AO, cO, rfl, _⟩ := Kd.R_reads HRo.out
    obtain ⟨LO, hLO⟩ : ∃ x, x = out.length := ⟨_, rfl⟩
    have HLO := Aside0.mk hLO
    rw [← hLO] at HK5 HRo hleft
    have hLOle : (LO : Int) ≤ 1073741824 := by have := HOl.out; have := HNl.out; have := HBS.out; omega
    clear hLO
    have HMe : Aside0 (nOf5 wr g5 = n) := ⟨nOf5_at HK5.out⟩
    rw [HMe.out]
    clear HMe
    have rz2 : wr.cell? ⟨g5, 2, none⟩ = some (.int .i64 (n : Int)) := (blk_cell HK5.out 2).trans rfl
    go_wp2_with fail
    rw [HL.out]
    refine (line_calls b HBl.out n HNl.out A c wr (Kd.C_below HCb.out HB.out) Hc.out).mono ?_
    rintro e' w1 ⟨rfl, hd1⟩
    have hb1 := hd1.below
    have HB1 := Aside0.mk (below_step HB.out hb1)
    have hk5 : w1.heap[g5]? = some (.cells (rdc (.slice AO LO cO) (.slice none 0 0) n false 0) 27 (0, 0)) := (hb1.block g5 (blk_lt HK5.out)).trans HK5.out
    have hk4 : w1.heap[g4]? = some (.cells (rdc (.slice none 0 0) (.slice none 0 0) 0 false 0) 27 (0, 0)) := (hb1.block g4 (blk_lt HK4.out)).trans HK4.out
    have HRo1 := Aside0.mk (Kd.R_below HRo.out hb1)
    have K5 := Aside0.mk hk5
    have K4 := Aside0.mk hk4
    have az0 : w1.cell? ⟨g5, 0, none⟩ = some (.slice AO LO cO) := (blk_cell hk5 0).trans rfl
    have az1 : w1.cell? ⟨g5, 1, none⟩ = some (.slice none 0 0) := (blk_cell hk5 1).trans rfl
    have az2 : w1.cell? ⟨g5, 2, none⟩ = some (.int .i64 (n : Int)) := (blk_cell hk5 2).trans rfl
    have az3 : w1.cell? ⟨g5, 3, none⟩ = some (.bool false) := (blk_cell hk5 3).trans rfl
    have az4 : w1.cell? ⟨g5, 4, none⟩ = some (.int .i64 0) := (blk_cell hk5 4).trans rfl
    have af0 := blk_frozen hk5 0
    have af1 := blk_frozen hk5 1
    have af2 := blk_frozen hk5 2
    have af3 := blk_frozen hk5 3
    have af4 := blk_frozen hk5 4
    have cz0 : w1.cell? ⟨g4, 0, none⟩ = some (.slice none 0 0) := (blk_cell hk4 0).trans rfl
    have cz1 : w1.cell? ⟨g4, 1, none⟩ = some (.slice none 0 0) := (blk_cell hk4 1).trans rfl
    have cz2 : w1.cell? ⟨g4, 2, none⟩ = some (.int .i64 0) := (blk_cell hk4 2).trans rfl
    have cz3 : w1.cell? ⟨g4, 3, none⟩ = some (.bool false) := (blk_cell hk4 3).trans rfl
    have cz4 : w1.cell? ⟨g4, 4, none⟩ = some (.int .i64 0) := (blk_cell hk4 4).trans rfl
    have cf0 := blk_frozen hk4 0
    have cf1 := blk_frozen hk4 1
    have cf2 := blk_frozen hk4 2
    have cf3 := blk_frozen hk4 3
    have cf4 := blk_frozen hk4 4
    clear hd1 hb1 hk5 hk4
    obtain ⟨⟨os, eL, m, l'⟩, hq⟩ : ∃ q, q = lineGo [] (b.drop n) := ⟨_, rfl⟩
    have HQ := Aside0.mk hq
    have hml : m ≤ b.length - n := by
      have h5 := line_len (b.drop n) []
      rw [← hq, List.length_drop] at h5
      exact h5
    rw [← hq, ← HL.out]
    clear hq
    have hnm : ((n + m : Nat) : Int) ≤ 1073741824 := by have := HBS.out; have := HNl.out; omega
    have HN2l : Aside0 (n + m ≤ b.length) := ⟨by have := HNl.out; omega⟩
    obtain ⟨n2, hn2⟩ : ∃ x, x = n + m := ⟨_, rfl⟩
    have Hn2 := Aside0.mk hn2
    simp only []
    rw [← hn2] at hnm HN2l ⊢
    clear hn2 hml
    match os, HQ with
    | none, HQ =>
      have hfd := feed_none (left := left) (need := 0) (out := out) (tr := []) (.inl rfl) (b.drop n) [] n (by rw [← HQ.out])
      rw [← HQ.out] at hfd
      have HFd := Aside0.mk hfd
      clear hfd
      go_wp2
      refine bodyPost_ret (results_cell_row rfl _ _ g4 27 #[.slice AO LO cO, .slice none 0 0, .int .i64 (n2 : Int), .bool false, .int .i64 eL] (0, 0) _ rfl (blk_five ((Below.heap_setCell _ _ _ _ hne2).trans ((Below.heap_setCell _ _ _ _ hne2).trans (K4.out)))) Tryd.underlying27 rfl (by kernel_rfl)) rfl ?_
      refine ⟨.slice AO LO cO, .slice none 0 0, ?_, ?_, ?_, (((((((HB1.out).setCell (p := ⟨g5, 2, none⟩) HGE5.out _).setCell (p := ⟨g5, 4, none⟩) HGE5.out _).setCell (p := ⟨g4, 0, none⟩) HGE4.out _).setCell (p := ⟨g4, 1, none⟩) HGE4.out _).setCell (p := ⟨g4, 2, none⟩) HGE4.out _).setCell (p := ⟨g4, 3, none⟩) HGE4.out _).setCell (p := ⟨g4, 4, none⟩) HGE4.out _⟩
      · rw [HFe.out, HFd.out, Hn2.out]
        rfl
      · rw [HFe.out, HFd.out]
        show (Kd.int .u8).R _ _ _ _ _ _
        refine Kd.R_mono (Kd.R_step HRo1.out (fun k hk _ => ?_)) (fun _ _ => trivial)
        rw [Below.heap_setCell _ _ _ _ hk.1, Below.heap_setCell _ _ _ _ hk.1, Below.heap_setCell _ _ _ _ hk.1, Below.heap_setCell _ _ _ _ hk.1, Below.heap_setCell _ _ _ _ hk.1, Below.heap_setCell _ _ _ _ hk.2, Below.heap_setCell _ _ _ _ hk.2]
      · rw [HFe.out, HFd.out]
        exact Kd.R_nil _ _ _ _ _
    | some s, HQ =>
      have hE : eL = 0 := by
        obtain ⟨_, _, _, h5, _⟩ := feed_some (left := left) (need := 0) (out := out) (tr := []) (.inl rfl) (b.drop n) [] n s (by rw [← HQ.out])
        rw [← HQ.out] at h5
        exact h5
      subst hE
      have hfd := feed_size (left := left) (need := 0) (out := out) (tr := []) (b.drop n) n s (by rw [← HQ.out])
      rw [← HQ.out] at hfd
      simp only [List.drop_drop] at hfd
      rw [← Hn2.out] at hfd
      have hss : s.size ≤ 4611686018427387904 := by
        have h5 := line_size (b.drop n) [] s (by rw [← HQ.out])
        rw [List.length_drop] at h5
        have := HBl.out
        simp only [List.length_nil] at h5
        omega
      have HSs := Aside0.mk hss
      have hm1 : n < n2 := by
        have h5 := line_pos (b.drop n) [] s (by rw [← HQ.out])
        rw [← HQ.out] at h5
        have := Hn2.out
        simp only at h5
        omega
      have HM1 := Aside0.mk hm1
      obtain ⟨z, hz⟩ : ∃ z, z = sizeR s := ⟨_, rfl⟩
      rw [← hz] at hfd
      have HZ := Aside0.mk hz
      have HFd := Aside0.mk hfd
      clear hfd hss hm1 hz
      go_wp2_with fail
      refine (rsize_calls s HSs.out ((w1.setCell ⟨g5, 2, none⟩ (.int .i64 (n2 : Int))).setCell ⟨g5, 4, none⟩ (.int .i64 0))).mono ?_
      rintro e' w3 ⟨rfl, hd3⟩
      have hb3 := hd3.below
      have hk5 : w3.heap[g5]? = some (.cells (rdc (.slice AO LO cO) (.slice none 0 0) (n2 : Int) false 0) 27 (0, 0)) := (hb3.block g5 (by rw [set_size', set_size']; exact blk_lt K5.out)).trans (blk_put (blk_put K5.out 2 _ rfl) 4 _ rfl)
      have hk4 : w3.heap[g4]? = some (.cells (rdc (.slice none 0 0) (.slice none 0 0) 0 false 0) 27 (0, 0)) := (hb3.block g4 (by rw [set_size', set_size']; exact blk_lt K4.out)).trans ((Below.heap_setCell _ _ _ _ hne2).trans ((Below.heap_setCell _ _ _ _ hne2).trans K4.out))
      have HB3 : Aside0 (Below w.heap.size w w3) := ⟨below_step ((HB1.out.setCell (p := ⟨g5, 2, none⟩) HGE5.out _).setCell (p := ⟨g5, 4, none⟩) HGE5.out _) hb3⟩
      have HRo3 : Aside0 ((Kd.int .u8).R 5 w3 w.heap.size (fun k => k ≠ g4 ∧ k ≠ g5) (.slice AO LO cO) out) := ⟨Kd.R_below (Kd.R_step HRo1.out (fun k hk _ => by rw [Below.heap_setCell _ _ _ _ hk.2, Below.heap_setCell _ _ _ _ hk.2])) hb3⟩
      have K53 := Aside0.mk hk5
      have K43 := Aside0.mk hk4
      clear az0 az1 az2 az3 az4 af0 af1 af2 af3 af4 cz0 cz1 cz2 cz3 cz4 cf0 cf1 cf2 cf3 cf4 rz2
      have az0 : w3.cell? ⟨g5, 0, none⟩ = some (.slice AO LO cO) := (blk_cell hk5 0).trans rfl
      have az1 : w3.cell? ⟨g5, 1, none⟩ = some (.slice none 0 0) := (blk_cell hk5 1).trans rfl
      have az2 : w3.cell? ⟨g5, 2, none⟩ = some (.int .i64 (n2 : Int)) := (blk_cell hk5 2).trans rfl
      have az3 : w3.cell? ⟨g5, 3, none⟩ = some (.bool false) := (blk_cell hk5 3).trans rfl
      have az4 : w3.cell? ⟨g5, 4, none⟩ = some (.int .i64 0) := (blk_cell hk5 4).trans rfl
      have af0 := blk_frozen hk5 0
      have af1 := blk_frozen hk5 1
      have af2 := blk_frozen hk5 2
      have af3 := blk_frozen hk5 3
      have af4 := blk_frozen hk5 4
      have cz0 : w3.cell? ⟨g4, 0, none⟩ = some (.slice none 0 0) := (blk_cell hk4 0).trans rfl
      have cz1 : w3.cell? ⟨g4, 1, none⟩ = some (.slice none 0 0) := (blk_cell hk4 1).trans rfl
      have cz2 : w3.cell? ⟨g4, 2, none⟩ = some (.int .i64 0) := (blk_cell hk4 2).trans rfl
      have cz3 : w3.cell? ⟨g4, 3, none⟩ = some (.bool false) := (blk_cell hk4 3).trans rfl
      have cz4 : w3.cell? ⟨g4, 4, none⟩ = some (.int .i64 0) := (blk_cell hk4 4).trans rfl
      have cf0 := blk_frozen hk4 0
      have cf1 := blk_frozen hk4 1
      have cf2 := blk_frozen hk4 2
      have cf3 := blk_frozen hk4 3
      have cf4 := blk_frozen hk4 4
      clear hd3 hb3 hk5 hk4
      rw [← HZ.out]
      by_cases hz0 : z < 0
      · have HR := Aside0.mk (HFd.out.trans (if_pos hz0))
        go_wp2
        refine bodyPost_ret (results_cell_row rfl _ _ g4 27 #[.slice AO LO cO, .slice none 0 0, .int .i64 (n2 : Int), .bool false, .int .i64 100] (0, 0) _ rfl (blk_five ((Below.heap_setCell _ _ _ _ hne2).trans (K43.out))) Tryd.underlying27 rfl (by kernel_rfl)) rfl ?_
        refine ⟨.slice AO LO cO, .slice none 0 0, ?_, ?_, ?_, ((((((HB3.out).setCell (p := ⟨g5, 4, none⟩) HGE5.out _).setCell (p := ⟨g4, 0, none⟩) HGE4.out _).setCell (p := ⟨g4, 1, none⟩) HGE4.out _).setCell (p := ⟨g4, 2, none⟩) HGE4.out _).setCell (p := ⟨g4, 3, none⟩) HGE4.out _).setCell (p := ⟨g4, 4, none⟩) HGE4.out _⟩
        · rw [HFe.out, HR.out]
          rfl
        · rw [HFe.out, HR.out]
          show (Kd.int .u8).R _ _ _ _ _ _
          refine Kd.R_mono (Kd.R_step HRo3.out (fun k hk _ => ?_)) (fun _ _ => trivial)
          rw [Below.heap_setCell _ _ _ _ hk.1, Below.heap_setCell _ _ _ _ hk.1, Below.heap_setCell _ _ _ _ hk.1, Below.heap_setCell _ _ _ _ hk.1, Below.heap_setCell _ _ _ _ hk.1, Below.heap_setCell _ _ _ _ hk.2]
        · rw [HFe.out, HR.out]
          exact Kd.R_nil _ _ _ _ _
      · by_cases hzl : left < z
        · have HR := Aside0.mk (HFd.out.trans ((if_neg hz0).trans (if_pos hzl)))
          go_wp2
          refine bodyPost_ret (results_cell_row rfl _ _ g4 27 #[.slice AO LO cO, .slice none 0 0, .int .i64 (n2 : Int), .bool false, .int .i64 2] (0, 0) _ rfl (blk_five ((Below.heap_setCell _ _ _ _ hne2).trans (K43.out))) Tryd.underlying27 rfl (by kernel_rfl)) rfl ?_
          refine ⟨.slice AO LO cO, .slice none 0 0, ?_, ?_, ?_, ((((((HB3.out).setCell (p := ⟨g5, 4, none⟩) HGE5.out _).setCell (p := ⟨g4, 0, none⟩) HGE4.out _).setCell (p := ⟨g4, 1, none⟩) HGE4.out _).setCell (p := ⟨g4, 2, none⟩) HGE4.out _).setCell (p := ⟨g4, 3, none⟩) HGE4.out _).setCell (p := ⟨g4, 4, none⟩) HGE4.out _⟩
          · rw [HFe.out, HR.out]
            rfl
          · rw [HFe.out, HR.out]
            show (Kd.int .u8).R _ _ _ _ _ _
            refine Kd.R_mono (Kd.R_step HRo3.out (fun k hk _ => ?_)) (fun _ _ => trivial)
            rw [Below.heap_setCell _ _ _ _ hk.1, Below.heap_setCell _ _ _ _ hk.1, Below.heap_setCell _ _ _ _ hk.1, Below.heap_setCell _ _ _ _ hk.1, Below.heap_setCell _ _ _ _ hk.1, Below.heap_setCell _ _ _ _ hk.2]
          · rw [HFe.out, HR.out]
            exact Kd.R_nil _ _ _ _ _
        · by_cases hz00 : z = 0
          · have bz : (z == 0) = true := by simpa using hz00
            have HR := Aside0.mk (HFd.out.trans ((if_neg hz0).trans ((if_neg hzl).trans (if_pos hz00))))
            clear hz00
            go_wp2_with fail
            rw [HL.out]
            obtain ⟨r, hr⟩ : ∃ r, r = feedGo (D left 0 [] 3 out []) (b.drop n2) n2 := ⟨_, rfl⟩
            have htr := trailers_ref b HBS.out n2 HN2l.out left 0 0 out AO LO cO A c w3 (Kd.C_below HCb.out HB3.out) Hc.out
            rw [← hr] at htr
            have HKe : Aside0 (r.1.out = out) := ⟨by rw [hr]; exact feed_keep _ _ _ rfl⟩
            have Hr := Aside0.mk hr
            clear hr
            refine htr.mono ?_
            rintro e' w7 ⟨vT, rfl, hT, hb7⟩
            obtain ⟨AT, cT, eT, _⟩ := Kd.R_reads hT
            obtain ⟨NT, hNT⟩ : ∃ x, x = (if r.1.whole = true then r.1.tr else []).length := ⟨_, rfl⟩
            rw [← hNT] at eT
            subst eT
            clear hNT
            have hk4 := (hb7.block g4 (blk_lt K43.out)).trans K43.out
            have K47 := Aside0.mk hk4
            have HB7 := Aside0.mk (below_step HB3.out hb7)
            have HT7 := Aside0.mk hT
            have HR7 := Aside0.mk (Kd.R_below HRo3.out hb7)
            have HSz : Aside0 (g4 < w3.heap.size) := ⟨blk_lt K43.out⟩
            have HSw : Aside0 (w.heap.size ≤ w3.heap.size) := ⟨HB3.out.size⟩
            clear az0 az1 az2 az3 az4 af0 af1 af2 af3 af4 cz0 cz1 cz2 cz3 cz4 cf0 cf1 cf2 cf3 cf4 htr hb7 hT
            have cz0 : w7.cell? ⟨g4, 0, none⟩ = some (.slice none 0 0) := (blk_cell hk4 0).trans rfl
            have cz1 : w7.cell? ⟨g4, 1, none⟩ = some (.slice none 0 0) := (blk_cell hk4 1).trans rfl
            have cz2 : w7.cell? ⟨g4, 2, none⟩ = some (.int .i64 0) := (blk_cell hk4 2).trans rfl
            have cz3 : w7.cell? ⟨g4, 3, none⟩ = some (.bool false) := (blk_cell hk4 3).trans rfl
            have cz4 : w7.cell? ⟨g4, 4, none⟩ = some (.int .i64 0) := (blk_cell hk4 4).trans rfl
            have cf0 := blk_frozen hk4 0
            have cf1 := blk_frozen hk4 1
            have cf2 := blk_frozen hk4 2
            have cf3 := blk_frozen hk4 3
            have cf4 := blk_frozen hk4 4
            clear hk4
            go_wp2
            refine bodyPost_ret (results_cell_row rfl _ _ g4 27 #[.slice AO LO cO, .slice AT NT cT, .int .i64 (r.2 : Int), .bool r.1.whole, .int .i64 r.1.wrong] (0, 0) _ rfl (blk_five (K47.out)) Tryd.underlying27 rfl (by kernel_rfl)) rfl ?_
            refine ⟨.slice AO LO cO, .slice AT NT cT, ?_, ?_, ?_, (((((HB7.out).setCell (p := ⟨g4, 0, none⟩) HGE4.out _).setCell (p := ⟨g4, 1, none⟩) HGE4.out _).setCell (p := ⟨g4, 2, none⟩) HGE4.out _).setCell (p := ⟨g4, 3, none⟩) HGE4.out _).setCell (p := ⟨g4, 4, none⟩) HGE4.out _⟩
            · rw [HFe.out, HR.out, ← Hr.out]
            · rw [HFe.out, HR.out, ← Hr.out, HKe.out]
              refine Kd.R_mono (Kd.R_step HR7.out (fun k hk _ => ?_)) (fun _ _ => trivial)
              rw [Below.heap_setCell _ _ _ _ hk.1, Below.heap_setCell _ _ _ _ hk.1, Below.heap_setCell _ _ _ _ hk.1, Below.heap_setCell _ _ _ _ hk.1, Below.heap_setCell _ _ _ _ hk.1]
            · rw [HFe.out, HR.out, ← Hr.out]
              exact R_up HSw.out HSz.out HT7.out
          · have HR := Aside0.mk (HFd.out.trans ((if_neg hz0).trans ((if_neg hzl).trans (if_neg hz00))))
            have bz : (z == 0) = false := by simpa using hz00
            have hz1 : 1 ≤ z := by omega
            obtain ⟨lf, hlf⟩ : ∃ x, x = left - z := ⟨_, rfl⟩
            have HGo : Aside0 (Fq = feedGo (dOf lf (z - ((0 : Nat) : Int)) out) (b.drop (n2 + 0)) (n2 + 0)) := ⟨by rw [HFe.out, HR.out, hlf]; unfold dOf; rw [if_neg (by omega)]; simp⟩
            clear hz00 HR
            go_wp2
            go_loopw [11] (fun v11 wr => ∃ (k : Nat) (o2 : List Int) (v : Value), v11 = .int .i64 (k : Int) ∧ Aside0 (wr.heap[g5]? = some (.cells (rdc v (.slice none 0 0) ((n2 + k : Nat) : Int) false 0) 27 (0, 0))) ∧ Aside0 (wr.heap[g4]? = some (.cells (rdc (.slice none 0 0) (.slice none 0 0) 0 false 0) 27 (0, 0))) ∧
              Aside0 ((Kd.int .u8).R 5 wr w.heap.size (fun k => k ≠ g4 ∧ k ≠ g5) v o2) ∧ Aside0 (Below w.heap.size w wr) ∧ Aside0 (n2 + k ≤ b.length) ∧ (k : Int) ≤ z ∧ Aside0 (o2.length = LO + k) ∧ Aside0 (Fq = feedGo (dOf lf (z - (k : Int)) o2) (b.drop (n2 + k)) (n2 + k))) (fun v11 _ => b.length - (intOf v11).toNat)
            case atStart => exact ⟨0, out, .slice AO LO cO, rfl, K53, K43, HRo3, HB3, HN2l, by omega, ⟨HLO.out.symm⟩, HGo⟩
            case round =>
              clear az0 az1 az2 az3 az4 af0 af1 af2 af3 af4 cz0 cz1 cz2 cz3 cz4 cf0 cf1 cf2 cf3 cf4 K53 K43 HRo3 HB3 HGo
              obtain ⟨k, o2, v2, rfl, HK5, HK4, HRo, HB, HNk, hkz, HO2, HF2⟩ := hrel
              obtain ⟨A2, c2, rfl, _⟩ := Kd.R_reads HRo.out
              obtain ⟨L2, hL2⟩ : ∃ x, x = o2.length := ⟨_, rfl⟩
              have HL2 := Aside0.mk hL2
              rw [← hL2] at HK5 HRo
              obtain ⟨m2, hm2⟩ : ∃ x, x = n2 + k := ⟨_, rfl⟩
              have Hm2 := Aside0.mk hm2
              rw [← hm2] at HK5 HNk HF2
              clear hL2
              have hk5 := HK5.out
              have hk4 := HK4.out
              have az0 : wr.cell? ⟨g5, 0, none⟩ = some (.slice A2 L2 c2) := (blk_cell hk5 0).trans rfl
              have az1 : wr.cell? ⟨g5, 1, none⟩ = some (.slice none 0 0) := (blk_cell hk5 1).trans rfl
              have az2 : wr.cell? ⟨g5, 2, none⟩ = some (.int .i64 (m2 : Int)) := (blk_cell hk5 2).trans rfl
              have az3 : wr.cell? ⟨g5, 3, none⟩ = some (.bool false) := (blk_cell hk5 3).trans rfl
              have az4 : wr.cell? ⟨g5, 4, none⟩ = some (.int .i64 0) := (blk_cell hk5 4).trans rfl
              have af0 := blk_frozen hk5 0
              have af1 := blk_frozen hk5 1
              have af2 := blk_frozen hk5 2
              have af3 := blk_frozen hk5 3
              have af4 := blk_frozen hk5 4
              have cz0 : wr.cell? ⟨g4, 0, none⟩ = some (.slice none 0 0) := (blk_cell hk4 0).trans rfl
              have cz1 : wr.cell? ⟨g4, 1, none⟩ = some (.slice none 0 0) := (blk_cell hk4 1).trans rfl
              have cz2 : wr.cell? ⟨g4, 2, none⟩ = some (.int .i64 0) := (blk_cell hk4 2).trans rfl
              have cz3 : wr.cell? ⟨g4, 3, none⟩ = some (.bool false) := (blk_cell hk4 3).trans rfl
              have cz4 : wr.cell? ⟨g4, 4, none⟩ = some (.int .i64 0) := (blk_cell hk4 4).trans rfl
              have cf0 := blk_frozen hk4 0
              have cf1 := blk_frozen hk4 1
              have cf2 := blk_frozen hk4 2
              have cf3 := blk_frozen hk4 3
              have cf4 := blk_frozen hk4 4
              have hm2l : (m2 : Int) ≤ L := by have := HNk.out; have := HL.out; omega
              have hkl : (k : Int) ≤ 1073741824 := by omega
              clear hm2
              by_cases hk : (k : Int) < z
              · by_cases hend : m2 = L
                · have bq : ((m2 : Int) == (L : Int)) = true := by rw [hend]; simp
                  have HRs : Aside0 (Fq = (dOf lf (z - (k : Int)) o2, m2)) := ⟨by rw [HF2.out, show b.drop m2 = [] from by rw [List.drop_eq_nil_iff, hend, HL.out]; exact Nat.le_refl _]; rfl⟩
                  clear hend
                  go_wp2
                  refine bodyPost_ret (results_cell_row rfl _ _ g4 27 #[.slice A2 L2 c2, .slice none 0 0, .int .i64 (m2 : Int), .bool false, .int .i64 0] (0, 0) _ rfl (blk_five (HK4.out)) Tryd.underlying27 rfl (by kernel_rfl)) rfl ?_
                  refine ⟨.slice A2 L2 c2, .slice none 0 0, ?_, ?_, ?_, (((((HB.out).setCell (p := ⟨g4, 0, none⟩) HGE4.out _).setCell (p := ⟨g4, 1, none⟩) HGE4.out _).setCell (p := ⟨g4, 2, none⟩) HGE4.out _).setCell (p := ⟨g4, 3, none⟩) HGE4.out _).setCell (p := ⟨g4, 4, none⟩) HGE4.out _⟩
                  · rw [HRs.out, dOf_at.1, dOf_at.2.1]
                  · rw [HRs.out, dOf_at.2.2.1]
                    refine Kd.R_mono (Kd.R_step HRo.out (fun k hk _ => ?_)) (fun _ _ => trivial)
                    rw [Below.heap_setCell _ _ _ _ hk.1, Below.heap_setCell _ _ _ _ hk.1, Below.heap_setCell _ _ _ _ hk.1, Below.heap_setCell _ _ _ _ hk.1, Below.heap_setCell _ _ _ _ hk.1]
                  · rw [HRs.out, dOf_at.1]
                    exact Kd.R_nil _ _ _ _ _
                · have bq : ((m2 : Int) == (L : Int)) = false := by simpa using (show ¬ (m2 : Int) = (L : Int) by omega)
                  have hlt : m2 < b.length := by have := HL.out; omega
                  obtain ⟨c, hc⟩ : ∃ c, c = rd b (m2 : Int) := ⟨_, rfl⟩
                  have hdr : b.drop m2 = c :: b.drop (m2 + 1) := by
                    rw [List.drop_eq_getElem_cons hlt, hc]
                    simp [rd, hlt]
                  have HF3 : Aside0 (Fq = feedGo (dOf lf (z - (k : Int) - 1) (o2 ++ [c])) (b.drop (m2 + 1)) (m2 + 1)) := ⟨by rw [HF2.out, hdr, feed_dOf (by omega)]⟩
                  have hCw := Kd.C_below HCb.out HB.out
                  obtain ⟨ad, eA, hx⟩ := Kd.at_int hCw (m2 : Int) (by omega) (by omega)
                  cases eA
                  have hxa : ∀ o, (wr.alloc o).cell? (ad.add m2) = some (.int .u8 c) := fun o => by
                    obtain ⟨ad2, eA2, hx2⟩ := Kd.at_int (Kd.C_below hCw (below_alloc (Below.refl _ _) o)) (m2 : Int) (by omega) (by omega)
                    cases eA2
                    rw [Int.toNat_natCast, ← hc] at hx2
                    exact hx2
                  rw [Int.toNat_natCast, ← hc] at hx
                  have hya : ∀ o, (wr.alloc o).cell? ⟨g5, 0, none⟩ = some (.slice A2 L2 c2) := fun o => (blk_cell (blk_alloc HK5.out o) 0).trans rfl
                  have hyb : ∀ o, (wr.alloc o).cell? ⟨g5, 2, none⟩ = some (.int .i64 (m2 : Int)) := fun o => (blk_cell (blk_alloc HK5.out o) 2).trans rfl
                  have hmlt : (m2 : Int) < L := by omega
                  have HLT := Aside0.mk hlt
                  clear hend hdr hc hCw hk5 hk4 hlt
                  go_wp2
                  go_region_law (refine Kd.R_append_step (Kd.int .u8) (w0 := w) (W := wr.drew) w.heap.size (by rfl) (.tmp 63) (.tmp 69) 24 5 (.int .u8 0) 1 rfl Tryd.underlying24 info_u8 rfl (by decide) (by omega) (.slice A2 L2 c2) o2 c [.int .u8 c] (fun k => k ≠ g4 ∧ k ≠ g5) (fun _ => False) rfl rfl rfl (fun _ hk => hk.elim) (fun k hk => by have h5 := blk_lt HK5.out; have h6 := blk_lt HK4.out; have h7 := (below_drew (Below.refl wr.heap.size wr)).size; omega) (by repeat (first | exact HRo.out | apply Kd.R_drew)) (below_drew HB.out) (below_drew HB.out).size (by have := HL2.out; have := HO2.out; omega) ?_; intro v7 w7 hR7 hb7 hg7 hat7; have HR7 := Aside0.mk hR7; have HB7 := Aside0.mk hb7; have HG7 := Aside0.mk hg7; obtain ⟨A1, c1, e1⟩ := Kd.R_slice hR7; rw [List.length_append, List.length_singleton] at e1; have hk5 : w7.heap[g5]? = some (.cells (rdc (.slice A2 L2 c2) (.slice none 0 0) (m2 : Int) false 0) 27 (0, 0)) := (hg7.block g5 (by first | exact blk_lt HK5.out | exact Nat.lt_of_lt_of_le (blk_lt HK5.out) (below_drew (Below.refl wr.heap.size wr)).size) (fun e => (HRo.out.1 g5 e.symm).2 rfl)).trans (by first | exact HK5.out | exact ((below_drew (Below.refl wr.heap.size wr)).block g5 (blk_lt HK5.out)).trans HK5.out); have hk4 : w7.heap[g4]? = some (.cells (rdc (.slice none 0 0) (.slice none 0 0) 0 false 0) 27 (0, 0)) := (hg7.block g4 (by first | exact blk_lt HK4.out | exact Nat.lt_of_lt_of_le (blk_lt HK4.out) (below_drew (Below.refl wr.heap.size wr)).size) (fun e => (HRo.out.1 g4 e.symm).1 rfl)).trans (by first | exact HK4.out | exact ((below_drew (Below.refl wr.heap.size wr)).block g4 (blk_lt HK4.out)).trans HK4.out); have K57 := Aside0.mk hk5; have K47 := Aside0.mk hk4; clear az0 az1 az2 az3 az4 af0 af1 af2 af3 af4; have az0 : w7.cell? ⟨g5, 0, none⟩ = some (.slice A2 L2 c2) := (blk_cell hk5 0).trans rfl; have az1 : w7.cell? ⟨g5, 1, none⟩ = some (.slice none 0 0) := (blk_cell hk5 1).trans rfl; have az2 : w7.cell? ⟨g5, 2, none⟩ = some (.int .i64 (m2 : Int)) := (blk_cell hk5 2).trans rfl; have az3 : w7.cell? ⟨g5, 3, none⟩ = some (.bool false) := (blk_cell hk5 3).trans rfl; have az4 : w7.cell? ⟨g5, 4, none⟩ = some (.int .i64 0) := (blk_cell hk5 4).trans rfl; have af0 := blk_frozen hk5 0; have af1 := blk_frozen hk5 1; have af2 := blk_frozen hk5 2; have af3 := blk_frozen hk5 3; have af4 := blk_frozen hk5 4; clear hk5 hk4; clear hR7 hb7 hg7 hat7; subst e1)
                  all_goals
                    go_wp2
                    go_roundw
                    case rel => exact ⟨k + 1, o2 ++ [c], .slice A1 (o2.length + 1) c1, by go_num, ⟨by rw [show ((n2 + (k + 1) : Nat) : Int) = (m2 : Int) + 1 by have := Hm2.out; omega]; exact blk_put (blk_put K57.out 0 _ rfl) 2 _ rfl⟩, ⟨(Below.heap_setCell _ _ _ _ hne2).trans ((Below.heap_setCell _ _ _ _ hne2).trans K47.out)⟩, ⟨Kd.R_step HR7.out (fun k hk _ => by rw [Below.heap_setCell _ _ _ _ hk.2, Below.heap_setCell _ _ _ _ hk.2])⟩, ⟨(HB7.out.setCell (p := ⟨g5, 0, none⟩) HGE5.out _).setCell (p := ⟨g5, 2, none⟩) HGE5.out _⟩, ⟨by have := Hm2.out; have := HLT.out; omega⟩, by omega, ⟨by rw [List.length_append, HO2.out]; rfl⟩, ⟨by rw [show n2 + (k + 1) = m2 + 1 by have := Hm2.out; omega, show z - ((k + 1 : Nat) : Int) = z - (k : Int) - 1 by omega]; exact HF3.out⟩⟩
                    case measure => have h1 := HLT.out; have h2 := Hm2.out; simp only [intOf]; omega
              · have hkz' : z - (k : Int) = 0 := by omega
                have HDE : Aside0 (Fq = feedGo (DE lf o2 0) (b.drop (m2 + 0)) (m2 + 0)) := ⟨by rw [HF2.out, hkz']; rfl⟩
                have hlf0 : 0 ≤ lf := by omega
                have hlf2 : lf = most - (L2 : Int) := by have := HL2.out; have := HO2.out; omega
                clear hkz'
                go_wp2
                obtain ⟨ga, hga⟩ : ∃ g, g = wr.heap.size := ⟨_, rfl⟩
                have HGA : Aside0 ((wr.alloc (.cells #[.int .u8 13, .int .u8 10] 5)).heap[ga]? = some (.cells #[.int .u8 13, .int .u8 10] 5 (0, 0))) := ⟨by rw [hga]; exact blk_new _ _⟩
                have hna4 : ¬ ga = g4 := by have := blk_lt HK4.out; omega
                have hna5 : ¬ ga = g5 := by have := blk_lt HK5.out; omega
                have K5A := Aside0.mk (blk_alloc HK5.out (.cells #[.int .u8 13, .int .u8 10] 5))
                have K4A := Aside0.mk (blk_alloc HK4.out (.cells #[.int .u8 13, .int .u8 10] 5))
                have HRA := Aside0.mk (Kd.R_below HRo.out (below_alloc (Below.refl _ _) (.cells #[.int .u8 13, .int .u8 10] 5)))
                have HBA := Aside0.mk (below_alloc HB.out (.cells #[.int .u8 13, .int .u8 10] 5))
                have HO3 : Aside0 (L2 ≤ m2) := ⟨by have := HL2.out; have := HO2.out; have := Hm2.out; have := HOl.out; have := HM1.out; have := HLO.out; omega⟩
                rw [← hga]
                clear hga hk5 hk4 az0 az1 az2 az3 az4 af0 af1 af2 af3 af4 cz0 cz1 cz2 cz3 cz4 cf0 cf1 cf2 cf3 cf4
                go_loopw [78] (fun v78 wr => ∃ (j : Nat), v78 = .int .i64 (j : Int) ∧ j ≤ 2 ∧ Aside0 (wr.heap[g5]? = some (.cells (rdc (.slice A2 L2 c2) (.slice none 0 0) ((m2 + j : Nat) : Int) false 0) 27 (0, 0))) ∧ Aside0 (wr.heap[g4]? = some (.cells (rdc (.slice none 0 0) (.slice none 0 0) 0 false 0) 27 (0, 0))) ∧ Aside0 (wr.heap[ga]? = some (.cells #[.int .u8 13, .int .u8 10] 5 (0, 0))) ∧
                  Aside0 ((Kd.int .u8).R 5 wr w.heap.size (fun k => k ≠ g4 ∧ k ≠ g5) (.slice A2 L2 c2) o2) ∧ Aside0 (Below w.heap.size w wr) ∧ Aside0 (m2 + j ≤ b.length) ∧ Aside0 (Fq = feedGo (DE lf o2 j) (b.drop (m2 + j)) (m2 + j))) (fun v78 _ => 2 - (intOf v78).toNat)
                case atStart => exact ⟨0, rfl, by omega, K5A, K4A, HGA, HRA, HBA, HNk, HDE⟩
                case round =>
                  clear K5A K4A HGA HRA HBA HDE HK5 HK4 HRo HB HNk
                  obtain ⟨j, rfl, hj2, HK5, HK4, HGA, HRo, HB, HNk, HF3⟩ := hrel
                  by_cases hj : j < 2
                  · obtain ⟨m3, hm3⟩ : ∃ x, x = m2 + j := ⟨_, rfl⟩
                    have Hm3 := Aside0.mk hm3
                    rw [← hm3] at HK5 HNk HF3
                    have hk5 := HK5.out
                    have hk4 := HK4.out
                    have az0 : wr.cell? ⟨g5, 0, none⟩ = some (.slice A2 L2 c2) := (blk_cell hk5 0).trans rfl
                    have az1 : wr.cell? ⟨g5, 1, none⟩ = some (.slice none 0 0) := (blk_cell hk5 1).trans rfl
                    have az2 : wr.cell? ⟨g5, 2, none⟩ = some (.int .i64 (m3 : Int)) := (blk_cell hk5 2).trans rfl
                    have az3 : wr.cell? ⟨g5, 3, none⟩ = some (.bool false) := (blk_cell hk5 3).trans rfl
                    have az4 : wr.cell? ⟨g5, 4, none⟩ = some (.int .i64 0) := (blk_cell hk5 4).trans rfl
                    have af0 := blk_frozen hk5 0
                    have af1 := blk_frozen hk5 1
                    have af2 := blk_frozen hk5 2
                    have af3 := blk_frozen hk5 3
                    have af4 := blk_frozen hk5 4
                    have cz0 : wr.cell? ⟨g4, 0, none⟩ = some (.slice none 0 0) := (blk_cell hk4 0).trans rfl
                    have cz1 : wr.cell? ⟨g4, 1, none⟩ = some (.slice none 0 0) := (blk_cell hk4 1).trans rfl
                    have cz2 : wr.cell? ⟨g4, 2, none⟩ = some (.int .i64 0) := (blk_cell hk4 2).trans rfl
                    have cz3 : wr.cell? ⟨g4, 3, none⟩ = some (.bool false) := (blk_cell hk4 3).trans rfl
                    have cz4 : wr.cell? ⟨g4, 4, none⟩ = some (.int .i64 0) := (blk_cell hk4 4).trans rfl
                    have cf0 := blk_frozen hk4 0
                    have cf1 := blk_frozen hk4 1
                    have cf2 := blk_frozen hk4 2
                    have cf3 := blk_frozen hk4 3
                    have cf4 := blk_frozen hk4 4
                    have hm3l : (m3 : Int) ≤ L := by have := HNk.out; have := HL.out; omega
                    have hjz : (j : Int) < 2 := by omega
                    clear hm3
                    obtain ⟨wt, hwt⟩ : ∃ x, x = wantOf j := ⟨_, rfl⟩
                    have hzj : wr.cell? ⟨ga, j, none⟩ = some (.int .u8 wt) := by
                      rw [hwt]
                      have h5 := HGA.out
                      match j, hj with
                      | 0, _ => exact (blk_cell h5 0).trans rfl
                      | 1, _ => exact (blk_cell h5 1).trans rfl
                    have HWt := Aside0.mk hwt
                    by_cases hend : m3 = L
                    · have bq : ((m3 : Int) == (L : Int)) = true := by rw [hend]; simp
                      have HRs : Aside0 (Fq = (DE lf o2 j, m3)) := ⟨by rw [HF3.out, show b.drop m3 = [] from by rw [List.drop_eq_nil_iff, hend, HL.out]; exact Nat.le_refl _]; rfl⟩
                      clear hend hwt
                      go_wp2
                      refine bodyPost_ret (results_cell_row rfl _ _ g4 27 #[.slice A2 L2 c2, .slice none 0 0, .int .i64 (m3 : Int), .bool false, .int .i64 0] (0, 0) _ rfl (blk_five (HK4.out)) Tryd.underlying27 rfl (by kernel_rfl)) rfl ?_
                      refine ⟨.slice A2 L2 c2, .slice none 0 0, ?_, ?_, ?_, (((((HB.out).setCell (p := ⟨g4, 0, none⟩) HGE4.out _).setCell (p := ⟨g4, 1, none⟩) HGE4.out _).setCell (p := ⟨g4, 2, none⟩) HGE4.out _).setCell (p := ⟨g4, 3, none⟩) HGE4.out _).setCell (p := ⟨g4, 4, none⟩) HGE4.out _⟩
                      · rw [HRs.out]
                        rfl
                      · rw [HRs.out]
                        show (Kd.int .u8).R _ _ _ _ _ o2
                        refine Kd.R_mono (Kd.R_step HRo.out (fun k hk _ => ?_)) (fun _ _ => trivial)
                        rw [Below.heap_setCell _ _ _ _ hk.1, Below.heap_setCell _ _ _ _ hk.1, Below.heap_setCell _ _ _ _ hk.1, Below.heap_setCell _ _ _ _ hk.1, Below.heap_setCell _ _ _ _ hk.1]
                      · rw [HRs.out]
                        exact Kd.R_nil _ _ _ _ _
                    · have bq : ((m3 : Int) == (L : Int)) = false := by simpa using (show ¬ (m3 : Int) = (L : Int) by omega)
                      have hlt : m3 < b.length := by have := HL.out; omega
                      obtain ⟨c, hc⟩ : ∃ c, c = rd b (m3 : Int) := ⟨_, rfl⟩
                      have hdr : b.drop m3 = c :: b.drop (m3 + 1) := by
                        rw [List.drop_eq_getElem_cons hlt, hc]
                        simp [rd, hlt]
                      have HF4 : Aside0 (Fq = if c = wt then feedGo (DE lf o2 (j + 1)) (b.drop (m3 + 1)) (m3 + 1) else ({ DE lf o2 j with wrong := 100 }, m3 + 1)) := ⟨by rw [HF3.out, hdr, feed_DE hj, hwt]⟩
                      have hCw := Kd.C_below HCb.out HB.out
                      obtain ⟨ad, eA, hx⟩ := Kd.at_int hCw (m3 : Int) (by omega) (by omega)
                      cases eA
                      rw [Int.toNat_natCast, ← hc] at hx
                      have HX0 : Aside0 ((wr.setCell ⟨g5, 2, none⟩ (.int .i64 ((m3 : Int) + 1))).cell? (ad.add m3) = some (.int .u8 c)) := ⟨by
                        obtain ⟨ad2, eA2, hx2⟩ := Kd.at_int (Kd.C_below HCb.out (HB.out.setCell (p := ⟨g5, 2, none⟩) HGE5.out (.int .i64 ((m3 : Int) + 1)))) (m3 : Int) (by omega) (by omega)
                        cases eA2
                        rw [Int.toNat_natCast, ← hc] at hx2
                        exact hx2⟩
                      have hx0 := HX0.out
                      have hmlt : (m3 : Int) < L := by omega
                      have HLT := Aside0.mk hlt
                      have K5S : Aside0 ((wr.setCell ⟨g5, 2, none⟩ (.int .i64 ((m3 : Int) + 1))).heap[g5]? = some (.cells (rdc (.slice A2 L2 c2) (.slice none 0 0) ((m3 : Int) + 1) false 0) 27 (0, 0))) := ⟨blk_put HK5.out 2 _ rfl⟩
                      have K4S : Aside0 ((wr.setCell ⟨g5, 2, none⟩ (.int .i64 ((m3 : Int) + 1))).heap[g4]? = some (.cells (rdc (.slice none 0 0) (.slice none 0 0) 0 false 0) 27 (0, 0))) := ⟨(Below.heap_setCell _ _ _ _ hne2).trans HK4.out⟩
                      clear hend hdr hc hCw hk5 hk4 hlt hwt
                      by_cases hcw : c = wt
                      · have bc : (c != wt) = false := by simpa using hcw
                        have HF5 := Aside0.mk (HF4.out.trans (if_pos hcw))
                        clear hcw
                        go_wp2
                        go_roundw
                        case rel => exact ⟨j + 1, by go_num, by omega, ⟨by rw [show ((m2 + (j + 1) : Nat) : Int) = (m3 : Int) + 1 by have := Hm3.out; omega]; exact K5S.out⟩, K4S, ⟨(Below.heap_setCell _ _ _ _ hna5).trans HGA.out⟩, ⟨Kd.R_step HRo.out (fun k hk _ => by rw [Below.heap_setCell _ _ _ _ hk.2])⟩, ⟨HB.out.setCell (p := ⟨g5, 2, none⟩) HGE5.out _⟩, ⟨by have := Hm3.out; have := HLT.out; omega⟩, ⟨by rw [show m2 + (j + 1) = m3 + 1 by have := Hm3.out; omega]; exact HF5.out⟩⟩
                        case measure => simp only [intOf]; omega
                      · have bc : (c != wt) = true := by simpa using hcw
                        have HF5 := Aside0.mk (HF4.out.trans (if_neg hcw))
                        clear hcw
                        go_wp2
                        refine bodyPost_ret (results_cell_row rfl _ _ g4 27 #[.slice A2 L2 c2, .slice none 0 0, .int .i64 ((m3 : Int) + 1), .bool false, .int .i64 100] (0, 0) _ rfl (blk_five ((Below.heap_setCell _ _ _ _ hne2).trans ((Below.heap_setCell _ _ _ _ hne2).trans (HK4.out)))) Tryd.underlying27 rfl (by kernel_rfl)) rfl ?_
                        refine ⟨.slice A2 L2 c2, .slice none 0 0, ?_, ?_, ?_, (((((((HB.out).setCell (p := ⟨g5, 2, none⟩) HGE5.out _).setCell (p := ⟨g5, 4, none⟩) HGE5.out _).setCell (p := ⟨g4, 0, none⟩) HGE4.out _).setCell (p := ⟨g4, 1, none⟩) HGE4.out _).setCell (p := ⟨g4, 2, none⟩) HGE4.out _).setCell (p := ⟨g4, 3, none⟩) HGE4.out _).setCell (p := ⟨g4, 4, none⟩) HGE4.out _⟩
                        · rw [HF5.out]
                          rfl
                        · rw [HF5.out]
                          show (Kd.int .u8).R _ _ _ _ _ o2
                          refine Kd.R_mono (Kd.R_step HRo.out (fun k hk _ => ?_)) (fun _ _ => trivial)
                          rw [Below.heap_setCell _ _ _ _ hk.1, Below.heap_setCell _ _ _ _ hk.1, Below.heap_setCell _ _ _ _ hk.1, Below.heap_setCell _ _ _ _ hk.1, Below.heap_setCell _ _ _ _ hk.1, Below.heap_setCell _ _ _ _ hk.2, Below.heap_setCell _ _ _ _ hk.2]
                        · rw [HF5.out]
                          exact Kd.R_nil _ _ _ _ _
                  · have hjz : ¬ (j : Int) < 2 := by omega
                    have hj3 : j = 2 := by omega
                    subst hj3
                    clear hj2 hj
                    go_wp2
                    go_roundw
                    case rel => exact ⟨m2 + 2, o2, .slice A2 L2 c2, lf, HK5, HK4, HRo, HB, HNk, ⟨by have := HL2.out; have := HO3.out; omega⟩, by rw [← HL2.out]; exact hlf2, hlf0, HF3⟩
                    case measure => rw [nOf5_at HK5.out]; have := Hm2.out; have := HM1.out; have := HNk.out; omega
end Go.Proofs.YtcfmihghgecefaaDoor.Chk
