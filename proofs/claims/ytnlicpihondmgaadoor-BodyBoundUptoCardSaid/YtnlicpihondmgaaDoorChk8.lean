/- Package chunked, by hand: what a byte of a trailer's line does (the walks); own text of this session. -/
import Derived.Test.YtnlicpihondmgaaDoorChk7
import Derived.Deep.RegionLaw
namespace Go.Proofs.YtnlicpihondmgaaDoor.Chk
open Go.RowKit Go.Proofs.YtnlicpihondmgaaDoorW.PrintWords Go.Proofs.YtnlicpihondmgaaDoorW.PrintLast
set_option linter.unusedVariables false
theorem size_set (w : World) (p : Addr) (u : Value) : (w.setCell p u).heap.size = w.heap.size := by unfold World.setCell; split <;> simp
theorem trim_len (l : Hr.Bs) : (Hr.trim l).length ≤ l.length := by
  rw [Px.trim_eq]
  unfold Px.trimL Px.trimR
  refine Nat.le_trans (List.Sublist.length_le (List.dropWhile_sublist _)) ?_
  rw [List.length_reverse]
  refine Nat.le_trans (List.Sublist.length_le (List.dropWhile_sublist _)) ?_
  rw [List.length_reverse]
  exact Nat.le_refl _
set_option maxHeartbeats 4000000 in
set_option maxRecDepth 100000 in
theorem trailer_none (w0 w : World) (F : Nat → Prop) (p : Nat) (vl vo vt : Value) (d : Dec) (c : Int) (h : Rep w F p vl vo vt d) (hH : Held w0 w F) (hl : d.line.length ≤ 4294960000) (l1 : List Int) (e1 : Int) (hr : lined d.line c = (l1, none, e1)) :
    Calls Tryd.prog 47 #[.pointer (some ⟨p, 0, none⟩), .int .u8 c] w (StepPost w F p ({ d with line := l1 }, e1)) := by
  have HH := Aside0.mk hH
  have HLn := Aside0.mk (lined_none w F p vl vo vt d c l1 e1 h (by omega) hr)
  clear h hH hl hr
  go_enter Tryd.func47, Tryd.ntmps47
  go_wp2_with (first | (go_at_call 43; refine HLn.out.mono ?_; rintro e w1 ⟨rfl, ⟨vl', hrep⟩, hst⟩; have HP := Aside0.mk hrep; have HS := Aside0.mk hst; have HG1 := Aside0.mk (HH.out.next hst).g;  clear hrep hst))
  go_ret
  exact ⟨rfl, ⟨_, _, _, HP.out⟩, HS.out⟩
set_option maxHeartbeats 4000000 in
set_option maxRecDepth 100000 in
theorem trailer_end (w0 w : World) (F : Nat → Prop) (p : Nat) (vl vo vt : Value) (d : Dec) (c : Int) (h : Rep w F p vl vo vt d) (hH : Held w0 w F) (hl : d.line.length ≤ 4294960000) (l1 : List Int) (s : ByteArray) (e1 : Int) (hr : lined d.line c = (l1, some s, e1)) (hse : s.size = 0) :
    Calls Tryd.prog 47 #[.pointer (some ⟨p, 0, none⟩), .int .u8 c] w (StepPost w F p ({ d with line := l1, whole := true }, 0)) := by
  have HH := Aside0.mk hH
  have HIN := Aside0.mk h.inF
  have hss := (lined_size _ _ _ _ _ hr).1
  have HLn := Aside0.mk (lined_some w F p vl vo vt d c l1 s e1 h (by omega) hr)
  have hemp : s.toList.isEmpty = true := Lex.emptyB hse
  clear h hH hl hss hr hse
  go_enter Tryd.func47, Tryd.ntmps47
  go_wp2_with (first | (go_at_call 43; refine HLn.out.mono ?_; rintro e w1 ⟨rfl, ⟨vl', hrep⟩, hst⟩; have HP := Aside0.mk hrep; have HS := Aside0.mk hst; have HG1 := Aside0.mk (HH.out.next hst).g; have hz6 : w1.cell? ⟨p, 6, none⟩ = some (.bool d.whole) := (blk_cell HP.out.blk 6).trans rfl; have hf6 := blk_frozen HP.out.blk 6; clear hrep hst))
  go_ret
  exact ⟨rfl, ⟨_, _, _, HP.out.scal (i := 6) (v := .bool true) (d' := { d with line := l1, whole := true }) rfl rfl rfl rfl⟩, HS.out.set (p := ⟨p, 6, none⟩) HIN.out _⟩
set_option maxHeartbeats 4000000 in
set_option maxRecDepth 100000 in
theorem trailer_nok (w0 w : World) (F : Nat → Prop) (p : Nat) (vl vo vt : Value) (d : Dec) (c : Int) (h : Rep w F p vl vo vt d) (hH : Held w0 w F) (hl : d.line.length ≤ 4294960000) (l1 : List Int) (s : ByteArray) (e1 : Int) (hr : lined d.line c = (l1, some s, e1)) (hse : ¬ s.size = 0) (hok : (Lib.cut s.data.toList [58]).2.2 = false) :
    Calls Tryd.prog 47 #[.pointer (some ⟨p, 0, none⟩), .int .u8 c] w (StepPost w F p ({ d with line := l1 }, 100)) := by
  have HH := Aside0.mk hH
  have HIN := Aside0.mk h.inF
  have hss := (lined_size _ _ _ _ _ hr).1
  have HLn := Aside0.mk (lined_some w F p vl vo vt d c l1 s e1 h (by omega) hr)
  have hcl := cut_len s.data.toList 58
  rw [← Px.sz] at hcl
  have HCu : Aside0 (∀ w', GInv w' → Calls Tryd.prog 44 #[.string s, .string ⟨#[58]⟩] w' fun e w2 => e = .returned (.tuple #[.string (Px.mkB (Lib.cut s.data.toList [58]).1), .string (Px.mkB (Lib.cut s.data.toList [58]).2.1), .bool false]) ∧ Below w'.heap.size w' w2) := ⟨fun w' hg => by have h5 := cut_calls s 58 w' (by omega) hg; rw [hok] at h5; exact h5⟩
  have HTr : Aside0 (∀ w', Calls Tryd.prog 58 #[.string (Px.mkB (Lib.cut s.data.toList [58]).2.1)] w' fun e w2 => e = .returned (.string (Px.mkB (Hr.trim (Lib.cut s.data.toList [58]).2.1))) ∧ Below w'.heap.size w' w2) := ⟨fun w' => by have h5 := trim_calls (Px.mkB (Lib.cut s.data.toList [58]).2.1) w' (by rw [Px.mkB_size]; omega); rw [Px.mkB_data] at h5; exact h5⟩
  have hemp : s.toList.isEmpty = false := Lex.emptyB_no hse
  obtain ⟨At, ct, hvt, hct, hCt⟩ := Kd.R_reads h.tr
  obtain ⟨M, hM⟩ : ∃ M, M = d.tr.length := ⟨_, rfl⟩
  have HM := Aside0.mk hM
  rw [← hM] at hvt
  subst hvt
  have HVT := Aside0.mk h.tr
  clear h hH hl hss hcl hr hct hCt hse hok
  generalize Px.mkB (Lib.cut s.data.toList [58]).1 = a at *
  generalize Px.mkB (Hr.trim (Lib.cut s.data.toList [58]).2.1) = t at *
  generalize Px.mkB (Lib.cut s.data.toList [58]).2.1 = m at *
  clear hM
  go_enter Tryd.func47, Tryd.ntmps47
  go_wp2_with (first | (go_at_call 43; refine HLn.out.mono ?_; rintro e w1 ⟨rfl, ⟨vl', hrep⟩, hst⟩; have HP := Aside0.mk hrep; have HS := Aside0.mk hst; have HG1 := Aside0.mk (HH.out.next hst).g;  clear hrep hst) | (go_at_call 44; refine (HCu.out _ (GInv.below' HG1 (by repeat (first | exact Below.refl _ _ | apply below_drew1 | apply pw_below_drewN)))).mono ?_; rintro e w2 ⟨rfl, hb⟩; have B2 := Aside0.mk (below_step (by repeat (first | exact Below.refl _ _ | apply below_drew1 | apply pw_below_drewN)) hb); clear hb) | (go_at_call 58; refine (HTr.out _).mono ?_; rintro e w3 ⟨rfl, hb⟩; have B3 := Aside0.mk (below_step (by repeat (first | exact B2.out | apply below_drew1 | apply pw_below_drewN)) hb); clear hb) | ((with_reducible refine gate_dst (N := 11) rfl ?_); refine box_event ?hg (N := 11) ?hd (cs := #[.string (⟨#[]⟩ : ByteArray), .string (⟨#[]⟩ : ByteArray)]) (t := 49) ?hr ?_; (case hd => rfl); (case hg => rfl); (case hr => first | (go_simp; done) | (go_simp; rfl)); intro gb hg w4 hbox hb; have B4 := Aside0.mk (below_step (by repeat (first | exact B3.out | apply below_drew1 | apply pw_below_drewN)) hb); have GE : Aside0 (w1.heap.size ≤ gb) := ⟨by { rw [hg]; exact below_size (by repeat (first | exact B3.out | apply below_drew1 | apply pw_below_drewN)) }⟩; have BK := Aside0.mk hbox; have HP4 := Aside0.mk (HP.out.below B4.out); have hlt := HP.out.lt; have hne1 : ¬ p = gb := (by have := GE.out; omega); have hne2 : ¬ gb = p := (by have := GE.out; omega); clear hb hg hbox hlt; have hc0 : w4.cell? ⟨gb, 0, none⟩ = some (.string (⟨#[]⟩ : ByteArray)) := (blk_cell BK.out 0).trans rfl; have hc1 : w4.cell? ⟨gb, 1, none⟩ = some (.string (⟨#[]⟩ : ByteArray)) := (blk_cell BK.out 1).trans rfl; have hfr0 := blk_frozen BK.out 0; have hfr1 := blk_frozen BK.out 1; have hz5 : w4.cell? ⟨p, 5, none⟩ = some (.slice At M ct) := (blk_cell HP4.out.blk 5).trans rfl; have hf5 := blk_frozen HP4.out.blk 5))
  go_ret
  exact ⟨rfl, ⟨_, _, _, HP.out.below ((B4.out.setCell (p := ⟨gb, 0, none⟩) GE.out (.string a)).setCell (p := ⟨gb, 1, none⟩) GE.out (.string t))⟩, stay_low HS.out ((B4.out.setCell (p := ⟨gb, 0, none⟩) GE.out (.string a)).setCell (p := ⟨gb, 1, none⟩) GE.out (.string t))⟩
set_option maxHeartbeats 4000000 in
set_option maxRecDepth 100000 in
theorem trailer_many (w0 w : World) (F : Nat → Prop) (p : Nat) (vl vo vt : Value) (d : Dec) (c : Int) (h : Rep w F p vl vo vt d) (hH : Held w0 w F) (hl : d.line.length ≤ 4294960000) (l1 : List Int) (s : ByteArray) (e1 : Int) (hr : lined d.line c = (l1, some s, e1)) (hse : ¬ s.size = 0) (hok : (Lib.cut s.data.toList [58]).2.2 = true) (hm : d.tr.length = 100) :
    Calls Tryd.prog 47 #[.pointer (some ⟨p, 0, none⟩), .int .u8 c] w (StepPost w F p ({ d with line := l1 }, 100)) := by
  have HH := Aside0.mk hH
  have HIN := Aside0.mk h.inF
  have hss := (lined_size _ _ _ _ _ hr).1
  have HLn := Aside0.mk (lined_some w F p vl vo vt d c l1 s e1 h (by omega) hr)
  have hcl := cut_len s.data.toList 58
  rw [← Px.sz] at hcl
  have HCu : Aside0 (∀ w', GInv w' → Calls Tryd.prog 44 #[.string s, .string ⟨#[58]⟩] w' fun e w2 => e = .returned (.tuple #[.string (Px.mkB (Lib.cut s.data.toList [58]).1), .string (Px.mkB (Lib.cut s.data.toList [58]).2.1), .bool true]) ∧ Below w'.heap.size w' w2) := ⟨fun w' hg => by have h5 := cut_calls s 58 w' (by omega) hg; rw [hok] at h5; exact h5⟩
  have HTr : Aside0 (∀ w', Calls Tryd.prog 58 #[.string (Px.mkB (Lib.cut s.data.toList [58]).2.1)] w' fun e w2 => e = .returned (.string (Px.mkB (Hr.trim (Lib.cut s.data.toList [58]).2.1))) ∧ Below w'.heap.size w' w2) := ⟨fun w' => by have h5 := trim_calls (Px.mkB (Lib.cut s.data.toList [58]).2.1) w' (by rw [Px.mkB_size]; omega); rw [Px.mkB_data] at h5; exact h5⟩
  have hemp : s.toList.isEmpty = false := Lex.emptyB_no hse
  obtain ⟨At, ct, hvt, hct, hCt⟩ := Kd.R_reads h.tr
  obtain ⟨M, hM⟩ : ∃ M, M = d.tr.length := ⟨_, rfl⟩
  have HM := Aside0.mk hM
  rw [← hM] at hvt hm
  subst hvt
  have HVT := Aside0.mk h.tr
  clear h hH hl hss hcl hr hct hCt hse hok
  have bm : ((M : Int) == 100) = true := by simpa using (show (M : Int) = 100 from by omega)
  generalize Px.mkB (Lib.cut s.data.toList [58]).1 = a at *
  generalize Px.mkB (Hr.trim (Lib.cut s.data.toList [58]).2.1) = t at *
  generalize Px.mkB (Lib.cut s.data.toList [58]).2.1 = m at *
  clear hM
  go_enter Tryd.func47, Tryd.ntmps47
  go_wp2_with (first | (go_at_call 43; refine HLn.out.mono ?_; rintro e w1 ⟨rfl, ⟨vl', hrep⟩, hst⟩; have HP := Aside0.mk hrep; have HS := Aside0.mk hst; have HG1 := Aside0.mk (HH.out.next hst).g;  clear hrep hst) | (go_at_call 44; refine (HCu.out _ (GInv.below' HG1 (by repeat (first | exact Below.refl _ _ | apply below_drew1 | apply pw_below_drewN)))).mono ?_; rintro e w2 ⟨rfl, hb⟩; have B2 := Aside0.mk (below_step (by repeat (first | exact Below.refl _ _ | apply below_drew1 | apply pw_below_drewN)) hb); clear hb) | (go_at_call 58; refine (HTr.out _).mono ?_; rintro e w3 ⟨rfl, hb⟩; have B3 := Aside0.mk (below_step (by repeat (first | exact B2.out | apply below_drew1 | apply pw_below_drewN)) hb); clear hb) | ((with_reducible refine gate_dst (N := 11) rfl ?_); refine box_event ?hg (N := 11) ?hd (cs := #[.string (⟨#[]⟩ : ByteArray), .string (⟨#[]⟩ : ByteArray)]) (t := 49) ?hr ?_; (case hd => rfl); (case hg => rfl); (case hr => first | (go_simp; done) | (go_simp; rfl)); intro gb hg w4 hbox hb; have B4 := Aside0.mk (below_step (by repeat (first | exact B3.out | apply below_drew1 | apply pw_below_drewN)) hb); have GE : Aside0 (w1.heap.size ≤ gb) := ⟨by { rw [hg]; exact below_size (by repeat (first | exact B3.out | apply below_drew1 | apply pw_below_drewN)) }⟩; have BK := Aside0.mk hbox; have HP4 := Aside0.mk (HP.out.below B4.out); have hlt := HP.out.lt; have hne1 : ¬ p = gb := (by have := GE.out; omega); have hne2 : ¬ gb = p := (by have := GE.out; omega); clear hb hg hbox hlt; have hc0 : w4.cell? ⟨gb, 0, none⟩ = some (.string (⟨#[]⟩ : ByteArray)) := (blk_cell BK.out 0).trans rfl; have hc1 : w4.cell? ⟨gb, 1, none⟩ = some (.string (⟨#[]⟩ : ByteArray)) := (blk_cell BK.out 1).trans rfl; have hfr0 := blk_frozen BK.out 0; have hfr1 := blk_frozen BK.out 1; have hz5 : w4.cell? ⟨p, 5, none⟩ = some (.slice At M ct) := (blk_cell HP4.out.blk 5).trans rfl; have hf5 := blk_frozen HP4.out.blk 5))
  go_ret
  exact ⟨rfl, ⟨_, _, _, HP.out.below ((B4.out.setCell (p := ⟨gb, 0, none⟩) GE.out (.string a)).setCell (p := ⟨gb, 1, none⟩) GE.out (.string t))⟩, stay_low HS.out ((B4.out.setCell (p := ⟨gb, 0, none⟩) GE.out (.string a)).setCell (p := ⟨gb, 1, none⟩) GE.out (.string t))⟩
set_option maxHeartbeats 4000000 in
set_option maxRecDepth 100000 in
theorem trailer_bad (w0 w : World) (F : Nat → Prop) (p : Nat) (vl vo vt : Value) (d : Dec) (c : Int) (h : Rep w F p vl vo vt d) (hH : Held w0 w F) (hl : d.line.length ≤ 4294960000) (l1 : List Int) (s : ByteArray) (e1 : Int) (hr : lined d.line c = (l1, some s, e1)) (hse : ¬ s.size = 0) (hok : (Lib.cut s.data.toList [58]).2.2 = true) (hm : ¬ d.tr.length = 100) (fe : Int) (hfe : fldE (trailerF s) = fe) (hfn : ¬ fe = 0) :
    Calls Tryd.prog 47 #[.pointer (some ⟨p, 0, none⟩), .int .u8 c] w (StepPost w F p ({ d with line := l1 }, 100)) := by
  have HH := Aside0.mk hH
  have HIN := Aside0.mk h.inF
  have hss := (lined_size _ _ _ _ _ hr).1
  have HLn := Aside0.mk (lined_some w F p vl vo vt d c l1 s e1 h (by omega) hr)
  have hcl := cut_len s.data.toList 58
  rw [← Px.sz] at hcl
  have HCu : Aside0 (∀ w', GInv w' → Calls Tryd.prog 44 #[.string s, .string ⟨#[58]⟩] w' fun e w2 => e = .returned (.tuple #[.string (Px.mkB (Lib.cut s.data.toList [58]).1), .string (Px.mkB (Lib.cut s.data.toList [58]).2.1), .bool true]) ∧ Below w'.heap.size w' w2) := ⟨fun w' hg => by have h5 := cut_calls s 58 w' (by omega) hg; rw [hok] at h5; exact h5⟩
  have HTr : Aside0 (∀ w', Calls Tryd.prog 58 #[.string (Px.mkB (Lib.cut s.data.toList [58]).2.1)] w' fun e w2 => e = .returned (.string (Px.mkB (Hr.trim (Lib.cut s.data.toList [58]).2.1))) ∧ Below w'.heap.size w' w2) := ⟨fun w' => by have h5 := trim_calls (Px.mkB (Lib.cut s.data.toList [58]).2.1) w' (by rw [Px.mkB_size]; omega); rw [Px.mkB_data] at h5; exact h5⟩
  have htl : (Hr.trim (Lib.cut s.data.toList [58]).2.1).length ≤ (Lib.cut s.data.toList [58]).2.1.length := trim_len _
  have HCk : Aside0 (∀ (W : World) (g : Nat), g = W.heap.size → Calls Tryd.prog 33 #[.slice (some ⟨g, 0, none⟩) 1 1] (W.alloc (.cells #[.string (Px.mkB (Lib.cut s.data.toList [58]).1), .string (Px.mkB (Hr.trim (Lib.cut s.data.toList [58]).2.1))] 49)) fun e w' => e = .returned (.int .i64 fe) ∧ Below (W.alloc (.cells #[.string (Px.mkB (Lib.cut s.data.toList [58]).1), .string (Px.mkB (Hr.trim (Lib.cut s.data.toList [58]).2.1))] 49)).heap.size (W.alloc (.cells #[.string (Px.mkB (Lib.cut s.data.toList [58]).1), .string (Px.mkB (Hr.trim (Lib.cut s.data.toList [58]).2.1))] 49)) w') := ⟨fun W g hg => by subst hg; exact one_check (trailerF s) W fe (by show (Px.mkB _).size ≤ _; rw [Px.mkB_size]; omega) (by show (Px.mkB _).size ≤ _; rw [Px.mkB_size]; omega) hfe⟩
  clear htl hfe
  have hemp : s.toList.isEmpty = false := Lex.emptyB_no hse
  obtain ⟨At, ct, hvt, hct, hCt⟩ := Kd.R_reads h.tr
  obtain ⟨M, hM⟩ : ∃ M, M = d.tr.length := ⟨_, rfl⟩
  have HM := Aside0.mk hM
  rw [← hM] at hvt hm
  subst hvt
  have HVT := Aside0.mk h.tr
  clear h hH hl hss hcl hr hct hCt hse hok
  have bm : ((M : Int) == 100) = false := by simpa using (show ¬ (M : Int) = 100 from by omega)
  have bf : (fe != 0) = true := by simpa using hfn
  generalize Px.mkB (Lib.cut s.data.toList [58]).1 = a at *
  generalize Px.mkB (Hr.trim (Lib.cut s.data.toList [58]).2.1) = t at *
  generalize Px.mkB (Lib.cut s.data.toList [58]).2.1 = m at *
  clear hM
  go_enter Tryd.func47, Tryd.ntmps47
  go_wp2_with (first | (go_at_call 43; refine HLn.out.mono ?_; rintro e w1 ⟨rfl, ⟨vl', hrep⟩, hst⟩; have HP := Aside0.mk hrep; have HS := Aside0.mk hst; have HG1 := Aside0.mk (HH.out.next hst).g;  clear hrep hst) | (go_at_call 44; refine (HCu.out _ (GInv.below' HG1 (by repeat (first | exact Below.refl _ _ | apply below_drew1 | apply pw_below_drewN)))).mono ?_; rintro e w2 ⟨rfl, hb⟩; have B2 := Aside0.mk (below_step (by repeat (first | exact Below.refl _ _ | apply below_drew1 | apply pw_below_drewN)) hb); clear hb) | (go_at_call 58; refine (HTr.out _).mono ?_; rintro e w3 ⟨rfl, hb⟩; have B3 := Aside0.mk (below_step (by repeat (first | exact B2.out | apply below_drew1 | apply pw_below_drewN)) hb); clear hb) | ((with_reducible refine gate_dst (N := 11) rfl ?_); refine box_event ?hg (N := 11) ?hd (cs := #[.string (⟨#[]⟩ : ByteArray), .string (⟨#[]⟩ : ByteArray)]) (t := 49) ?hr ?_; (case hd => rfl); (case hg => rfl); (case hr => first | (go_simp; done) | (go_simp; rfl)); intro gb hg w4 hbox hb; have B4 := Aside0.mk (below_step (by repeat (first | exact B3.out | apply below_drew1 | apply pw_below_drewN)) hb); have GE : Aside0 (w1.heap.size ≤ gb) := ⟨by { rw [hg]; exact below_size (by repeat (first | exact B3.out | apply below_drew1 | apply pw_below_drewN)) }⟩; have BK := Aside0.mk hbox; have HP4 := Aside0.mk (HP.out.below B4.out); have hlt := HP.out.lt; have hne1 : ¬ p = gb := (by have := GE.out; omega); have hne2 : ¬ gb = p := (by have := GE.out; omega); clear hb hg hbox hlt; have hc0 : w4.cell? ⟨gb, 0, none⟩ = some (.string (⟨#[]⟩ : ByteArray)) := (blk_cell BK.out 0).trans rfl; have hc1 : w4.cell? ⟨gb, 1, none⟩ = some (.string (⟨#[]⟩ : ByteArray)) := (blk_cell BK.out 1).trans rfl; have hfr0 := blk_frozen BK.out 0; have hfr1 := blk_frozen BK.out 1; have hz5 : w4.cell? ⟨p, 5, none⟩ = some (.slice At M ct) := (blk_cell HP4.out.blk 5).trans rfl; have hf5 := blk_frozen HP4.out.blk 5) | (go_at_call 33; refine (HCk.out _ _ ?gs).mono ?_; (case gs => (first | (simp only [size_set]; done) | (rw [size_set, size_set]) | rfl)); rintro e w6 ⟨rfl, hb⟩; have B6 := Aside0.mk (below_step (below_alloc ((B4.out.setCell (p := ⟨gb, 0, none⟩) GE.out (.string a)).setCell (p := ⟨gb, 1, none⟩) GE.out (.string t)) _) hb); have BK6 := Aside0.mk (blk_below (blk_alloc (blk_set (blk_set BK.out 0 (.string a)) 1 (.string t)) _) hb); have HP6 := Aside0.mk (HP.out.below B6.out); clear hb; have hd0 : w6.cell? ⟨gb, 0, none⟩ = some (.string a) := (blk_cell BK6.out 0).trans rfl; have hd1 : w6.cell? ⟨gb, 1, none⟩ = some (.string t) := (blk_cell BK6.out 1).trans rfl; have hg0 := blk_frozen BK6.out 0; have hg1 := blk_frozen BK6.out 1; have hy5 : w6.cell? ⟨p, 5, none⟩ = some (.slice At M ct) := (blk_cell HP6.out.blk 5).trans rfl; have hx5 := blk_frozen HP6.out.blk 5))
  go_ret
  exact ⟨rfl, ⟨_, _, _, HP.out.below B6.out⟩, stay_low HS.out B6.out⟩
set_option maxHeartbeats 4000000 in
set_option maxRecDepth 100000 in
theorem trailer_go (w0 w : World) (F : Nat → Prop) (p : Nat) (vl vo vt : Value) (d : Dec) (c : Int) (h : Rep w F p vl vo vt d) (hH : Held w0 w F) (hl : d.line.length ≤ 4294960000) (l1 : List Int) (s : ByteArray) (e1 : Int) (hr : lined d.line c = (l1, some s, e1)) (hse : ¬ s.size = 0) (hok : (Lib.cut s.data.toList [58]).2.2 = true) (hm : ¬ d.tr.length = 100) (htl9 : d.tr.length ≤ 4294960000) (hfe : fldE (trailerF s) = 0) :
    Calls Tryd.prog 47 #[.pointer (some ⟨p, 0, none⟩), .int .u8 c] w (StepPost w F p ({ d with line := l1, tr := d.tr ++ [trailerF s] }, 0)) := by
  have HH := Aside0.mk hH
  have HIN := Aside0.mk h.inF
  have hss := (lined_size _ _ _ _ _ hr).1
  have HLn := Aside0.mk (lined_some w F p vl vo vt d c l1 s e1 h (by omega) hr)
  have hcl := cut_len s.data.toList 58
  rw [← Px.sz] at hcl
  have HCu : Aside0 (∀ w', GInv w' → Calls Tryd.prog 44 #[.string s, .string ⟨#[58]⟩] w' fun e w2 => e = .returned (.tuple #[.string (Px.mkB (Lib.cut s.data.toList [58]).1), .string (Px.mkB (Lib.cut s.data.toList [58]).2.1), .bool true]) ∧ Below w'.heap.size w' w2) := ⟨fun w' hg => by have h5 := cut_calls s 58 w' (by omega) hg; rw [hok] at h5; exact h5⟩
  have HTr : Aside0 (∀ w', Calls Tryd.prog 58 #[.string (Px.mkB (Lib.cut s.data.toList [58]).2.1)] w' fun e w2 => e = .returned (.string (Px.mkB (Hr.trim (Lib.cut s.data.toList [58]).2.1))) ∧ Below w'.heap.size w' w2) := ⟨fun w' => by have h5 := trim_calls (Px.mkB (Lib.cut s.data.toList [58]).2.1) w' (by rw [Px.mkB_size]; omega); rw [Px.mkB_data] at h5; exact h5⟩
  have htl : (Hr.trim (Lib.cut s.data.toList [58]).2.1).length ≤ (Lib.cut s.data.toList [58]).2.1.length := trim_len _
  have HCk : Aside0 (∀ (W : World) (g : Nat), g = W.heap.size → Calls Tryd.prog 33 #[.slice (some ⟨g, 0, none⟩) 1 1] (W.alloc (.cells #[.string (Px.mkB (Lib.cut s.data.toList [58]).1), .string (Px.mkB (Hr.trim (Lib.cut s.data.toList [58]).2.1))] 49)) fun e w' => e = .returned (.int .i64 0) ∧ Below (W.alloc (.cells #[.string (Px.mkB (Lib.cut s.data.toList [58]).1), .string (Px.mkB (Hr.trim (Lib.cut s.data.toList [58]).2.1))] 49)).heap.size (W.alloc (.cells #[.string (Px.mkB (Lib.cut s.data.toList [58]).1), .string (Px.mkB (Hr.trim (Lib.cut s.data.toList [58]).2.1))] 49)) w') := ⟨fun W g hg => by subst hg; exact one_check (trailerF s) W 0 (by show (Px.mkB _).size ≤ _; rw [Px.mkB_size]; omega) (by show (Px.mkB _).size ≤ _; rw [Px.mkB_size]; omega) hfe⟩
  clear htl hfe
  have hemp : s.toList.isEmpty = false := Lex.emptyB_no hse
  obtain ⟨At, ct, hvt, hct, hCt⟩ := Kd.R_reads h.tr
  obtain ⟨M, hM⟩ : ∃ M, M = d.tr.length := ⟨_, rfl⟩
  have HM := Aside0.mk hM
  rw [← hM] at hvt hm htl9
  subst hvt
  have HVT := Aside0.mk h.tr
  clear h hH hl hss hcl hr hct hCt hse hok
  have bm : ((M : Int) == 100) = false := by simpa using (show ¬ (M : Int) = 100 from by omega)
  obtain ⟨f, hf⟩ : ∃ f, f = trailerF s := ⟨_, rfl⟩
  rw [← hf]
  have hf0 : f.f0 = Px.mkB (Lib.cut s.data.toList [58]).1 := by rw [hf]; rfl
  have hf1 : f.f1 = Px.mkB (Hr.trim (Lib.cut s.data.toList [58]).2.1) := by rw [hf]; rfl
  clear hf
  generalize Px.mkB (Lib.cut s.data.toList [58]).1 = a at *
  generalize Px.mkB (Hr.trim (Lib.cut s.data.toList [58]).2.1) = t at *
  generalize Px.mkB (Lib.cut s.data.toList [58]).2.1 = m at *
  clear hM
  have HFF : Aside0 (f = ⟨a, t⟩) := ⟨by cases f; simp only at hf0 hf1; rw [hf0, hf1]⟩
  clear hf0 hf1
  go_enter Tryd.func47, Tryd.ntmps47
  go_wp2_with (first | (go_at_call 43; refine HLn.out.mono ?_; rintro e w1 ⟨rfl, ⟨vl', hrep⟩, hst⟩; have HP := Aside0.mk hrep; have HS := Aside0.mk hst; have HG1 := Aside0.mk (HH.out.next hst).g;  clear hrep hst) | (go_at_call 44; refine (HCu.out _ (GInv.below' HG1 (by repeat (first | exact Below.refl _ _ | apply below_drew1 | apply pw_below_drewN)))).mono ?_; rintro e w2 ⟨rfl, hb⟩; have B2 := Aside0.mk (below_step (by repeat (first | exact Below.refl _ _ | apply below_drew1 | apply pw_below_drewN)) hb); clear hb) | (go_at_call 58; refine (HTr.out _).mono ?_; rintro e w3 ⟨rfl, hb⟩; have B3 := Aside0.mk (below_step (by repeat (first | exact B2.out | apply below_drew1 | apply pw_below_drewN)) hb); clear hb) | ((with_reducible refine gate_dst (N := 11) rfl ?_); refine box_event ?hg (N := 11) ?hd (cs := #[.string (⟨#[]⟩ : ByteArray), .string (⟨#[]⟩ : ByteArray)]) (t := 49) ?hr ?_; (case hd => rfl); (case hg => rfl); (case hr => first | (go_simp; done) | (go_simp; rfl)); intro gb hg w4 hbox hb; have B4 := Aside0.mk (below_step (by repeat (first | exact B3.out | apply below_drew1 | apply pw_below_drewN)) hb); have GE : Aside0 (w1.heap.size ≤ gb) := ⟨by { rw [hg]; exact below_size (by repeat (first | exact B3.out | apply below_drew1 | apply pw_below_drewN)) }⟩; have BK := Aside0.mk hbox; have HP4 := Aside0.mk (HP.out.below B4.out); have hlt := HP.out.lt; have hne1 : ¬ p = gb := (by have := GE.out; omega); have hne2 : ¬ gb = p := (by have := GE.out; omega); clear hb hg hbox hlt; have hc0 : w4.cell? ⟨gb, 0, none⟩ = some (.string (⟨#[]⟩ : ByteArray)) := (blk_cell BK.out 0).trans rfl; have hc1 : w4.cell? ⟨gb, 1, none⟩ = some (.string (⟨#[]⟩ : ByteArray)) := (blk_cell BK.out 1).trans rfl; have hfr0 := blk_frozen BK.out 0; have hfr1 := blk_frozen BK.out 1; have hz5 : w4.cell? ⟨p, 5, none⟩ = some (.slice At M ct) := (blk_cell HP4.out.blk 5).trans rfl; have hf5 := blk_frozen HP4.out.blk 5) | (go_at_call 33; refine (HCk.out _ _ ?gs).mono ?_; (case gs => (first | (simp only [size_set]; done) | (rw [size_set, size_set]) | rfl)); rintro e w6 ⟨rfl, hb⟩; have B6 := Aside0.mk (below_step (below_alloc ((B4.out.setCell (p := ⟨gb, 0, none⟩) GE.out (.string a)).setCell (p := ⟨gb, 1, none⟩) GE.out (.string t)) _) hb); have BK6 := Aside0.mk (blk_below (blk_alloc (blk_set (blk_set BK.out 0 (.string a)) 1 (.string t)) _) hb); have HP6 := Aside0.mk (HP.out.below B6.out); clear hb; have hd0 : w6.cell? ⟨gb, 0, none⟩ = some (.string a) := (blk_cell BK6.out 0).trans rfl; have hd1 : w6.cell? ⟨gb, 1, none⟩ = some (.string t) := (blk_cell BK6.out 1).trans rfl; have hg0 := blk_frozen BK6.out 0; have hg1 := blk_frozen BK6.out 1; have hy5 : w6.cell? ⟨p, 5, none⟩ = some (.slice At M ct) := (blk_cell HP6.out.blk 5).trans rfl; have hx5 := blk_frozen HP6.out.blk 5))
  have HPd := Aside0.mk (HP6.out.below (below_drew (Below.refl _ _)) : Rep w6.drew _ _ _ _ _ _)
  have hya : ∀ o, (w6.alloc o).cell? ⟨p, 5, none⟩ = some (.slice At M ct) := fun o => (blk_cell (blk_alloc HP6.out.blk o) 5).trans rfl
  have HSd := Aside0.mk (stay_low HS.out (below_drew B6.out))
  go_region_law (refine Kd.R_append_step fldK (w0 := w6.drew) 0 (by rfl) (.tmp 57) (.tmp 59) 32 49 (.agg #[.string ⟨#[]⟩, .string ⟨#[]⟩]) 32 rfl Tryd.underlying32 info_fld rfl (by decide) (by omega) _ d.tr (⟨a, t⟩ : Fld) [.string a, .string t] (fun k => (F k ∨ w.heap.size ≤ k) ∨ w6.drew.heap.size ≤ k) (fun _ => False) rfl rfl (P.k49_mkM _ _ _ (⟨a, t⟩ : Fld)) (fun _ hk => hk.elim) (fun k hk => .inr hk) (Kd.R_mono HPd.out.tr (fun k hk => .inl hk)) (Below.refl _ _) (Nat.zero_le _) (by have := HM.out; omega) ?_; intro v1 w7 hR hb7 hg7 hat7; obtain ⟨hb8, hrep, hst⟩ := HPd.out.trTo hg7 hR; have HR7 := Aside0.mk hrep; have HS7 := Aside0.mk hst; obtain ⟨A1, c1, e1⟩ := Kd.R_slice hR; rw [List.length_append, List.length_singleton] at e1; have hz5 : w7.cell? ⟨p, 5, none⟩ = some (.slice At M ct) := (blk_cell hb8 5).trans rfl; have hf5 := blk_frozen hb8 5; clear hR hb7 hg7 hat7 hb8 hrep hst; subst e1)
  all_goals
    go_wp2
    go_ret
    rw [HFF.out]
    exact ⟨rfl, ⟨_, _, _, HR7.out.mono (fun k hk => hk.elim id (fun h2 => .inr (Nat.le_trans (Nat.le_trans HS.out.size B6.out.size) h2)))⟩, HSd.out.trans HS7.out (fun i hi => hi)⟩
end Go.Proofs.YtnlicpihondmgaaDoor.Chk
