/- Package chunked, by hand: what a byte of a size line does (the walks); own text of this session. -/
import Derived.Test.YtnlicpihondmgaaDoorChk5
namespace Go.Proofs.YtnlicpihondmgaaDoor.Chk
open Go.RowKit Go.Proofs.YtnlicpihondmgaaDoorW.PrintWords Go.Proofs.YtnlicpihondmgaaDoorW.PrintLast
set_option linter.unusedVariables false
theorem stay_low {F : Nat → Prop} {w w1 w2 : World} (h : Stay F w w1) (hb : Below w1.heap.size w1 w2) : Stay F w w2 :=
  h.trans (Stay.below (F := fun _ => False) hb) (fun i hi => hi.elim)
set_option maxHeartbeats 4000000 in
set_option maxRecDepth 100000 in
theorem size_none (w0 w : World) (F : Nat → Prop) (p : Nat) (vl vo vt : Value) (d : Dec) (c : Int) (h : Rep w F p vl vo vt d) (hH : Held w0 w F) (hl : d.line.length ≤ 4294960000) (l1 : List Int) (e1 : Int) (hr : lined d.line c = (l1, none, e1)) :
    Calls Tryd.prog 32 #[.pointer (some ⟨p, 0, none⟩), .int .u8 c] w (StepPost w F p ({ d with line := l1 }, e1)) := by
  have HH := Aside0.mk hH
  have HIN := Aside0.mk h.inF
  have HLn := Aside0.mk (lined_none w F p vl vo vt d c l1 e1 h (by omega) hr)
  clear h hH hl hr
  go_enter Tryd.func32, Tryd.ntmps32
  go_wp2_with (first | (go_at_call 43; refine HLn.out.mono ?_; rintro e w1 ⟨rfl, ⟨vl', hrep⟩, hst⟩; have HP := Aside0.mk hrep; have HS := Aside0.mk hst; have HG1 := Aside0.mk (HH.out.next hst).g; clear hrep hst))
  go_ret
  exact ⟨rfl, ⟨_, _, _, HP.out⟩, HS.out⟩
set_option maxHeartbeats 4000000 in
set_option maxRecDepth 100000 in
theorem size_f (w0 w : World) (F : Nat → Prop) (p : Nat) (vl vo vt : Value) (d : Dec) (c : Int) (h : Rep w F p vl vo vt d) (hH : Held w0 w F) (hl : d.line.length ≤ 4294960000) (l1 : List Int) (s : ByteArray) (e1 : Int) (hr : lined d.line c = (l1, some s, e1)) (n f : Int) (hx : Hr.digits 16 (Lib.cut s.data.toList [59]).1 = (n, f)) (hf : ¬ f = 0) :
    Calls Tryd.prog 32 #[.pointer (some ⟨p, 0, none⟩), .int .u8 c] w (StepPost w F p ({ d with line := l1 }, 100)) := by
  have HH := Aside0.mk hH
  have HIN := Aside0.mk h.inF
  have hss := (lined_size _ _ _ _ _ hr).1
  have HLn := Aside0.mk (lined_some w F p vl vo vt d c l1 s e1 h (by omega) hr)
  have hcl := cut_len s.data.toList 59
  rw [← Px.sz] at hcl
  have HCu : Aside0 (∀ w', GInv w' → Calls Tryd.prog 44 #[.string s, .string ⟨#[59]⟩] w' fun e w2 => e = .returned (.tuple #[.string (Px.mkB (Lib.cut s.data.toList [59]).1), .string (Px.mkB (Lib.cut s.data.toList [59]).2.1), .bool (Lib.cut s.data.toList [59]).2.2]) ∧ Below w'.heap.size w' w2) := ⟨fun w' hg => cut_calls s 59 w' (by omega) hg⟩
  have HHx : Aside0 (∀ w', GInv w' → Calls Tryd.prog 45 #[.string (Px.mkB (Lib.cut s.data.toList [59]).1)] w' fun e w2 => e = .returned (.tuple #[.int .i64 n, .int .i64 f]) ∧ Below w'.heap.size w' w2) := ⟨fun w' hg => hex_calls _ n f w' (by rw [Px.mkB_size]; omega) (by rw [Px.mkB_data]; exact hx) hg⟩
  have hms : (Px.mkB (Lib.cut s.data.toList [59]).2.1).size ≤ 4294960000 := by rw [Px.mkB_size]; omega
  obtain ⟨L, hL⟩ : ∃ L, L = d.left := ⟨_, rfl⟩
  have HL := Aside0.mk hL
  clear h hH hl hss hcl hr hx
  generalize Px.mkB (Lib.cut s.data.toList [59]).1 = a at *
  generalize Px.mkB (Lib.cut s.data.toList [59]).2.1 = m at *
  generalize (Lib.cut s.data.toList [59]).2.2 = ok at *
  clear hL
  have bf : (f != 0) = true := by simpa using hf
  go_enter Tryd.func32, Tryd.ntmps32
  go_wp2_with (first | (go_at_call 43; refine HLn.out.mono ?_; rintro e w1 ⟨rfl, ⟨vl', hrep⟩, hst⟩; have HP := Aside0.mk hrep; have HS := Aside0.mk hst; have HG1 := Aside0.mk (HH.out.next hst).g; clear hrep hst) | (go_at_call 44; refine (HCu.out _ (GInv.below' HG1 (by repeat (first | exact Below.refl _ _ | apply below_drew1 | apply pw_below_drewN)))).mono ?_; rintro e w2 ⟨rfl, hb⟩; have B2 := Aside0.mk (below_step (by repeat (first | exact Below.refl _ _ | apply below_drew1 | apply pw_below_drewN)) hb); clear hb; have HG2 := Aside0.mk (GInv.below' HG1 B2.out)) | (go_at_call 45; refine (HHx.out _ (GInv.below' HG2 (by repeat (first | exact Below.refl _ _ | apply below_drew1 | apply pw_below_drewN)))).mono ?_; rintro e w3 ⟨rfl, hb⟩; have B3 := Aside0.mk (below_step (by repeat (first | exact B2.out | apply below_drew1 | apply pw_below_drewN)) hb); clear hb))
  go_ret
  exact ⟨rfl, ⟨_, _, _, HP.out.below ((by repeat (first | exact B3.out | apply below_drew1 | apply pw_below_drewN)))⟩, stay_low HS.out ((by repeat (first | exact B3.out | apply below_drew1 | apply pw_below_drewN)))⟩
set_option maxHeartbeats 4000000 in
set_option maxRecDepth 100000 in
theorem size_v (w0 w : World) (F : Nat → Prop) (p : Nat) (vl vo vt : Value) (d : Dec) (c : Int) (h : Rep w F p vl vo vt d) (hH : Held w0 w F) (hl : d.line.length ≤ 4294960000) (l1 : List Int) (s : ByteArray) (e1 : Int) (hr : lined d.line c = (l1, some s, e1)) (n f : Int) (hx : Hr.digits 16 (Lib.cut s.data.toList [59]).1 = (n, f)) (hf : f = 0) (hv : Px.value ([97] ++ (Lib.cut s.data.toList [59]).2.1 ++ [97]) = false) :
    Calls Tryd.prog 32 #[.pointer (some ⟨p, 0, none⟩), .int .u8 c] w (StepPost w F p ({ d with line := l1 }, 100)) := by
  have HH := Aside0.mk hH
  have HIN := Aside0.mk h.inF
  have hss := (lined_size _ _ _ _ _ hr).1
  have HLn := Aside0.mk (lined_some w F p vl vo vt d c l1 s e1 h (by omega) hr)
  have hcl := cut_len s.data.toList 59
  rw [← Px.sz] at hcl
  have HCu : Aside0 (∀ w', GInv w' → Calls Tryd.prog 44 #[.string s, .string ⟨#[59]⟩] w' fun e w2 => e = .returned (.tuple #[.string (Px.mkB (Lib.cut s.data.toList [59]).1), .string (Px.mkB (Lib.cut s.data.toList [59]).2.1), .bool (Lib.cut s.data.toList [59]).2.2]) ∧ Below w'.heap.size w' w2) := ⟨fun w' hg => cut_calls s 59 w' (by omega) hg⟩
  have HHx : Aside0 (∀ w', GInv w' → Calls Tryd.prog 45 #[.string (Px.mkB (Lib.cut s.data.toList [59]).1)] w' fun e w2 => e = .returned (.tuple #[.int .i64 n, .int .i64 f]) ∧ Below w'.heap.size w' w2) := ⟨fun w' hg => hex_calls _ n f w' (by rw [Px.mkB_size]; omega) (by rw [Px.mkB_data]; exact hx) hg⟩
  have HVa : Aside0 (∀ w', Calls Tryd.prog 46 #[.string ((⟨#[97]⟩ : ByteArray) ++ Px.mkB (Lib.cut s.data.toList [59]).2.1 ++ (⟨#[97]⟩ : ByteArray))] w' fun e w2 => e = .returned (.bool false) ∧ Below w'.heap.size w' w2) := ⟨fun w' => value_calls _ false w' (by rw [show (⟨#[97]⟩ : ByteArray) = Px.mkB [97] from rfl, Px.mkB_append, Px.mkB_append, Px.mkB_size]; simp only [List.length_append, List.length_cons, List.length_nil]; omega) (by rw [show (⟨#[97]⟩ : ByteArray) = Px.mkB [97] from rfl, Px.mkB_append, Px.mkB_append, Px.mkB_data]; exact hv)⟩
  clear hv
  have hms : (Px.mkB (Lib.cut s.data.toList [59]).2.1).size ≤ 4294960000 := by rw [Px.mkB_size]; omega
  obtain ⟨L, hL⟩ : ∃ L, L = d.left := ⟨_, rfl⟩
  have HL := Aside0.mk hL
  clear h hH hl hss hcl hr hx
  generalize Px.mkB (Lib.cut s.data.toList [59]).1 = a at *
  generalize Px.mkB (Lib.cut s.data.toList [59]).2.1 = m at *
  generalize (Lib.cut s.data.toList [59]).2.2 = ok at *
  clear hL
  subst hf
  go_enter Tryd.func32, Tryd.ntmps32
  go_wp2_with (first | (go_at_call 43; refine HLn.out.mono ?_; rintro e w1 ⟨rfl, ⟨vl', hrep⟩, hst⟩; have HP := Aside0.mk hrep; have HS := Aside0.mk hst; have HG1 := Aside0.mk (HH.out.next hst).g; clear hrep hst) | (go_at_call 44; refine (HCu.out _ (GInv.below' HG1 (by repeat (first | exact Below.refl _ _ | apply below_drew1 | apply pw_below_drewN)))).mono ?_; rintro e w2 ⟨rfl, hb⟩; have B2 := Aside0.mk (below_step (by repeat (first | exact Below.refl _ _ | apply below_drew1 | apply pw_below_drewN)) hb); clear hb; have HG2 := Aside0.mk (GInv.below' HG1 B2.out)) | (go_at_call 45; refine (HHx.out _ (GInv.below' HG2 (by repeat (first | exact Below.refl _ _ | apply below_drew1 | apply pw_below_drewN)))).mono ?_; rintro e w3 ⟨rfl, hb⟩; have B3 := Aside0.mk (below_step (by repeat (first | exact B2.out | apply below_drew1 | apply pw_below_drewN)) hb); clear hb) | (go_at_call 46; refine (HVa.out _).mono ?_; rintro e w4 ⟨rfl, hb⟩; have B4 := Aside0.mk (below_step (by repeat (first | exact B3.out | apply below_drew1 | apply pw_below_drewN)) hb); clear hb; have HP4 := Aside0.mk (HP.out.below B4.out); have HS4 := Aside0.mk (stay_low HS.out B4.out); have hz0 : w4.cell? ⟨p, 0, none⟩ = some (.int .i64 L) := by { rw [HL.out]; exact (blk_cell HP4.out.blk 0).trans rfl }; have hf0 := blk_frozen HP4.out.blk 0; have hz1 : w4.cell? ⟨p, 1, none⟩ = some (.int .i64 d.need) := (blk_cell HP4.out.blk 1).trans rfl; have hf1 := blk_frozen HP4.out.blk 1; have hz3 : w4.cell? ⟨p, 3, none⟩ = some (.func (.func (stF d.st)) #[.pointer (some ⟨p, 0, none⟩)] #[]) := (blk_cell HP4.out.blk 3).trans rfl; have hf3 := blk_frozen HP4.out.blk 3))
  go_ret
  exact ⟨rfl, ⟨_, _, _, HP4.out.below ((by repeat (first | exact Below.refl _ _ | apply below_drew1 | apply pw_below_drewN)))⟩, stay_low HS4.out ((by repeat (first | exact Below.refl _ _ | apply below_drew1 | apply pw_below_drewN)))⟩
set_option maxHeartbeats 4000000 in
set_option maxRecDepth 100000 in
theorem size_long (w0 w : World) (F : Nat → Prop) (p : Nat) (vl vo vt : Value) (d : Dec) (c : Int) (h : Rep w F p vl vo vt d) (hH : Held w0 w F) (hl : d.line.length ≤ 4294960000) (l1 : List Int) (s : ByteArray) (e1 : Int) (hr : lined d.line c = (l1, some s, e1)) (n f : Int) (hx : Hr.digits 16 (Lib.cut s.data.toList [59]).1 = (n, f)) (hf : f = 0) (hv : Px.value ([97] ++ (Lib.cut s.data.toList [59]).2.1 ++ [97]) = true) (hn : d.left < n) :
    Calls Tryd.prog 32 #[.pointer (some ⟨p, 0, none⟩), .int .u8 c] w (StepPost w F p ({ d with line := l1 }, 2)) := by
  have HH := Aside0.mk hH
  have HIN := Aside0.mk h.inF
  have hss := (lined_size _ _ _ _ _ hr).1
  have HLn := Aside0.mk (lined_some w F p vl vo vt d c l1 s e1 h (by omega) hr)
  have hcl := cut_len s.data.toList 59
  rw [← Px.sz] at hcl
  have HCu : Aside0 (∀ w', GInv w' → Calls Tryd.prog 44 #[.string s, .string ⟨#[59]⟩] w' fun e w2 => e = .returned (.tuple #[.string (Px.mkB (Lib.cut s.data.toList [59]).1), .string (Px.mkB (Lib.cut s.data.toList [59]).2.1), .bool (Lib.cut s.data.toList [59]).2.2]) ∧ Below w'.heap.size w' w2) := ⟨fun w' hg => cut_calls s 59 w' (by omega) hg⟩
  have HHx : Aside0 (∀ w', GInv w' → Calls Tryd.prog 45 #[.string (Px.mkB (Lib.cut s.data.toList [59]).1)] w' fun e w2 => e = .returned (.tuple #[.int .i64 n, .int .i64 f]) ∧ Below w'.heap.size w' w2) := ⟨fun w' hg => hex_calls _ n f w' (by rw [Px.mkB_size]; omega) (by rw [Px.mkB_data]; exact hx) hg⟩
  have HVa : Aside0 (∀ w', Calls Tryd.prog 46 #[.string ((⟨#[97]⟩ : ByteArray) ++ Px.mkB (Lib.cut s.data.toList [59]).2.1 ++ (⟨#[97]⟩ : ByteArray))] w' fun e w2 => e = .returned (.bool true) ∧ Below w'.heap.size w' w2) := ⟨fun w' => value_calls _ true w' (by rw [show (⟨#[97]⟩ : ByteArray) = Px.mkB [97] from rfl, Px.mkB_append, Px.mkB_append, Px.mkB_size]; simp only [List.length_append, List.length_cons, List.length_nil]; omega) (by rw [show (⟨#[97]⟩ : ByteArray) = Px.mkB [97] from rfl, Px.mkB_append, Px.mkB_append, Px.mkB_data]; exact hv)⟩
  clear hv
  have hms : (Px.mkB (Lib.cut s.data.toList [59]).2.1).size ≤ 4294960000 := by rw [Px.mkB_size]; omega
  obtain ⟨L, hL⟩ : ∃ L, L = d.left := ⟨_, rfl⟩
  have HL := Aside0.mk hL
  rw [← hL] at hn
  clear h hH hl hss hcl hr hx
  generalize Px.mkB (Lib.cut s.data.toList [59]).1 = a at *
  generalize Px.mkB (Lib.cut s.data.toList [59]).2.1 = m at *
  generalize (Lib.cut s.data.toList [59]).2.2 = ok at *
  clear hL
  subst hf
  go_enter Tryd.func32, Tryd.ntmps32
  go_wp2_with (first | (go_at_call 43; refine HLn.out.mono ?_; rintro e w1 ⟨rfl, ⟨vl', hrep⟩, hst⟩; have HP := Aside0.mk hrep; have HS := Aside0.mk hst; have HG1 := Aside0.mk (HH.out.next hst).g; clear hrep hst) | (go_at_call 44; refine (HCu.out _ (GInv.below' HG1 (by repeat (first | exact Below.refl _ _ | apply below_drew1 | apply pw_below_drewN)))).mono ?_; rintro e w2 ⟨rfl, hb⟩; have B2 := Aside0.mk (below_step (by repeat (first | exact Below.refl _ _ | apply below_drew1 | apply pw_below_drewN)) hb); clear hb; have HG2 := Aside0.mk (GInv.below' HG1 B2.out)) | (go_at_call 45; refine (HHx.out _ (GInv.below' HG2 (by repeat (first | exact Below.refl _ _ | apply below_drew1 | apply pw_below_drewN)))).mono ?_; rintro e w3 ⟨rfl, hb⟩; have B3 := Aside0.mk (below_step (by repeat (first | exact B2.out | apply below_drew1 | apply pw_below_drewN)) hb); clear hb) | (go_at_call 46; refine (HVa.out _).mono ?_; rintro e w4 ⟨rfl, hb⟩; have B4 := Aside0.mk (below_step (by repeat (first | exact B3.out | apply below_drew1 | apply pw_below_drewN)) hb); clear hb; have HP4 := Aside0.mk (HP.out.below B4.out); have HS4 := Aside0.mk (stay_low HS.out B4.out); have hz0 : w4.cell? ⟨p, 0, none⟩ = some (.int .i64 L) := by { rw [HL.out]; exact (blk_cell HP4.out.blk 0).trans rfl }; have hf0 := blk_frozen HP4.out.blk 0; have hz1 : w4.cell? ⟨p, 1, none⟩ = some (.int .i64 d.need) := (blk_cell HP4.out.blk 1).trans rfl; have hf1 := blk_frozen HP4.out.blk 1; have hz3 : w4.cell? ⟨p, 3, none⟩ = some (.func (.func (stF d.st)) #[.pointer (some ⟨p, 0, none⟩)] #[]) := (blk_cell HP4.out.blk 3).trans rfl; have hf3 := blk_frozen HP4.out.blk 3))
  go_ret
  exact ⟨rfl, ⟨_, _, _, HP4.out.below ((by repeat (first | exact Below.refl _ _ | apply below_drew1 | apply pw_below_drewN)))⟩, stay_low HS4.out ((by repeat (first | exact Below.refl _ _ | apply below_drew1 | apply pw_below_drewN)))⟩
set_option maxHeartbeats 4000000 in
set_option maxRecDepth 100000 in
theorem size_zero (w0 w : World) (F : Nat → Prop) (p : Nat) (vl vo vt : Value) (d : Dec) (c : Int) (h : Rep w F p vl vo vt d) (hH : Held w0 w F) (hl : d.line.length ≤ 4294960000) (l1 : List Int) (s : ByteArray) (e1 : Int) (hr : lined d.line c = (l1, some s, e1)) (n f : Int) (hx : Hr.digits 16 (Lib.cut s.data.toList [59]).1 = (n, f)) (hf : f = 0) (hv : Px.value ([97] ++ (Lib.cut s.data.toList [59]).2.1 ++ [97]) = true) (hn : n = 0) (hl0 : 0 ≤ d.left) :
    Calls Tryd.prog 32 #[.pointer (some ⟨p, 0, none⟩), .int .u8 c] w (StepPost w F p ({ d with line := l1, st := 3 }, 0)) := by
  have HH := Aside0.mk hH
  have HIN := Aside0.mk h.inF
  have hss := (lined_size _ _ _ _ _ hr).1
  have HLn := Aside0.mk (lined_some w F p vl vo vt d c l1 s e1 h (by omega) hr)
  have hcl := cut_len s.data.toList 59
  rw [← Px.sz] at hcl
  have HCu : Aside0 (∀ w', GInv w' → Calls Tryd.prog 44 #[.string s, .string ⟨#[59]⟩] w' fun e w2 => e = .returned (.tuple #[.string (Px.mkB (Lib.cut s.data.toList [59]).1), .string (Px.mkB (Lib.cut s.data.toList [59]).2.1), .bool (Lib.cut s.data.toList [59]).2.2]) ∧ Below w'.heap.size w' w2) := ⟨fun w' hg => cut_calls s 59 w' (by omega) hg⟩
  have HHx : Aside0 (∀ w', GInv w' → Calls Tryd.prog 45 #[.string (Px.mkB (Lib.cut s.data.toList [59]).1)] w' fun e w2 => e = .returned (.tuple #[.int .i64 n, .int .i64 f]) ∧ Below w'.heap.size w' w2) := ⟨fun w' hg => hex_calls _ n f w' (by rw [Px.mkB_size]; omega) (by rw [Px.mkB_data]; exact hx) hg⟩
  have HVa : Aside0 (∀ w', Calls Tryd.prog 46 #[.string ((⟨#[97]⟩ : ByteArray) ++ Px.mkB (Lib.cut s.data.toList [59]).2.1 ++ (⟨#[97]⟩ : ByteArray))] w' fun e w2 => e = .returned (.bool true) ∧ Below w'.heap.size w' w2) := ⟨fun w' => value_calls _ true w' (by rw [show (⟨#[97]⟩ : ByteArray) = Px.mkB [97] from rfl, Px.mkB_append, Px.mkB_append, Px.mkB_size]; simp only [List.length_append, List.length_cons, List.length_nil]; omega) (by rw [show (⟨#[97]⟩ : ByteArray) = Px.mkB [97] from rfl, Px.mkB_append, Px.mkB_append, Px.mkB_data]; exact hv)⟩
  clear hv
  have hms : (Px.mkB (Lib.cut s.data.toList [59]).2.1).size ≤ 4294960000 := by rw [Px.mkB_size]; omega
  obtain ⟨L, hL⟩ : ∃ L, L = d.left := ⟨_, rfl⟩
  have HL := Aside0.mk hL
  rw [← hL] at hl0
  clear h hH hl hss hcl hr hx
  generalize Px.mkB (Lib.cut s.data.toList [59]).1 = a at *
  generalize Px.mkB (Lib.cut s.data.toList [59]).2.1 = m at *
  generalize (Lib.cut s.data.toList [59]).2.2 = ok at *
  clear hL
  subst hf
  subst hn
  have hng : ¬ L < 0 := by omega
  go_enter Tryd.func32, Tryd.ntmps32
  go_wp2_with (first | (go_at_call 43; refine HLn.out.mono ?_; rintro e w1 ⟨rfl, ⟨vl', hrep⟩, hst⟩; have HP := Aside0.mk hrep; have HS := Aside0.mk hst; have HG1 := Aside0.mk (HH.out.next hst).g; clear hrep hst) | (go_at_call 44; refine (HCu.out _ (GInv.below' HG1 (by repeat (first | exact Below.refl _ _ | apply below_drew1 | apply pw_below_drewN)))).mono ?_; rintro e w2 ⟨rfl, hb⟩; have B2 := Aside0.mk (below_step (by repeat (first | exact Below.refl _ _ | apply below_drew1 | apply pw_below_drewN)) hb); clear hb; have HG2 := Aside0.mk (GInv.below' HG1 B2.out)) | (go_at_call 45; refine (HHx.out _ (GInv.below' HG2 (by repeat (first | exact Below.refl _ _ | apply below_drew1 | apply pw_below_drewN)))).mono ?_; rintro e w3 ⟨rfl, hb⟩; have B3 := Aside0.mk (below_step (by repeat (first | exact B2.out | apply below_drew1 | apply pw_below_drewN)) hb); clear hb) | (go_at_call 46; refine (HVa.out _).mono ?_; rintro e w4 ⟨rfl, hb⟩; have B4 := Aside0.mk (below_step (by repeat (first | exact B3.out | apply below_drew1 | apply pw_below_drewN)) hb); clear hb; have HP4 := Aside0.mk (HP.out.below B4.out); have HS4 := Aside0.mk (stay_low HS.out B4.out); have hz0 : w4.cell? ⟨p, 0, none⟩ = some (.int .i64 L) := by { rw [HL.out]; exact (blk_cell HP4.out.blk 0).trans rfl }; have hf0 := blk_frozen HP4.out.blk 0; have hz1 : w4.cell? ⟨p, 1, none⟩ = some (.int .i64 d.need) := (blk_cell HP4.out.blk 1).trans rfl; have hf1 := blk_frozen HP4.out.blk 1; have hz3 : w4.cell? ⟨p, 3, none⟩ = some (.func (.func (stF d.st)) #[.pointer (some ⟨p, 0, none⟩)] #[]) := (blk_cell HP4.out.blk 3).trans rfl; have hf3 := blk_frozen HP4.out.blk 3))
  go_ret
  exact ⟨rfl, ⟨_, _, _, HP4.out.scal (i := 3) (v := .func (.func (stF 3)) #[.pointer (some ⟨p, 0, none⟩)] #[]) (d' := { d with line := l1, st := 3 }) rfl rfl rfl rfl⟩, HS4.out.set (p := ⟨p, 3, none⟩) HIN.out _⟩
set_option maxHeartbeats 4000000 in
set_option maxRecDepth 100000 in
theorem size_go (w0 w : World) (F : Nat → Prop) (p : Nat) (vl vo vt : Value) (d : Dec) (c : Int) (h : Rep w F p vl vo vt d) (hH : Held w0 w F) (hl : d.line.length ≤ 4294960000) (l1 : List Int) (s : ByteArray) (e1 : Int) (hr : lined d.line c = (l1, some s, e1)) (n f : Int) (hx : Hr.digits 16 (Lib.cut s.data.toList [59]).1 = (n, f)) (hf : f = 0) (hv : Px.value ([97] ++ (Lib.cut s.data.toList [59]).2.1 ++ [97]) = true) (hn : 0 < n) (hn2 : n ≤ d.left) (hl1 : d.left ≤ 9007199254740992) :
    Calls Tryd.prog 32 #[.pointer (some ⟨p, 0, none⟩), .int .u8 c] w (StepPost w F p ({ d with line := l1, left := d.left - n, need := n, st := 1 }, 0)) := by
  have HH := Aside0.mk hH
  have HIN := Aside0.mk h.inF
  have hss := (lined_size _ _ _ _ _ hr).1
  have HLn := Aside0.mk (lined_some w F p vl vo vt d c l1 s e1 h (by omega) hr)
  have hcl := cut_len s.data.toList 59
  rw [← Px.sz] at hcl
  have HCu : Aside0 (∀ w', GInv w' → Calls Tryd.prog 44 #[.string s, .string ⟨#[59]⟩] w' fun e w2 => e = .returned (.tuple #[.string (Px.mkB (Lib.cut s.data.toList [59]).1), .string (Px.mkB (Lib.cut s.data.toList [59]).2.1), .bool (Lib.cut s.data.toList [59]).2.2]) ∧ Below w'.heap.size w' w2) := ⟨fun w' hg => cut_calls s 59 w' (by omega) hg⟩
  have HHx : Aside0 (∀ w', GInv w' → Calls Tryd.prog 45 #[.string (Px.mkB (Lib.cut s.data.toList [59]).1)] w' fun e w2 => e = .returned (.tuple #[.int .i64 n, .int .i64 f]) ∧ Below w'.heap.size w' w2) := ⟨fun w' hg => hex_calls _ n f w' (by rw [Px.mkB_size]; omega) (by rw [Px.mkB_data]; exact hx) hg⟩
  have HVa : Aside0 (∀ w', Calls Tryd.prog 46 #[.string ((⟨#[97]⟩ : ByteArray) ++ Px.mkB (Lib.cut s.data.toList [59]).2.1 ++ (⟨#[97]⟩ : ByteArray))] w' fun e w2 => e = .returned (.bool true) ∧ Below w'.heap.size w' w2) := ⟨fun w' => value_calls _ true w' (by rw [show (⟨#[97]⟩ : ByteArray) = Px.mkB [97] from rfl, Px.mkB_append, Px.mkB_append, Px.mkB_size]; simp only [List.length_append, List.length_cons, List.length_nil]; omega) (by rw [show (⟨#[97]⟩ : ByteArray) = Px.mkB [97] from rfl, Px.mkB_append, Px.mkB_append, Px.mkB_data]; exact hv)⟩
  clear hv
  have hms : (Px.mkB (Lib.cut s.data.toList [59]).2.1).size ≤ 4294960000 := by rw [Px.mkB_size]; omega
  obtain ⟨L, hL⟩ : ∃ L, L = d.left := ⟨_, rfl⟩
  have HL := Aside0.mk hL
  rw [← hL] at hn2 hl1
  clear h hH hl hss hcl hr hx
  generalize Px.mkB (Lib.cut s.data.toList [59]).1 = a at *
  generalize Px.mkB (Lib.cut s.data.toList [59]).2.1 = m at *
  generalize (Lib.cut s.data.toList [59]).2.2 = ok at *
  clear hL
  subst hf
  have hng : ¬ L < n := by omega
  have hnz : ¬ n = 0 := by omega
  have bn : (n == 0) = false := by simpa using hnz
  go_enter Tryd.func32, Tryd.ntmps32
  go_wp2_with (first | (go_at_call 43; refine HLn.out.mono ?_; rintro e w1 ⟨rfl, ⟨vl', hrep⟩, hst⟩; have HP := Aside0.mk hrep; have HS := Aside0.mk hst; have HG1 := Aside0.mk (HH.out.next hst).g; clear hrep hst) | (go_at_call 44; refine (HCu.out _ (GInv.below' HG1 (by repeat (first | exact Below.refl _ _ | apply below_drew1 | apply pw_below_drewN)))).mono ?_; rintro e w2 ⟨rfl, hb⟩; have B2 := Aside0.mk (below_step (by repeat (first | exact Below.refl _ _ | apply below_drew1 | apply pw_below_drewN)) hb); clear hb; have HG2 := Aside0.mk (GInv.below' HG1 B2.out)) | (go_at_call 45; refine (HHx.out _ (GInv.below' HG2 (by repeat (first | exact Below.refl _ _ | apply below_drew1 | apply pw_below_drewN)))).mono ?_; rintro e w3 ⟨rfl, hb⟩; have B3 := Aside0.mk (below_step (by repeat (first | exact B2.out | apply below_drew1 | apply pw_below_drewN)) hb); clear hb) | (go_at_call 46; refine (HVa.out _).mono ?_; rintro e w4 ⟨rfl, hb⟩; have B4 := Aside0.mk (below_step (by repeat (first | exact B3.out | apply below_drew1 | apply pw_below_drewN)) hb); clear hb; have HP4 := Aside0.mk (HP.out.below B4.out); have HS4 := Aside0.mk (stay_low HS.out B4.out); have hz0 : w4.cell? ⟨p, 0, none⟩ = some (.int .i64 L) := by { rw [HL.out]; exact (blk_cell HP4.out.blk 0).trans rfl }; have hf0 := blk_frozen HP4.out.blk 0; have hz1 : w4.cell? ⟨p, 1, none⟩ = some (.int .i64 d.need) := (blk_cell HP4.out.blk 1).trans rfl; have hf1 := blk_frozen HP4.out.blk 1; have hz3 : w4.cell? ⟨p, 3, none⟩ = some (.func (.func (stF d.st)) #[.pointer (some ⟨p, 0, none⟩)] #[]) := (blk_cell HP4.out.blk 3).trans rfl; have hf3 := blk_frozen HP4.out.blk 3))
  have HP5 := Aside0.mk (HP4.out.scal (i := 0) (v := .int .i64 (L - n)) (d' := { d with line := l1, left := L - n }) rfl rfl rfl rfl)
  have HP6 := Aside0.mk (HP5.out.scal (i := 1) (v := .int .i64 n) (d' := { d with line := l1, left := L - n, need := n }) rfl rfl rfl rfl)
  have HP7 := Aside0.mk (HP6.out.scal (i := 3) (v := .func (.func (stF 1)) #[.pointer (some ⟨p, 0, none⟩)] #[]) (d' := { d with line := l1, left := L - n, need := n, st := 1 }) rfl rfl rfl rfl)
  have HS7 := Aside0.mk (((HS4.out.set (p := ⟨p, 0, none⟩) HIN.out (.int .i64 (L - n))).set (p := ⟨p, 1, none⟩) HIN.out (.int .i64 n)).set (p := ⟨p, 3, none⟩) HIN.out (.func (.func (stF 1)) #[.pointer (some ⟨p, 0, none⟩)] #[]))
  go_ret
  rw [← HL.out]
  exact ⟨rfl, ⟨_, _, _, HP7.out⟩, HS7.out⟩
end Go.Proofs.YtnlicpihondmgaaDoor.Chk
