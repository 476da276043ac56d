/- Package chunked, by hand: what a byte of a size line does; own text of this session. -/
import Derived.Test.YtcfmihghgecefaaDoorChA
import Derived.Test.YtcfmihghgecefaaDoorPx2
import Derived.Test.YtcfmihghgecefaaDoorPx4
import Derived.Test.YtcfmihghgecefaaDoorShelf
import Derived.Deep.RegionLaw
namespace Go.Proofs.YtcfmihghgecefaaDoor.Chk
open Go.RowKit Go.Proofs.YtcfmihghgecefaaDoorW.PrintWords Go.Proofs.YtcfmihghgecefaaDoorW.PrintLast
set_option linter.unusedVariables false
theorem lined_none (w : World) (F : Nat → Prop) (p : Nat) (vl vo vt : Value) (d : Dec) (c : Int) (l1 : List Int) (e1 : Int) (h : Rep w F p vl vo vt d) (hl : d.line.length ≤ 1099511627776) (hr : lined d.line c = (l1, none, e1)) :
    Calls Tryd.prog 24 #[.pointer (some ⟨p, 0, none⟩), .int .u8 c] w fun e w' => e = .returned (.tuple #[.string ⟨#[]⟩, .bool false, .int .i64 e1]) ∧ (∃ vl', Rep w' (fun k => F k ∨ w.heap.size ≤ k) p vl' vo vt { d with line := l1 }) ∧ Stay F w w' := by
  have H := lined_calls w F p vl vo vt d c h hl
  rw [hr] at H
  exact H
theorem lined_some (w : World) (F : Nat → Prop) (p : Nat) (vl vo vt : Value) (d : Dec) (c : Int) (l1 : List Int) (s : ByteArray) (e1 : Int) (h : Rep w F p vl vo vt d) (hl : d.line.length ≤ 1099511627776) (hr : lined d.line c = (l1, some s, e1)) :
    Calls Tryd.prog 24 #[.pointer (some ⟨p, 0, none⟩), .int .u8 c] w fun e w' => e = .returned (.tuple #[.string s, .bool true, .int .i64 e1]) ∧ (∃ vl', Rep w' (fun k => F k ∨ w.heap.size ≤ k) p vl' vo vt { d with line := l1 }) ∧ Stay F w w' := by
  have H := lined_calls w F p vl vo vt d c h hl
  rw [hr] at H
  exact H
theorem lined_size (l : List Int) (c : Int) (l1 : List Int) (s : ByteArray) (e1 : Int) (h : lined l c = (l1, some s, e1)) : s.size ≤ l.length ∧ l1 = [] := by
  unfold lined at h
  split at h
  · simp at h
  · split at h
    · simp only [Prod.mk.injEq, Option.some.injEq] at h
      obtain ⟨rfl, rfl, rfl⟩ := h
      refine ⟨?_, rfl⟩
      simp [strOfNums, ByteArray.size]
    · split at h <;> simp at h
/-- What a size line says; none: it is wrong. -/
def sizeLine (s : ByteArray) : Option Int :=
  if (Hr.digits 16 (Lib.cut s.data.toList [59]).1).2 = 0 ∧ Px.value ([97] ++ (Lib.cut s.data.toList [59]).2.1 ++ [97]) = true then some (Hr.digits 16 (Lib.cut s.data.toList [59]).1).1 else none
def sizeN (d : Dec) (l1 : List Int) (n : Int) : Dec × Int :=
  if n > d.left then ({ d with line := l1 }, 2)
  else if n = 0 then ({ d with line := l1, st := 3 }, 0)
  else ({ d with line := l1, left := d.left - n, need := n, st := 1 }, 0)
/-- A byte of a size line. -/
def sizeS (d : Dec) (c : Int) : Dec × Int :=
  match (lined d.line c).2.1 with
  | none => ({ d with line := (lined d.line c).1 }, (lined d.line c).2.2)
  | some s => match sizeLine s with
    | none => ({ d with line := (lined d.line c).1 }, 100)
    | some n => sizeN d (lined d.line c).1 n
theorem cut_len (l : List UInt8) (b : UInt8) : (Lib.cut l [b]).1.length ≤ l.length ∧ (Lib.cut l [b]).2.1.length ≤ l.length := by
  unfold Lib.cut
  split <;> simp <;> omega
/-- strings.Cut. -/
theorem cut_calls (s : ByteArray) (b : UInt8) (w : World) (hs : s.size < 4294967281) (hG : GInv w) :
    Calls Tryd.prog 25 #[.string s, .string ⟨#[b]⟩] w fun e w' => e = .returned (.tuple #[.string (Px.mkB (Lib.cut s.data.toList [b]).1), .string (Px.mkB (Lib.cut s.data.toList [b]).2.1), .bool (Lib.cut s.data.toList [b]).2.2]) ∧ Below w.heap.size w w' := by
  obtain ⟨n, hn⟩ := hG.ml
  refine (Tryd.strings_Cut s ⟨#[b]⟩ n w hs hn).mono ?_
  rintro e w' ⟨rfl, k, rfl⟩
  exact ⟨rfl, pw_below_drewN (Below.refl _ _) k⟩
theorem hex_calls (s : ByteArray) (n f : Int) (w : World) (hs : s.size ≤ 281474976710656) (h : Hr.digits 16 s.data.toList = (n, f)) (hG : GInv w) :
    Calls Tryd.prog 26 #[.string s] w fun e w' => e = .returned (.tuple #[.int .i64 n, .int .i64 f]) ∧ Below w.heap.size w w' :=
  P.lexis_Hex.calls s n f w (by rw [Px.lHex s hs, h]) hG
theorem value_calls (s : ByteArray) (r : Bool) (w : World) (hs : s.size ≤ 281474976710656) (h : Px.value s.data.toList = r) :
    Calls Tryd.prog 27 #[.string s] w fun e w' => e = .returned (.bool r) ∧ Below w.heap.size w w' := by
  obtain ⟨k, hk⟩ := (Px.ev_Value s (by omega)).rounds
  rw [h] at hk
  exact P.lexis_Value.calls k s r w hk
theorem digits_nonneg (b : Nat) (s : Hr.Bs) : 0 ≤ (Hr.digits b s).1 := by
  unfold Hr.digits
  split
  · exact Int.le_refl 0
  · split
    · exact Int.le_refl 0
    · split
      · exact Int.le_refl 0
      · exact Int.natCast_nonneg _
end Go.Proofs.YtcfmihghgecefaaDoor.Chk
/- Package chunked, by hand: what a byte of a size line does (the walks); own text of this session. -/
namespace Go.Proofs.YtcfmihghgecefaaDoor.Chk
open Go.RowKit Go.Proofs.YtcfmihghgecefaaDoorW.PrintWords Go.Proofs.YtcfmihghgecefaaDoorW.PrintLast
set_option linter.unusedVariables false
theorem stay_low {F : Nat → Prop} {w w1 w2 : World} (h : Stay F w w1) (hb : Below w1.heap.size w1 w2) : Stay F w w2 :=
  h.trans (Stay.below (F := fun _ => False) hb) (fun i hi => hi.elim)
set_option maxHeartbeats 4000000 in
set_option maxRecDepth 100000 in
theorem size_none (w0 w : World) (F : Nat → Prop) (p : Nat) (vl vo vt : Value) (d : Dec) (c : Int) (h : Rep w F p vl vo vt d) (hH : Held w0 w F) (hl : d.line.length ≤ 4294960000) (l1 : List Int) (e1 : Int) (hr : lined d.line c = (l1, none, e1)) :
    Calls Tryd.prog 20 #[.pointer (some ⟨p, 0, none⟩), .int .u8 c] w (StepPost w F p ({ d with line := l1 }, e1)) := by
  have HH := Aside0.mk hH
  have HIN := Aside0.mk h.inF
  have HLn := Aside0.mk (lined_none w F p vl vo vt d c l1 e1 h (by omega) hr)
  clear h hH hl hr
  go_enter Tryd.func20, Tryd.ntmps20
  go_wp2_with (first | (go_at_call 24; refine HLn.out.mono ?_; rintro e w1 ⟨rfl, ⟨vl', hrep⟩, hst⟩; have HP := Aside0.mk hrep; have HS := Aside0.mk hst; have HG1 := Aside0.mk (HH.out.next hst).g; clear hrep hst))
  go_ret
  exact ⟨rfl, ⟨_, _, _, HP.out⟩, HS.out⟩
set_option maxHeartbeats 4000000 in
set_option maxRecDepth 100000 in
theorem size_f (w0 w : World) (F : Nat → Prop) (p : Nat) (vl vo vt : Value) (d : Dec) (c : Int) (h : Rep w F p vl vo vt d) (hH : Held w0 w F) (hl : d.line.length ≤ 4294960000) (l1 : List Int) (s : ByteArray) (e1 : Int) (hr : lined d.line c = (l1, some s, e1)) (n f : Int) (hx : Hr.digits 16 (Lib.cut s.data.toList [59]).1 = (n, f)) (hf : ¬ f = 0) :
    Calls Tryd.prog 20 #[.pointer (some ⟨p, 0, none⟩), .int .u8 c] w (StepPost w F p ({ d with line := l1 }, 100)) := by
  have HH := Aside0.mk hH
  have HIN := Aside0.mk h.inF
  have hss := (lined_size _ _ _ _ _ hr).1
  have HLn := Aside0.mk (lined_some w F p vl vo vt d c l1 s e1 h (by omega) hr)
  have hcl := cut_len s.data.toList 59
  rw [← Px.sz] at hcl
  have HCu : Aside0 (∀ w', GInv w' → Calls Tryd.prog 25 #[.string s, .string ⟨#[59]⟩] w' fun e w2 => e = .returned (.tuple #[.string (Px.mkB (Lib.cut s.data.toList [59]).1), .string (Px.mkB (Lib.cut s.data.toList [59]).2.1), .bool (Lib.cut s.data.toList [59]).2.2]) ∧ Below w'.heap.size w' w2) := ⟨fun w' hg => cut_calls s 59 w' (by omega) hg⟩
  have HHx : Aside0 (∀ w', GInv w' → Calls Tryd.prog 26 #[.string (Px.mkB (Lib.cut s.data.toList [59]).1)] w' fun e w2 => e = .returned (.tuple #[.int .i64 n, .int .i64 f]) ∧ Below w'.heap.size w' w2) := ⟨fun w' hg => hex_calls _ n f w' (by rw [Px.mkB_size]; omega) (by rw [Px.mkB_data]; exact hx) hg⟩
  have hms : (Px.mkB (Lib.cut s.data.toList [59]).2.1).size ≤ 4294960000 := by rw [Px.mkB_size]; omega
  obtain ⟨L, hL⟩ : ∃ L, L = d.left := ⟨_, rfl⟩
  have HL := Aside0.mk hL
  clear h hH hl hss hcl hr hx
  generalize Px.mkB (Lib.cut s.data.toList [59]).1 = a at *
  generalize Px.mkB (Lib.cut s.data.toList [59]).2.1 = m at *
  generalize (Lib.cut s.data.toList [59]).2.2 = ok at *
  clear hL
  have bf : (f != 0) = true := by simpa using hf
  go_enter Tryd.func20, Tryd.ntmps20
  go_wp2_with (first | (go_at_call 24; refine HLn.out.mono ?_; rintro e w1 ⟨rfl, ⟨vl', hrep⟩, hst⟩; have HP := Aside0.mk hrep; have HS := Aside0.mk hst; have HG1 := Aside0.mk (HH.out.next hst).g; clear hrep hst) | (go_at_call 25; refine (HCu.out _ (GInv.below' HG1 (by repeat (first | exact Below.refl _ _ | apply below_drew1 | apply pw_below_drewN)))).mono ?_; rintro e w2 ⟨rfl, hb⟩; have B2 := Aside0.mk (below_step (by repeat (first | exact Below.refl _ _ | apply below_drew1 | apply pw_below_drewN)) hb); clear hb; have HG2 := Aside0.mk (GInv.below' HG1 B2.out)) | (go_at_call 26; refine (HHx.out _ (GInv.below' HG2 (by repeat (first | exact Below.refl _ _ | apply below_drew1 | apply pw_below_drewN)))).mono ?_; rintro e w3 ⟨rfl, hb⟩; have B3 := Aside0.mk (below_step (by repeat (first | exact B2.out | apply below_drew1 | apply pw_below_drewN)) hb); clear hb))
  go_ret
  exact ⟨rfl, ⟨_, _, _, HP.out.below ((by repeat (first | exact B3.out | apply below_drew1 | apply pw_below_drewN)))⟩, stay_low HS.out ((by repeat (first | exact B3.out | apply below_drew1 | apply pw_below_drewN)))⟩
set_option maxHeartbeats 4000000 in
set_option maxRecDepth 100000 in
theorem size_v (w0 w : World) (F : Nat → Prop) (p : Nat) (vl vo vt : Value) (d : Dec) (c : Int) (h : Rep w F p vl vo vt d) (hH : Held w0 w F) (hl : d.line.length ≤ 4294960000) (l1 : List Int) (s : ByteArray) (e1 : Int) (hr : lined d.line c = (l1, some s, e1)) (n f : Int) (hx : Hr.digits 16 (Lib.cut s.data.toList [59]).1 = (n, f)) (hf : f = 0) (hv : Px.value ([97] ++ (Lib.cut s.data.toList [59]).2.1 ++ [97]) = false) :
    Calls Tryd.prog 20 #[.pointer (some ⟨p, 0, none⟩), .int .u8 c] w (StepPost w F p ({ d with line := l1 }, 100)) := by
  have HH := Aside0.mk hH
  have HIN := Aside0.mk h.inF
  have hss := (lined_size _ _ _ _ _ hr).1
  have HLn := Aside0.mk (lined_some w F p vl vo vt d c l1 s e1 h (by omega) hr)
  have hcl := cut_len s.data.toList 59
  rw [← Px.sz] at hcl
  have HCu : Aside0 (∀ w', GInv w' → Calls Tryd.prog 25 #[.string s, .string ⟨#[59]⟩] w' fun e w2 => e = .returned (.tuple #[.string (Px.mkB (Lib.cut s.data.toList [59]).1), .string (Px.mkB (Lib.cut s.data.toList [59]).2.1), .bool (Lib.cut s.data.toList [59]).2.2]) ∧ Below w'.heap.size w' w2) := ⟨fun w' hg => cut_calls s 59 w' (by omega) hg⟩
  have HHx : Aside0 (∀ w', GInv w' → Calls Tryd.prog 26 #[.string (Px.mkB (Lib.cut s.data.toList [59]).1)] w' fun e w2 => e = .returned (.tuple #[.int .i64 n, .int .i64 f]) ∧ Below w'.heap.size w' w2) := ⟨fun w' hg => hex_calls _ n f w' (by rw [Px.mkB_size]; omega) (by rw [Px.mkB_data]; exact hx) hg⟩
  have HVa : Aside0 (∀ w', Calls Tryd.prog 27 #[.string ((⟨#[97]⟩ : ByteArray) ++ Px.mkB (Lib.cut s.data.toList [59]).2.1 ++ (⟨#[97]⟩ : ByteArray))] w' fun e w2 => e = .returned (.bool false) ∧ Below w'.heap.size w' w2) := ⟨fun w' => value_calls _ false w' (by rw [show (⟨#[97]⟩ : ByteArray) = Px.mkB [97] from rfl, Px.mkB_append, Px.mkB_append, Px.mkB_size]; simp only [List.length_append, List.length_cons, List.length_nil]; omega) (by rw [show (⟨#[97]⟩ : ByteArray) = Px.mkB [97] from rfl, Px.mkB_append, Px.mkB_append, Px.mkB_data]; exact hv)⟩
  clear hv
  have hms : (Px.mkB (Lib.cut s.data.toList [59]).2.1).size ≤ 4294960000 := by rw [Px.mkB_size]; omega
  obtain ⟨L, hL⟩ : ∃ L, L = d.left := ⟨_, rfl⟩
  have HL := Aside0.mk hL
  clear h hH hl hss hcl hr hx
  generalize Px.mkB (Lib.cut s.data.toList [59]).1 = a at *
  generalize Px.mkB (Lib.cut s.data.toList [59]).2.1 = m at *
  generalize (Lib.cut s.data.toList [59]).2.2 = ok at *
  clear hL
  subst hf
  go_enter Tryd.func20, Tryd.ntmps20
  go_wp2_with (first | (go_at_call 24; refine HLn.out.mono ?_; rintro e w1 ⟨rfl, ⟨vl', hrep⟩, hst⟩; have HP := Aside0.mk hrep; have HS := Aside0.mk hst; have HG1 := Aside0.mk (HH.out.next hst).g; clear hrep hst) | (go_at_call 25; refine (HCu.out _ (GInv.below' HG1 (by repeat (first | exact Below.refl _ _ | apply below_drew1 | apply pw_below_drewN)))).mono ?_; rintro e w2 ⟨rfl, hb⟩; have B2 := Aside0.mk (below_step (by repeat (first | exact Below.refl _ _ | apply below_drew1 | apply pw_below_drewN)) hb); clear hb; have HG2 := Aside0.mk (GInv.below' HG1 B2.out)) | (go_at_call 26; refine (HHx.out _ (GInv.below' HG2 (by repeat (first | exact Below.refl _ _ | apply below_drew1 | apply pw_below_drewN)))).mono ?_; rintro e w3 ⟨rfl, hb⟩; have B3 := Aside0.mk (below_step (by repeat (first | exact B2.out | apply below_drew1 | apply pw_below_drewN)) hb); clear hb) | (go_at_call 27; refine (HVa.out _).mono ?_; rintro e w4 ⟨rfl, hb⟩; have B4 := Aside0.mk (below_step (by repeat (first | exact B3.out | apply below_drew1 | apply pw_below_drewN)) hb); clear hb; have HP4 := Aside0.mk (HP.out.below B4.out); have HS4 := Aside0.mk (stay_low HS.out B4.out); have hz0 : w4.cell? ⟨p, 0, none⟩ = some (.int .i64 L) := by { rw [HL.out]; exact (blk_cell HP4.out.blk 0).trans rfl }; have hf0 := blk_frozen HP4.out.blk 0; have hz1 : w4.cell? ⟨p, 1, none⟩ = some (.int .i64 d.need) := (blk_cell HP4.out.blk 1).trans rfl; have hf1 := blk_frozen HP4.out.blk 1; have hz3 : w4.cell? ⟨p, 3, none⟩ = some (.func (.func (stF d.st)) #[.pointer (some ⟨p, 0, none⟩)] #[]) := (blk_cell HP4.out.blk 3).trans rfl; have hf3 := blk_frozen HP4.out.blk 3))
  go_ret
  exact ⟨rfl, ⟨_, _, _, HP4.out.below ((by repeat (first | exact Below.refl _ _ | apply below_drew1 | apply pw_below_drewN)))⟩, stay_low HS4.out ((by repeat (first | exact Below.refl _ _ | apply below_drew1 | apply pw_below_drewN)))⟩
set_option maxHeartbeats 4000000 in
set_option maxRecDepth 100000 in
theorem size_long (w0 w : World) (F : Nat → Prop) (p : Nat) (vl vo vt : Value) (d : Dec) (c : Int) (h : Rep w F p vl vo vt d) (hH : Held w0 w F) (hl : d.line.length ≤ 4294960000) (l1 : List Int) (s : ByteArray) (e1 : Int) (hr : lined d.line c = (l1, some s, e1)) (n f : Int) (hx : Hr.digits 16 (Lib.cut s.data.toList [59]).1 = (n, f)) (hf : f = 0) (hv : Px.value ([97] ++ (Lib.cut s.data.toList [59]).2.1 ++ [97]) = true) (hn : d.left < n) :
    Calls Tryd.prog 20 #[.pointer (some ⟨p, 0, none⟩), .int .u8 c] w (StepPost w F p ({ d with line := l1 }, 2)) := by
  have HH := Aside0.mk hH
  have HIN := Aside0.mk h.inF
  have hss := (lined_size _ _ _ _ _ hr).1
  have HLn := Aside0.mk (lined_some w F p vl vo vt d c l1 s e1 h (by omega) hr)
  have hcl := cut_len s.data.toList 59
  rw [← Px.sz] at hcl
  have HCu : Aside0 (∀ w', GInv w' → Calls Tryd.prog 25 #[.string s, .string ⟨#[59]⟩] w' fun e w2 => e = .returned (.tuple #[.string (Px.mkB (Lib.cut s.data.toList [59]).1), .string (Px.mkB (Lib.cut s.data.toList [59]).2.1), .bool (Lib.cut s.data.toList [59]).2.2]) ∧ Below w'.heap.size w' w2) := ⟨fun w' hg => cut_calls s 59 w' (by omega) hg⟩
  have HHx : Aside0 (∀ w', GInv w' → Calls Tryd.prog 26 #[.string (Px.mkB (Lib.cut s.data.toList [59]).1)] w' fun e w2 => e = .returned (.tuple #[.int .i64 n, .int .i64 f]) ∧ Below w'.heap.size w' w2) := ⟨fun w' hg => hex_calls _ n f w' (by rw [Px.mkB_size]; omega) (by rw [Px.mkB_data]; exact hx) hg⟩
  have HVa : Aside0 (∀ w', Calls Tryd.prog 27 #[.string ((⟨#[97]⟩ : ByteArray) ++ Px.mkB (Lib.cut s.data.toList [59]).2.1 ++ (⟨#[97]⟩ : ByteArray))] w' fun e w2 => e = .returned (.bool true) ∧ Below w'.heap.size w' w2) := ⟨fun w' => value_calls _ true w' (by rw [show (⟨#[97]⟩ : ByteArray) = Px.mkB [97] from rfl, Px.mkB_append, Px.mkB_append, Px.mkB_size]; simp only [List.length_append, List.length_cons, List.length_nil]; omega) (by rw [show (⟨#[97]⟩ : ByteArray) = Px.mkB [97] from rfl, Px.mkB_append, Px.mkB_append, Px.mkB_data]; exact hv)⟩
  clear hv
  have hms : (Px.mkB (Lib.cut s.data.toList [59]).2.1).size ≤ 4294960000 := by rw [Px.mkB_size]; omega
  obtain ⟨L, hL⟩ : ∃ L, L = d.left := ⟨_, rfl⟩
  have HL := Aside0.mk hL
  rw [← hL] at hn
  clear h hH hl hss hcl hr hx
  generalize Px.mkB (Lib.cut s.data.toList [59]).1 = a at *
  generalize Px.mkB (Lib.cut s.data.toList [59]).2.1 = m at *
  generalize (Lib.cut s.data.toList [59]).2.2 = ok at *
  clear hL
  subst hf
  go_enter Tryd.func20, Tryd.ntmps20
  go_wp2_with (first | (go_at_call 24; refine HLn.out.mono ?_; rintro e w1 ⟨rfl, ⟨vl', hrep⟩, hst⟩; have HP := Aside0.mk hrep; have HS := Aside0.mk hst; have HG1 := Aside0.mk (HH.out.next hst).g; clear hrep hst) | (go_at_call 25; refine (HCu.out _ (GInv.below' HG1 (by repeat (first | exact Below.refl _ _ | apply below_drew1 | apply pw_below_drewN)))).mono ?_; rintro e w2 ⟨rfl, hb⟩; have B2 := Aside0.mk (below_step (by repeat (first | exact Below.refl _ _ | apply below_drew1 | apply pw_below_drewN)) hb); clear hb; have HG2 := Aside0.mk (GInv.below' HG1 B2.out)) | (go_at_call 26; refine (HHx.out _ (GInv.below' HG2 (by repeat (first | exact Below.refl _ _ | apply below_drew1 | apply pw_below_drewN)))).mono ?_; rintro e w3 ⟨rfl, hb⟩; have B3 := Aside0.mk (below_step (by repeat (first | exact B2.out | apply below_drew1 | apply pw_below_drewN)) hb); clear hb) | (go_at_call 27; refine (HVa.out _).mono ?_; rintro e w4 ⟨rfl, hb⟩; have B4 := Aside0.mk (below_step (by repeat (first | exact B3.out | apply below_drew1 | apply pw_below_drewN)) hb); clear hb; have HP4 := Aside0.mk (HP.out.below B4.out); have HS4 := Aside0.mk (stay_low HS.out B4.out); have hz0 : w4.cell? ⟨p, 0, none⟩ = some (.int .i64 L) := by { rw [HL.out]; exact (blk_cell HP4.out.blk 0).trans rfl }; have hf0 := blk_frozen HP4.out.blk 0; have hz1 : w4.cell? ⟨p, 1, none⟩ = some (.int .i64 d.need) := (blk_cell HP4.out.blk 1).trans rfl; have hf1 := blk_frozen HP4.out.blk 1; have hz3 : w4.cell? ⟨p, 3, none⟩ = some (.func (.func (stF d.st)) #[.pointer (some ⟨p, 0, none⟩)] #[]) := (blk_cell HP4.out.blk 3).trans rfl; have hf3 := blk_frozen HP4.out.blk 3))
  go_ret
  exact ⟨rfl, ⟨_, _, _, HP4.out.below ((by repeat (first | exact Below.refl _ _ | apply below_drew1 | apply pw_below_drewN)))⟩, stay_low HS4.out ((by repeat (first | exact Below.refl _ _ | apply below_drew1 | apply pw_below_drewN)))⟩
set_option maxHeartbeats 4000000 in
set_option maxRecDepth 100000 in
theorem size_zero (w0 w : World) (F : Nat → Prop) (p : Nat) (vl vo vt : Value) (d : Dec) (c : Int) (h : Rep w F p vl vo vt d) (hH : Held w0 w F) (hl : d.line.length ≤ 4294960000) (l1 : List Int) (s : ByteArray) (e1 : Int) (hr : lined d.line c = (l1, some s, e1)) (n f : Int) (hx : Hr.digits 16 (Lib.cut s.data.toList [59]).1 = (n, f)) (hf : f = 0) (hv : Px.value ([97] ++ (Lib.cut s.data.toList [59]).2.1 ++ [97]) = true) (hn : n = 0) (hl0 : 0 ≤ d.left) :
    Calls Tryd.prog 20 #[.pointer (some ⟨p, 0, none⟩), .int .u8 c] w (StepPost w F p ({ d with line := l1, st := 3 }, 0)) := by
  have HH := Aside0.mk hH
  have HIN := Aside0.mk h.inF
  have hss := (lined_size _ _ _ _ _ hr).1
  have HLn := Aside0.mk (lined_some w F p vl vo vt d c l1 s e1 h (by omega) hr)
  have hcl := cut_len s.data.toList 59
  rw [← Px.sz] at hcl
  have HCu : Aside0 (∀ w', GInv w' → Calls Tryd.prog 25 #[.string s, .string ⟨#[59]⟩] w' fun e w2 => e = .returned (.tuple #[.string (Px.mkB (Lib.cut s.data.toList [59]).1), .string (Px.mkB (Lib.cut s.data.toList [59]).2.1), .bool (Lib.cut s.data.toList [59]).2.2]) ∧ Below w'.heap.size w' w2) := ⟨fun w' hg => cut_calls s 59 w' (by omega) hg⟩
  have HHx : Aside0 (∀ w', GInv w' → Calls Tryd.prog 26 #[.string (Px.mkB (Lib.cut s.data.toList [59]).1)] w' fun e w2 => e = .returned (.tuple #[.int .i64 n, .int .i64 f]) ∧ Below w'.heap.size w' w2) := ⟨fun w' hg => hex_calls _ n f w' (by rw [Px.mkB_size]; omega) (by rw [Px.mkB_data]; exact hx) hg⟩
  have HVa : Aside0 (∀ w', Calls Tryd.prog 27 #[.string ((⟨#[97]⟩ : ByteArray) ++ Px.mkB (Lib.cut s.data.toList [59]).2.1 ++ (⟨#[97]⟩ : ByteArray))] w' fun e w2 => e = .returned (.bool true) ∧ Below w'.heap.size w' w2) := ⟨fun w' => value_calls _ true w' (by rw [show (⟨#[97]⟩ : ByteArray) = Px.mkB [97] from rfl, Px.mkB_append, Px.mkB_append, Px.mkB_size]; simp only [List.length_append, List.length_cons, List.length_nil]; omega) (by rw [show (⟨#[97]⟩ : ByteArray) = Px.mkB [97] from rfl, Px.mkB_append, Px.mkB_append, Px.mkB_data]; exact hv)⟩
  clear hv
  have hms : (Px.mkB (Lib.cut s.data.toList [59]).2.1).size ≤ 4294960000 := by rw [Px.mkB_size]; omega
  obtain ⟨L, hL⟩ : ∃ L, L = d.left := ⟨_, rfl⟩
  have HL := Aside0.mk hL
  rw [← hL] at hl0
  clear h hH hl hss hcl hr hx
  generalize Px.mkB (Lib.cut s.data.toList [59]).1 = a at *
  generalize Px.mkB (Lib.cut s.data.toList [59]).2.1 = m at *
  generalize (Lib.cut s.data.toList [59]).2.2 = ok at *
  clear hL
  subst hf
  subst hn
  have hng : ¬ L < 0 := by omega
  go_enter Tryd.func20, Tryd.ntmps20
  go_wp2_with (first | (go_at_call 24; refine HLn.out.mono ?_; rintro e w1 ⟨rfl, ⟨vl', hrep⟩, hst⟩; have HP := Aside0.mk hrep; have HS := Aside0.mk hst; have HG1 := Aside0.mk (HH.out.next hst).g; clear hrep hst) | (go_at_call 25; refine (HCu.out _ (GInv.below' HG1 (by repeat (first | exact Below.refl _ _ | apply below_drew1 | apply pw_below_drewN)))).mono ?_; rintro e w2 ⟨rfl, hb⟩; have B2 := Aside0.mk (below_step (by repeat (first | exact Below.refl _ _ | apply below_drew1 | apply pw_below_drewN)) hb); clear hb; have HG2 := Aside0.mk (GInv.below' HG1 B2.out)) | (go_at_call 26; refine (HHx.out _ (GInv.below' HG2 (by repeat (first | exact Below.refl _ _ | apply below_drew1 | apply pw_below_drewN)))).mono ?_; rintro e w3 ⟨rfl, hb⟩; have B3 := Aside0.mk (below_step (by repeat (first | exact B2.out | apply below_drew1 | apply pw_below_drewN)) hb); clear hb) | (go_at_call 27; refine (HVa.out _).mono ?_; rintro e w4 ⟨rfl, hb⟩; have B4 := Aside0.mk (below_step (by repeat (first | exact B3.out | apply below_drew1 | apply pw_below_drewN)) hb); clear hb; have HP4 := Aside0.mk (HP.out.below B4.out); have HS4 := Aside0.mk (stay_low HS.out B4.out); have hz0 : w4.cell? ⟨p, 0, none⟩ = some (.int .i64 L) := by { rw [HL.out]; exact (blk_cell HP4.out.blk 0).trans rfl }; have hf0 := blk_frozen HP4.out.blk 0; have hz1 : w4.cell? ⟨p, 1, none⟩ = some (.int .i64 d.need) := (blk_cell HP4.out.blk 1).trans rfl; have hf1 := blk_frozen HP4.out.blk 1; have hz3 : w4.cell? ⟨p, 3, none⟩ = some (.func (.func (stF d.st)) #[.pointer (some ⟨p, 0, none⟩)] #[]) := (blk_cell HP4.out.blk 3).trans rfl; have hf3 := blk_frozen HP4.out.blk 3))
  go_ret
  exact ⟨rfl, ⟨_, _, _, HP4.out.scal (i := 3) (v := .func (.func (stF 3)) #[.pointer (some ⟨p, 0, none⟩)] #[]) (d' := { d with line := l1, st := 3 }) rfl rfl rfl rfl⟩, HS4.out.set (p := ⟨p, 3, none⟩) HIN.out _⟩
set_option maxHeartbeats 4000000 in
set_option maxRecDepth 100000 in
theorem size_go (w0 w : World) (F : Nat → Prop) (p : Nat) (vl vo vt : Value) (d : Dec) (c : Int) (h : Rep w F p vl vo vt d) (hH : Held w0 w F) (hl : d.line.length ≤ 4294960000) (l1 : List Int) (s : ByteArray) (e1 : Int) (hr : lined d.line c = (l1, some s, e1)) (n f : Int) (hx : Hr.digits 16 (Lib.cut s.data.toList [59]).1 = (n, f)) (hf : f = 0) (hv : Px.value ([97] ++ (Lib.cut s.data.toList [59]).2.1 ++ [97]) = true) (hn : 0 < n) (hn2 : n ≤ d.left) (hl1 : d.left ≤ 9007199254740992) :
    Calls Tryd.prog 20 #[.pointer (some ⟨p, 0, none⟩), .int .u8 c] w (StepPost w F p ({ d with line := l1, left := d.left - n, need := n, st := 1 }, 0)) := by
  have HH := Aside0.mk hH
  have HIN := Aside0.mk h.inF
  have hss := (lined_size _ _ _ _ _ hr).1
  have HLn := Aside0.mk (lined_some w F p vl vo vt d c l1 s e1 h (by omega) hr)
  have hcl := cut_len s.data.toList 59
  rw [← Px.sz] at hcl
  have HCu : Aside0 (∀ w', GInv w' → Calls Tryd.prog 25 #[.string s, .string ⟨#[59]⟩] w' fun e w2 => e = .returned (.tuple #[.string (Px.mkB (Lib.cut s.data.toList [59]).1), .string (Px.mkB (Lib.cut s.data.toList [59]).2.1), .bool (Lib.cut s.data.toList [59]).2.2]) ∧ Below w'.heap.size w' w2) := ⟨fun w' hg => cut_calls s 59 w' (by omega) hg⟩
  have HHx : Aside0 (∀ w', GInv w' → Calls Tryd.prog 26 #[.string (Px.mkB (Lib.cut s.data.toList [59]).1)] w' fun e w2 => e = .returned (.tuple #[.int .i64 n, .int .i64 f]) ∧ Below w'.heap.size w' w2) := ⟨fun w' hg => hex_calls _ n f w' (by rw [Px.mkB_size]; omega) (by rw [Px.mkB_data]; exact hx) hg⟩
  have HVa : Aside0 (∀ w', Calls Tryd.prog 27 #[.string ((⟨#[97]⟩ : ByteArray) ++ Px.mkB (Lib.cut s.data.toList [59]).2.1 ++ (⟨#[97]⟩ : ByteArray))] w' fun e w2 => e = .returned (.bool true) ∧ Below w'.heap.size w' w2) := ⟨fun w' => value_calls _ true w' (by rw [show (⟨#[97]⟩ : ByteArray) = Px.mkB [97] from rfl, Px.mkB_append, Px.mkB_append, Px.mkB_size]; simp only [List.length_append, List.length_cons, List.length_nil]; omega) (by rw [show (⟨#[97]⟩ : ByteArray) = Px.mkB [97] from rfl, Px.mkB_append, Px.mkB_append, Px.mkB_data]; exact hv)⟩
  clear hv
  have hms : (Px.mkB (Lib.cut s.data.toList [59]).2.1).size ≤ 4294960000 := by rw [Px.mkB_size]; omega
  obtain ⟨L, hL⟩ : ∃ L, L = d.left := ⟨_, rfl⟩
  have HL := Aside0.mk hL
  rw [← hL] at hn2 hl1
  clear h hH hl hss hcl hr hx
  generalize Px.mkB (Lib.cut s.data.toList [59]).1 = a at *
  generalize Px.mkB (Lib.cut s.data.toList [59]).2.1 = m at *
  generalize (Lib.cut s.data.toList [59]).2.2 = ok at *
  clear hL
  subst hf
  have hng : ¬ L < n := by omega
  have hnz : ¬ n = 0 := by omega
  have bn : (n == 0) = false := by simpa using hnz
  go_enter Tryd.func20, Tryd.ntmps20
  go_wp2_with (first | (go_at_call 24; refine HLn.out.mono ?_; rintro e w1 ⟨rfl, ⟨vl', hrep⟩, hst⟩; have HP := Aside0.mk hrep; have HS := Aside0.mk hst; have HG1 := Aside0.mk (HH.out.next hst).g; clear hrep hst) | (go_at_call 25; refine (HCu.out _ (GInv.below' HG1 (by repeat (first | exact Below.refl _ _ | apply below_drew1 | apply pw_below_drewN)))).mono ?_; rintro e w2 ⟨rfl, hb⟩; have B2 := Aside0.mk (below_step (by repeat (first | exact Below.refl _ _ | apply below_drew1 | apply pw_below_drewN)) hb); clear hb; have HG2 := Aside0.mk (GInv.below' HG1 B2.out)) | (go_at_call 26; refine (HHx.out _ (GInv.below' HG2 (by repeat (first | exact Below.refl _ _ | apply below_drew1 | apply pw_below_drewN)))).mono ?_; rintro e w3 ⟨rfl, hb⟩; have B3 := Aside0.mk (below_step (by repeat (first | exact B2.out | apply below_drew1 | apply pw_below_drewN)) hb); clear hb) | (go_at_call 27; refine (HVa.out _).mono ?_; rintro e w4 ⟨rfl, hb⟩; have B4 := Aside0.mk (below_step (by repeat (first | exact B3.out | apply below_drew1 | apply pw_below_drewN)) hb); clear hb; have HP4 := Aside0.mk (HP.out.below B4.out); have HS4 := Aside0.mk (stay_low HS.out B4.out); have hz0 : w4.cell? ⟨p, 0, none⟩ = some (.int .i64 L) := by { rw [HL.out]; exact (blk_cell HP4.out.blk 0).trans rfl }; have hf0 := blk_frozen HP4.out.blk 0; have hz1 : w4.cell? ⟨p, 1, none⟩ = some (.int .i64 d.need) := (blk_cell HP4.out.blk 1).trans rfl; have hf1 := blk_frozen HP4.out.blk 1; have hz3 : w4.cell? ⟨p, 3, none⟩ = some (.func (.func (stF d.st)) #[.pointer (some ⟨p, 0, none⟩)] #[]) := (blk_cell HP4.out.blk 3).trans rfl; have hf3 := blk_frozen HP4.out.blk 3))
  have HP5 := Aside0.mk (HP4.out.scal (i := 0) (v := .int .i64 (L - n)) (d' := { d with line := l1, left := L - n }) rfl rfl rfl rfl)
  have HP6 := Aside0.mk (HP5.out.scal (i := 1) (v := .int .i64 n) (d' := { d with line := l1, left := L - n, need := n }) rfl rfl rfl rfl)
  have HP7 := Aside0.mk (HP6.out.scal (i := 3) (v := .func (.func (stF 1)) #[.pointer (some ⟨p, 0, none⟩)] #[]) (d' := { d with line := l1, left := L - n, need := n, st := 1 }) rfl rfl rfl rfl)
  have HS7 := Aside0.mk (((HS4.out.set (p := ⟨p, 0, none⟩) HIN.out (.int .i64 (L - n))).set (p := ⟨p, 1, none⟩) HIN.out (.int .i64 n)).set (p := ⟨p, 3, none⟩) HIN.out (.func (.func (stF 1)) #[.pointer (some ⟨p, 0, none⟩)] #[]))
  go_ret
  rw [← HL.out]
  exact ⟨rfl, ⟨_, _, _, HP7.out⟩, HS7.out⟩
end Go.Proofs.YtcfmihghgecefaaDoor.Chk
/- Package fields, plainly: Check; and the contracts that a trailer's line asks; own text of this session. -/
namespace Go.Proofs.YtcfmihghgecefaaDoor.Chk
open Go.RowKit Go.Proofs.YtcfmihghgecefaaDoorW.PrintWords Go.Proofs.YtcfmihghgecefaaDoorW.PrintLast Px
set_option linter.unusedVariables false
/-- What is wrong with a field. -/
def fldE (f : Fld) : Int := if Px.token f.f0.data.toList = true then (if Px.value f.f1.data.toList = true then 0 else 71) else 70
def chkGo : List Fld → Int
  | [] => 0
  | f :: r => if fldE f = 0 then chkGo r else fldE f
def chkS (l : List Fld) : Int := if l.length > 100 then 2 else chkGo l
theorem ev_field (f : Fld) (h0 : f.f0.size ≤ 4611686018427387904) (h1 : f.f1.size ≤ 4611686018427387904) : Ev (fun k => P.fields_field.f k f.f0 f.f1) (fldE f) := by
  unfold P.fields_field.f fldE
  refine Ev.bind (Px.ev_Token f.f0 h0) ?_
  refine Px.ev_ite (fun h => ?_) (fun h => ?_)
  · rw [if_pos h]
    refine Ev.bind (Px.ev_Value f.f1 h1) ?_
    refine Px.ev_ite (fun h2 => ?_) (fun h2 => ?_)
    · rw [if_pos h2]; exact Ev.now _
    · rw [if_neg h2]; exact Ev.now _
  · rw [if_neg h]; exact Ev.now _
theorem rd_fld {l r : List Fld} {f : Fld} {i : Nat} (h : l.drop i = f :: r) : P.rd_T62 l (i : Int) = f := by
  have hi := Px.drop_lt h
  unfold P.rd_T62
  rw [Int.toNat_natCast, List.getD_eq_getElem?_getD, List.getElem?_eq_getElem hi]
  have := List.drop_eq_getElem_cons hi
  rw [h] at this
  injection this with h1 _
  rw [← h1]; rfl
theorem ev_Check_l0 (l : List Fld) (hl : l.length ≤ 100) (hs : ∀ f ∈ l, f.f0.size ≤ 4611686018427387904 ∧ f.f1.size ≤ 4611686018427387904) (rest : List Fld) : ∀ i : Nat, l.drop i = rest → Ev (fun k => P.fields_Check.l0 k l (l.length : Int) (i : Int)) (chkGo rest) := by
  induction rest with
  | nil =>
    intro i hi
    have := Px.drop_nil hi
    refine Ev.step (fun k => rfl) ?_
    simp only [P.fields_Check.l0, if_neg (show ¬ (i : Int) < (l.length : Int) by omega)]
    exact Ev.now _
  | cons f r ih =>
    intro i hi
    have hlt := Px.drop_lt hi
    have hf := hs f (List.mem_of_mem_drop (by rw [hi]; simp))
    refine Ev.step (fun k => rfl) ?_
    simp only [P.fields_Check.l0, if_pos (show (i : Int) < (l.length : Int) by omega), if_pos (show 0 ≤ (i : Int) by omega), rd_fld hi, Px.w64 (show i < 9223372036854775807 by omega)]
    refine Ev.bind (ev_field f hf.1 hf.2) ?_
    unfold chkGo
    refine Px.ev_ite (fun h => ?_) (fun h => ?_)
    · rw [if_pos h]; exact ih (i + 1) (Px.drop_succ hi)
    · rw [if_neg h]; exact Ev.now _
theorem ev_Check (l : List Fld) (hs : ∀ f ∈ l, f.f0.size ≤ 4611686018427387904 ∧ f.f1.size ≤ 4611686018427387904) : Ev (fun k => P.fields_Check.f k l) (chkS l) := by
  unfold P.fields_Check.f chkS
  refine Px.ev_ite (fun h => ?_) (fun h => ?_)
  · rw [if_pos (by omega)]; exact Ev.now _
  · rw [if_neg (by omega)]; exact ev_Check_l0 l (by omega) hs l 0 rfl
theorem check_calls (l : List Fld) (A : Option Addr) (c : Nat) (w : World) (hr : Kd.C P.k62 w A l.length l) (hc : l.length ≤ c) (hs : ∀ f ∈ l, f.f0.size ≤ 4611686018427387904 ∧ f.f1.size ≤ 4611686018427387904) :
    Calls Tryd.prog 36 #[.slice A l.length c] w fun e w' => e = .returned (.int .i64 (chkS l)) ∧ Below w.heap.size w w' := by
  obtain ⟨k, hk⟩ := (ev_Check l hs).rounds
  exact P.fields_Check.calls k A c l _ w hr hc hk
/-- A row of one field, new. -/
theorem one_fld (W : World) (f : Fld) : Kd.C P.k62 (W.alloc (.cells #[.string f.f0, .string f.f1] 62)) (some ⟨W.heap.size, 0, none⟩) [f].length [f] := by
  refine ⟨rfl, by simp, fun _ => ⟨⟨W.heap.size, 0, none⟩, rfl, fun j q hj => ?_⟩⟩
  have hj0 : j = 0 := by
    have := (List.getElem?_eq_some_iff.1 hj).1
    simp at this; exact this
  subst hj0
  simp only [List.getElem?_cons_zero, Option.some.injEq] at hj
  subst hj
  refine ⟨[.string f.f0, .string f.f1], rfl, P.k62_mk _ f, fun i u hu => ?_⟩
  rw [Nat.zero_mul, Nat.zero_add, add_plain]
  exact (blk_cell (t := 62) (cs := #[.string f.f0, .string f.f1]) (blk_new W _) i).trans (by simpa using hu)
theorem one_check (f : Fld) (W : World) (r : Int) (h0 : f.f0.size ≤ 4611686018427387904) (h1 : f.f1.size ≤ 4611686018427387904) (hr : fldE f = r) :
    Calls Tryd.prog 36 #[.slice (some ⟨W.heap.size, 0, none⟩) 1 1] (W.alloc (.cells #[.string f.f0, .string f.f1] 62)) fun e w' => e = .returned (.int .i64 r) ∧ Below (W.alloc (.cells #[.string f.f0, .string f.f1] 62)).heap.size (W.alloc (.cells #[.string f.f0, .string f.f1] 62)) w' := by
  have h := check_calls [f] (some ⟨W.heap.size, 0, none⟩) 1 _ (one_fld W f) (Nat.le_refl _) (fun g hg => by obtain rfl := List.mem_singleton.1 hg; exact ⟨h0, h1⟩)
  have e : chkS [f] = r := by
    unfold chkS chkGo chkGo
    rw [if_neg (by simp), ← hr]
    split
    · rename_i h; rw [h]
    · rfl
  rw [e] at h
  exact h
/-- A trailer's line. -/
def trailerF (s : ByteArray) : Fld := ⟨Px.mkB (Lib.cut s.data.toList [58]).1, Px.mkB (Hr.trim (Lib.cut s.data.toList [58]).2.1)⟩
def trailerS (d : Dec) (c : Int) : Dec × Int :=
  match (lined d.line c).2.1 with
  | none => ({ d with line := (lined d.line c).1 }, (lined d.line c).2.2)
  | some s =>
    if s.size = 0 then ({ d with line := (lined d.line c).1, whole := true }, 0)
    else if (Lib.cut s.data.toList [58]).2.2 = false ∨ d.tr.length = 100 ∨ ¬ fldE (trailerF s) = 0 then ({ d with line := (lined d.line c).1 }, 100)
    else ({ d with line := (lined d.line c).1, tr := d.tr ++ [trailerF s] }, 0)
theorem trim_calls (s : ByteArray) (w : World) (hs : s.size ≤ 4611686018427387904) :
    Calls Tryd.prog 35 #[.string s] w fun e w' => e = .returned (.string (Px.mkB (Hr.trim s.data.toList))) ∧ Below w.heap.size w w' := Lex.lexTrim_calls s w hs
/-- The trailers were appended to. -/
theorem Rep.trTo {w w1 : World} {F : Nat → Prop} {p : Nat} {vl vo vt : Value} {d : Dec} {v1 : Value} {l1 : List Fld} (h : Rep w F p vl vo vt d) (hg : w.grownBy w1 vt.ownBlock)
    (hR : fldK.R 62 w1 0 (fun k => F k ∨ w.heap.size ≤ k) v1 l1) : w1.heap[p]? = some (.cells (cellsOf p d vl vo vt) 57 (0, 0)) ∧ Rep (w1.setCell ⟨p, 5, none⟩ v1) (fun k => F k ∨ w.heap.size ≤ k) p vl vo v1 { d with tr := l1 } ∧ Stay F w (w1.setCell ⟨p, 5, none⟩ v1) := by
  have hp := R_neT h.tr h.blk ne_dec.2.1
  have hb : w1.heap[p]? = some (.cells (cellsOf p d vl vo vt) 57 (0, 0)) := (hg.block p h.lt hp).trans h.blk
  have hother : ∀ {ok : Nat → Prop} {v : Value} {xs : List Int}, (Kd.int .u8).R 5 w 0 ok v xs → (Kd.int .u8).R 5 w1 0 ok v xs := by
    intro ok v xs hv
    refine Kd.R_mono (Kd.R_grown (row := vt.ownBlock) (Kd.R_bound hv) hg ?_) (fun k hk => hk.1)
    rintro k ⟨_, _, _, q, hq, cells, hc⟩ he
    rcases List.mem_cons.1 hq with rfl | h2
    · exact R_neT h.tr hc (fun e => ne_dec.2.2.2 e.symm) he
    · cases h2
  exact ⟨hb, Rep.store hb rfl (.inl h.inF) (Kd.R_mono (hother h.line) (fun k hk => ⟨.inl hk.1, hk.2⟩)) (Kd.R_mono (hother h.out) (fun k hk => ⟨.inl hk.1, hk.2⟩)) hR, (Stay.grown hg (fun k hk => h.tr.1 k hk)).set h.inF _⟩
theorem info_fld : (Tryd.prog.info? 62).map (fun i => (i.zero, i.size, i.bytes)) = some (some (.agg #[.string ⟨#[]⟩, .string ⟨#[]⟩]), 2, 32) := by kernel_rfl
end Go.Proofs.YtcfmihghgecefaaDoor.Chk
/- Package chunked, by hand: what a byte of a trailer's line does (the walks); own text of this session. -/
namespace Go.Proofs.YtcfmihghgecefaaDoor.Chk
open Go.RowKit Go.Proofs.YtcfmihghgecefaaDoorW.PrintWords Go.Proofs.YtcfmihghgecefaaDoorW.PrintLast
set_option linter.unusedVariables false
theorem size_set (w : World) (p : Addr) (u : Value) : (w.setCell p u).heap.size = w.heap.size := by unfold World.setCell; split <;> simp
theorem trim_len (l : Hr.Bs) : (Hr.trim l).length ≤ l.length := by
  rw [Px.trim_eq]
  unfold Px.trimL Px.trimR
  refine Nat.le_trans (List.Sublist.length_le (List.dropWhile_sublist _)) ?_
  rw [List.length_reverse]
  refine Nat.le_trans (List.Sublist.length_le (List.dropWhile_sublist _)) ?_
  rw [List.length_reverse]
  exact Nat.le_refl _
set_option maxHeartbeats 4000000 in
set_option maxRecDepth 100000 in
theorem trailer_none (w0 w : World) (F : Nat → Prop) (p : Nat) (vl vo vt : Value) (d : Dec) (c : Int) (h : Rep w F p vl vo vt d) (hH : Held w0 w F) (hl : d.line.length ≤ 4294960000) (l1 : List Int) (e1 : Int) (hr : lined d.line c = (l1, none, e1)) :
    Calls Tryd.prog 28 #[.pointer (some ⟨p, 0, none⟩), .int .u8 c] w (StepPost w F p ({ d with line := l1 }, e1)) := by
  have HH := Aside0.mk hH
  have HLn := Aside0.mk (lined_none w F p vl vo vt d c l1 e1 h (by omega) hr)
  clear h hH hl hr
  go_enter Tryd.func28, Tryd.ntmps28
  go_wp2_with (first | (go_at_call 24; refine HLn.out.mono ?_; rintro e w1 ⟨rfl, ⟨vl', hrep⟩, hst⟩; have HP := Aside0.mk hrep; have HS := Aside0.mk hst; have HG1 := Aside0.mk (HH.out.next hst).g;  clear hrep hst))
  go_ret
  exact ⟨rfl, ⟨_, _, _, HP.out⟩, HS.out⟩
set_option maxHeartbeats 4000000 in
set_option maxRecDepth 100000 in
theorem trailer_end (w0 w : World) (F : Nat → Prop) (p : Nat) (vl vo vt : Value) (d : Dec) (c : Int) (h : Rep w F p vl vo vt d) (hH : Held w0 w F) (hl : d.line.length ≤ 4294960000) (l1 : List Int) (s : ByteArray) (e1 : Int) (hr : lined d.line c = (l1, some s, e1)) (hse : s.size = 0) :
    Calls Tryd.prog 28 #[.pointer (some ⟨p, 0, none⟩), .int .u8 c] w (StepPost w F p ({ d with line := l1, whole := true }, 0)) := by
  have HH := Aside0.mk hH
  have HIN := Aside0.mk h.inF
  have hss := (lined_size _ _ _ _ _ hr).1
  have HLn := Aside0.mk (lined_some w F p vl vo vt d c l1 s e1 h (by omega) hr)
  have hemp : s.toList.isEmpty = true := Lex.emptyB hse
  clear h hH hl hss hr hse
  go_enter Tryd.func28, Tryd.ntmps28
  go_wp2_with (first | (go_at_call 24; refine HLn.out.mono ?_; rintro e w1 ⟨rfl, ⟨vl', hrep⟩, hst⟩; have HP := Aside0.mk hrep; have HS := Aside0.mk hst; have HG1 := Aside0.mk (HH.out.next hst).g; have hz6 : w1.cell? ⟨p, 6, none⟩ = some (.bool d.whole) := (blk_cell HP.out.blk 6).trans rfl; have hf6 := blk_frozen HP.out.blk 6; clear hrep hst))
  go_ret
  exact ⟨rfl, ⟨_, _, _, HP.out.scal (i := 6) (v := .bool true) (d' := { d with line := l1, whole := true }) rfl rfl rfl rfl⟩, HS.out.set (p := ⟨p, 6, none⟩) HIN.out _⟩
set_option maxHeartbeats 4000000 in
set_option maxRecDepth 100000 in
theorem trailer_nok (w0 w : World) (F : Nat → Prop) (p : Nat) (vl vo vt : Value) (d : Dec) (c : Int) (h : Rep w F p vl vo vt d) (hH : Held w0 w F) (hl : d.line.length ≤ 4294960000) (l1 : List Int) (s : ByteArray) (e1 : Int) (hr : lined d.line c = (l1, some s, e1)) (hse : ¬ s.size = 0) (hok : (Lib.cut s.data.toList [58]).2.2 = false) :
    Calls Tryd.prog 28 #[.pointer (some ⟨p, 0, none⟩), .int .u8 c] w (StepPost w F p ({ d with line := l1 }, 100)) := by
  have HH := Aside0.mk hH
  have HIN := Aside0.mk h.inF
  have hss := (lined_size _ _ _ _ _ hr).1
  have HLn := Aside0.mk (lined_some w F p vl vo vt d c l1 s e1 h (by omega) hr)
  have hcl := cut_len s.data.toList 58
  rw [← Px.sz] at hcl
  have HCu : Aside0 (∀ w', GInv w' → Calls Tryd.prog 25 #[.string s, .string ⟨#[58]⟩] w' fun e w2 => e = .returned (.tuple #[.string (Px.mkB (Lib.cut s.data.toList [58]).1), .string (Px.mkB (Lib.cut s.data.toList [58]).2.1), .bool false]) ∧ Below w'.heap.size w' w2) := ⟨fun w' hg => by have h5 := cut_calls s 58 w' (by omega) hg; rw [hok] at h5; exact h5⟩
  have HTr : Aside0 (∀ w', Calls Tryd.prog 35 #[.string (Px.mkB (Lib.cut s.data.toList [58]).2.1)] w' fun e w2 => e = .returned (.string (Px.mkB (Hr.trim (Lib.cut s.data.toList [58]).2.1))) ∧ Below w'.heap.size w' w2) := ⟨fun w' => by have h5 := trim_calls (Px.mkB (Lib.cut s.data.toList [58]).2.1) w' (by rw [Px.mkB_size]; omega); rw [Px.mkB_data] at h5; exact h5⟩
  have hemp : s.toList.isEmpty = false := Lex.emptyB_no hse
  obtain ⟨At, ct, hvt, hct, hCt⟩ := Kd.R_reads h.tr
  obtain ⟨M, hM⟩ : ∃ M, M = d.tr.length := ⟨_, rfl⟩
  have HM := Aside0.mk hM
  rw [← hM] at hvt
  subst hvt
  have HVT := Aside0.mk h.tr
  clear h hH hl hss hcl hr hct hCt hse hok
  generalize Px.mkB (Lib.cut s.data.toList [58]).1 = a at *
  generalize Px.mkB (Hr.trim (Lib.cut s.data.toList [58]).2.1) = t at *
  generalize Px.mkB (Lib.cut s.data.toList [58]).2.1 = m at *
  clear hM
  go_enter Tryd.func28, Tryd.ntmps28
  go_wp2_with (first | (go_at_call 24; refine HLn.out.mono ?_; rintro e w1 ⟨rfl, ⟨vl', hrep⟩, hst⟩; have HP := Aside0.mk hrep; have HS := Aside0.mk hst; have HG1 := Aside0.mk (HH.out.next hst).g;  clear hrep hst) | (go_at_call 25; refine (HCu.out _ (GInv.below' HG1 (by repeat (first | exact Below.refl _ _ | apply below_drew1 | apply pw_below_drewN)))).mono ?_; rintro e w2 ⟨rfl, hb⟩; have B2 := Aside0.mk (below_step (by repeat (first | exact Below.refl _ _ | apply below_drew1 | apply pw_below_drewN)) hb); clear hb) | (go_at_call 35; refine (HTr.out _).mono ?_; rintro e w3 ⟨rfl, hb⟩; have B3 := Aside0.mk (below_step (by repeat (first | exact B2.out | apply below_drew1 | apply pw_below_drewN)) hb); clear hb) | ((with_reducible refine gate_dst (N := 11) rfl ?_); refine box_event ?hg (N := 11) ?hd (cs := #[.string (⟨#[]⟩ : ByteArray), .string (⟨#[]⟩ : ByteArray)]) (t := 62) ?hr ?_; (case hd => rfl); (case hg => rfl); (case hr => first | (go_simp; done) | (go_simp; rfl)); intro gb hg w4 hbox hb; have B4 := Aside0.mk (below_step (by repeat (first | exact B3.out | apply below_drew1 | apply pw_below_drewN)) hb); have GE : Aside0 (w1.heap.size ≤ gb) := ⟨by { rw [hg]; exact below_size (by repeat (first | exact B3.out | apply below_drew1 | apply pw_below_drewN)) }⟩; have BK := Aside0.mk hbox; have HP4 := Aside0.mk (HP.out.below B4.out); have hlt := HP.out.lt; have hne1 : ¬ p = gb := (by have := GE.out; omega); have hne2 : ¬ gb = p := (by have := GE.out; omega); clear hb hg hbox hlt; have hc0 : w4.cell? ⟨gb, 0, none⟩ = some (.string (⟨#[]⟩ : ByteArray)) := (blk_cell BK.out 0).trans rfl; have hc1 : w4.cell? ⟨gb, 1, none⟩ = some (.string (⟨#[]⟩ : ByteArray)) := (blk_cell BK.out 1).trans rfl; have hfr0 := blk_frozen BK.out 0; have hfr1 := blk_frozen BK.out 1; have hz5 : w4.cell? ⟨p, 5, none⟩ = some (.slice At M ct) := (blk_cell HP4.out.blk 5).trans rfl; have hf5 := blk_frozen HP4.out.blk 5))
  go_ret
  exact ⟨rfl, ⟨_, _, _, HP.out.below ((B4.out.setCell (p := ⟨gb, 0, none⟩) GE.out (.string a)).setCell (p := ⟨gb, 1, none⟩) GE.out (.string t))⟩, stay_low HS.out ((B4.out.setCell (p := ⟨gb, 0, none⟩) GE.out (.string a)).setCell (p := ⟨gb, 1, none⟩) GE.out (.string t))⟩
set_option maxHeartbeats 4000000 in
set_option maxRecDepth 100000 in
theorem trailer_many (w0 w : World) (F : Nat → Prop) (p : Nat) (vl vo vt : Value) (d : Dec) (c : Int) (h : Rep w F p vl vo vt d) (hH : Held w0 w F) (hl : d.line.length ≤ 4294960000) (l1 : List Int) (s : ByteArray) (e1 : Int) (hr : lined d.line c = (l1, some s, e1)) (hse : ¬ s.size = 0) (hok : (Lib.cut s.data.toList [58]).2.2 = true) (hm : d.tr.length = 100) :
    Calls Tryd.prog 28 #[.pointer (some ⟨p, 0, none⟩), .int .u8 c] w (StepPost w F p ({ d with line := l1 }, 100)) := by
  have HH := Aside0.mk hH
  have HIN := Aside0.mk h.inF
  have hss := (lined_size _ _ _ _ _ hr).1
  have HLn := Aside0.mk (lined_some w F p vl vo vt d c l1 s e1 h (by omega) hr)
  have hcl := cut_len s.data.toList 58
  rw [← Px.sz] at hcl
  have HCu : Aside0 (∀ w', GInv w' → Calls Tryd.prog 25 #[.string s, .string ⟨#[58]⟩] w' fun e w2 => e = .returned (.tuple #[.string (Px.mkB (Lib.cut s.data.toList [58]).1), .string (Px.mkB (Lib.cut s.data.toList [58]).2.1), .bool true]) ∧ Below w'.heap.size w' w2) := ⟨fun w' hg => by have h5 := cut_calls s 58 w' (by omega) hg; rw [hok] at h5; exact h5⟩
  have HTr : Aside0 (∀ w', Calls Tryd.prog 35 #[.string (Px.mkB (Lib.cut s.data.toList [58]).2.1)] w' fun e w2 => e = .returned (.string (Px.mkB (Hr.trim (Lib.cut s.data.toList [58]).2.1))) ∧ Below w'.heap.size w' w2) := ⟨fun w' => by have h5 := trim_calls (Px.mkB (Lib.cut s.data.toList [58]).2.1) w' (by rw [Px.mkB_size]; omega); rw [Px.mkB_data] at h5; exact h5⟩
  have hemp : s.toList.isEmpty = false := Lex.emptyB_no hse
  obtain ⟨At, ct, hvt, hct, hCt⟩ := Kd.R_reads h.tr
  obtain ⟨M, hM⟩ : ∃ M, M = d.tr.length := ⟨_, rfl⟩
  have HM := Aside0.mk hM
  rw [← hM] at hvt hm
  subst hvt
  have HVT := Aside0.mk h.tr
  clear h hH hl hss hcl hr hct hCt hse hok
  have bm : ((M : Int) == 100) = true := by simpa using (show (M : Int) = 100 from by omega)
  generalize Px.mkB (Lib.cut s.data.toList [58]).1 = a at *
  generalize Px.mkB (Hr.trim (Lib.cut s.data.toList [58]).2.1) = t at *
  generalize Px.mkB (Lib.cut s.data.toList [58]).2.1 = m at *
  clear hM
  go_enter Tryd.func28, Tryd.ntmps28
  go_wp2_with (first | (go_at_call 24; refine HLn.out.mono ?_; rintro e w1 ⟨rfl, ⟨vl', hrep⟩, hst⟩; have HP := Aside0.mk hrep; have HS := Aside0.mk hst; have HG1 := Aside0.mk (HH.out.next hst).g;  clear hrep hst) | (go_at_call 25; refine (HCu.out _ (GInv.below' HG1 (by repeat (first | exact Below.refl _ _ | apply below_drew1 | apply pw_below_drewN)))).mono ?_; rintro e w2 ⟨rfl, hb⟩; have B2 := Aside0.mk (below_step (by repeat (first | exact Below.refl _ _ | apply below_drew1 | apply pw_below_drewN)) hb); clear hb) | (go_at_call 35; refine (HTr.out _).mono ?_; rintro e w3 ⟨rfl, hb⟩; have B3 := Aside0.mk (below_step (by repeat (first | exact B2.out | apply below_drew1 | apply pw_below_drewN)) hb); clear hb) | ((with_reducible refine gate_dst (N := 11) rfl ?_); refine box_event ?hg (N := 11) ?hd (cs := #[.string (⟨#[]⟩ : ByteArray), .string (⟨#[]⟩ : ByteArray)]) (t := 62) ?hr ?_; (case hd => rfl); (case hg => rfl); (case hr => first | (go_simp; done) | (go_simp; rfl)); intro gb hg w4 hbox hb; have B4 := Aside0.mk (below_step (by repeat (first | exact B3.out | apply below_drew1 | apply pw_below_drewN)) hb); have GE : Aside0 (w1.heap.size ≤ gb) := ⟨by { rw [hg]; exact below_size (by repeat (first | exact B3.out | apply below_drew1 | apply pw_below_drewN)) }⟩; have BK := Aside0.mk hbox; have HP4 := Aside0.mk (HP.out.below B4.out); have hlt := HP.out.lt; have hne1 : ¬ p = gb := (by have := GE.out; omega); have hne2 : ¬ gb = p := (by have := GE.out; omega); clear hb hg hbox hlt; have hc0 : w4.cell? ⟨gb, 0, none⟩ = some (.string (⟨#[]⟩ : ByteArray)) := (blk_cell BK.out 0).trans rfl; have hc1 : w4.cell? ⟨gb, 1, none⟩ = some (.string (⟨#[]⟩ : ByteArray)) := (blk_cell BK.out 1).trans rfl; have hfr0 := blk_frozen BK.out 0; have hfr1 := blk_frozen BK.out 1; have hz5 : w4.cell? ⟨p, 5, none⟩ = some (.slice At M ct) := (blk_cell HP4.out.blk 5).trans rfl; have hf5 := blk_frozen HP4.out.blk 5))
  go_ret
  exact ⟨rfl, ⟨_, _, _, HP.out.below ((B4.out.setCell (p := ⟨gb, 0, none⟩) GE.out (.string a)).setCell (p := ⟨gb, 1, none⟩) GE.out (.string t))⟩, stay_low HS.out ((B4.out.setCell (p := ⟨gb, 0, none⟩) GE.out (.string a)).setCell (p := ⟨gb, 1, none⟩) GE.out (.string t))⟩
set_option maxHeartbeats 4000000 in
set_option maxRecDepth 100000 in
theorem trailer_bad (w0 w : World) (F : Nat → Prop) (p : Nat) (vl vo vt : Value) (d : Dec) (c : Int) (h : Rep w F p vl vo vt d) (hH : Held w0 w F) (hl : d.line.length ≤ 4294960000) (l1 : List Int) (s : ByteArray) (e1 : Int) (hr : lined d.line c = (l1, some s, e1)) (hse : ¬ s.size = 0) (hok : (Lib.cut s.data.toList [58]).2.2 = true) (hm : ¬ d.tr.length = 100) (fe : Int) (hfe : fldE (trailerF s) = fe) (hfn : ¬ fe = 0) :
    Calls Tryd.prog 28 #[.pointer (some ⟨p, 0, none⟩), .int .u8 c] w (StepPost w F p ({ d with line := l1 }, 100)) := by
  have HH := Aside0.mk hH
  have HIN := Aside0.mk h.inF
  have hss := (lined_size _ _ _ _ _ hr).1
  have HLn := Aside0.mk (lined_some w F p vl vo vt d c l1 s e1 h (by omega) hr)
  have hcl := cut_len s.data.toList 58
  rw [← Px.sz] at hcl
  have HCu : Aside0 (∀ w', GInv w' → Calls Tryd.prog 25 #[.string s, .string ⟨#[58]⟩] w' fun e w2 => e = .returned (.tuple #[.string (Px.mkB (Lib.cut s.data.toList [58]).1), .string (Px.mkB (Lib.cut s.data.toList [58]).2.1), .bool true]) ∧ Below w'.heap.size w' w2) := ⟨fun w' hg => by have h5 := cut_calls s 58 w' (by omega) hg; rw [hok] at h5; exact h5⟩
  have HTr : Aside0 (∀ w', Calls Tryd.prog 35 #[.string (Px.mkB (Lib.cut s.data.toList [58]).2.1)] w' fun e w2 => e = .returned (.string (Px.mkB (Hr.trim (Lib.cut s.data.toList [58]).2.1))) ∧ Below w'.heap.size w' w2) := ⟨fun w' => by have h5 := trim_calls (Px.mkB (Lib.cut s.data.toList [58]).2.1) w' (by rw [Px.mkB_size]; omega); rw [Px.mkB_data] at h5; exact h5⟩
  have htl : (Hr.trim (Lib.cut s.data.toList [58]).2.1).length ≤ (Lib.cut s.data.toList [58]).2.1.length := trim_len _
  have HCk : Aside0 (∀ (W : World) (g : Nat), g = W.heap.size → Calls Tryd.prog 36 #[.slice (some ⟨g, 0, none⟩) 1 1] (W.alloc (.cells #[.string (Px.mkB (Lib.cut s.data.toList [58]).1), .string (Px.mkB (Hr.trim (Lib.cut s.data.toList [58]).2.1))] 62)) fun e w' => e = .returned (.int .i64 fe) ∧ Below (W.alloc (.cells #[.string (Px.mkB (Lib.cut s.data.toList [58]).1), .string (Px.mkB (Hr.trim (Lib.cut s.data.toList [58]).2.1))] 62)).heap.size (W.alloc (.cells #[.string (Px.mkB (Lib.cut s.data.toList [58]).1), .string (Px.mkB (Hr.trim (Lib.cut s.data.toList [58]).2.1))] 62)) w') := ⟨fun W g hg => by subst hg; exact one_check (trailerF s) W fe (by show (Px.mkB _).size ≤ _; rw [Px.mkB_size]; omega) (by show (Px.mkB _).size ≤ _; rw [Px.mkB_size]; omega) hfe⟩
  clear htl hfe
  have hemp : s.toList.isEmpty = false := Lex.emptyB_no hse
  obtain ⟨At, ct, hvt, hct, hCt⟩ := Kd.R_reads h.tr
  obtain ⟨M, hM⟩ : ∃ M, M = d.tr.length := ⟨_, rfl⟩
  have HM := Aside0.mk hM
  rw [← hM] at hvt hm
  subst hvt
  have HVT := Aside0.mk h.tr
  clear h hH hl hss hcl hr hct hCt hse hok
  have bm : ((M : Int) == 100) = false := by simpa using (show ¬ (M : Int) = 100 from by omega)
  have bf : (fe != 0) = true := by simpa using hfn
  generalize Px.mkB (Lib.cut s.data.toList [58]).1 = a at *
  generalize Px.mkB (Hr.trim (Lib.cut s.data.toList [58]).2.1) = t at *
  generalize Px.mkB (Lib.cut s.data.toList [58]).2.1 = m at *
  clear hM
  go_enter Tryd.func28, Tryd.ntmps28
  go_wp2_with (first | (go_at_call 24; refine HLn.out.mono ?_; rintro e w1 ⟨rfl, ⟨vl', hrep⟩, hst⟩; have HP := Aside0.mk hrep; have HS := Aside0.mk hst; have HG1 := Aside0.mk (HH.out.next hst).g;  clear hrep hst) | (go_at_call 25; refine (HCu.out _ (GInv.below' HG1 (by repeat (first | exact Below.refl _ _ | apply below_drew1 | apply pw_below_drewN)))).mono ?_; rintro e w2 ⟨rfl, hb⟩; have B2 := Aside0.mk (below_step (by repeat (first | exact Below.refl _ _ | apply below_drew1 | apply pw_below_drewN)) hb); clear hb) | (go_at_call 35; refine (HTr.out _).mono ?_; rintro e w3 ⟨rfl, hb⟩; have B3 := Aside0.mk (below_step (by repeat (first | exact B2.out | apply below_drew1 | apply pw_below_drewN)) hb); clear hb) | ((with_reducible refine gate_dst (N := 11) rfl ?_); refine box_event ?hg (N := 11) ?hd (cs := #[.string (⟨#[]⟩ : ByteArray), .string (⟨#[]⟩ : ByteArray)]) (t := 62) ?hr ?_; (case hd => rfl); (case hg => rfl); (case hr => first | (go_simp; done) | (go_simp; rfl)); intro gb hg w4 hbox hb; have B4 := Aside0.mk (below_step (by repeat (first | exact B3.out | apply below_drew1 | apply pw_below_drewN)) hb); have GE : Aside0 (w1.heap.size ≤ gb) := ⟨by { rw [hg]; exact below_size (by repeat (first | exact B3.out | apply below_drew1 | apply pw_below_drewN)) }⟩; have BK := Aside0.mk hbox; have HP4 := Aside0.mk (HP.out.below B4.out); have hlt := HP.out.lt; have hne1 : ¬ p = gb := (by have := GE.out; omega); have hne2 : ¬ gb = p := (by have := GE.out; omega); clear hb hg hbox hlt; have hc0 : w4.cell? ⟨gb, 0, none⟩ = some (.string (⟨#[]⟩ : ByteArray)) := (blk_cell BK.out 0).trans rfl; have hc1 : w4.cell? ⟨gb, 1, none⟩ = some (.string (⟨#[]⟩ : ByteArray)) := (blk_cell BK.out 1).trans rfl; have hfr0 := blk_frozen BK.out 0; have hfr1 := blk_frozen BK.out 1; have hz5 : w4.cell? ⟨p, 5, none⟩ = some (.slice At M ct) := (blk_cell HP4.out.blk 5).trans rfl; have hf5 := blk_frozen HP4.out.blk 5) | (go_at_call 36; refine (HCk.out _ _ ?gs).mono ?_; (case gs => (first | (simp only [size_set]; done) | (rw [size_set, size_set]) | rfl)); rintro e w6 ⟨rfl, hb⟩; have B6 := Aside0.mk (below_step (below_alloc ((B4.out.setCell (p := ⟨gb, 0, none⟩) GE.out (.string a)).setCell (p := ⟨gb, 1, none⟩) GE.out (.string t)) _) hb); have BK6 := Aside0.mk (blk_below (blk_alloc (blk_set (blk_set BK.out 0 (.string a)) 1 (.string t)) _) hb); have HP6 := Aside0.mk (HP.out.below B6.out); clear hb; have hd0 : w6.cell? ⟨gb, 0, none⟩ = some (.string a) := (blk_cell BK6.out 0).trans rfl; have hd1 : w6.cell? ⟨gb, 1, none⟩ = some (.string t) := (blk_cell BK6.out 1).trans rfl; have hg0 := blk_frozen BK6.out 0; have hg1 := blk_frozen BK6.out 1; have hy5 : w6.cell? ⟨p, 5, none⟩ = some (.slice At M ct) := (blk_cell HP6.out.blk 5).trans rfl; have hx5 := blk_frozen HP6.out.blk 5))
  go_ret
  exact ⟨rfl, ⟨_, _, _, HP.out.below B6.out⟩, stay_low HS.out B6.out⟩
set_option maxHeartbeats 4000000 in
set_option maxRecDepth 100000 in
theorem trailer_go (w0 w : World) (F : Nat → Prop) (p : Nat) (vl vo vt : Value) (d : Dec) (c : Int) (h : Rep w F p vl vo vt d) (hH : Held w0 w F) (hl : d.line.length ≤ 4294960000) (l1 : List Int) (s : ByteArray) (e1 : Int) (hr : lined d.line c = (l1, some s, e1)) (hse : ¬ s.size = 0) (hok : (Lib.cut s.data.toList [58]).2.2 = true) (hm : ¬ d.tr.length = 100) (htl9 : d.tr.length ≤ 4294960000) (hfe : fldE (trailerF s) = 0) :
    Calls Tryd.prog 28 #[.pointer (some ⟨p, 0, none⟩), .int .u8 c] w (StepPost w F p ({ d with line := l1, tr := d.tr ++ [trailerF s] }, 0)) := by
  have HH := Aside0.mk hH
  have HIN := Aside0.mk h.inF
  have hss := (lined_size _ _ _ _ _ hr).1
  have HLn := Aside0.mk (lined_some w F p vl vo vt d c l1 s e1 h (by omega) hr)
  have hcl := cut_len s.data.toList 58
  rw [← Px.sz] at hcl
  have HCu : Aside0 (∀ w', GInv w' → Calls Tryd.prog 25 #[.string s, .string ⟨#[58]⟩] w' fun e w2 => e = .returned (.tuple #[.string (Px.mkB (Lib.cut s.data.toList [58]).1), .string (Px.mkB (Lib.cut s.data.toList [58]).2.1), .bool true]) ∧ Below w'.heap.size w' w2) := ⟨fun w' hg => by have h5 := cut_calls s 58 w' (by omega) hg; rw [hok] at h5; exact h5⟩
  have HTr : Aside0 (∀ w', Calls Tryd.prog 35 #[.string (Px.mkB (Lib.cut s.data.toList [58]).2.1)] w' fun e w2 => e = .returned (.string (Px.mkB (Hr.trim (Lib.cut s.data.toList [58]).2.1))) ∧ Below w'.heap.size w' w2) := ⟨fun w' => by have h5 := trim_calls (Px.mkB (Lib.cut s.data.toList [58]).2.1) w' (by rw [Px.mkB_size]; omega); rw [Px.mkB_data] at h5; exact h5⟩
  have htl : (Hr.trim (Lib.cut s.data.toList [58]).2.1).length ≤ (Lib.cut s.data.toList [58]).2.1.length := trim_len _
  have HCk : Aside0 (∀ (W : World) (g : Nat), g = W.heap.size → Calls Tryd.prog 36 #[.slice (some ⟨g, 0, none⟩) 1 1] (W.alloc (.cells #[.string (Px.mkB (Lib.cut s.data.toList [58]).1), .string (Px.mkB (Hr.trim (Lib.cut s.data.toList [58]).2.1))] 62)) fun e w' => e = .returned (.int .i64 0) ∧ Below (W.alloc (.cells #[.string (Px.mkB (Lib.cut s.data.toList [58]).1), .string (Px.mkB (Hr.trim (Lib.cut s.data.toList [58]).2.1))] 62)).heap.size (W.alloc (.cells #[.string (Px.mkB (Lib.cut s.data.toList [58]).1), .string (Px.mkB (Hr.trim (Lib.cut s.data.toList [58]).2.1))] 62)) w') := ⟨fun W g hg => by subst hg; exact one_check (trailerF s) W 0 (by show (Px.mkB _).size ≤ _; rw [Px.mkB_size]; omega) (by show (Px.mkB _).size ≤ _; rw [Px.mkB_size]; omega) hfe⟩
  clear htl hfe
  have hemp : s.toList.isEmpty = false := Lex.emptyB_no hse
  obtain ⟨At, ct, hvt, hct, hCt⟩ := Kd.R_reads h.tr
  obtain ⟨M, hM⟩ : ∃ M, M = d.tr.length := ⟨_, rfl⟩
  have HM := Aside0.mk hM
  rw [← hM] at hvt hm htl9
  subst hvt
  have HVT := Aside0.mk h.tr
  clear h hH hl hss hcl hr hct hCt hse hok
  have bm : ((M : Int) == 100) = false := by simpa using (show ¬ (M : Int) = 100 from by omega)
  obtain ⟨f, hf⟩ : ∃ f, f = trailerF s := ⟨_, rfl⟩
  rw [← hf]
  have hf0 : f.f0 = Px.mkB (Lib.cut s.data.toList [58]).1 := by rw [hf]; rfl
  have hf1 : f.f1 = Px.mkB (Hr.trim (Lib.cut s.data.toList [58]).2.1) := by rw [hf]; rfl
  clear hf
  generalize Px.mkB (Lib.cut s.data.toList [58]).1 = a at *
  generalize Px.mkB (Hr.trim (Lib.cut s.data.toList [58]).2.1) = t at *
  generalize Px.mkB (Lib.cut s.data.toList [58]).2.1 = m at *
  clear hM
  have HFF : Aside0 (f = ⟨a, t⟩) := ⟨by cases f; simp only at hf0 hf1; rw [hf0, hf1]⟩
  clear hf0 hf1
  go_enter Tryd.func28, Tryd.ntmps28
  go_wp2_with (first | (go_at_call 24; refine HLn.out.mono ?_; rintro e w1 ⟨rfl, ⟨vl', hrep⟩, hst⟩; have HP := Aside0.mk hrep; have HS := Aside0.mk hst; have HG1 := Aside0.mk (HH.out.next hst).g;  clear hrep hst) | (go_at_call 25; refine (HCu.out _ (GInv.below' HG1 (by repeat (first | exact Below.refl _ _ | apply below_drew1 | apply pw_below_drewN)))).mono ?_; rintro e w2 ⟨rfl, hb⟩; have B2 := Aside0.mk (below_step (by repeat (first | exact Below.refl _ _ | apply below_drew1 | apply pw_below_drewN)) hb); clear hb) | (go_at_call 35; refine (HTr.out _).mono ?_; rintro e w3 ⟨rfl, hb⟩; have B3 := Aside0.mk (below_step (by repeat (first | exact B2.out | apply below_drew1 | apply pw_below_drewN)) hb); clear hb) | ((with_reducible refine gate_dst (N := 11) rfl ?_); refine box_event ?hg (N := 11) ?hd (cs := #[.string (⟨#[]⟩ : ByteArray), .string (⟨#[]⟩ : ByteArray)]) (t := 62) ?hr ?_; (case hd => rfl); (case hg => rfl); (case hr => first | (go_simp; done) | (go_simp; rfl)); intro gb hg w4 hbox hb; have B4 := Aside0.mk (below_step (by repeat (first | exact B3.out | apply below_drew1 | apply pw_below_drewN)) hb); have GE : Aside0 (w1.heap.size ≤ gb) := ⟨by { rw [hg]; exact below_size (by repeat (first | exact B3.out | apply below_drew1 | apply pw_below_drewN)) }⟩; have BK := Aside0.mk hbox; have HP4 := Aside0.mk (HP.out.below B4.out); have hlt := HP.out.lt; have hne1 : ¬ p = gb := (by have := GE.out; omega); have hne2 : ¬ gb = p := (by have := GE.out; omega); clear hb hg hbox hlt; have hc0 : w4.cell? ⟨gb, 0, none⟩ = some (.string (⟨#[]⟩ : ByteArray)) := (blk_cell BK.out 0).trans rfl; have hc1 : w4.cell? ⟨gb, 1, none⟩ = some (.string (⟨#[]⟩ : ByteArray)) := (blk_cell BK.out 1).trans rfl; have hfr0 := blk_frozen BK.out 0; have hfr1 := blk_frozen BK.out 1; have hz5 : w4.cell? ⟨p, 5, none⟩ = some (.slice At M ct) := (blk_cell HP4.out.blk 5).trans rfl; have hf5 := blk_frozen HP4.out.blk 5) | (go_at_call 36; refine (HCk.out _ _ ?gs).mono ?_; (case gs => (first | (simp only [size_set]; done) | (rw [size_set, size_set]) | rfl)); rintro e w6 ⟨rfl, hb⟩; have B6 := Aside0.mk (below_step (below_alloc ((B4.out.setCell (p := ⟨gb, 0, none⟩) GE.out (.string a)).setCell (p := ⟨gb, 1, none⟩) GE.out (.string t)) _) hb); have BK6 := Aside0.mk (blk_below (blk_alloc (blk_set (blk_set BK.out 0 (.string a)) 1 (.string t)) _) hb); have HP6 := Aside0.mk (HP.out.below B6.out); clear hb; have hd0 : w6.cell? ⟨gb, 0, none⟩ = some (.string a) := (blk_cell BK6.out 0).trans rfl; have hd1 : w6.cell? ⟨gb, 1, none⟩ = some (.string t) := (blk_cell BK6.out 1).trans rfl; have hg0 := blk_frozen BK6.out 0; have hg1 := blk_frozen BK6.out 1; have hy5 : w6.cell? ⟨p, 5, none⟩ = some (.slice At M ct) := (blk_cell HP6.out.blk 5).trans rfl; have hx5 := blk_frozen HP6.out.blk 5))
  have HPd := Aside0.mk (HP6.out.below (below_drew (Below.refl _ _)) : Rep w6.drew _ _ _ _ _ _)
  have hya : ∀ o, (w6.alloc o).cell? ⟨p, 5, none⟩ = some (.slice At M ct) := fun o => (blk_cell (blk_alloc HP6.out.blk o) 5).trans rfl
  have HSd := Aside0.mk (stay_low HS.out (below_drew B6.out))
  go_region_law (refine Kd.R_append_step fldK (w0 := w6.drew) 0 (by rfl) (.tmp 57) (.tmp 59) 25 62 (.agg #[.string ⟨#[]⟩, .string ⟨#[]⟩]) 32 rfl Tryd.underlying25 info_fld rfl (by decide) (by omega) _ d.tr (⟨a, t⟩ : Fld) [.string a, .string t] (fun k => (F k ∨ w.heap.size ≤ k) ∨ w6.drew.heap.size ≤ k) (fun _ => False) rfl rfl (P.k62_mkM _ _ _ (⟨a, t⟩ : Fld)) (fun _ hk => hk.elim) (fun k hk => .inr hk) (Kd.R_mono HPd.out.tr (fun k hk => .inl hk)) (Below.refl _ _) (Nat.zero_le _) (by have := HM.out; omega) ?_; intro v1 w7 hR hb7 hg7 hat7; obtain ⟨hb8, hrep, hst⟩ := HPd.out.trTo hg7 hR; have HR7 := Aside0.mk hrep; have HS7 := Aside0.mk hst; obtain ⟨A1, c1, e1⟩ := Kd.R_slice hR; rw [List.length_append, List.length_singleton] at e1; have hz5 : w7.cell? ⟨p, 5, none⟩ = some (.slice At M ct) := (blk_cell hb8 5).trans rfl; have hf5 := blk_frozen hb8 5; clear hR hb7 hg7 hat7 hb8 hrep hst; subst e1)
  all_goals
    go_wp2
    go_ret
    rw [HFF.out]
    exact ⟨rfl, ⟨_, _, _, HR7.out.mono (fun k hk => hk.elim id (fun h2 => .inr (Nat.le_trans (Nat.le_trans HS.out.size B6.out.size) h2)))⟩, HSd.out.trans HS7.out (fun i hi => hi)⟩
end Go.Proofs.YtcfmihghgecefaaDoor.Chk
