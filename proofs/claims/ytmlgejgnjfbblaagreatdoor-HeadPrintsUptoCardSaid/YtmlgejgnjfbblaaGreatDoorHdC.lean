/- Package head, by hand: Print; own text of this session. -/
import Derived.Test.YtmlgejgnjfbblaaGreatDoorHdB
import Derived.Test.YtmlgejgnjfbblaaGreatDoorBld
import Derived.Deep.RegionHeld3
namespace Go.Proofs.YtmlgejgnjfbblaaGreatDoor.Hd
open Go.RowKit Go.Proofs.YtmlgejgnjfbblaaGreatDoorW.PrintWords Go.Proofs.YtmlgejgnjfbblaaGreatDoorW.PrintLast Chk Px Hr
set_option linter.unusedVariables false
set_option linter.unusedSimpArgs false
theorem below_weak {B B' : Nat} {w w' : World} (h : Below B w w') (hb : B' ≤ B) : Below B' w w' := ⟨h.os, h.tape, h.output, h.size, fun i hi => h.block i (by omega)⟩
theorem bytesRow_at (s : ByteArray) (c : Nat) : ∀ i, i < (nOf s.data.toList).length → (bytesRow s c)[i]? = some (.int .u8 ((nOf s.data.toList).getD i 0)) := by
 intro i hi
 rw [nOf_length] at hi
 unfold bytesRow
 rw [Array.getElem?_append_left (by simp only [Array.size_map]; exact (Array.length_toList (xs := s.data)) ▸ hi)]
 have hi' : i < s.data.size := by simpa using hi
 simp [nOf, Array.getElem?_eq_getElem hi']
theorem conv_step {P : Program} {ops : Array Oper} {o : Oper} {a : Act} {Q : Exit → Act → World → Prop} {Kc : Act → World → Prop} {W : World} (hw : Region.wanted o (yielded ops a.tmps) = true) {N : Tmp} (hd : o.dst = some N) (src t e : TypeId) (x : Operand) (ho : o.op = .convert src t x) (s : ByteArray) (hx : a.eval x = .string s) (hm : s.size ≤ 9223372036854775807)
  (hs : P.underlying src = some .string) (ht : P.underlying t = some (.slice e)) (he : P.underlying e = some (.int .u8))
  (h : ∀ A c w1, (Kd.int .u8).C w1 A s.size (nOf s.data.toList) → s.size ≤ c → Below W.heap.size W w1 → Kc (a.put (some N) (.slice A s.size c)) w1) : if Region.wanted o (yielded ops a.tmps) = true then Oper.wp P o a W Kc Q else Kc (a.put (some N) undef) W := by
 have hr := run_bytes_of_string (P := P) W src t e s hs ht he
 have hcap : s.size ≤ grownCap W s.size 0 e := by show s.size ≤ s.size + _; omega
 have hz : (nOf s.data.toList).length = s.size := by rw [nOf_length, sz]
 rw [← hd]
 refine event_step hw (v := .slice (some ⟨W.heap.size, 0, none⟩) s.size (grownCap W s.size 0 e)) (w1 := W.drew.alloc (.cells (bytesRow s (grownCap W s.size 0 e)) e ((bytesRow s (grownCap W s.size 0 e)).size, (bytesRow s (grownCap W s.size 0 e)).size + 1))) ?_ ?_
 ·simp [execOp, ho, hx, hr]
 ·rw [hd]
  refine h _ _ _ ?_ hcap (below_alloc (below_drew (Below.refl _ _)) _)
  have h5 := C_of_block (W := W.drew.alloc (.cells (bytesRow s (grownCap W s.size 0 e)) e ((bytesRow s (grownCap W s.size 0 e)).size, (bytesRow s (grownCap W s.size 0 e)).size + 1))) (xs := nOf s.data.toList) (blk_new _ _) (bytesRow_at s _) (by rw [hz]; exact hm)
  rw [hz] at h5
  exact h5
theorem fld_ne : ∀ q, q ∈ (45 : Nat) :: fldK.E → q ≠ (24 : Nat) := by
 intro q hq
 rcases List.mem_cons.1 hq with rfl | h2
 ·decide
 ·exact absurd h2 (by simp [fldK, P.k45, Kd.iso, Kd.pair, Kd.string, Kd.scalar])
theorem head_put {wf w0 : World} {B b g : Nat} {bs : List Value} (x : Head) (A8 : Option Addr) (c8 : Nat) (hz : wf.heap[g]? = some (.cells #[.bool false, .string ⟨#[]⟩, .string ⟨#[]⟩, .int .i64 0, .int .i64 0, .string ⟨#[]⟩, .slice none 0 0] 24 (0, 0))) (hB : Below B w0 wf) (hg : B ≤ g) (hF : Lib.IsBuilderF 38 5 B b bs wf) (hbg : b ≠ g) (hP : fldK.R 45 wf 0 (fun _ => True) (.slice A8 x.f6.length c8) x.f6) : ∃ W9, W9 = (((((((wf.setCell ⟨g, 0, none⟩ (.bool x.f0)).setCell ⟨g, 1, none⟩ (.string x.f1)).setCell ⟨g, 2, none⟩ (.string x.f2)).setCell ⟨g, 3, none⟩ (.int .i64 x.f3)).setCell ⟨g, 4, none⟩ (.int .i64 x.f4)).setCell ⟨g, 5, none⟩ (.string x.f5)).setCell ⟨g, 6, none⟩ (.slice A8 x.f6.length c8)) ∧ W9.heap[g]? = some (.cells #[.bool x.f0, .string x.f1, .string x.f2, .int .i64 x.f3, .int .i64 x.f4, .string x.f5, .slice A8 x.f6.length c8] 24 (0, 0)) ∧ Below B w0 W9 ∧ Lib.IsBuilderF 38 5 B b bs W9 ∧ fldK.R 45 W9 0 (fun _ => True) (.slice A8 x.f6.length c8) x.f6 := by
 have b0 := hz
 have u0 := hB
 have k0 := hF
 have q0 := hP
 have b1 : (wf.setCell ⟨g, 0, none⟩ (.bool x.f0)).heap[g]? = some (.cells #[.bool x.f0, .string ⟨#[]⟩, .string ⟨#[]⟩, .int .i64 0, .int .i64 0, .string ⟨#[]⟩, .slice none 0 0] 24 (0, 0)) := blk_put b0 0 _ rfl
 have u1 := u0.setCell (p := ⟨g, 0, none⟩) hg (.bool x.f0)
 have k1 := Bld.isbF_set (j := 0) (u := .bool x.f0) k0 b0 hbg (by decide)
 have q1 := Kd.R_set q0 b0 fld_ne 0 (.bool x.f0)
 have b2 : ((wf.setCell ⟨g, 0, none⟩ (.bool x.f0)).setCell ⟨g, 1, none⟩ (.string x.f1)).heap[g]? = some (.cells #[.bool x.f0, .string x.f1, .string ⟨#[]⟩, .int .i64 0, .int .i64 0, .string ⟨#[]⟩, .slice none 0 0] 24 (0, 0)) := blk_put b1 1 _ rfl
 have u2 := u1.setCell (p := ⟨g, 1, none⟩) hg (.string x.f1)
 have k2 := Bld.isbF_set (j := 1) (u := .string x.f1) k1 b1 hbg (by decide)
 have q2 := Kd.R_set q1 b1 fld_ne 1 (.string x.f1)
 have b3 : (((wf.setCell ⟨g, 0, none⟩ (.bool x.f0)).setCell ⟨g, 1, none⟩ (.string x.f1)).setCell ⟨g, 2, none⟩ (.string x.f2)).heap[g]? = some (.cells #[.bool x.f0, .string x.f1, .string x.f2, .int .i64 0, .int .i64 0, .string ⟨#[]⟩, .slice none 0 0] 24 (0, 0)) := blk_put b2 2 _ rfl
 have u3 := u2.setCell (p := ⟨g, 2, none⟩) hg (.string x.f2)
 have k3 := Bld.isbF_set (j := 2) (u := .string x.f2) k2 b2 hbg (by decide)
 have q3 := Kd.R_set q2 b2 fld_ne 2 (.string x.f2)
 have b4 : ((((wf.setCell ⟨g, 0, none⟩ (.bool x.f0)).setCell ⟨g, 1, none⟩ (.string x.f1)).setCell ⟨g, 2, none⟩ (.string x.f2)).setCell ⟨g, 3, none⟩ (.int .i64 x.f3)).heap[g]? = some (.cells #[.bool x.f0, .string x.f1, .string x.f2, .int .i64 x.f3, .int .i64 0, .string ⟨#[]⟩, .slice none 0 0] 24 (0, 0)) := blk_put b3 3 _ rfl
 have u4 := u3.setCell (p := ⟨g, 3, none⟩) hg (.int .i64 x.f3)
 have k4 := Bld.isbF_set (j := 3) (u := .int .i64 x.f3) k3 b3 hbg (by decide)
 have q4 := Kd.R_set q3 b3 fld_ne 3 (.int .i64 x.f3)
 have b5 : (((((wf.setCell ⟨g, 0, none⟩ (.bool x.f0)).setCell ⟨g, 1, none⟩ (.string x.f1)).setCell ⟨g, 2, none⟩ (.string x.f2)).setCell ⟨g, 3, none⟩ (.int .i64 x.f3)).setCell ⟨g, 4, none⟩ (.int .i64 x.f4)).heap[g]? = some (.cells #[.bool x.f0, .string x.f1, .string x.f2, .int .i64 x.f3, .int .i64 x.f4, .string ⟨#[]⟩, .slice none 0 0] 24 (0, 0)) := blk_put b4 4 _ rfl
 have u5 := u4.setCell (p := ⟨g, 4, none⟩) hg (.int .i64 x.f4)
 have k5 := Bld.isbF_set (j := 4) (u := .int .i64 x.f4) k4 b4 hbg (by decide)
 have q5 := Kd.R_set q4 b4 fld_ne 4 (.int .i64 x.f4)
 have b6 : ((((((wf.setCell ⟨g, 0, none⟩ (.bool x.f0)).setCell ⟨g, 1, none⟩ (.string x.f1)).setCell ⟨g, 2, none⟩ (.string x.f2)).setCell ⟨g, 3, none⟩ (.int .i64 x.f3)).setCell ⟨g, 4, none⟩ (.int .i64 x.f4)).setCell ⟨g, 5, none⟩ (.string x.f5)).heap[g]? = some (.cells #[.bool x.f0, .string x.f1, .string x.f2, .int .i64 x.f3, .int .i64 x.f4, .string x.f5, .slice none 0 0] 24 (0, 0)) := blk_put b5 5 _ rfl
 have u6 := u5.setCell (p := ⟨g, 5, none⟩) hg (.string x.f5)
 have k6 := Bld.isbF_set (j := 5) (u := .string x.f5) k5 b5 hbg (by decide)
 have q6 := Kd.R_set q5 b5 fld_ne 5 (.string x.f5)
 have b7 : (((((((wf.setCell ⟨g, 0, none⟩ (.bool x.f0)).setCell ⟨g, 1, none⟩ (.string x.f1)).setCell ⟨g, 2, none⟩ (.string x.f2)).setCell ⟨g, 3, none⟩ (.int .i64 x.f3)).setCell ⟨g, 4, none⟩ (.int .i64 x.f4)).setCell ⟨g, 5, none⟩ (.string x.f5)).setCell ⟨g, 6, none⟩ (.slice A8 x.f6.length c8)).heap[g]? = some (.cells #[.bool x.f0, .string x.f1, .string x.f2, .int .i64 x.f3, .int .i64 x.f4, .string x.f5, .slice A8 x.f6.length c8] 24 (0, 0)) := blk_put b6 6 _ rfl
 have u7 := u6.setCell (p := ⟨g, 6, none⟩) hg (.slice A8 x.f6.length c8)
 have k7 := Bld.isbF_set (j := 6) (u := .slice A8 x.f6.length c8) k6 b6 hbg (by decide)
 have q7 := Kd.R_set q6 b6 fld_ne 6 (.slice A8 x.f6.length c8)
 exact ⟨_, rfl, b7, u7, k7, q7⟩
theorem parseS_fields (rq : Bool) (b : List Int) (hl : b.length ≤ 4294940000) : (parseS rq b).1.f6.length ≤ 4294950000 := by
 have hsn := sane_new rq 65536 b.length (by decide) (by decide) (by omega)
 have hsq := feedP_sane b (newPar rq 65536) 0 0 (by simpa using hsn)
 unfold parseS
 dsimp only
 split
 ·simp [head0]
 ·split
  ·simp [head0]
  ·have := hsq.fl
   omega
theorem printS_no (h : Head) (x : Head) (pn pe : Int) (M : Nat) (hp : (x, pn, pe) = parseS h.f0 (nOf (textS h))) (hM : M = (textS h).length) (hc : ¬ pe = 0 ∨ ¬ pn = (M : Int) ∨ sameB x h = false) : printS h = ([], 4) := by
 unfold printS
 rw [← hp, ← hM]
 split
 ·rfl
 ·first | rfl | rw [if_pos hc]
theorem printS_yes (h : Head) (x : Head) (pn pe : Int) (M : Nat) (hp : (x, pn, pe) = parseS h.f0 (nOf (textS h))) (hM : M = (textS h).length) (hl : h.f6.length ≤ 100) (h1 : pe = 0) (h2 : pn = (M : Int)) (h3 : sameB x h = true) : printS h = (textS h, 0) := by
 unfold printS
 rw [← hp, ← hM, if_neg (by omega), if_neg]
 rintro (h5 | h5 | h5)
 ·exact h5 h1
 ·exact h5 h2
 ·rw [h3] at h5; cases h5
theorem first_true (h : Head) (S3 : ByteArray) (hS3 : S3 = mkB (Lib.itoa h.f3)) (hf0 : h.f0 = true) : (h.f1 ++ (⟨#[32]⟩ : ByteArray) ++ h.f2 ++ (⟨#[32]⟩ : ByteArray) ++ ((⟨#[72, 84, 84, 80, 47, 49, 46]⟩ : ByteArray) ++ S3) ++ (⟨#[13, 10]⟩ : ByteArray)).data.toList = firstT h := by
 unfold firstT
 rw [if_pos hf0, hS3]
 simp [ByteArray.data_append, mkB_data, crlf]
theorem first_false (h : Head) (S3 S4 : ByteArray) (hS3 : S3 = mkB (Lib.itoa h.f3)) (hS4 : S4 = mkB (Lib.itoa h.f4)) (hf0 : h.f0 = false) : (((⟨#[72, 84, 84, 80, 47, 49, 46]⟩ : ByteArray) ++ S3) ++ (⟨#[32]⟩ : ByteArray) ++ S4 ++ (⟨#[32]⟩ : ByteArray) ++ h.f5 ++ (⟨#[13, 10]⟩ : ByteArray)).data.toList = firstT h := by
 unfold firstT
 rw [if_neg (by rw [hf0]; decide), hS3, hS4]
 simp [ByteArray.data_append, mkB_data, crlf]
theorem crlf_data : (⟨#[13, 10]⟩ : ByteArray).data.toList = crlf := rfl
theorem fld_data (f : Fld) : (f.f0 ++ (⟨#[58, 32]⟩ : ByteArray) ++ f.f1 ++ (⟨#[13, 10]⟩ : ByteArray)).data.toList = fldT f := by
 unfold fldT
 simp [ByteArray.data_append, crlf]
def PrintPost (r : Bs × Int) (w : World) (e : Ending) (w' : World) : Prop := e = .returned (.tuple #[.string (mkB r.1), .int .i64 r.2]) ∧ Below w.heap.size w w'
theorem firstT_le (h : Head) : (firstT h).length ≤ (textS h).length := by unfold textS; simp only [List.length_append]; omega
theorem take_le (h : Head) (k : Nat) : (firstT h ++ (h.f6.take k).flatMap fldT).length ≤ (textS h).length := by
 unfold textS
 have e := List.take_append_drop k h.f6
 have e2 : (h.f6.flatMap fldT) = (h.f6.take k).flatMap fldT ++ (h.f6.drop k).flatMap fldT := by rw [← List.flatMap_append, e]
 rw [e2]
 simp only [List.length_append]
 omega
theorem take_next (h : Head) (k : Nat) (f : Fld) (hk : h.f6.take (k + 1) = h.f6.take k ++ [f]) : (firstT h ++ (h.f6.take k).flatMap fldT).length + (fldT f).length ≤ (textS h).length := by
 have h1 := take_le h (k + 1)
 rw [hk, List.flatMap_append, List.flatMap_cons, List.flatMap_nil, List.append_nil, ← List.append_assoc, List.length_append] at h1
 exact h1
theorem strC (l : Bs) (s : ByteArray) (m : Bs) (hm : s.data.toList = m) : Lib.byteCells l ++ Lib.strCells s = Lib.byteCells (l ++ m) := by
 subst hm
 simp [Lib.byteCells, Lib.strCells]
set_option maxHeartbeats 8000000 in
set_option maxRecDepth 100000 in
theorem print_many (h : Head) (A : Option Addr) (c : Nat) (w : World) (hl : 100 < h.f6.length) (hl2 : h.f6.length ≤ 4294960000) : Calls Tryz.prog 4 #[hdV h (.slice A h.f6.length c)] w (PrintPost ([], 4) w) := by
 obtain ⟨N, hN⟩ : ∃ N, N = h.f6.length := ⟨_, rfl⟩
 rw [← hN] at hl hl2 ⊢
 have hlz : (100 : Int) < (N : Int) := by omega
 unfold hdV
 clear hN hl
 go_enter Tryz.func4, Tryz.ntmps4
 go_wp2
 go_ret2
 exact ⟨rfl, below_alloc (Below.refl _ _) _⟩
set_option maxHeartbeats 8000000 in
set_option maxRecDepth 100000 in
theorem print_true (h : Head) (A : Option Addr) (c : Nat) (w : World) (hr : Kd.C P.k45 w A h.f6.length h.f6) (hc : h.f6.length ≤ c) (hl : h.f6.length ≤ 100) (hb : (textS h).length ≤ 4294930000) (hG : GInv w)
  (i30 : -9223372036854775808 ≤ h.f3) (i31 : h.f3 ≤ 9223372036854775807) (i40 : -9223372036854775808 ≤ h.f4) (i41 : h.f4 ≤ 9223372036854775807) (hf0 : h.f0 = true) : Calls Tryz.prog 4 #[hdV h (.slice A h.f6.length c)] w (PrintPost (printS h) w) := by
 obtain ⟨W2, hW2⟩ : ∃ W2, W2 = ((w.alloc (.cells #[.bool true, .string h.f1, .string h.f2, .int .i64 h.f3, .int .i64 h.f4, .string h.f5, .slice A h.f6.length c] 24)).alloc (.cells #[.pointer none, .slice none 0 0] 38)) := ⟨_, rfl⟩
 have hB2 : Below w.heap.size w W2 := by rw [hW2]; exact below_alloc (below_alloc (Below.refl _ _) _) _
 have hK1 : W2.heap[w.heap.size]? = some (.cells #[.bool true, .string h.f1, .string h.f2, .int .i64 h.f3, .int .i64 h.f4, .string h.f5, .slice A h.f6.length c] 24 (0, 0)) := by rw [hW2]; exact blk_alloc (blk_new _ _) _
 have hK4 : W2.heap[w.heap.size + 1]? = some (.cells #[.pointer none, .slice none 0 0] 38 (0, 0)) := by rw [hW2]; exact blk_two _ _ _
 have hBl : Lib.IsBuilder 38 5 (w.heap.size + 1) (w.heap.size + 1) (Lib.byteCells []) W2 := .inl ⟨Nat.le_refl _, _, hK4, Go.Proofs.YtmlgejgnjfbblaaGreatDoorW.PrintWords.own_nil _ _ _ _, by rw [Hd.own_nil]; simp⟩
 have hGw := hG.below hB2
 have HIt3 := Aside0.mk (fun W hG => Lex.itoa_calls h.f3 W i30 i31 hG)
 have HIt4 := Aside0.mk (fun W hG => Lex.itoa_calls h.f4 W i40 i41 hG)
 have HB2 := Aside0.mk hB2
 have HK1 := Aside0.mk hK1
 have HBl := Aside0.mk hBl
 have HGw := Aside0.mk hGw
 have HG0 := Aside0.mk hG
 have HW2 := Aside0.mk hW2
 have HR := Aside0.mk hr
 have HBd := Aside0.mk hb
 have Hf0 := Aside0.mk hf0
 have HL := Aside0.mk hl
 have HI := Aside0.mk (And.intro (And.intro i30 i31) (And.intro i40 i41))
 have HS2 : Aside0 (W2.heap.size = w.heap.size + 2) := ⟨by rw [hW2]; simp⟩
 unfold hdV
 rw [hf0]
 obtain ⟨N, hN⟩ : ∃ N, N = h.f6.length := ⟨_, rfl⟩
 rw [← hN] at hl HK1 HW2 HL hc ⊢
 have HN := Aside0.mk hN
 have Hc := Aside0.mk hc
 have hlz : (N : Int) ≤ 100 := by omega
 have hft := firstT_le h
 have HFT := Aside0.mk hft
 obtain ⟨S3, hS3⟩ : ∃ S3, S3 = mkB (Lib.itoa h.f3) := ⟨_, rfl⟩
 obtain ⟨S4, hS4⟩ : ∃ S4, S4 = mkB (Lib.itoa h.f4) := ⟨_, rfl⟩
 have hz3 : S3.size = (Lib.itoa h.f3).length := by rw [hS3, mkB_size]
 have hz4 : S4.size = (Lib.itoa h.f4).length := by rw [hS4, mkB_size]
 replace HIt3 : Aside0 (∀ W, GInv W → Calls Tryz.prog 9 #[.int .i64 h.f3] W fun e w' => e = .returned (.string S3) ∧ Below W.heap.size W w') := ⟨fun W hG => by rw [hS3]; exact HIt3.out W hG⟩
 replace HIt4 : Aside0 (∀ W, GInv W → Calls Tryz.prog 9 #[.int .i64 h.f4] W fun e w' => e = .returned (.string S4) ∧ Below W.heap.size W w') := ⟨fun W hG => by rw [hS4]; exact HIt4.out W hG⟩
 have HS3 := Aside0.mk hS3
 have HS4 := Aside0.mk hS4
 have hfl := hft
 unfold firstT at hfl
 rw [if_pos hf0] at hfl
 simp only [List.length_append, List.length_cons, List.length_nil, crlf] at hfl
 rw [← sz, ← sz] at hfl
 have hs1 : h.f1.size + h.f2.size + S3.size + 11 ≤ 4294930000 := by omega
 clear hr hc hl hb hG hf0 hW2 hB2 hK1 hK4 hBl hGw hN i30 i31 i40 i41 hft hfl hS3 hS4 hz3 hz4
 go_enter Tryz.func4, Tryz.ntmps4
 go_wp2_with (first | (go_at_call 9; rw [← HW2.out]; refine (HIt3.out _ HGw.out).mono ?_; rintro e w3 ⟨rfl, hb3⟩; have HB3 := Aside0.mk hb3; have HBl3 := Aside0.mk (Bld.isb_below HBl.out hb3); have HK3 := Aside0.mk (blk_below HK1.out hb3); clear hb3; have z0 : w3.cell? ⟨w.heap.size, 0, none⟩ = some (.bool true) := (blk_cell HK3.out 0).trans rfl; have z1 : w3.cell? ⟨w.heap.size, 1, none⟩ = some (.string h.f1) := (blk_cell HK3.out 1).trans rfl; have z2 : w3.cell? ⟨w.heap.size, 2, none⟩ = some (.string h.f2) := (blk_cell HK3.out 2).trans rfl; have z3 : w3.cell? ⟨w.heap.size, 3, none⟩ = some (.int .i64 h.f3) := (blk_cell HK3.out 3).trans rfl; have z4 : w3.cell? ⟨w.heap.size, 4, none⟩ = some (.int .i64 h.f4) := (blk_cell HK3.out 4).trans rfl; have z5 : w3.cell? ⟨w.heap.size, 5, none⟩ = some (.string h.f5) := (blk_cell HK3.out 5).trans rfl; have z6 : w3.cell? ⟨w.heap.size, 6, none⟩ = some (.slice A N c) := (blk_cell HK3.out 6).trans rfl) | (go_at_call 10; refine (Bld.write_calls (w.heap.size + 1) (w.heap.size + 1) _ _ _ (HBl3.out) ?cl ?cb).mono ?_; (case cl => (have h5 := (show (firstT h).length ≤ 4294930000 by have h1 := HFT.out; have h2 := HBd.out; omega); rw [sz, first_true h S3 HS3.out Hf0.out]; have e9 : ∀ l : Bs, (Lib.byteCells l).length = l.length := (fun l => by simp [Lib.byteCells]); rw [e9]; (try simp only [List.length_nil]); omega)); (case cb => (have h5 := (below_weak (B' := w.heap.size + 1) HB3.out (by have := HS2.out; omega)).size; have h6 := HS2.out; omega)); rintro e w5 ⟨rfl, hbl_, hb_⟩; rw [strC _ _ _ (first_true h S3 HS3.out Hf0.out)] at hbl_; have HBl5 := Aside0.mk hbl_; have HB5 : Aside0 (Below (w.heap.size + 1) W2 w5) := ⟨Below.trans ((below_weak (B' := w.heap.size + 1) HB3.out (by have := HS2.out; omega))) hb_⟩; clear hbl_ hb_; have HK5 : Aside0 (w5.heap[w.heap.size]? = some (.cells #[.bool true, .string h.f1, .string h.f2, .int .i64 h.f3, .int .i64 h.f4, .string h.f5, .slice A N c] 24 (0, 0))) := ⟨(HB5.out.block _ (Nat.lt_succ_self _)).trans HK1.out⟩; have x6 : w5.cell? ⟨w.heap.size, 6, none⟩ = some (.slice A N c) := (blk_cell HK5.out 6).trans rfl))
 have HBl5' : Aside0 (Lib.IsBuilder 38 5 (w.heap.size + 1) (w.heap.size + 1) (Lib.byteCells (firstT h ++ (h.f6.take 0).flatMap fldT)) w5) := ⟨by simpa using HBl5.out⟩
 go_wp2
 go_loopw [47] (fun v47 wr => ∃ kk : Nat, kk ≤ N ∧ v47 = .int .i64 kk ∧ Aside0 (Lib.IsBuilder 38 5 (w.heap.size + 1) (w.heap.size + 1) (Lib.byteCells (firstT h ++ (h.f6.take kk).flatMap fldT)) wr) ∧ Aside0 (Below (w.heap.size + 1) W2 wr)) (fun v47 _ => N - (intOf v47).toNat)
 case atStart => exact ⟨0, Nat.zero_le _, rfl, HBl5', HB5⟩
 case round =>
  obtain ⟨kk, hkk, rfl, HBk, HBw⟩ := hrel
  have HBww : Aside0 (Below w.heap.size w wr) := ⟨HB2.out.trans (below_weak HBw.out (Nat.le_succ _))⟩
  clear x6
  by_cases hlt : kk < N
  ·have hltz : (kk : Int) < (N : Int) := by omega
   obtain ⟨ad, eA, hx0, hx1⟩ := P.at_T45 (Kd.C_below HR.out HBww.out) (kk : Int) (by omega) (by rw [← HN.out]; exact hltz)
   cases eA
   rw [Int.toNat_natCast] at hx0 hx1
   have hkl : kk < h.f6.length := by rw [← HN.out]; exact hlt
   have hdr := List.drop_eq_getElem_cons hkl
   rw [rd_fld hdr] at hx0 hx1
   have hta : h.f6.take (kk + 1) = h.f6.take kk ++ [h.f6[kk]] := by rw [List.take_succ_eq_append_getElem hkl]
   generalize h.f6[kk] = f at hx0 hx1 hta hdr
   have HTA := Aside0.mk hta
   have hnx := take_next h kk f hta
   have hfs : f.f0.size + f.f1.size + 4 ≤ (fldT f).length := by unfold fldT; simp only [List.length_append, List.length_cons, List.length_nil, crlf]; rw [← sz, ← sz]; omega
   have hf12 : f.f0.size + f.f1.size + 4 ≤ 4294930000 := by have := HBd.out; omega
   have HNx := Aside0.mk hnx
   have HBa : Aside0 (Below (w.heap.size + 1) W2 (wr.alloc (.cells #[.string f.f0, .string f.f1] 45))) := ⟨HBw.out.alloc (by have h5 := HBw.out.size; have h6 := HS2.out; omega) _⟩
   have HBka := Aside0.mk (Bld.isb_below HBk.out (below_alloc (Below.refl _ _) (.cells #[.string f.f0, .string f.f1] 45)))
   clear hdr hta hnx hfs
   go_wp2_with (go_at_call 10; refine (Bld.write_calls (w.heap.size + 1) (w.heap.size + 1) _ _ _ (HBka.out) ?cl ?cb).mono ?_; (case cl => (have h5 := HNx.out; have h7 := HBd.out; rw [sz, fld_data f]; have e9 : ∀ l : Bs, (Lib.byteCells l).length = l.length := (fun l => by simp [Lib.byteCells]); rw [e9]; (try simp only [List.length_nil]); omega)); (case cb => (have h5 := HBa.out.size; have h6 := HS2.out; omega)); rintro e w7 ⟨rfl, hbl_, hb_⟩; rw [strC _ _ _ (fld_data f)] at hbl_; have HBl7 := Aside0.mk hbl_; have HB7 : Aside0 (Below (w.heap.size + 1) W2 w7) := ⟨Below.trans (HBa.out) hb_⟩; clear hbl_ hb_)
   go_roundw
   case rel =>
    refine ⟨kk + 1, by omega, by go_num, ⟨?_⟩, HB7⟩
    rw [HTA.out, List.flatMap_append, List.flatMap_cons, List.flatMap_nil, List.append_nil, ← List.append_assoc]
    exact HBl7.out
   case measure => simp [intOf]; omega
  ·obtain rfl : kk = N := by omega
   have hall : firstT h ++ (h.f6.take kk).flatMap fldT ++ crlf = textS h := by unfold textS; rw [List.take_of_length_le (by rw [← HN.out]; exact Nat.le_refl _)]
   have HAll := Aside0.mk hall
   clear hall
   go_wp2_with (go_at_call 10; refine (Bld.write_calls (w.heap.size + 1) (w.heap.size + 1) _ _ _ (HBk.out) ?cl ?cb).mono ?_; (case cl => (have h5 := (show (firstT h ++ (h.f6.take kk).flatMap fldT).length + crlf.length ≤ 4294930000 by have h1 := HAll.out; have h2 := HBd.out; rw [← List.length_append, h1]; exact h2); rw [sz, crlf_data]; have e9 : ∀ l : Bs, (Lib.byteCells l).length = l.length := (fun l => by simp [Lib.byteCells]); rw [e9]; (try simp only [List.length_nil]); omega)); (case cb => (have h5 := HBw.out.size; have h6 := HS2.out; omega)); rintro e w6 ⟨rfl, hbl_, hb_⟩; rw [strC _ _ _ (crlf_data)] at hbl_; have HBl6 := Aside0.mk hbl_; have HB6 : Aside0 (Below (w.heap.size + 1) W2 w6) := ⟨Below.trans (HBw.out) hb_⟩; clear hbl_ hb_)
   rw [HAll.out] at HBl6
   obtain ⟨TS, hTS⟩ : ∃ s, s = mkB (textS h) := ⟨_, rfl⟩
   have hTd : TS.data.toList = textS h := by rw [hTS, mkB_data]
   obtain ⟨M, hM⟩ : ∃ M, M = (nOf (textS h)).length := ⟨_, rfl⟩
   have hMs : TS.size = M := by rw [hM, nOf_length, sz, hTd]
   have hMt : M = (textS h).length := by rw [hM, nOf_length]
   have hMle : M ≤ 4294930000 := by rw [hMt]; exact HBd.out
   have HBF6 := Aside0.mk (Lib.IsBuilderF.of HBl6.out)
   have HK6 : Aside0 (w6.heap[w.heap.size]? = some (.cells #[.bool true, .string h.f1, .string h.f2, .int .i64 h.f3, .int .i64 h.f4, .string h.f5, .slice A kk c] 24 (0, 0))) := ⟨(HB6.out.block _ (Nat.lt_succ_self _)).trans HK1.out⟩
   have HStr : Aside0 (∀ W, Lib.IsBuilderF 38 5 (w.heap.size + 1) (w.heap.size + 1) (Lib.byteCells (textS h)) W → w.heap.size + 1 ≤ W.heap.size → Calls Tryz.prog 11 #[.pointer (some ⟨w.heap.size + 1, 0, none⟩)] W fun e w' => e = .returned (.string TS) ∧ Below (w.heap.size + 1) W w' ∧ Lib.IsBuilderF 38 5 (w.heap.size + 1) (w.heap.size + 1) (Lib.byteCells (textS h)) w' ∧ Lib.OthersKept 5 (some (w.heap.size + 1)) W w') := ⟨fun W hf hb => by rw [hTS]; exact Bld.string_k _ _ (textS h) W hf hb⟩
   have HLe : Aside0 (∀ W, Lib.IsBuilderF 38 5 (w.heap.size + 1) (w.heap.size + 1) (Lib.byteCells (textS h)) W → Calls Tryz.prog 12 #[.pointer (some ⟨w.heap.size + 1, 0, none⟩)] W fun e w' => e = .returned (.int .i64 (M : Int)) ∧ w' = W) := ⟨fun W hf => by rw [hMt, show (textS h).length = (Lib.byteCells (textS h)).length by simp [Lib.byteCells]]; exact Bld.len_f _ _ _ W hf⟩
   have hcv : ∀ W : World, (convert 9 33 (.string TS)).run Tryz.prog W = .ok (.slice (some ⟨W.heap.size, 0, none⟩) M (grownCap W TS.size 0 5)) (W.drew.alloc (.cells (bytesRow TS (grownCap W TS.size 0 5)) 5 ((bytesRow TS (grownCap W TS.size 0 5)).size, (bytesRow TS (grownCap W TS.size 0 5)).size + 1))) := fun W => by rw [← hMs]; exact run_bytes_of_string (P := Tryz.prog) W 9 33 5 TS Tryz.underlying9 Tryz.underlying33 Tryz.underlying5
   obtain ⟨⟨x, pn, pe⟩, hpr⟩ : ∃ r, r = parseS h.f0 (nOf (textS h)) := ⟨_, rfl⟩
   have HPr := Aside0.mk hpr
   have HXl : Aside0 (x.f6.length ≤ 4294950000) := ⟨by have h5 := parseS_fields h.f0 (nOf (textS h)) (by rw [← hM]; omega); rw [← hpr] at h5; exact h5⟩
   have hS2 := HS2.out
   have HPa : Aside0 (∀ (W : World) (A7 : Option Addr) (cap : Nat), (Kd.int .u8).C W A7 M (nOf (textS h)) → Below (w.heap.size + 1) W2 W → Calls Tryz.prog 7 #[.bool true, .slice A7 M cap] W fun e w8 => ∃ A8 c8, e = .returned (.tuple #[.agg #[.bool x.f0, .string x.f1, .string x.f2, .int .i64 x.f3, .int .i64 x.f4, .string x.f5, .slice A8 x.f6.length c8], .int .i64 pn, .int .i64 pe]) ∧ Below W.heap.size W w8 ∧ x.f6.length ≤ c8 ∧ fldK.R 45 w8 0 (fun _ => True) (.slice A8 x.f6.length c8) x.f6) := ⟨fun W A7 cap hC hW => by
    have hGW := HG0.out.below (HB2.out.trans (below_weak hW (Nat.le_succ _)))
    have h5 := parse_calls true (nOf (textS h)) A7 cap W (by rw [← hM]; exact hC) (by rw [← hM]; omega) hGW
    rw [← hM, show parseS true (nOf (textS h)) = (x, pn, pe) by rw [hpr, Hf0.out]] at h5
    refine h5.mono ?_
    rintro e w8 ⟨v8, rfl, hR8, hb8⟩
    obtain ⟨A8, c8, e8, hc8, hC8⟩ := Kd.R_reads hR8
    subst e8
    exact ⟨A8, c8, rfl, hb8, hc8, Kd.R_lower (Kd.R_mono hR8 (fun _ _ => trivial)) (Nat.zero_le _)⟩⟩
   clear hS2
   have HTd := Aside0.mk hTd
   have HMs := Aside0.mk hMs
   have HM := Aside0.mk hM
   have HMt := Aside0.mk hMt
   have HTS := Aside0.mk hTS
   have HNl : Aside0 ((nOf (textS h)).length ≤ 9223372036854775807) := ⟨by rw [← hM]; omega⟩
   have hMz : (M : Int) ≤ 4294930000 := by omega
   clear hTS hTd hM hMs hMt hpr
   have FB := HB6
   have FF := HBF6
   refine start_ (n := 13) (S := fun w' => w'.cell? ⟨w.heap.size, 0, none⟩ = some (.bool true)) (ds := []) (lb 13 0) (by kernel_rfl) rfl rfl ((blk_cell (blk_drew HK6.out) 0).trans rfl) (fun hHeld => ?_)
   have n0 := Aside0.mk (below_drew1 FB.out)
   have n1 := Aside0.mk (Bld.isbF_below FF.out (below_drew1 (Below.refl _ _)))
   clear FB FF
   have FB := n0
   have FF := n1
   clear n0 n1
   generalize w6.drew = wa at FB FF hHeld ⊢
   refine pv 0 62 (lb 13 1) ?_
   refine tv hHeld 1 63 (lb 13 3) ?_
   refine join_ (σ := Nat × (Option Addr × Nat) × (Option Addr × Nat)) 3 (lb 13 1023) (fun s_ => [(64, .string TS), (65, .slice s_.2.1.1 M s_.2.1.2), (66, .tuple #[.agg #[.bool x.f0, .string x.f1, .string x.f2, .int .i64 x.f3, .int .i64 x.f4, .string x.f5, .slice s_.2.2.1 x.f6.length s_.2.2.2], .int .i64 pn, .int .i64 pe]), (61, .tuple #[.agg #[.bool x.f0, .string x.f1, .string x.f2, .int .i64 x.f3, .int .i64 x.f4, .string x.f5, .slice s_.2.2.1 x.f6.length s_.2.2.2], .int .i64 pn, .int .i64 pe]), (67, .agg #[.bool x.f0, .string x.f1, .string x.f2, .int .i64 x.f3, .int .i64 x.f4, .string x.f5, .slice s_.2.2.1 x.f6.length s_.2.2.2]), (68, .int .i64 pn), (69, .int .i64 pe), (8, .pointer (some ⟨s_.1, 0, none⟩))]) (fun s_ w' => w'.heap[s_.1]? = some (.cells #[.bool false, .string ⟨#[]⟩, .string ⟨#[]⟩, .int .i64 0, .int .i64 0, .string ⟨#[]⟩, .slice none 0 0] 24 (0, 0)) ∧ w.heap.size + 2 ≤ s_.1 ∧ Below (w.heap.size + 1) W2 w' ∧ Lib.IsBuilderF 38 5 (w.heap.size + 1) (w.heap.size + 1) (Lib.byteCells (textS h)) w' ∧ x.f6.length ≤ s_.2.2.2 ∧ fldK.R 45 w' 0 (fun _ => True) (.slice s_.2.2.1 x.f6.length s_.2.2.2) x.f6) ?_ ?_
   rotate_left
   ·intro hCont
    refine two_ (i := 2) (j := 9) (Ni := some 64) (Nj := some 8) (lb 13 7) (lb 13 515) rfl rfl rfl rfl (by kernel_rfl) (by decide) (by decide) (fun K hK => ?_) (fun K hK => ?_)
    ·skip
     refine goes_ Tryz.func11 (by kernel_rfl) rfl #[.pointer (some ⟨w.heap.size + 1, 0, none⟩)] (by rfl) rfl rfl (by (try simp only [List.map_toArray, List.map_cons, List.map_nil]); first | done | rfl) ?_
     with_reducible refine (HStr.out _ FF.out (by have := FB.out.size; have := HS2.out; omega)).mono ?_
     rintro e wb ⟨rfl, hb, hf, ho⟩
     refine ⟨_, rfl, ?_⟩
     have m0 := Below.trans FB.out hb
     have m1 := hf
     have n0 := Aside0.mk m0
     have n1 := Aside0.mk m1
     clear FB FF
     have FB := n0
     have FF := n1
     clear n0 n1
     clear hb hf ho m0 m1
     refine hK.out _ _ ((blk_cell (FB.out.block w.heap.size (Nat.lt_succ_self _) |>.trans HK1.out) 0).trans rfl) (fun hHeld => ?_)
     clear hK K
     refine norm_ (a' := ?_) ?_ ?_
     rotate_left
     ·show Act.put _ (some 64) _ = _
      simp only [Act.put, List.setIfInBounds_toArray, List.set_cons_zero, List.set_cons_succ, i64_w, i32_w]
      rfl
     refine two_ (i := 3) (j := 9) (Ni := some 65) (Nj := some 8) (lb 13 15) (lb 13 519) rfl rfl rfl rfl (by kernel_rfl) (by decide) (by decide) (fun K hK => ?_) (fun K hK => ?_)
     ·skip
      refine conv_step (by rfl) (N := 65) rfl 9 33 5 _ rfl TS rfl (by have := HMs.out; omega) Tryz.underlying9 Tryz.underlying33 Tryz.underlying5 ?_
      intro A75 c75 wc hC hcc hb
      rw [HMs.out, HTd.out] at hC
      rw [HMs.out]
      have n0 : Aside0 (Below (w.heap.size + 1) W2 wc) := ⟨Below.trans FB.out (below_weak (B' := w.heap.size + 1) hb (by have := FB.out.size; have := HS2.out; omega))⟩
      have n1 := Aside0.mk (Bld.isbF_below FF.out hb)
      clear FB FF
      have FB := n0
      have FF := n1
      clear n0 n1
      have FC := Aside0.mk hC
      clear hC hb hcc
      refine hK.out _ _ ((blk_cell (FB.out.block w.heap.size (Nat.lt_succ_self _) |>.trans HK1.out) 0).trans rfl) (fun hHeld => ?_)
      clear hK K
      refine norm_ (a' := ?_) ?_ ?_
      rotate_left
      ·show Act.put _ (some 65) _ = _
       simp only [Act.put, List.setIfInBounds_toArray, List.set_cons_zero, List.set_cons_succ, i64_w, i32_w]
       rfl
      refine two_ (i := 4) (j := 9) (Ni := some 66) (Nj := some 8) (lb 13 31) (lb 13 527) rfl rfl rfl rfl (by kernel_rfl) (by decide) (by decide) (fun K hK => ?_) (fun K hK => ?_)
      ·skip
       refine goes_ Tryz.func7 (by kernel_rfl) rfl #[.bool true, .slice A75 M c75] (by rfl) rfl rfl (by (try simp only [List.map_toArray, List.map_cons, List.map_nil]); first | done | rfl) ?_
       with_reducible refine (HPa.out _ _ _ FC.out FB.out).mono ?_
       rintro e wd ⟨A8, c8, rfl, hb, hc8, hP⟩
       refine ⟨_, rfl, ?_⟩
       have n0 : Aside0 (Below (w.heap.size + 1) W2 wd) := ⟨Below.trans FB.out (below_weak (B' := w.heap.size + 1) hb (by have := FB.out.size; have := HS2.out; omega))⟩
       have n1 := Aside0.mk (Bld.isbF_below FF.out hb)
       clear FB FF
       have FB := n0
       have FF := n1
       clear n0 n1
       have FP := Aside0.mk hP
       have FN := Aside0.mk hc8
       clear FC hP hb hc8
       refine hK.out _ _ ((blk_cell (FB.out.block w.heap.size (Nat.lt_succ_self _) |>.trans HK1.out) 0).trans rfl) (fun hHeld => ?_)
       clear hK K
       refine norm_ (a' := ?_) ?_ ?_
       rotate_left
       ·show Act.put _ (some 66) _ = _
        simp only [Act.put, List.setIfInBounds_toArray, List.set_cons_zero, List.set_cons_succ, i64_w, i32_w]
        rfl
       refine pv 5 61 (lb 13 63) ?_
       refine pv 6 67 (lb 13 127) ?_
       refine pv 7 68 (lb 13 255) ?_
       refine pv 8 69 (lb 13 511) ?_
       refine one_ (i := 9) (N := some 8) (lb 13 1023) rfl rfl (by kernel_rfl) (by decide) (fun K hK => ?_)
       refine box_step ?hg (N := 8) ?hd (cs := #[.bool false, .string ⟨#[]⟩, .string ⟨#[]⟩, .int .i64 0, .int .i64 0, .string ⟨#[]⟩, .slice none 0 0]) (t := 24) ?hr ?_; (case hd => rfl); (case hg => rfl); (case hr => first | (go_simp; done) | (go_simp; rfl))
       intro g hg we hbox hb
       have FG : Aside0 (w.heap.size + 2 ≤ g) := ⟨by have h5 := FB.out.size; have h6 := HS2.out; omega⟩
       have n0 : Aside0 (Below (w.heap.size + 1) W2 we) := ⟨Below.trans FB.out (below_weak (B' := w.heap.size + 1) hb (by have := FB.out.size; have := HS2.out; omega))⟩
       have n1 := Aside0.mk (Bld.isbF_below FF.out hb)
       have n4 := Aside0.mk (Kd.R_below FP.out hb)
       clear FB FF FP
       have FB := n0
       have FF := n1
       have FP := n4
       clear n0 n1 n4
       have FZ := Aside0.mk hbox
       clear hg hbox hb
       refine hK.out _ _ ((blk_cell (FB.out.block w.heap.size (Nat.lt_succ_self _) |>.trans HK1.out) 0).trans rfl) (fun hHeld => ?_)
       clear hK K
       refine norm_ (a' := ?_) ?_ ?_
       rotate_left
       ·show Act.put _ (some 8) _ = _
        simp only [Act.put, List.setIfInBounds_toArray, List.set_cons_zero, List.set_cons_succ, i64_w, i32_w]
        rfl
       exact norm_ (by simp only [putAll, Act.put, List.setIfInBounds_toArray, List.set_cons_zero, List.set_cons_succ]) (hCont (g, (A75, c75), (A8, c8)) _ ⟨FZ.out, FG.out, FB.out, FF.out, FN.out, FP.out⟩)
      ·skip
       refine box_step ?hg (N := 8) ?hd (cs := #[.bool false, .string ⟨#[]⟩, .string ⟨#[]⟩, .int .i64 0, .int .i64 0, .string ⟨#[]⟩, .slice none 0 0]) (t := 24) ?hr ?_; (case hd => rfl); (case hg => rfl); (case hr => first | (go_simp; done) | (go_simp; rfl))
       intro g hg we hbox hb
       have FG : Aside0 (w.heap.size + 2 ≤ g) := ⟨by have h5 := FB.out.size; have h6 := HS2.out; omega⟩
       have n0 : Aside0 (Below (w.heap.size + 1) W2 we) := ⟨Below.trans FB.out (below_weak (B' := w.heap.size + 1) hb (by have := FB.out.size; have := HS2.out; omega))⟩
       have n1 := Aside0.mk (Bld.isbF_below FF.out hb)
       have n3 := Aside0.mk (Kd.C_below FC.out hb)
       clear FB FF FC
       have FB := n0
       have FF := n1
       have FC := n3
       clear n0 n1 n3
       have FZ := Aside0.mk hbox
       clear hg hbox hb
       refine hK.out _ _ ((blk_cell (FB.out.block w.heap.size (Nat.lt_succ_self _) |>.trans HK1.out) 0).trans rfl) (fun hHeld => ?_)
       clear hK K
       refine norm_ (a' := ?_) ?_ ?_
       rotate_left
       ·show Act.put _ (some 8) _ = _
        simp only [Act.put, List.setIfInBounds_toArray, List.set_cons_zero, List.set_cons_succ, i64_w, i32_w]
        rfl
       refine one_ (i := 4) (N := some 66) (lb 13 543) rfl rfl (by kernel_rfl) (by decide) (fun K hK => ?_)
       refine goes_ Tryz.func7 (by kernel_rfl) rfl #[.bool true, .slice A75 M c75] (by rfl) rfl rfl (by (try simp only [List.map_toArray, List.map_cons, List.map_nil]); first | done | rfl) ?_
       with_reducible refine (HPa.out _ _ _ FC.out FB.out).mono ?_
       rintro e wd ⟨A8, c8, rfl, hb, hc8, hP⟩
       refine ⟨_, rfl, ?_⟩
       have n0 : Aside0 (Below (w.heap.size + 1) W2 wd) := ⟨Below.trans FB.out (below_weak (B' := w.heap.size + 1) hb (by have := FB.out.size; have := HS2.out; omega))⟩
       have n1 := Aside0.mk (Bld.isbF_below FF.out hb)
       have n2 := Aside0.mk (blk_below FZ.out hb)
       clear FB FF FZ
       have FB := n0
       have FF := n1
       have FZ := n2
       clear n0 n1 n2
       have FP := Aside0.mk hP
       have FN := Aside0.mk hc8
       clear FC hP hb hc8
       refine hK.out _ _ ((blk_cell (FB.out.block w.heap.size (Nat.lt_succ_self _) |>.trans HK1.out) 0).trans rfl) (fun hHeld => ?_)
       clear hK K
       refine norm_ (a' := ?_) ?_ ?_
       rotate_left
       ·show Act.put _ (some 66) _ = _
        simp only [Act.put, List.setIfInBounds_toArray, List.set_cons_zero, List.set_cons_succ, i64_w, i32_w]
        rfl
       refine pv 5 61 (lb 13 575) ?_
       refine pv 6 67 (lb 13 639) ?_
       refine pv 7 68 (lb 13 767) ?_
       refine pv 8 69 (lb 13 1023) ?_
       exact norm_ (by simp only [putAll, Act.put, List.setIfInBounds_toArray, List.set_cons_zero, List.set_cons_succ]) (hCont (g, (A75, c75), (A8, c8)) _ ⟨FZ.out, FG.out, FB.out, FF.out, FN.out, FP.out⟩)
     ·skip
      refine box_step ?hg (N := 8) ?hd (cs := #[.bool false, .string ⟨#[]⟩, .string ⟨#[]⟩, .int .i64 0, .int .i64 0, .string ⟨#[]⟩, .slice none 0 0]) (t := 24) ?hr ?_; (case hd => rfl); (case hg => rfl); (case hr => first | (go_simp; done) | (go_simp; rfl))
      intro g hg we hbox hb
      have FG : Aside0 (w.heap.size + 2 ≤ g) := ⟨by have h5 := FB.out.size; have h6 := HS2.out; omega⟩
      have n0 : Aside0 (Below (w.heap.size + 1) W2 we) := ⟨Below.trans FB.out (below_weak (B' := w.heap.size + 1) hb (by have := FB.out.size; have := HS2.out; omega))⟩
      have n1 := Aside0.mk (Bld.isbF_below FF.out hb)
      clear FB FF
      have FB := n0
      have FF := n1
      clear n0 n1
      have FZ := Aside0.mk hbox
      clear hg hbox hb
      refine hK.out _ _ ((blk_cell (FB.out.block w.heap.size (Nat.lt_succ_self _) |>.trans HK1.out) 0).trans rfl) (fun hHeld => ?_)
      clear hK K
      refine norm_ (a' := ?_) ?_ ?_
      rotate_left
      ·show Act.put _ (some 8) _ = _
       simp only [Act.put, List.setIfInBounds_toArray, List.set_cons_zero, List.set_cons_succ, i64_w, i32_w]
       rfl
      refine one_ (i := 3) (N := some 65) (lb 13 527) rfl rfl (by kernel_rfl) (by decide) (fun K hK => ?_)
      refine conv_step (by rfl) (N := 65) rfl 9 33 5 _ rfl TS rfl (by have := HMs.out; omega) Tryz.underlying9 Tryz.underlying33 Tryz.underlying5 ?_
      intro A75 c75 wc hC hcc hb
      rw [HMs.out, HTd.out] at hC
      rw [HMs.out]
      have n0 : Aside0 (Below (w.heap.size + 1) W2 wc) := ⟨Below.trans FB.out (below_weak (B' := w.heap.size + 1) hb (by have := FB.out.size; have := HS2.out; omega))⟩
      have n1 := Aside0.mk (Bld.isbF_below FF.out hb)
      have n2 := Aside0.mk (blk_below FZ.out hb)
      clear FB FF FZ
      have FB := n0
      have FF := n1
      have FZ := n2
      clear n0 n1 n2
      have FC := Aside0.mk hC
      clear hC hb hcc
      refine hK.out _ _ ((blk_cell (FB.out.block w.heap.size (Nat.lt_succ_self _) |>.trans HK1.out) 0).trans rfl) (fun hHeld => ?_)
      clear hK K
      refine norm_ (a' := ?_) ?_ ?_
      rotate_left
      ·show Act.put _ (some 65) _ = _
       simp only [Act.put, List.setIfInBounds_toArray, List.set_cons_zero, List.set_cons_succ, i64_w, i32_w]
       rfl
      refine one_ (i := 4) (N := some 66) (lb 13 543) rfl rfl (by kernel_rfl) (by decide) (fun K hK => ?_)
      refine goes_ Tryz.func7 (by kernel_rfl) rfl #[.bool true, .slice A75 M c75] (by rfl) rfl rfl (by (try simp only [List.map_toArray, List.map_cons, List.map_nil]); first | done | rfl) ?_
      with_reducible refine (HPa.out _ _ _ FC.out FB.out).mono ?_
      rintro e wd ⟨A8, c8, rfl, hb, hc8, hP⟩
      refine ⟨_, rfl, ?_⟩
      have n0 : Aside0 (Below (w.heap.size + 1) W2 wd) := ⟨Below.trans FB.out (below_weak (B' := w.heap.size + 1) hb (by have := FB.out.size; have := HS2.out; omega))⟩
      have n1 := Aside0.mk (Bld.isbF_below FF.out hb)
      have n2 := Aside0.mk (blk_below FZ.out hb)
      clear FB FF FZ
      have FB := n0
      have FF := n1
      have FZ := n2
      clear n0 n1 n2
      have FP := Aside0.mk hP
      have FN := Aside0.mk hc8
      clear FC hP hb hc8
      refine hK.out _ _ ((blk_cell (FB.out.block w.heap.size (Nat.lt_succ_self _) |>.trans HK1.out) 0).trans rfl) (fun hHeld => ?_)
      clear hK K
      refine norm_ (a' := ?_) ?_ ?_
      rotate_left
      ·show Act.put _ (some 66) _ = _
       simp only [Act.put, List.setIfInBounds_toArray, List.set_cons_zero, List.set_cons_succ, i64_w, i32_w]
       rfl
      refine pv 5 61 (lb 13 575) ?_
      refine pv 6 67 (lb 13 639) ?_
      refine pv 7 68 (lb 13 767) ?_
      refine pv 8 69 (lb 13 1023) ?_
      exact norm_ (by simp only [putAll, Act.put, List.setIfInBounds_toArray, List.set_cons_zero, List.set_cons_succ]) (hCont (g, (A75, c75), (A8, c8)) _ ⟨FZ.out, FG.out, FB.out, FF.out, FN.out, FP.out⟩)
    ·skip
     refine box_step ?hg (N := 8) ?hd (cs := #[.bool false, .string ⟨#[]⟩, .string ⟨#[]⟩, .int .i64 0, .int .i64 0, .string ⟨#[]⟩, .slice none 0 0]) (t := 24) ?hr ?_; (case hd => rfl); (case hg => rfl); (case hr => first | (go_simp; done) | (go_simp; rfl))
     intro g hg we hbox hb
     have FG : Aside0 (w.heap.size + 2 ≤ g) := ⟨by have h5 := FB.out.size; have h6 := HS2.out; omega⟩
     have n0 : Aside0 (Below (w.heap.size + 1) W2 we) := ⟨Below.trans FB.out (below_weak (B' := w.heap.size + 1) hb (by have := FB.out.size; have := HS2.out; omega))⟩
     have n1 := Aside0.mk (Bld.isbF_below FF.out hb)
     clear FB FF
     have FB := n0
     have FF := n1
     clear n0 n1
     have FZ := Aside0.mk hbox
     clear hg hbox hb
     refine hK.out _ _ ((blk_cell (FB.out.block w.heap.size (Nat.lt_succ_self _) |>.trans HK1.out) 0).trans rfl) (fun hHeld => ?_)
     clear hK K
     refine norm_ (a' := ?_) ?_ ?_
     rotate_left
     ·show Act.put _ (some 8) _ = _
      simp only [Act.put, List.setIfInBounds_toArray, List.set_cons_zero, List.set_cons_succ, i64_w, i32_w]
      rfl
     refine one_ (i := 2) (N := some 64) (lb 13 519) rfl rfl (by kernel_rfl) (by decide) (fun K hK => ?_)
     refine goes_ Tryz.func11 (by kernel_rfl) rfl #[.pointer (some ⟨w.heap.size + 1, 0, none⟩)] (by rfl) rfl rfl (by (try simp only [List.map_toArray, List.map_cons, List.map_nil]); first | done | rfl) ?_
     with_reducible refine (HStr.out _ FF.out (by have := FB.out.size; have := HS2.out; omega)).mono ?_
     rintro e wb ⟨rfl, hb, hf, ho⟩
     refine ⟨_, rfl, ?_⟩
     have m0 := Below.trans FB.out hb
     have m1 := hf
     have m2 := ho _ _ FZ.out (by have := FG.out; intro h5; injection h5 with h5; omega) (fun c fz h5 => by injection h5 with h6 h7 h8; exact absurd h7 (by decide))
     have n0 := Aside0.mk m0
     have n1 := Aside0.mk m1
     have n2 := Aside0.mk m2
     clear FB FF FZ
     have FB := n0
     have FF := n1
     have FZ := n2
     clear n0 n1 n2
     clear hb hf ho m0 m1 m2
     refine hK.out _ _ ((blk_cell (FB.out.block w.heap.size (Nat.lt_succ_self _) |>.trans HK1.out) 0).trans rfl) (fun hHeld => ?_)
     clear hK K
     refine norm_ (a' := ?_) ?_ ?_
     rotate_left
     ·show Act.put _ (some 64) _ = _
      simp only [Act.put, List.setIfInBounds_toArray, List.set_cons_zero, List.set_cons_succ, i64_w, i32_w]
      rfl
     refine one_ (i := 3) (N := some 65) (lb 13 527) rfl rfl (by kernel_rfl) (by decide) (fun K hK => ?_)
     refine conv_step (by rfl) (N := 65) rfl 9 33 5 _ rfl TS rfl (by have := HMs.out; omega) Tryz.underlying9 Tryz.underlying33 Tryz.underlying5 ?_
     intro A75 c75 wc hC hcc hb
     rw [HMs.out, HTd.out] at hC
     rw [HMs.out]
     have n0 : Aside0 (Below (w.heap.size + 1) W2 wc) := ⟨Below.trans FB.out (below_weak (B' := w.heap.size + 1) hb (by have := FB.out.size; have := HS2.out; omega))⟩
     have n1 := Aside0.mk (Bld.isbF_below FF.out hb)
     have n2 := Aside0.mk (blk_below FZ.out hb)
     clear FB FF FZ
     have FB := n0
     have FF := n1
     have FZ := n2
     clear n0 n1 n2
     have FC := Aside0.mk hC
     clear hC hb hcc
     refine hK.out _ _ ((blk_cell (FB.out.block w.heap.size (Nat.lt_succ_self _) |>.trans HK1.out) 0).trans rfl) (fun hHeld => ?_)
     clear hK K
     refine norm_ (a' := ?_) ?_ ?_
     rotate_left
     ·show Act.put _ (some 65) _ = _
      simp only [Act.put, List.setIfInBounds_toArray, List.set_cons_zero, List.set_cons_succ, i64_w, i32_w]
      rfl
     refine one_ (i := 4) (N := some 66) (lb 13 543) rfl rfl (by kernel_rfl) (by decide) (fun K hK => ?_)
     refine goes_ Tryz.func7 (by kernel_rfl) rfl #[.bool true, .slice A75 M c75] (by rfl) rfl rfl (by (try simp only [List.map_toArray, List.map_cons, List.map_nil]); first | done | rfl) ?_
     with_reducible refine (HPa.out _ _ _ FC.out FB.out).mono ?_
     rintro e wd ⟨A8, c8, rfl, hb, hc8, hP⟩
     refine ⟨_, rfl, ?_⟩
     have n0 : Aside0 (Below (w.heap.size + 1) W2 wd) := ⟨Below.trans FB.out (below_weak (B' := w.heap.size + 1) hb (by have := FB.out.size; have := HS2.out; omega))⟩
     have n1 := Aside0.mk (Bld.isbF_below FF.out hb)
     have n2 := Aside0.mk (blk_below FZ.out hb)
     clear FB FF FZ
     have FB := n0
     have FF := n1
     have FZ := n2
     clear n0 n1 n2
     have FP := Aside0.mk hP
     have FN := Aside0.mk hc8
     clear FC hP hb hc8
     refine hK.out _ _ ((blk_cell (FB.out.block w.heap.size (Nat.lt_succ_self _) |>.trans HK1.out) 0).trans rfl) (fun hHeld => ?_)
     clear hK K
     refine norm_ (a' := ?_) ?_ ?_
     rotate_left
     ·show Act.put _ (some 66) _ = _
      simp only [Act.put, List.setIfInBounds_toArray, List.set_cons_zero, List.set_cons_succ, i64_w, i32_w]
      rfl
     refine pv 5 61 (lb 13 575) ?_
     refine pv 6 67 (lb 13 639) ?_
     refine pv 7 68 (lb 13 767) ?_
     refine pv 8 69 (lb 13 1023) ?_
     exact norm_ (by simp only [putAll, Act.put, List.setIfInBounds_toArray, List.set_cons_zero, List.set_cons_succ]) (hCont (g, (A75, c75), (A8, c8)) _ ⟨FZ.out, FG.out, FB.out, FF.out, FN.out, FP.out⟩)
   rintro ⟨g, ⟨A75, c75⟩, ⟨A8, c8⟩⟩ wf ⟨hz, hg2, hb, hf, hc8, hP⟩
   clear FB FF
   have FB := Aside0.mk hb
   have FF := Aside0.mk hf
   have FG := Aside0.mk hg2
   have FN := Aside0.mk hc8
   have FP := Aside0.mk hP
   have hHeld : wf.cell? ⟨w.heap.size, 0, none⟩ = some (.bool true) := (blk_cell (FB.out.block w.heap.size (Nat.lt_succ_self _) |>.trans HK1.out) 0).trans rfl
   have zz10 := cz7 hz
   have FZ := Aside0.mk hz
   clear hz hg2 hb hf hc8 hP
   dsimp only
   refine norm_ (a' := ?_) ?_ ?_
   rotate_left
   ·simp only [putAll, Act.put, List.setIfInBounds_toArray, List.set_cons_zero, List.set_cons_succ]
    rfl
   refine one_ (i := 10) (N := none) (lb 13 2047) rfl rfl (by kernel_rfl) (by decide) (fun K hK => ?_)
   refine skip_ (w1 := ?_) (by rfl) rfl ?_ ?_
   rotate_left
   ·go_simp
    rfl
   obtain ⟨w9, hw9, hz, hb, hf, hP⟩ := head_put x A8 c8 FZ.out FB.out (by have := FG.out; omega) FF.out (by have := FG.out; omega) FP.out
   rw [← hw9]
   clear hw9 FB FF FP FZ hHeld zz10
   have FB := Aside0.mk hb
   have FF := Aside0.mk hf
   have FP := Aside0.mk hP
   have FZ := Aside0.mk hz
   clear hz hb hf hP
   refine hK.out _ _ ((blk_cell (FB.out.block w.heap.size (Nat.lt_succ_self _) |>.trans HK1.out) 0).trans rfl) (fun hHeld => ?_)
   clear hK K
   refine pv 11 9 (lb 13 4095) ?_
   refine pv 12 10 (lb 13 8191) ?_
   refine done_ (by kernel_rfl) ?_
   obtain ⟨A9, c9, e9, hc9, hC9⟩ := Kd.R_reads FP.out
   injection e9 with e91 e92 e93
   subst e91
   subst e93
   have FS : Aside0 (∀ W, Below w9.heap.size w9 W → Calls Tryz.prog 13 #[.agg #[.bool x.f0, .string x.f1, .string x.f2, .int .i64 x.f3, .int .i64 x.f4, .string x.f5, .slice A8 x.f6.length c8], .agg #[.bool true, .string h.f1, .string h.f2, .int .i64 h.f3, .int .i64 h.f4, .string h.f5, .slice A kk c]] W fun e w' => e = .returned (.bool (sameB x h)) ∧ Below W.heap.size W w') := ⟨fun W hW => by
    have h5 := same_calls x h A8 A c8 c W (by have := HXl.out; omega) (Kd.C_below hC9 hW) FN.out (Kd.C_below HR.out (HB2.out.trans (below_weak (B := w.heap.size + 1) (FB.out.trans (below_weak (B' := w.heap.size + 1) hW (by have := FB.out.size; have := HS2.out; omega))) (Nat.le_succ _)))) (by rw [← HN.out]; exact Hc.out)
    unfold hdV at h5
    rw [Hf0.out, ← HN.out] at h5
    exact h5⟩
   have y0 : w9.cell? ⟨g, 0, none⟩ = some (.bool x.f0) := (blk_cell FZ.out 0).trans rfl
   have y1 : w9.cell? ⟨g, 1, none⟩ = some (.string x.f1) := (blk_cell FZ.out 1).trans rfl
   have y2 : w9.cell? ⟨g, 2, none⟩ = some (.string x.f2) := (blk_cell FZ.out 2).trans rfl
   have y3 : w9.cell? ⟨g, 3, none⟩ = some (.int .i64 x.f3) := (blk_cell FZ.out 3).trans rfl
   have y4 : w9.cell? ⟨g, 4, none⟩ = some (.int .i64 x.f4) := (blk_cell FZ.out 4).trans rfl
   have y5 : w9.cell? ⟨g, 5, none⟩ = some (.string x.f5) := (blk_cell FZ.out 5).trans rfl
   have y6 : w9.cell? ⟨g, 6, none⟩ = some (.slice A8 x.f6.length c8) := (blk_cell FZ.out 6).trans rfl
   have FK : Aside0 (w9.heap[w.heap.size]? = some (.cells #[.bool true, .string h.f1, .string h.f2, .int .i64 h.f3, .int .i64 h.f4, .string h.f5, .slice A kk c] 24 (0, 0))) := ⟨(FB.out.block _ (Nat.lt_succ_self _)).trans HK1.out⟩
   have q0 : w9.cell? ⟨w.heap.size, 0, none⟩ = some (.bool true) := (blk_cell FK.out 0).trans rfl
   have q1 : w9.cell? ⟨w.heap.size, 1, none⟩ = some (.string h.f1) := (blk_cell FK.out 1).trans rfl
   have q2 : w9.cell? ⟨w.heap.size, 2, none⟩ = some (.string h.f2) := (blk_cell FK.out 2).trans rfl
   have q3 : w9.cell? ⟨w.heap.size, 3, none⟩ = some (.int .i64 h.f3) := (blk_cell FK.out 3).trans rfl
   have q4 : w9.cell? ⟨w.heap.size, 4, none⟩ = some (.int .i64 h.f4) := (blk_cell FK.out 4).trans rfl
   have q5 : w9.cell? ⟨w.heap.size, 5, none⟩ = some (.string h.f5) := (blk_cell FK.out 5).trans rfl
   have q6 : w9.cell? ⟨w.heap.size, 6, none⟩ = some (.slice A kk c) := (blk_cell FK.out 6).trans rfl
   clear hC9 hc9
   by_cases hpe : pe = 0
   ·by_cases hpn : pn = (M : Int)
    ·rcases hsm : sameB x h with _ | _
     ·go_wp2_with (first | (go_at_call 12; with_reducible refine (HLe.out _ FF.out).mono ?_; rintro e wl ⟨rfl, rfl⟩) | (go_at_call 13; with_reducible refine (FS.out _ (Below.refl _ _)).mono ?_; rintro e ws ⟨rfl, hb⟩; rw [hsm]; have FBs : Aside0 (Below (w.heap.size + 1) W2 ws) := ⟨FB.out.trans (below_weak (B' := w.heap.size + 1) hb (by have := FB.out.size; have := HS2.out; omega))⟩; have FFs := Aside0.mk (Bld.isbF_below FF.out hb); clear hb))
      go_ret2
      exact ⟨by rw [printS_no h x pn pe M HPr.out HMt.out (.inr (.inr hsm))]; rfl, HB2.out.trans (below_weak (B := w.heap.size + 1) FBs.out (Nat.le_succ _))⟩
     ·go_wp2_with (first | (go_at_call 12; with_reducible refine (HLe.out _ FF.out).mono ?_; rintro e wl ⟨rfl, rfl⟩) | (go_at_call 13; with_reducible refine (FS.out _ (Below.refl _ _)).mono ?_; rintro e ws ⟨rfl, hb⟩; rw [hsm]; have FBs : Aside0 (Below (w.heap.size + 1) W2 ws) := ⟨FB.out.trans (below_weak (B' := w.heap.size + 1) hb (by have := FB.out.size; have := HS2.out; omega))⟩; have FFs := Aside0.mk (Bld.isbF_below FF.out hb); clear hb) | (go_at_call 11; refine (HStr.out _ (by repeat (first | exact FFs.out | exact Bld.isbF_below FFs.out (below_drew1 (Below.refl _ _)))) (by have h5 := FBs.out.size; have h6 := HS2.out; show _ ≤ ws.heap.size; omega)).mono ?_; rintro e wt ⟨rfl, hb, hf, ho⟩; have FBt : Aside0 (Below (w.heap.size + 1) W2 wt) := ⟨Below.trans (by repeat (first | exact FBs.out | apply below_drew1 | apply pw_below_drewN)) hb⟩; clear hb hf ho))
      go_ret2
      exact ⟨by rw [printS_yes h x pn pe M HPr.out HMt.out (by rw [← HN.out]; exact HL.out) hpe hpn hsm, HTS.out]; rfl, HB2.out.trans (below_weak (B := w.heap.size + 1) FBt.out (Nat.le_succ _))⟩
    ·go_wp2_with (go_at_call 12; with_reducible refine (HLe.out _ FF.out).mono ?_; rintro e wl ⟨rfl, rfl⟩)
     go_ret2
     exact ⟨by rw [printS_no h x pn pe M HPr.out HMt.out (.inr (.inl hpn))]; rfl, HB2.out.trans (below_weak (B := w.heap.size + 1) FB.out (Nat.le_succ _))⟩
   ·go_wp2_with fail
    go_ret2
    exact ⟨by rw [printS_no h x pn pe M HPr.out HMt.out (.inl hpe)]; rfl, HB2.out.trans (below_weak (B := w.heap.size + 1) FB.out (Nat.le_succ _))⟩
set_option maxHeartbeats 8000000 in
set_option maxRecDepth 100000 in
theorem print_false (h : Head) (A : Option Addr) (c : Nat) (w : World) (hr : Kd.C P.k45 w A h.f6.length h.f6) (hc : h.f6.length ≤ c) (hl : h.f6.length ≤ 100) (hb : (textS h).length ≤ 4294930000) (hG : GInv w)
  (i30 : -9223372036854775808 ≤ h.f3) (i31 : h.f3 ≤ 9223372036854775807) (i40 : -9223372036854775808 ≤ h.f4) (i41 : h.f4 ≤ 9223372036854775807) (hf0 : h.f0 = false) : Calls Tryz.prog 4 #[hdV h (.slice A h.f6.length c)] w (PrintPost (printS h) w) := by
 obtain ⟨W2, hW2⟩ : ∃ W2, W2 = ((w.alloc (.cells #[.bool false, .string h.f1, .string h.f2, .int .i64 h.f3, .int .i64 h.f4, .string h.f5, .slice A h.f6.length c] 24)).alloc (.cells #[.pointer none, .slice none 0 0] 38)) := ⟨_, rfl⟩
 have hB2 : Below w.heap.size w W2 := by rw [hW2]; exact below_alloc (below_alloc (Below.refl _ _) _) _
 have hK1 : W2.heap[w.heap.size]? = some (.cells #[.bool false, .string h.f1, .string h.f2, .int .i64 h.f3, .int .i64 h.f4, .string h.f5, .slice A h.f6.length c] 24 (0, 0)) := by rw [hW2]; exact blk_alloc (blk_new _ _) _
 have hK4 : W2.heap[w.heap.size + 1]? = some (.cells #[.pointer none, .slice none 0 0] 38 (0, 0)) := by rw [hW2]; exact blk_two _ _ _
 have hBl : Lib.IsBuilder 38 5 (w.heap.size + 1) (w.heap.size + 1) (Lib.byteCells []) W2 := .inl ⟨Nat.le_refl _, _, hK4, Go.Proofs.YtmlgejgnjfbblaaGreatDoorW.PrintWords.own_nil _ _ _ _, by rw [Hd.own_nil]; simp⟩
 have hGw := hG.below hB2
 have HIt3 := Aside0.mk (fun W hG => Lex.itoa_calls h.f3 W i30 i31 hG)
 have HIt4 := Aside0.mk (fun W hG => Lex.itoa_calls h.f4 W i40 i41 hG)
 have HB2 := Aside0.mk hB2
 have HK1 := Aside0.mk hK1
 have HBl := Aside0.mk hBl
 have HGw := Aside0.mk hGw
 have HG0 := Aside0.mk hG
 have HW2 := Aside0.mk hW2
 have HR := Aside0.mk hr
 have HBd := Aside0.mk hb
 have Hf0 := Aside0.mk hf0
 have HL := Aside0.mk hl
 have HI := Aside0.mk (And.intro (And.intro i30 i31) (And.intro i40 i41))
 have HS2 : Aside0 (W2.heap.size = w.heap.size + 2) := ⟨by rw [hW2]; simp⟩
 unfold hdV
 rw [hf0]
 obtain ⟨N, hN⟩ : ∃ N, N = h.f6.length := ⟨_, rfl⟩
 rw [← hN] at hl HK1 HW2 HL hc ⊢
 have HN := Aside0.mk hN
 have Hc := Aside0.mk hc
 have hlz : (N : Int) ≤ 100 := by omega
 have hft := firstT_le h
 have HFT := Aside0.mk hft
 obtain ⟨S3, hS3⟩ : ∃ S3, S3 = mkB (Lib.itoa h.f3) := ⟨_, rfl⟩
 obtain ⟨S4, hS4⟩ : ∃ S4, S4 = mkB (Lib.itoa h.f4) := ⟨_, rfl⟩
 have hz3 : S3.size = (Lib.itoa h.f3).length := by rw [hS3, mkB_size]
 have hz4 : S4.size = (Lib.itoa h.f4).length := by rw [hS4, mkB_size]
 replace HIt3 : Aside0 (∀ W, GInv W → Calls Tryz.prog 9 #[.int .i64 h.f3] W fun e w' => e = .returned (.string S3) ∧ Below W.heap.size W w') := ⟨fun W hG => by rw [hS3]; exact HIt3.out W hG⟩
 replace HIt4 : Aside0 (∀ W, GInv W → Calls Tryz.prog 9 #[.int .i64 h.f4] W fun e w' => e = .returned (.string S4) ∧ Below W.heap.size W w') := ⟨fun W hG => by rw [hS4]; exact HIt4.out W hG⟩
 have HS3 := Aside0.mk hS3
 have HS4 := Aside0.mk hS4
 have hfl := hft
 unfold firstT at hfl
 rw [if_neg (by rw [hf0]; decide)] at hfl
 simp only [List.length_append, List.length_cons, List.length_nil, crlf] at hfl
 rw [← sz] at hfl
 have hs1 : S3.size + S4.size + h.f5.size + 11 ≤ 4294930000 := by omega
 have sq1 : ¬ 9223372036854775807 < 7 + S3.size + 1 := by omega
 have sq2 : ¬ 9223372036854775807 < 7 + S3.size + 1 + S4.size := by omega
 have sq3 : ¬ 9223372036854775807 < 7 + S3.size + 1 + S4.size + 1 := by omega
 have sq4 : ¬ 9223372036854775807 < 7 + S3.size + 1 + S4.size + 1 + h.f5.size := by omega
 have sq5 : ¬ 9223372036854775807 < 7 + S3.size + 1 + S4.size + 1 + h.f5.size + 2 := by omega
 clear hr hc hl hb hG hf0 hW2 hB2 hK1 hK4 hBl hGw hN i30 i31 i40 i41 hft hfl hS3 hS4 hz3 hz4
 go_enter Tryz.func4, Tryz.ntmps4
 go_wp2_with (go_at_call 9; rw [← HW2.out]; refine (HIt3.out _ HGw.out).mono ?_; rintro e w3 ⟨rfl, hb3⟩; have HB3 := Aside0.mk hb3; have HBl3 := Aside0.mk (Bld.isb_below HBl.out hb3); have HK3 := Aside0.mk (blk_below HK1.out hb3); clear hb3; have z0 : w3.cell? ⟨w.heap.size, 0, none⟩ = some (.bool false) := (blk_cell HK3.out 0).trans rfl; have z1 : w3.cell? ⟨w.heap.size, 1, none⟩ = some (.string h.f1) := (blk_cell HK3.out 1).trans rfl; have z2 : w3.cell? ⟨w.heap.size, 2, none⟩ = some (.string h.f2) := (blk_cell HK3.out 2).trans rfl; have z3 : w3.cell? ⟨w.heap.size, 3, none⟩ = some (.int .i64 h.f3) := (blk_cell HK3.out 3).trans rfl; have z4 : w3.cell? ⟨w.heap.size, 4, none⟩ = some (.int .i64 h.f4) := (blk_cell HK3.out 4).trans rfl; have z5 : w3.cell? ⟨w.heap.size, 5, none⟩ = some (.string h.f5) := (blk_cell HK3.out 5).trans rfl; have z6 : w3.cell? ⟨w.heap.size, 6, none⟩ = some (.slice A N c) := (blk_cell HK3.out 6).trans rfl)
 go_region_held3 (fun w' => w'.cell? ⟨w.heap.size, 4, none⟩ = some (.int .i64 h.f4) ∧ w'.cell? ⟨w.heap.size, 5, none⟩ = some (.string h.f5)) (first | exact ⟨(blk_cell HK3.out 4).trans rfl, (blk_cell HK3.out 5).trans rfl⟩ | exact ⟨(blk_cell HK4.out 4).trans rfl, (blk_cell HK4.out 5).trans rfl⟩ | exact ⟨(blk_cell HK5.out 4).trans rfl, (blk_cell HK5.out 5).trans rfl⟩) (first
  | (go_at_call 9; refine (HIt4.out _ (GInv.below' HGw (by repeat (first | exact HB3.out | apply below_drew1 | apply pw_below_drewN)))).mono ?_; rintro e w4 ⟨rfl, hb4⟩; have HB4 : Aside0 (Below W2.heap.size W2 w4) := ⟨below_step (by repeat (first | exact HB3.out | apply below_drew1 | apply pw_below_drewN)) hb4⟩; have HBl4 := Aside0.mk (Bld.isb_below HBl.out HB4.out); have HK4 := Aside0.mk (blk_below HK1.out HB4.out); clear hb4)
  | (go_at_call 10; refine (Bld.write_calls (w.heap.size + 1) (w.heap.size + 1) _ _ _ (HBl4.out) ?cl ?cb).mono ?_; (case cl => (have h5 := (show (firstT h).length ≤ 4294930000 by have h1 := HFT.out; have h2 := HBd.out; omega); rw [sz, first_false h S3 S4 HS3.out HS4.out Hf0.out]; have e9 : ∀ l : Bs, (Lib.byteCells l).length = l.length := (fun l => by simp [Lib.byteCells]); rw [e9]; (try simp only [List.length_nil]); omega)); (case cb => (have h5 := (below_weak (B' := w.heap.size + 1) HB4.out (by have := HS2.out; omega)).size; have h6 := HS2.out; omega)); rintro e w5 ⟨rfl, hbl_, hb_⟩; rw [strC _ _ _ (first_false h S3 S4 HS3.out HS4.out Hf0.out)] at hbl_; have HBl5 := Aside0.mk hbl_; have HB5 : Aside0 (Below (w.heap.size + 1) W2 w5) := ⟨Below.trans ((below_weak (B' := w.heap.size + 1) HB4.out (by have := HS2.out; omega))) hb_⟩; clear hbl_ hb_; have HK5 : Aside0 (w5.heap[w.heap.size]? = some (.cells #[.bool false, .string h.f1, .string h.f2, .int .i64 h.f3, .int .i64 h.f4, .string h.f5, .slice A N c] 24 (0, 0))) := ⟨(HB5.out.block _ (Nat.lt_succ_self _)).trans HK1.out⟩; have x6 : w5.cell? ⟨w.heap.size, 6, none⟩ = some (.slice A N c) := (blk_cell HK5.out 6).trans rfl))
 (try (rename_i hh_; clear hh_))
 all_goals
  have HBl5' : Aside0 (Lib.IsBuilder 38 5 (w.heap.size + 1) (w.heap.size + 1) (Lib.byteCells (firstT h ++ (h.f6.take 0).flatMap fldT)) w5) := ⟨by simpa using HBl5.out⟩
  go_wp2
  go_loopw [47] (fun v47 wr => ∃ kk : Nat, kk ≤ N ∧ v47 = .int .i64 kk ∧ Aside0 (Lib.IsBuilder 38 5 (w.heap.size + 1) (w.heap.size + 1) (Lib.byteCells (firstT h ++ (h.f6.take kk).flatMap fldT)) wr) ∧ Aside0 (Below (w.heap.size + 1) W2 wr)) (fun v47 _ => N - (intOf v47).toNat)
  case atStart => exact ⟨0, Nat.zero_le _, rfl, HBl5', HB5⟩
  case round =>
   obtain ⟨kk, hkk, rfl, HBk, HBw⟩ := hrel
   have HBww : Aside0 (Below w.heap.size w wr) := ⟨HB2.out.trans (below_weak HBw.out (Nat.le_succ _))⟩
   clear x6
   by_cases hlt : kk < N
   ·have hltz : (kk : Int) < (N : Int) := by omega
    obtain ⟨ad, eA, hx0, hx1⟩ := P.at_T45 (Kd.C_below HR.out HBww.out) (kk : Int) (by omega) (by rw [← HN.out]; exact hltz)
    cases eA
    rw [Int.toNat_natCast] at hx0 hx1
    have hkl : kk < h.f6.length := by rw [← HN.out]; exact hlt
    have hdr := List.drop_eq_getElem_cons hkl
    rw [rd_fld hdr] at hx0 hx1
    have hta : h.f6.take (kk + 1) = h.f6.take kk ++ [h.f6[kk]] := by rw [List.take_succ_eq_append_getElem hkl]
    generalize h.f6[kk] = f at hx0 hx1 hta hdr
    have HTA := Aside0.mk hta
    have hnx := take_next h kk f hta
    have hfs : f.f0.size + f.f1.size + 4 ≤ (fldT f).length := by unfold fldT; simp only [List.length_append, List.length_cons, List.length_nil, crlf]; rw [← sz, ← sz]; omega
    have hf12 : f.f0.size + f.f1.size + 4 ≤ 4294930000 := by have := HBd.out; omega
    have HNx := Aside0.mk hnx
    have HBa : Aside0 (Below (w.heap.size + 1) W2 (wr.alloc (.cells #[.string f.f0, .string f.f1] 45))) := ⟨HBw.out.alloc (by have h5 := HBw.out.size; have h6 := HS2.out; omega) _⟩
    have HBka := Aside0.mk (Bld.isb_below HBk.out (below_alloc (Below.refl _ _) (.cells #[.string f.f0, .string f.f1] 45)))
    clear hdr hta hnx hfs
    go_wp2_with (go_at_call 10; refine (Bld.write_calls (w.heap.size + 1) (w.heap.size + 1) _ _ _ (HBka.out) ?cl ?cb).mono ?_; (case cl => (have h5 := HNx.out; have h7 := HBd.out; rw [sz, fld_data f]; have e9 : ∀ l : Bs, (Lib.byteCells l).length = l.length := (fun l => by simp [Lib.byteCells]); rw [e9]; (try simp only [List.length_nil]); omega)); (case cb => (have h5 := HBa.out.size; have h6 := HS2.out; omega)); rintro e w7 ⟨rfl, hbl_, hb_⟩; rw [strC _ _ _ (fld_data f)] at hbl_; have HBl7 := Aside0.mk hbl_; have HB7 : Aside0 (Below (w.heap.size + 1) W2 w7) := ⟨Below.trans (HBa.out) hb_⟩; clear hbl_ hb_)
    go_roundw
    case rel =>
     refine ⟨kk + 1, by omega, by go_num, ⟨?_⟩, HB7⟩
     rw [HTA.out, List.flatMap_append, List.flatMap_cons, List.flatMap_nil, List.append_nil, ← List.append_assoc]
     exact HBl7.out
    case measure => simp [intOf]; omega
   ·obtain rfl : kk = N := by omega
    have hall : firstT h ++ (h.f6.take kk).flatMap fldT ++ crlf = textS h := by unfold textS; rw [List.take_of_length_le (by rw [← HN.out]; exact Nat.le_refl _)]
    have HAll := Aside0.mk hall
    clear hall
    go_wp2_with (go_at_call 10; refine (Bld.write_calls (w.heap.size + 1) (w.heap.size + 1) _ _ _ (HBk.out) ?cl ?cb).mono ?_; (case cl => (have h5 := (show (firstT h ++ (h.f6.take kk).flatMap fldT).length + crlf.length ≤ 4294930000 by have h1 := HAll.out; have h2 := HBd.out; rw [← List.length_append, h1]; exact h2); rw [sz, crlf_data]; have e9 : ∀ l : Bs, (Lib.byteCells l).length = l.length := (fun l => by simp [Lib.byteCells]); rw [e9]; (try simp only [List.length_nil]); omega)); (case cb => (have h5 := HBw.out.size; have h6 := HS2.out; omega)); rintro e w6 ⟨rfl, hbl_, hb_⟩; rw [strC _ _ _ (crlf_data)] at hbl_; have HBl6 := Aside0.mk hbl_; have HB6 : Aside0 (Below (w.heap.size + 1) W2 w6) := ⟨Below.trans (HBw.out) hb_⟩; clear hbl_ hb_)
    rw [HAll.out] at HBl6
    obtain ⟨TS, hTS⟩ : ∃ s, s = mkB (textS h) := ⟨_, rfl⟩
    have hTd : TS.data.toList = textS h := by rw [hTS, mkB_data]
    obtain ⟨M, hM⟩ : ∃ M, M = (nOf (textS h)).length := ⟨_, rfl⟩
    have hMs : TS.size = M := by rw [hM, nOf_length, sz, hTd]
    have hMt : M = (textS h).length := by rw [hM, nOf_length]
    have hMle : M ≤ 4294930000 := by rw [hMt]; exact HBd.out
    have HBF6 := Aside0.mk (Lib.IsBuilderF.of HBl6.out)
    have HK6 : Aside0 (w6.heap[w.heap.size]? = some (.cells #[.bool false, .string h.f1, .string h.f2, .int .i64 h.f3, .int .i64 h.f4, .string h.f5, .slice A kk c] 24 (0, 0))) := ⟨(HB6.out.block _ (Nat.lt_succ_self _)).trans HK1.out⟩
    have HStr : Aside0 (∀ W, Lib.IsBuilderF 38 5 (w.heap.size + 1) (w.heap.size + 1) (Lib.byteCells (textS h)) W → w.heap.size + 1 ≤ W.heap.size → Calls Tryz.prog 11 #[.pointer (some ⟨w.heap.size + 1, 0, none⟩)] W fun e w' => e = .returned (.string TS) ∧ Below (w.heap.size + 1) W w' ∧ Lib.IsBuilderF 38 5 (w.heap.size + 1) (w.heap.size + 1) (Lib.byteCells (textS h)) w' ∧ Lib.OthersKept 5 (some (w.heap.size + 1)) W w') := ⟨fun W hf hb => by rw [hTS]; exact Bld.string_k _ _ (textS h) W hf hb⟩
    have HLe : Aside0 (∀ W, Lib.IsBuilderF 38 5 (w.heap.size + 1) (w.heap.size + 1) (Lib.byteCells (textS h)) W → Calls Tryz.prog 12 #[.pointer (some ⟨w.heap.size + 1, 0, none⟩)] W fun e w' => e = .returned (.int .i64 (M : Int)) ∧ w' = W) := ⟨fun W hf => by rw [hMt, show (textS h).length = (Lib.byteCells (textS h)).length by simp [Lib.byteCells]]; exact Bld.len_f _ _ _ W hf⟩
    have hcv : ∀ W : World, (convert 9 33 (.string TS)).run Tryz.prog W = .ok (.slice (some ⟨W.heap.size, 0, none⟩) M (grownCap W TS.size 0 5)) (W.drew.alloc (.cells (bytesRow TS (grownCap W TS.size 0 5)) 5 ((bytesRow TS (grownCap W TS.size 0 5)).size, (bytesRow TS (grownCap W TS.size 0 5)).size + 1))) := fun W => by rw [← hMs]; exact run_bytes_of_string (P := Tryz.prog) W 9 33 5 TS Tryz.underlying9 Tryz.underlying33 Tryz.underlying5
    obtain ⟨⟨x, pn, pe⟩, hpr⟩ : ∃ r, r = parseS h.f0 (nOf (textS h)) := ⟨_, rfl⟩
    have HPr := Aside0.mk hpr
    have HXl : Aside0 (x.f6.length ≤ 4294950000) := ⟨by have h5 := parseS_fields h.f0 (nOf (textS h)) (by rw [← hM]; omega); rw [← hpr] at h5; exact h5⟩
    have hS2 := HS2.out
    have HPa : Aside0 (∀ (W : World) (A7 : Option Addr) (cap : Nat), (Kd.int .u8).C W A7 M (nOf (textS h)) → Below (w.heap.size + 1) W2 W → Calls Tryz.prog 7 #[.bool false, .slice A7 M cap] W fun e w8 => ∃ A8 c8, e = .returned (.tuple #[.agg #[.bool x.f0, .string x.f1, .string x.f2, .int .i64 x.f3, .int .i64 x.f4, .string x.f5, .slice A8 x.f6.length c8], .int .i64 pn, .int .i64 pe]) ∧ Below W.heap.size W w8 ∧ x.f6.length ≤ c8 ∧ fldK.R 45 w8 0 (fun _ => True) (.slice A8 x.f6.length c8) x.f6) := ⟨fun W A7 cap hC hW => by
     have hGW := HG0.out.below (HB2.out.trans (below_weak hW (Nat.le_succ _)))
     have h5 := parse_calls false (nOf (textS h)) A7 cap W (by rw [← hM]; exact hC) (by rw [← hM]; omega) hGW
     rw [← hM, show parseS false (nOf (textS h)) = (x, pn, pe) by rw [hpr, Hf0.out]] at h5
     refine h5.mono ?_
     rintro e w8 ⟨v8, rfl, hR8, hb8⟩
     obtain ⟨A8, c8, e8, hc8, hC8⟩ := Kd.R_reads hR8
     subst e8
     exact ⟨A8, c8, rfl, hb8, hc8, Kd.R_lower (Kd.R_mono hR8 (fun _ _ => trivial)) (Nat.zero_le _)⟩⟩
    clear hS2
    have HTd := Aside0.mk hTd
    have HMs := Aside0.mk hMs
    have HM := Aside0.mk hM
    have HMt := Aside0.mk hMt
    have HTS := Aside0.mk hTS
    have HNl : Aside0 ((nOf (textS h)).length ≤ 9223372036854775807) := ⟨by rw [← hM]; omega⟩
    have hMz : (M : Int) ≤ 4294930000 := by omega
    clear hTS hTd hM hMs hMt hpr
    have FB := HB6
    have FF := HBF6
    refine start_ (n := 13) (S := fun w' => w'.cell? ⟨w.heap.size, 0, none⟩ = some (.bool false)) (ds := []) (lb 13 0) (by kernel_rfl) rfl rfl ((blk_cell (blk_drew HK6.out) 0).trans rfl) (fun hHeld => ?_)
    have n0 := Aside0.mk (below_drew1 FB.out)
    have n1 := Aside0.mk (Bld.isbF_below FF.out (below_drew1 (Below.refl _ _)))
    clear FB FF
    have FB := n0
    have FF := n1
    clear n0 n1
    generalize w6.drew = wa at FB FF hHeld ⊢
    refine pv 0 62 (lb 13 1) ?_
    refine tv hHeld 1 63 (lb 13 3) ?_
    refine join_ (σ := Nat × (Option Addr × Nat) × (Option Addr × Nat)) 3 (lb 13 1023) (fun s_ => [(64, .string TS), (65, .slice s_.2.1.1 M s_.2.1.2), (66, .tuple #[.agg #[.bool x.f0, .string x.f1, .string x.f2, .int .i64 x.f3, .int .i64 x.f4, .string x.f5, .slice s_.2.2.1 x.f6.length s_.2.2.2], .int .i64 pn, .int .i64 pe]), (61, .tuple #[.agg #[.bool x.f0, .string x.f1, .string x.f2, .int .i64 x.f3, .int .i64 x.f4, .string x.f5, .slice s_.2.2.1 x.f6.length s_.2.2.2], .int .i64 pn, .int .i64 pe]), (67, .agg #[.bool x.f0, .string x.f1, .string x.f2, .int .i64 x.f3, .int .i64 x.f4, .string x.f5, .slice s_.2.2.1 x.f6.length s_.2.2.2]), (68, .int .i64 pn), (69, .int .i64 pe), (8, .pointer (some ⟨s_.1, 0, none⟩))]) (fun s_ w' => w'.heap[s_.1]? = some (.cells #[.bool false, .string ⟨#[]⟩, .string ⟨#[]⟩, .int .i64 0, .int .i64 0, .string ⟨#[]⟩, .slice none 0 0] 24 (0, 0)) ∧ w.heap.size + 2 ≤ s_.1 ∧ Below (w.heap.size + 1) W2 w' ∧ Lib.IsBuilderF 38 5 (w.heap.size + 1) (w.heap.size + 1) (Lib.byteCells (textS h)) w' ∧ x.f6.length ≤ s_.2.2.2 ∧ fldK.R 45 w' 0 (fun _ => True) (.slice s_.2.2.1 x.f6.length s_.2.2.2) x.f6) ?_ ?_
    rotate_left
    ·intro hCont
     refine two_ (i := 2) (j := 9) (Ni := some 64) (Nj := some 8) (lb 13 7) (lb 13 515) rfl rfl rfl rfl (by kernel_rfl) (by decide) (by decide) (fun K hK => ?_) (fun K hK => ?_)
     ·skip
      refine goes_ Tryz.func11 (by kernel_rfl) rfl #[.pointer (some ⟨w.heap.size + 1, 0, none⟩)] (by rfl) rfl rfl (by (try simp only [List.map_toArray, List.map_cons, List.map_nil]); first | done | rfl) ?_
      with_reducible refine (HStr.out _ FF.out (by have := FB.out.size; have := HS2.out; omega)).mono ?_
      rintro e wb ⟨rfl, hb, hf, ho⟩
      refine ⟨_, rfl, ?_⟩
      have m0 := Below.trans FB.out hb
      have m1 := hf
      have n0 := Aside0.mk m0
      have n1 := Aside0.mk m1
      clear FB FF
      have FB := n0
      have FF := n1
      clear n0 n1
      clear hb hf ho m0 m1
      refine hK.out _ _ ((blk_cell (FB.out.block w.heap.size (Nat.lt_succ_self _) |>.trans HK1.out) 0).trans rfl) (fun hHeld => ?_)
      clear hK K
      refine norm_ (a' := ?_) ?_ ?_
      rotate_left
      ·show Act.put _ (some 64) _ = _
       simp only [Act.put, List.setIfInBounds_toArray, List.set_cons_zero, List.set_cons_succ, i64_w, i32_w]
       rfl
      refine two_ (i := 3) (j := 9) (Ni := some 65) (Nj := some 8) (lb 13 15) (lb 13 519) rfl rfl rfl rfl (by kernel_rfl) (by decide) (by decide) (fun K hK => ?_) (fun K hK => ?_)
      ·skip
       refine conv_step (by rfl) (N := 65) rfl 9 33 5 _ rfl TS rfl (by have := HMs.out; omega) Tryz.underlying9 Tryz.underlying33 Tryz.underlying5 ?_
       intro A75 c75 wc hC hcc hb
       rw [HMs.out, HTd.out] at hC
       rw [HMs.out]
       have n0 : Aside0 (Below (w.heap.size + 1) W2 wc) := ⟨Below.trans FB.out (below_weak (B' := w.heap.size + 1) hb (by have := FB.out.size; have := HS2.out; omega))⟩
       have n1 := Aside0.mk (Bld.isbF_below FF.out hb)
       clear FB FF
       have FB := n0
       have FF := n1
       clear n0 n1
       have FC := Aside0.mk hC
       clear hC hb hcc
       refine hK.out _ _ ((blk_cell (FB.out.block w.heap.size (Nat.lt_succ_self _) |>.trans HK1.out) 0).trans rfl) (fun hHeld => ?_)
       clear hK K
       refine norm_ (a' := ?_) ?_ ?_
       rotate_left
       ·show Act.put _ (some 65) _ = _
        simp only [Act.put, List.setIfInBounds_toArray, List.set_cons_zero, List.set_cons_succ, i64_w, i32_w]
        rfl
       refine two_ (i := 4) (j := 9) (Ni := some 66) (Nj := some 8) (lb 13 31) (lb 13 527) rfl rfl rfl rfl (by kernel_rfl) (by decide) (by decide) (fun K hK => ?_) (fun K hK => ?_)
       ·skip
        refine goes_ Tryz.func7 (by kernel_rfl) rfl #[.bool false, .slice A75 M c75] (by rfl) rfl rfl (by (try simp only [List.map_toArray, List.map_cons, List.map_nil]); first | done | rfl) ?_
        with_reducible refine (HPa.out _ _ _ FC.out FB.out).mono ?_
        rintro e wd ⟨A8, c8, rfl, hb, hc8, hP⟩
        refine ⟨_, rfl, ?_⟩
        have n0 : Aside0 (Below (w.heap.size + 1) W2 wd) := ⟨Below.trans FB.out (below_weak (B' := w.heap.size + 1) hb (by have := FB.out.size; have := HS2.out; omega))⟩
        have n1 := Aside0.mk (Bld.isbF_below FF.out hb)
        clear FB FF
        have FB := n0
        have FF := n1
        clear n0 n1
        have FP := Aside0.mk hP
        have FN := Aside0.mk hc8
        clear FC hP hb hc8
        refine hK.out _ _ ((blk_cell (FB.out.block w.heap.size (Nat.lt_succ_self _) |>.trans HK1.out) 0).trans rfl) (fun hHeld => ?_)
        clear hK K
        refine norm_ (a' := ?_) ?_ ?_
        rotate_left
        ·show Act.put _ (some 66) _ = _
         simp only [Act.put, List.setIfInBounds_toArray, List.set_cons_zero, List.set_cons_succ, i64_w, i32_w]
         rfl
        refine pv 5 61 (lb 13 63) ?_
        refine pv 6 67 (lb 13 127) ?_
        refine pv 7 68 (lb 13 255) ?_
        refine pv 8 69 (lb 13 511) ?_
        refine one_ (i := 9) (N := some 8) (lb 13 1023) rfl rfl (by kernel_rfl) (by decide) (fun K hK => ?_)
        refine box_step ?hg (N := 8) ?hd (cs := #[.bool false, .string ⟨#[]⟩, .string ⟨#[]⟩, .int .i64 0, .int .i64 0, .string ⟨#[]⟩, .slice none 0 0]) (t := 24) ?hr ?_; (case hd => rfl); (case hg => rfl); (case hr => first | (go_simp; done) | (go_simp; rfl))
        intro g hg we hbox hb
        have FG : Aside0 (w.heap.size + 2 ≤ g) := ⟨by have h5 := FB.out.size; have h6 := HS2.out; omega⟩
        have n0 : Aside0 (Below (w.heap.size + 1) W2 we) := ⟨Below.trans FB.out (below_weak (B' := w.heap.size + 1) hb (by have := FB.out.size; have := HS2.out; omega))⟩
        have n1 := Aside0.mk (Bld.isbF_below FF.out hb)
        have n4 := Aside0.mk (Kd.R_below FP.out hb)
        clear FB FF FP
        have FB := n0
        have FF := n1
        have FP := n4
        clear n0 n1 n4
        have FZ := Aside0.mk hbox
        clear hg hbox hb
        refine hK.out _ _ ((blk_cell (FB.out.block w.heap.size (Nat.lt_succ_self _) |>.trans HK1.out) 0).trans rfl) (fun hHeld => ?_)
        clear hK K
        refine norm_ (a' := ?_) ?_ ?_
        rotate_left
        ·show Act.put _ (some 8) _ = _
         simp only [Act.put, List.setIfInBounds_toArray, List.set_cons_zero, List.set_cons_succ, i64_w, i32_w]
         rfl
        exact norm_ (by simp only [putAll, Act.put, List.setIfInBounds_toArray, List.set_cons_zero, List.set_cons_succ]) (hCont (g, (A75, c75), (A8, c8)) _ ⟨FZ.out, FG.out, FB.out, FF.out, FN.out, FP.out⟩)
       ·skip
        refine box_step ?hg (N := 8) ?hd (cs := #[.bool false, .string ⟨#[]⟩, .string ⟨#[]⟩, .int .i64 0, .int .i64 0, .string ⟨#[]⟩, .slice none 0 0]) (t := 24) ?hr ?_; (case hd => rfl); (case hg => rfl); (case hr => first | (go_simp; done) | (go_simp; rfl))
        intro g hg we hbox hb
        have FG : Aside0 (w.heap.size + 2 ≤ g) := ⟨by have h5 := FB.out.size; have h6 := HS2.out; omega⟩
        have n0 : Aside0 (Below (w.heap.size + 1) W2 we) := ⟨Below.trans FB.out (below_weak (B' := w.heap.size + 1) hb (by have := FB.out.size; have := HS2.out; omega))⟩
        have n1 := Aside0.mk (Bld.isbF_below FF.out hb)
        have n3 := Aside0.mk (Kd.C_below FC.out hb)
        clear FB FF FC
        have FB := n0
        have FF := n1
        have FC := n3
        clear n0 n1 n3
        have FZ := Aside0.mk hbox
        clear hg hbox hb
        refine hK.out _ _ ((blk_cell (FB.out.block w.heap.size (Nat.lt_succ_self _) |>.trans HK1.out) 0).trans rfl) (fun hHeld => ?_)
        clear hK K
        refine norm_ (a' := ?_) ?_ ?_
        rotate_left
        ·show Act.put _ (some 8) _ = _
         simp only [Act.put, List.setIfInBounds_toArray, List.set_cons_zero, List.set_cons_succ, i64_w, i32_w]
         rfl
        refine one_ (i := 4) (N := some 66) (lb 13 543) rfl rfl (by kernel_rfl) (by decide) (fun K hK => ?_)
        refine goes_ Tryz.func7 (by kernel_rfl) rfl #[.bool false, .slice A75 M c75] (by rfl) rfl rfl (by (try simp only [List.map_toArray, List.map_cons, List.map_nil]); first | done | rfl) ?_
        with_reducible refine (HPa.out _ _ _ FC.out FB.out).mono ?_
        rintro e wd ⟨A8, c8, rfl, hb, hc8, hP⟩
        refine ⟨_, rfl, ?_⟩
        have n0 : Aside0 (Below (w.heap.size + 1) W2 wd) := ⟨Below.trans FB.out (below_weak (B' := w.heap.size + 1) hb (by have := FB.out.size; have := HS2.out; omega))⟩
        have n1 := Aside0.mk (Bld.isbF_below FF.out hb)
        have n2 := Aside0.mk (blk_below FZ.out hb)
        clear FB FF FZ
        have FB := n0
        have FF := n1
        have FZ := n2
        clear n0 n1 n2
        have FP := Aside0.mk hP
        have FN := Aside0.mk hc8
        clear FC hP hb hc8
        refine hK.out _ _ ((blk_cell (FB.out.block w.heap.size (Nat.lt_succ_self _) |>.trans HK1.out) 0).trans rfl) (fun hHeld => ?_)
        clear hK K
        refine norm_ (a' := ?_) ?_ ?_
        rotate_left
        ·show Act.put _ (some 66) _ = _
         simp only [Act.put, List.setIfInBounds_toArray, List.set_cons_zero, List.set_cons_succ, i64_w, i32_w]
         rfl
        refine pv 5 61 (lb 13 575) ?_
        refine pv 6 67 (lb 13 639) ?_
        refine pv 7 68 (lb 13 767) ?_
        refine pv 8 69 (lb 13 1023) ?_
        exact norm_ (by simp only [putAll, Act.put, List.setIfInBounds_toArray, List.set_cons_zero, List.set_cons_succ]) (hCont (g, (A75, c75), (A8, c8)) _ ⟨FZ.out, FG.out, FB.out, FF.out, FN.out, FP.out⟩)
      ·skip
       refine box_step ?hg (N := 8) ?hd (cs := #[.bool false, .string ⟨#[]⟩, .string ⟨#[]⟩, .int .i64 0, .int .i64 0, .string ⟨#[]⟩, .slice none 0 0]) (t := 24) ?hr ?_; (case hd => rfl); (case hg => rfl); (case hr => first | (go_simp; done) | (go_simp; rfl))
       intro g hg we hbox hb
       have FG : Aside0 (w.heap.size + 2 ≤ g) := ⟨by have h5 := FB.out.size; have h6 := HS2.out; omega⟩
       have n0 : Aside0 (Below (w.heap.size + 1) W2 we) := ⟨Below.trans FB.out (below_weak (B' := w.heap.size + 1) hb (by have := FB.out.size; have := HS2.out; omega))⟩
       have n1 := Aside0.mk (Bld.isbF_below FF.out hb)
       clear FB FF
       have FB := n0
       have FF := n1
       clear n0 n1
       have FZ := Aside0.mk hbox
       clear hg hbox hb
       refine hK.out _ _ ((blk_cell (FB.out.block w.heap.size (Nat.lt_succ_self _) |>.trans HK1.out) 0).trans rfl) (fun hHeld => ?_)
       clear hK K
       refine norm_ (a' := ?_) ?_ ?_
       rotate_left
       ·show Act.put _ (some 8) _ = _
        simp only [Act.put, List.setIfInBounds_toArray, List.set_cons_zero, List.set_cons_succ, i64_w, i32_w]
        rfl
       refine one_ (i := 3) (N := some 65) (lb 13 527) rfl rfl (by kernel_rfl) (by decide) (fun K hK => ?_)
       refine conv_step (by rfl) (N := 65) rfl 9 33 5 _ rfl TS rfl (by have := HMs.out; omega) Tryz.underlying9 Tryz.underlying33 Tryz.underlying5 ?_
       intro A75 c75 wc hC hcc hb
       rw [HMs.out, HTd.out] at hC
       rw [HMs.out]
       have n0 : Aside0 (Below (w.heap.size + 1) W2 wc) := ⟨Below.trans FB.out (below_weak (B' := w.heap.size + 1) hb (by have := FB.out.size; have := HS2.out; omega))⟩
       have n1 := Aside0.mk (Bld.isbF_below FF.out hb)
       have n2 := Aside0.mk (blk_below FZ.out hb)
       clear FB FF FZ
       have FB := n0
       have FF := n1
       have FZ := n2
       clear n0 n1 n2
       have FC := Aside0.mk hC
       clear hC hb hcc
       refine hK.out _ _ ((blk_cell (FB.out.block w.heap.size (Nat.lt_succ_self _) |>.trans HK1.out) 0).trans rfl) (fun hHeld => ?_)
       clear hK K
       refine norm_ (a' := ?_) ?_ ?_
       rotate_left
       ·show Act.put _ (some 65) _ = _
        simp only [Act.put, List.setIfInBounds_toArray, List.set_cons_zero, List.set_cons_succ, i64_w, i32_w]
        rfl
       refine one_ (i := 4) (N := some 66) (lb 13 543) rfl rfl (by kernel_rfl) (by decide) (fun K hK => ?_)
       refine goes_ Tryz.func7 (by kernel_rfl) rfl #[.bool false, .slice A75 M c75] (by rfl) rfl rfl (by (try simp only [List.map_toArray, List.map_cons, List.map_nil]); first | done | rfl) ?_
       with_reducible refine (HPa.out _ _ _ FC.out FB.out).mono ?_
       rintro e wd ⟨A8, c8, rfl, hb, hc8, hP⟩
       refine ⟨_, rfl, ?_⟩
       have n0 : Aside0 (Below (w.heap.size + 1) W2 wd) := ⟨Below.trans FB.out (below_weak (B' := w.heap.size + 1) hb (by have := FB.out.size; have := HS2.out; omega))⟩
       have n1 := Aside0.mk (Bld.isbF_below FF.out hb)
       have n2 := Aside0.mk (blk_below FZ.out hb)
       clear FB FF FZ
       have FB := n0
       have FF := n1
       have FZ := n2
       clear n0 n1 n2
       have FP := Aside0.mk hP
       have FN := Aside0.mk hc8
       clear FC hP hb hc8
       refine hK.out _ _ ((blk_cell (FB.out.block w.heap.size (Nat.lt_succ_self _) |>.trans HK1.out) 0).trans rfl) (fun hHeld => ?_)
       clear hK K
       refine norm_ (a' := ?_) ?_ ?_
       rotate_left
       ·show Act.put _ (some 66) _ = _
        simp only [Act.put, List.setIfInBounds_toArray, List.set_cons_zero, List.set_cons_succ, i64_w, i32_w]
        rfl
       refine pv 5 61 (lb 13 575) ?_
       refine pv 6 67 (lb 13 639) ?_
       refine pv 7 68 (lb 13 767) ?_
       refine pv 8 69 (lb 13 1023) ?_
       exact norm_ (by simp only [putAll, Act.put, List.setIfInBounds_toArray, List.set_cons_zero, List.set_cons_succ]) (hCont (g, (A75, c75), (A8, c8)) _ ⟨FZ.out, FG.out, FB.out, FF.out, FN.out, FP.out⟩)
     ·skip
      refine box_step ?hg (N := 8) ?hd (cs := #[.bool false, .string ⟨#[]⟩, .string ⟨#[]⟩, .int .i64 0, .int .i64 0, .string ⟨#[]⟩, .slice none 0 0]) (t := 24) ?hr ?_; (case hd => rfl); (case hg => rfl); (case hr => first | (go_simp; done) | (go_simp; rfl))
      intro g hg we hbox hb
      have FG : Aside0 (w.heap.size + 2 ≤ g) := ⟨by have h5 := FB.out.size; have h6 := HS2.out; omega⟩
      have n0 : Aside0 (Below (w.heap.size + 1) W2 we) := ⟨Below.trans FB.out (below_weak (B' := w.heap.size + 1) hb (by have := FB.out.size; have := HS2.out; omega))⟩
      have n1 := Aside0.mk (Bld.isbF_below FF.out hb)
      clear FB FF
      have FB := n0
      have FF := n1
      clear n0 n1
      have FZ := Aside0.mk hbox
      clear hg hbox hb
      refine hK.out _ _ ((blk_cell (FB.out.block w.heap.size (Nat.lt_succ_self _) |>.trans HK1.out) 0).trans rfl) (fun hHeld => ?_)
      clear hK K
      refine norm_ (a' := ?_) ?_ ?_
      rotate_left
      ·show Act.put _ (some 8) _ = _
       simp only [Act.put, List.setIfInBounds_toArray, List.set_cons_zero, List.set_cons_succ, i64_w, i32_w]
       rfl
      refine one_ (i := 2) (N := some 64) (lb 13 519) rfl rfl (by kernel_rfl) (by decide) (fun K hK => ?_)
      refine goes_ Tryz.func11 (by kernel_rfl) rfl #[.pointer (some ⟨w.heap.size + 1, 0, none⟩)] (by rfl) rfl rfl (by (try simp only [List.map_toArray, List.map_cons, List.map_nil]); first | done | rfl) ?_
      with_reducible refine (HStr.out _ FF.out (by have := FB.out.size; have := HS2.out; omega)).mono ?_
      rintro e wb ⟨rfl, hb, hf, ho⟩
      refine ⟨_, rfl, ?_⟩
      have m0 := Below.trans FB.out hb
      have m1 := hf
      have m2 := ho _ _ FZ.out (by have := FG.out; intro h5; injection h5 with h5; omega) (fun c fz h5 => by injection h5 with h6 h7 h8; exact absurd h7 (by decide))
      have n0 := Aside0.mk m0
      have n1 := Aside0.mk m1
      have n2 := Aside0.mk m2
      clear FB FF FZ
      have FB := n0
      have FF := n1
      have FZ := n2
      clear n0 n1 n2
      clear hb hf ho m0 m1 m2
      refine hK.out _ _ ((blk_cell (FB.out.block w.heap.size (Nat.lt_succ_self _) |>.trans HK1.out) 0).trans rfl) (fun hHeld => ?_)
      clear hK K
      refine norm_ (a' := ?_) ?_ ?_
      rotate_left
      ·show Act.put _ (some 64) _ = _
       simp only [Act.put, List.setIfInBounds_toArray, List.set_cons_zero, List.set_cons_succ, i64_w, i32_w]
       rfl
      refine one_ (i := 3) (N := some 65) (lb 13 527) rfl rfl (by kernel_rfl) (by decide) (fun K hK => ?_)
      refine conv_step (by rfl) (N := 65) rfl 9 33 5 _ rfl TS rfl (by have := HMs.out; omega) Tryz.underlying9 Tryz.underlying33 Tryz.underlying5 ?_
      intro A75 c75 wc hC hcc hb
      rw [HMs.out, HTd.out] at hC
      rw [HMs.out]
      have n0 : Aside0 (Below (w.heap.size + 1) W2 wc) := ⟨Below.trans FB.out (below_weak (B' := w.heap.size + 1) hb (by have := FB.out.size; have := HS2.out; omega))⟩
      have n1 := Aside0.mk (Bld.isbF_below FF.out hb)
      have n2 := Aside0.mk (blk_below FZ.out hb)
      clear FB FF FZ
      have FB := n0
      have FF := n1
      have FZ := n2
      clear n0 n1 n2
      have FC := Aside0.mk hC
      clear hC hb hcc
      refine hK.out _ _ ((blk_cell (FB.out.block w.heap.size (Nat.lt_succ_self _) |>.trans HK1.out) 0).trans rfl) (fun hHeld => ?_)
      clear hK K
      refine norm_ (a' := ?_) ?_ ?_
      rotate_left
      ·show Act.put _ (some 65) _ = _
       simp only [Act.put, List.setIfInBounds_toArray, List.set_cons_zero, List.set_cons_succ, i64_w, i32_w]
       rfl
      refine one_ (i := 4) (N := some 66) (lb 13 543) rfl rfl (by kernel_rfl) (by decide) (fun K hK => ?_)
      refine goes_ Tryz.func7 (by kernel_rfl) rfl #[.bool false, .slice A75 M c75] (by rfl) rfl rfl (by (try simp only [List.map_toArray, List.map_cons, List.map_nil]); first | done | rfl) ?_
      with_reducible refine (HPa.out _ _ _ FC.out FB.out).mono ?_
      rintro e wd ⟨A8, c8, rfl, hb, hc8, hP⟩
      refine ⟨_, rfl, ?_⟩
      have n0 : Aside0 (Below (w.heap.size + 1) W2 wd) := ⟨Below.trans FB.out (below_weak (B' := w.heap.size + 1) hb (by have := FB.out.size; have := HS2.out; omega))⟩
      have n1 := Aside0.mk (Bld.isbF_below FF.out hb)
      have n2 := Aside0.mk (blk_below FZ.out hb)
      clear FB FF FZ
      have FB := n0
      have FF := n1
      have FZ := n2
      clear n0 n1 n2
      have FP := Aside0.mk hP
      have FN := Aside0.mk hc8
      clear FC hP hb hc8
      refine hK.out _ _ ((blk_cell (FB.out.block w.heap.size (Nat.lt_succ_self _) |>.trans HK1.out) 0).trans rfl) (fun hHeld => ?_)
      clear hK K
      refine norm_ (a' := ?_) ?_ ?_
      rotate_left
      ·show Act.put _ (some 66) _ = _
       simp only [Act.put, List.setIfInBounds_toArray, List.set_cons_zero, List.set_cons_succ, i64_w, i32_w]
       rfl
      refine pv 5 61 (lb 13 575) ?_
      refine pv 6 67 (lb 13 639) ?_
      refine pv 7 68 (lb 13 767) ?_
      refine pv 8 69 (lb 13 1023) ?_
      exact norm_ (by simp only [putAll, Act.put, List.setIfInBounds_toArray, List.set_cons_zero, List.set_cons_succ]) (hCont (g, (A75, c75), (A8, c8)) _ ⟨FZ.out, FG.out, FB.out, FF.out, FN.out, FP.out⟩)
    rintro ⟨g, ⟨A75, c75⟩, ⟨A8, c8⟩⟩ wf ⟨hz, hg2, hb, hf, hc8, hP⟩
    clear FB FF
    have FB := Aside0.mk hb
    have FF := Aside0.mk hf
    have FG := Aside0.mk hg2
    have FN := Aside0.mk hc8
    have FP := Aside0.mk hP
    have hHeld : wf.cell? ⟨w.heap.size, 0, none⟩ = some (.bool false) := (blk_cell (FB.out.block w.heap.size (Nat.lt_succ_self _) |>.trans HK1.out) 0).trans rfl
    have zz10 := cz7 hz
    have FZ := Aside0.mk hz
    clear hz hg2 hb hf hc8 hP
    dsimp only
    refine norm_ (a' := ?_) ?_ ?_
    rotate_left
    ·simp only [putAll, Act.put, List.setIfInBounds_toArray, List.set_cons_zero, List.set_cons_succ]
     rfl
    refine one_ (i := 10) (N := none) (lb 13 2047) rfl rfl (by kernel_rfl) (by decide) (fun K hK => ?_)
    refine skip_ (w1 := ?_) (by rfl) rfl ?_ ?_
    rotate_left
    ·go_simp
     rfl
    obtain ⟨w9, hw9, hz, hb, hf, hP⟩ := head_put x A8 c8 FZ.out FB.out (by have := FG.out; omega) FF.out (by have := FG.out; omega) FP.out
    rw [← hw9]
    clear hw9 FB FF FP FZ hHeld zz10
    have FB := Aside0.mk hb
    have FF := Aside0.mk hf
    have FP := Aside0.mk hP
    have FZ := Aside0.mk hz
    clear hz hb hf hP
    refine hK.out _ _ ((blk_cell (FB.out.block w.heap.size (Nat.lt_succ_self _) |>.trans HK1.out) 0).trans rfl) (fun hHeld => ?_)
    clear hK K
    refine pv 11 9 (lb 13 4095) ?_
    refine pv 12 10 (lb 13 8191) ?_
    refine done_ (by kernel_rfl) ?_
    obtain ⟨A9, c9, e9, hc9, hC9⟩ := Kd.R_reads FP.out
    injection e9 with e91 e92 e93
    subst e91
    subst e93
    have FS : Aside0 (∀ W, Below w9.heap.size w9 W → Calls Tryz.prog 13 #[.agg #[.bool x.f0, .string x.f1, .string x.f2, .int .i64 x.f3, .int .i64 x.f4, .string x.f5, .slice A8 x.f6.length c8], .agg #[.bool false, .string h.f1, .string h.f2, .int .i64 h.f3, .int .i64 h.f4, .string h.f5, .slice A kk c]] W fun e w' => e = .returned (.bool (sameB x h)) ∧ Below W.heap.size W w') := ⟨fun W hW => by
     have h5 := same_calls x h A8 A c8 c W (by have := HXl.out; omega) (Kd.C_below hC9 hW) FN.out (Kd.C_below HR.out (HB2.out.trans (below_weak (B := w.heap.size + 1) (FB.out.trans (below_weak (B' := w.heap.size + 1) hW (by have := FB.out.size; have := HS2.out; omega))) (Nat.le_succ _)))) (by rw [← HN.out]; exact Hc.out)
     unfold hdV at h5
     rw [Hf0.out, ← HN.out] at h5
     exact h5⟩
    have y0 : w9.cell? ⟨g, 0, none⟩ = some (.bool x.f0) := (blk_cell FZ.out 0).trans rfl
    have y1 : w9.cell? ⟨g, 1, none⟩ = some (.string x.f1) := (blk_cell FZ.out 1).trans rfl
    have y2 : w9.cell? ⟨g, 2, none⟩ = some (.string x.f2) := (blk_cell FZ.out 2).trans rfl
    have y3 : w9.cell? ⟨g, 3, none⟩ = some (.int .i64 x.f3) := (blk_cell FZ.out 3).trans rfl
    have y4 : w9.cell? ⟨g, 4, none⟩ = some (.int .i64 x.f4) := (blk_cell FZ.out 4).trans rfl
    have y5 : w9.cell? ⟨g, 5, none⟩ = some (.string x.f5) := (blk_cell FZ.out 5).trans rfl
    have y6 : w9.cell? ⟨g, 6, none⟩ = some (.slice A8 x.f6.length c8) := (blk_cell FZ.out 6).trans rfl
    have FK : Aside0 (w9.heap[w.heap.size]? = some (.cells #[.bool false, .string h.f1, .string h.f2, .int .i64 h.f3, .int .i64 h.f4, .string h.f5, .slice A kk c] 24 (0, 0))) := ⟨(FB.out.block _ (Nat.lt_succ_self _)).trans HK1.out⟩
    have q0 : w9.cell? ⟨w.heap.size, 0, none⟩ = some (.bool false) := (blk_cell FK.out 0).trans rfl
    have q1 : w9.cell? ⟨w.heap.size, 1, none⟩ = some (.string h.f1) := (blk_cell FK.out 1).trans rfl
    have q2 : w9.cell? ⟨w.heap.size, 2, none⟩ = some (.string h.f2) := (blk_cell FK.out 2).trans rfl
    have q3 : w9.cell? ⟨w.heap.size, 3, none⟩ = some (.int .i64 h.f3) := (blk_cell FK.out 3).trans rfl
    have q4 : w9.cell? ⟨w.heap.size, 4, none⟩ = some (.int .i64 h.f4) := (blk_cell FK.out 4).trans rfl
    have q5 : w9.cell? ⟨w.heap.size, 5, none⟩ = some (.string h.f5) := (blk_cell FK.out 5).trans rfl
    have q6 : w9.cell? ⟨w.heap.size, 6, none⟩ = some (.slice A kk c) := (blk_cell FK.out 6).trans rfl
    clear hC9 hc9
    by_cases hpe : pe = 0
    ·by_cases hpn : pn = (M : Int)
     ·rcases hsm : sameB x h with _ | _
      ·go_wp2_with (first | (go_at_call 12; with_reducible refine (HLe.out _ FF.out).mono ?_; rintro e wl ⟨rfl, rfl⟩) | (go_at_call 13; with_reducible refine (FS.out _ (Below.refl _ _)).mono ?_; rintro e ws ⟨rfl, hb⟩; rw [hsm]; have FBs : Aside0 (Below (w.heap.size + 1) W2 ws) := ⟨FB.out.trans (below_weak (B' := w.heap.size + 1) hb (by have := FB.out.size; have := HS2.out; omega))⟩; have FFs := Aside0.mk (Bld.isbF_below FF.out hb); clear hb))
       go_ret2
       exact ⟨by rw [printS_no h x pn pe M HPr.out HMt.out (.inr (.inr hsm))]; rfl, HB2.out.trans (below_weak (B := w.heap.size + 1) FBs.out (Nat.le_succ _))⟩
      ·go_wp2_with (first | (go_at_call 12; with_reducible refine (HLe.out _ FF.out).mono ?_; rintro e wl ⟨rfl, rfl⟩) | (go_at_call 13; with_reducible refine (FS.out _ (Below.refl _ _)).mono ?_; rintro e ws ⟨rfl, hb⟩; rw [hsm]; have FBs : Aside0 (Below (w.heap.size + 1) W2 ws) := ⟨FB.out.trans (below_weak (B' := w.heap.size + 1) hb (by have := FB.out.size; have := HS2.out; omega))⟩; have FFs := Aside0.mk (Bld.isbF_below FF.out hb); clear hb) | (go_at_call 11; refine (HStr.out _ (by repeat (first | exact FFs.out | exact Bld.isbF_below FFs.out (below_drew1 (Below.refl _ _)))) (by have h5 := FBs.out.size; have h6 := HS2.out; show _ ≤ ws.heap.size; omega)).mono ?_; rintro e wt ⟨rfl, hb, hf, ho⟩; have FBt : Aside0 (Below (w.heap.size + 1) W2 wt) := ⟨Below.trans (by repeat (first | exact FBs.out | apply below_drew1 | apply pw_below_drewN)) hb⟩; clear hb hf ho))
       go_ret2
       exact ⟨by rw [printS_yes h x pn pe M HPr.out HMt.out (by rw [← HN.out]; exact HL.out) hpe hpn hsm, HTS.out]; rfl, HB2.out.trans (below_weak (B := w.heap.size + 1) FBt.out (Nat.le_succ _))⟩
     ·go_wp2_with (go_at_call 12; with_reducible refine (HLe.out _ FF.out).mono ?_; rintro e wl ⟨rfl, rfl⟩)
      go_ret2
      exact ⟨by rw [printS_no h x pn pe M HPr.out HMt.out (.inr (.inl hpn))]; rfl, HB2.out.trans (below_weak (B := w.heap.size + 1) FB.out (Nat.le_succ _))⟩
    ·go_wp2_with fail
     go_ret2
     exact ⟨by rw [printS_no h x pn pe M HPr.out HMt.out (.inl hpe)]; rfl, HB2.out.trans (below_weak (B := w.heap.size + 1) FB.out (Nat.le_succ _))⟩
/-- Print. -/
theorem print_calls (h : Head) (A : Option Addr) (c : Nat) (w : World) (hr : Kd.C P.k45 w A h.f6.length h.f6) (hc : h.f6.length ≤ c) (hl2 : h.f6.length ≤ 4294960000) (hb : h.f6.length ≤ 100 → (textS h).length ≤ 4294930000) (hG : GInv w)
  (i30 : -9223372036854775808 ≤ h.f3) (i31 : h.f3 ≤ 9223372036854775807) (i40 : -9223372036854775808 ≤ h.f4) (i41 : h.f4 ≤ 9223372036854775807) : Calls Tryz.prog 4 #[hdV h (.slice A h.f6.length c)] w (PrintPost (printS h) w) := by
 by_cases hl : h.f6.length ≤ 100
 ·rcases hf : h.f0 with _ | _
  ·exact print_false h A c w hr hc hl (hb hl) hG i30 i31 i40 i41 hf
  ·exact print_true h A c w hr hc hl (hb hl) hG i30 i31 i40 i41 hf
 ·have e1 : printS h = ([], 4) := by unfold printS; rw [if_pos (by omega)]
  rw [e1]
  exact print_many h A c w (by omega) hl2
end Go.Proofs.YtmlgejgnjfbblaaGreatDoor.Hd
