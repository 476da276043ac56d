/- HeadCut: the walk; own text of this session (gen_lhcut.py). -/
import Derived.Test.YtccolnlfjbgnmaaGreatDoorHdL
namespace Go.Proofs.YtccolnlfjbgnmaaGreatDoor.Hd
open Go.RowKit Go.Proofs.YtccolnlfjbgnmaaGreatDoorW.PrintWords Go.Proofs.YtccolnlfjbgnmaaGreatDoorW.PrintLast Chk Px Hr
set_option linter.unusedVariables false
set_option linter.unusedSimpArgs false
theorem C_tak {w : World} {A : Option Addr} {n : Nat} {xs : List Int} (h : (Kd.int .u8).C w A n xs) (i : Nat) (hi : i ≤ n) : (Kd.int .u8).C w A i (xs.take i) :=
  Kd.C_of_reads (d := (0 : Int)) (h1 := fun _ => rfl) (ReadsOf.take_ (Kd.reads_of_C (enc := Value.int .u8) (d := (0 : Int)) (h1 := fun _ => rfl) h) i hi)
set_option maxHeartbeats 4000000 in
set_option maxRecDepth 100000 in
theorem cut_no (a0 : Bool) (A0 : Option Addr) (c0 : Nat) (l0 : List Int) (at_ : Int) (A1 : Option Addr) (n1 c1 : Nat) (w : World) (hr0 : Kd.C (Kd.int .u8) w A0 l0.length l0) (hc0 : l0.length ≤ c0) (hb0 : l0.length ≤ 1048576) (hG : GInv w) (he : ¬ (parseS a0 l0).2.2 = 0) :
    Calls Tryz.prog 6 #[.bool a0, .agg #[.slice A0 l0.length c0, .int .i64 at_, .slice A1 n1 c1]] w fun e w' => e = .returned (.bool true) ∧ Below w.heap.size w w' := by
  obtain ⟨x, hx⟩ : ∃ x, x = (parseS a0 l0).1 := ⟨_, rfl⟩
  obtain ⟨er, her⟩ : ∃ er, er = (parseS a0 l0).2.2 := ⟨_, rfl⟩
  have hn := (parseS_no a0 l0 he).1
  have HPa : Aside0 (∀ W, Below w.heap.size w W → Calls Tryz.prog 18 #[.bool a0, .slice A0 l0.length c0] W fun e w1 => ∃ A7 c7, e = .returned (.tuple #[.agg #[.bool x.f0, .string x.f1, .string x.f2, .int .i64 x.f3, .int .i64 x.f4, .string x.f5, .slice A7 x.f6.length c7], .int .i64 0, .int .i64 er]) ∧ Below W.heap.size W w1 ∧ x.f6.length ≤ c7 ∧ fldK.R 37 w1 0 (fun _ => True) (.slice A7 x.f6.length c7) x.f6) := ⟨fun W hW => by
    have h5 := parse_x a0 l0 W A0 c0 (Kd.C_below hr0 hW) (by omega) (hG.below hW)
    rw [hn, ← hx, ← her] at h5
    exact h5⟩
  rw [← her] at he
  have HG := Aside0.mk hG
  clear hx her hn hr0 hG
  obtain ⟨N, hN⟩ : ∃ N, N = l0.length := ⟨_, rfl⟩
  rw [← hN] at HPa hc0 hb0 ⊢
  clear hN
  go_enter Tryz.func6, Tryz.ntmps6
  go_wp2_with (first | (go_at_call 18; with_reducible refine (HPa.out _ (by repeat (first | exact below_alloc (Below.refl _ _) _ | apply below_drew1 | apply pw_below_drewN))).mono ?_; rintro e w2 ⟨A7, c7, rfl, hb, hc7, hR⟩; have HB2 := Aside0.mk (below_step (below_alloc (Below.refl w.heap.size w) (.cells #[.slice A0 N c0, .int .i64 at_, .slice A1 n1 c1] 45)) hb); have HK2 := Aside0.mk (blk_below (blk_new w (.cells #[.slice A0 N c0, .int .i64 at_, .slice A1 n1 c1] 45)) hb); have HR2 := Aside0.mk hR; have Hc7 := Aside0.mk hc7; clear hb hc7 hR) | (have HBS : Aside0 (Below w.heap.size w (w2.alloc (.cells #[.bool x.f0, .string x.f1, .string x.f2, .int .i64 x.f3, .int .i64 x.f4, .string x.f5, .slice A7 x.f6.length c7] 24))) := ⟨HB2.out.alloc HB2.out.size _⟩; (go_at_call 17; with_reducible refine (Hd.speaks_calls _ (HG.out.below (by repeat (first | exact HBS.out | apply below_drew1 | apply pw_below_drewN)))).mono ?_; rintro e w9 ⟨rfl, hb⟩; have HB9 := Aside0.mk (below_step (by repeat (first | exact HBS.out | apply below_drew1 | apply pw_below_drewN)) hb); clear hb)))
  go_ret
  exact ⟨rfl, HB9.out⟩
set_option maxHeartbeats 4000000 in
set_option maxRecDepth 100000 in
theorem cut_in (a0 : Bool) (A0 : Option Addr) (c0 : Nat) (l0 : List Int) (j k : Nat) (A1 : Option Addr) (c1 : Nat) (l1 : List Int) (w : World) (hr0 : Kd.C (Kd.int .u8) w A0 l0.length l0) (hc0 : l0.length ≤ c0) (hr1 : Kd.C (Kd.int .u8) w A1 l1.length l1) (hc1 : l1.length ≤ c1) (hb0 : l0.length ≤ 1048576) (hb1 : l1.length ≤ 1048576) (hG : GInv w) (he : (parseS a0 l0).2.2 = 0) (hn : (parseS a0 l0).2.1 = ((k : Nat) : Int)) (hk1 : 1 ≤ k) (hk2 : k ≤ l0.length) (hlt : j < k) (hcj : parseS a0 (l0.take j) = (head0 false, 0, 6)) (hcm : parseS a0 (l0.take k ++ l1) = parseS a0 l0) :
    Calls Tryz.prog 6 #[.bool a0, .agg #[.slice A0 l0.length c0, .int .i64 (j : Int), .slice A1 l1.length c1]] w fun e w' => e = .returned (.bool true) ∧ Below w.heap.size w w' := by
  obtain ⟨x, hx⟩ : ∃ x, x = (parseS a0 l0).1 := ⟨_, rfl⟩
  have hpe : parseS a0 l0 = (x, (k : Int), 0) := by
    have h1 : parseS a0 l0 = ((parseS a0 l0).1, (parseS a0 l0).2.1, (parseS a0 l0).2.2) := rfl
    rw [h1, hn, he, hx]
    all_goals rfl
  have hjk : j < k := by omega
  have HPa : Aside0 (∀ W, Below w.heap.size w W → Calls Tryz.prog 18 #[.bool a0, .slice A0 l0.length c0] W fun e w1 => ∃ A7 c7, e = .returned (.tuple #[.agg #[.bool x.f0, .string x.f1, .string x.f2, .int .i64 x.f3, .int .i64 x.f4, .string x.f5, .slice A7 x.f6.length c7], .int .i64 (k : Int), .int .i64 0]) ∧ Below W.heap.size W w1 ∧ x.f6.length ≤ c7 ∧ fldK.R 37 w1 0 (fun _ => True) (.slice A7 x.f6.length c7) x.f6) := ⟨fun W hW => by
    have h5 := parse_x a0 l0 W A0 c0 (Kd.C_below hr0 hW) (by omega) (hG.below hW)
    rw [hpe] at h5
    exact h5⟩
  have HPb : Aside0 (∀ W, Below w.heap.size w W → Calls Tryz.prog 18 #[.bool a0, .slice A0 j c0] W fun e w1 => ∃ AB cB, e = .returned (.tuple #[.agg #[.bool false, .string ⟨#[]⟩, .string ⟨#[]⟩, .int .i64 0, .int .i64 0, .string ⟨#[]⟩, .slice AB 0 cB], .int .i64 0, .int .i64 6]) ∧ Below W.heap.size W w1) := ⟨fun W hW => by
    have hj : (l0.take j).length = j := by rw [List.length_take]; omega
    have h5 := parse_x a0 (l0.take j) W A0 c0 (by rw [hj]; exact C_tak (Kd.C_below hr0 hW) j (by omega)) (by omega) (hG.below hW)
    rw [hcj, hj] at h5
    refine h5.mono ?_
    rintro e w1 ⟨AB, cB, rfl, hb, hc, hR⟩
    exact ⟨AB, cB, rfl, hb⟩⟩
  obtain ⟨T, hT⟩ : ∃ T, k + l1.length = T := ⟨_, rfl⟩
  have HLn : Aside0 ((l0.take k).length = k) := ⟨by rw [List.length_take]; omega⟩
  have HL6 : Aside0 ((l0.take k ++ l1).length = T) := ⟨by rw [List.length_append, HLn.out]; exact hT⟩
  have HPc : Aside0 (∀ W A c, Below w.heap.size w W → Kd.C (Kd.int .u8) W A T (l0.take k ++ l1) → Calls Tryz.prog 18 #[.bool a0, .slice A T c] W fun e w1 => ∃ A8 c8, e = .returned (.tuple #[.agg #[.bool x.f0, .string x.f1, .string x.f2, .int .i64 x.f3, .int .i64 x.f4, .string x.f5, .slice A8 x.f6.length c8], .int .i64 (k : Int), .int .i64 0]) ∧ Below W.heap.size W w1 ∧ x.f6.length ≤ c8 ∧ fldK.R 37 w1 0 (fun _ => True) (.slice A8 x.f6.length c8) x.f6) := ⟨fun W A c hW hC => by
    have h5 := parse_x a0 (l0.take k ++ l1) W A c (by rw [HL6.out]; exact hC) (by rw [HL6.out]; omega) (hG.below hW)
    rw [hcm, hpe, HL6.out] at h5
    exact h5⟩
  have hxl : x.f6.length ≤ 4294950000 := by rw [hx]; exact parseS_fields a0 l0 (by omega)
  have HPl : Aside0 (∀ (W : World) (A B : Option Addr) (c d : Nat), fldK.R 37 W 0 (fun _ => True) (.slice A x.f6.length c) x.f6 → fldK.R 37 W 0 (fun _ => True) (.slice B x.f6.length d) x.f6 → x.f6.length ≤ c → x.f6.length ≤ d → Calls Tryz.prog 19 #[hdV x (.slice A x.f6.length c), hdV x (.slice B x.f6.length d)] W fun e w' => e = .returned (.bool true) ∧ Below W.heap.size W w') := ⟨fun W A B c d h1 h2 hc hd => by
    obtain ⟨P1, q1, e1, -, f1⟩ := Kd.R_reads h1
    obtain ⟨P2, q2, e2, -, f2⟩ := Kd.R_reads h2
    injection e1 with e3 e4 e5
    injection e2 with e6 e7 e8
    subst e3; subst e6
    exact plain_same x A B c d W (by omega) f1 hc f2 hd⟩
  have HG := Aside0.mk hG
  have HC0 := Aside0.mk (C_tak hr0 k hk2)
  have HC1 := Aside0.mk hr1
  have hj0 : (0 : Int) ≤ (j : Int) := by omega
  have hjc : (j : Int) ≤ (c0 : Int) := by omega
  have hkc : (k : Int) ≤ (c0 : Int) := by omega
  have hc1z : (l1.length : Int) ≤ (c1 : Int) := by omega
  have hTz : (T : Int) ≤ 2097152 := by omega
  have HTM := Aside0.mk hT
  have hc1_ : ¬ (k : Int) < 1 := by omega
  have hc3_ : ¬ (j : Int) < 0 := by omega
  have hc4_ : ¬ (k : Int) ≤ (j : Int) := by omega
  have hc5_ : ¬ k ≤ j := by omega
  have hk1 := Aside0.mk hk1
  clear hx hpe hn he hcj hcm hr0 hr1 hG hT hjk hlt
  obtain ⟨N, hN⟩ : ∃ N, N = l0.length := ⟨_, rfl⟩
  rw [← hN] at HPa hc0 hb0 hk2 ⊢
  clear hN
  obtain ⟨M, hM⟩ : ∃ M, M = l1.length := ⟨_, rfl⟩
  rw [← hM] at HC1 hc1 hb1 hc1z HTM ⊢
  clear hM
  have hc6_ : ¬ (N : Int) < (k : Int) := by omega
  have hc7_ : ¬ N < k := by omega
  have Hk2 := Aside0.mk hk2
  clear hk2
  go_enter Tryz.func6, Tryz.ntmps6
  go_wp2_with fail
  with_reducible refine (HPa.out _ (by repeat (first | exact below_alloc (Below.refl _ _) _ | apply below_drew1 | apply pw_below_drewN))).mono ?_; rintro e w2 ⟨A7, c7, rfl, hb, hc7, hR⟩; have HB2 := Aside0.mk (below_step (below_alloc (Below.refl w.heap.size w) (.cells #[.slice A0 N c0, .int .i64 (j : Int), .slice A1 M c1] 45)) hb); have HK2 := Aside0.mk (blk_below (blk_new w (.cells #[.slice A0 N c0, .int .i64 (j : Int), .slice A1 M c1] 45)) hb); have HR2 := Aside0.mk hR; have Hc7 := Aside0.mk hc7; clear hb hc7 hR
  go_wp2_with fail
  with_reducible refine (HPb.out _ (by repeat (first | exact HB2.out | apply below_alloc | apply below_drew1 | apply pw_below_drewN))).mono ?_
  rintro e w3 ⟨AB, cB, rfl, hb⟩
  have HB3 := Aside0.mk (below_step (by repeat (first | exact HB2.out | apply below_alloc | apply below_drew1 | apply pw_below_drewN)) hb)
  have HBX : Aside0 (Below w2.heap.size w2 w3) := ⟨below_step (below_alloc (Below.refl _ _) _) hb⟩
  have HK3 := Aside0.mk (blk_below (blk_alloc HK2.out _) hb)
  have HX3 := Aside0.mk (blk_below (blk_new w2 (.cells #[.bool x.f0, .string x.f1, .string x.f2, .int .i64 x.f3, .int .i64 x.f4, .string x.f5, .slice A7 x.f6.length c7] 24)) hb)
  clear hb
  have HS3 : Aside0 ((w3.alloc (.cells #[.bool false, .string ⟨#[]⟩, .string ⟨#[]⟩, .int .i64 0, .int .i64 0, .string ⟨#[]⟩, .slice AB 0 cB] 24)).heap.size = w3.heap.size + 1) := ⟨World.size_alloc ..⟩
  have HKW := Aside0.mk (blk_alloc HK3.out (.cells #[.bool false, .string ⟨#[]⟩, .string ⟨#[]⟩, .int .i64 0, .int .i64 0, .string ⟨#[]⟩, .slice AB 0 cB] 24))
  go_wp2_with (first | ((with_reducible refine gate_builtin (b := .append) (xs := #[.tmp 61, .tmp 64]) rfl ?_); at_builtin; go_loud (refine Kd.R_append_row (Value.int .u8) 0 (h1 := fun _ => rfl) (w0 := _) (w3.heap.size + 1) rfl (.tmp 61) (.tmp 64) 33 5 (.int .u8 0) 1 rfl Tryz.underlying33 info_u8 rfl (by decide) (.slice none 0 0) [] (l0.take k) A0 k c0 (fun _ => True) rfl rfl (fun _ _ => trivial) (Kd.R_nil _ _ _ _ _) (Kd.C_below HC0.out (below_alloc HB3.out _)) (Below.refl _ _) (by rw [HS3.out]; exact Nat.le_refl _) (by simp only [List.length_nil]; have := Hk2.out; omega) ?_; intro v5 w5 hR5 hb5 hg5 hat5; have HR5 := Aside0.mk hR5; have HB5 := Aside0.mk hb5; have HB05 := Aside0.mk (below_step (below_alloc HB3.out (.cells #[.bool false, .string ⟨#[]⟩, .string ⟨#[]⟩, .int .i64 0, .int .i64 0, .string ⟨#[]⟩, .slice AB 0 cB] 24)) (by rw [HS3.out]; exact hb5)); have hK5 := (hb5.block w.heap.size (by have h5 := blk_lt HKW.out; rw [HS3.out] at h5; exact h5)).trans HKW.out; have hz2 : w5.cell? ⟨w.heap.size, 2, none⟩ = some (.slice A1 M c1) := (blk_cell hK5 2).trans rfl; clear hR5 hb5 hg5 hat5 hK5)) | ((with_reducible refine gate_builtin (b := .append) (xs := #[.tmp 66, .tmp 68]) rfl ?_); at_builtin; go_loud (refine Kd.R_append_row (Value.int .u8) 0 (h1 := fun _ => rfl) (w0 := _) (w3.heap.size + 1) rfl (.tmp 66) (.tmp 68) 33 5 (.int .u8 0) 1 rfl Tryz.underlying33 info_u8 rfl (by decide) v5 (l0.take k) l1 A1 M c1 (fun _ => True) rfl rfl (fun _ _ => trivial) HR5.out (Kd.C_below HC1.out HB05.out) HB5.out (by have h5 := HB5.out.size; rw [HS3.out] at h5; exact h5) (by have h5 := HLn.out; have := Hk2.out; omega) ?_; intro v6 w6 hR6 hb6 hg6 hat6; have HB6 := Aside0.mk hb6; have HB06 := Aside0.mk (below_step (below_alloc HB3.out (.cells #[.bool false, .string ⟨#[]⟩, .string ⟨#[]⟩, .int .i64 0, .int .i64 0, .string ⟨#[]⟩, .slice AB 0 cB] 24)) (by rw [HS3.out]; exact hb6)); obtain ⟨A6, c6, e6, hc6, hC6⟩ := Kd.R_reads hR6; subst e6; rw [HL6.out] at hC6 hc6; rw [HL6.out]; have HC6 := Aside0.mk hC6; clear hR6 hb6 hg6 hat6 hC6)))
  refine (HPc.out _ _ _ HB06.out HC6.out).mono ?_
  rintro e w7 ⟨A8, c8, rfl, hb, hc8, hR8⟩
  have HB07 := Aside0.mk (below_step HB06.out hb)
  have hB7 : Below (w3.heap.size + 1) (w3.alloc (.cells #[.bool false, .string ⟨#[]⟩, .string ⟨#[]⟩, .int .i64 0, .int .i64 0, .string ⟨#[]⟩, .slice AB 0 cB] 24)) w7 := below_then HB6.out (by have h5 := HB6.out.size; rw [HS3.out] at h5; exact h5) hb
  have hX7 : w7.heap[w2.heap.size]? = some (.cells #[.bool x.f0, .string x.f1, .string x.f2, .int .i64 x.f3, .int .i64 x.f4, .string x.f5, .slice A7 x.f6.length c7] 24 (0, 0)) := (hB7.block w2.heap.size (by have h5 := blk_lt HX3.out; omega)).trans (blk_alloc HX3.out (.cells #[.bool false, .string ⟨#[]⟩, .string ⟨#[]⟩, .int .i64 0, .int .i64 0, .string ⟨#[]⟩, .slice AB 0 cB] 24))
  have HB27 : Aside0 (Below w2.heap.size w2 w7) := ⟨below_step (below_alloc HBX.out (.cells #[.bool false, .string ⟨#[]⟩, .string ⟨#[]⟩, .int .i64 0, .int .i64 0, .string ⟨#[]⟩, .slice AB 0 cB] 24)) (by rw [HS3.out]; exact hB7)⟩
  have HR8 := Aside0.mk hR8
  have Hc8 := Aside0.mk hc8
  have y0 : w7.cell? ⟨w2.heap.size, 0, none⟩ = some (.bool x.f0) := (blk_cell hX7 0).trans rfl
  have y1 : w7.cell? ⟨w2.heap.size, 1, none⟩ = some (.string x.f1) := (blk_cell hX7 1).trans rfl
  have y2 : w7.cell? ⟨w2.heap.size, 2, none⟩ = some (.string x.f2) := (blk_cell hX7 2).trans rfl
  have y3 : w7.cell? ⟨w2.heap.size, 3, none⟩ = some (.int .i64 x.f3) := (blk_cell hX7 3).trans rfl
  have y4 : w7.cell? ⟨w2.heap.size, 4, none⟩ = some (.int .i64 x.f4) := (blk_cell hX7 4).trans rfl
  have y5 : w7.cell? ⟨w2.heap.size, 5, none⟩ = some (.string x.f5) := (blk_cell hX7 5).trans rfl
  have y6 : w7.cell? ⟨w2.heap.size, 6, none⟩ = some (.slice A7 x.f6.length c7) := (blk_cell hX7 6).trans rfl
  have hl7 : w2.heap.size < w7.heap.size := blk_lt hX7
  have hne7 : ¬ w2.heap.size = w7.heap.size := by omega
  have hne8 : ¬ w7.heap.size = w2.heap.size := by omega
  clear hb hc8 hR8 hB7 hX7
  go_wp2_with (first | (go_at_call 19; go_loud (refine (HPl.out _ A8 A7 c8 c7 (Kd.R_below HR8.out (by repeat (first | exact Below.refl _ _ | apply below_alloc | apply below_drew1 | apply pw_below_drewN))) (Kd.R_below HR2.out (by repeat (first | exact HB27.out | apply below_alloc | apply below_drew1 | apply pw_below_drewN))) Hc8.out Hc7.out).mono ?_; rintro e w8 ⟨rfl, hb⟩; have HB08 := Aside0.mk (below_step (by repeat (first | exact HB07.out | apply below_alloc | apply below_drew1 | apply pw_below_drewN)) hb); clear hb)) | (go_at_call 17; go_loud (refine (Hd.speaks_calls _ (HG.out.below (by repeat (first | exact HB08.out | apply below_alloc | apply below_drew1 | apply pw_below_drewN)))).mono ?_; rintro e w9 ⟨rfl, hb⟩; have HB09 := Aside0.mk (below_step (by repeat (first | exact HB08.out | apply below_alloc | apply below_drew1 | apply pw_below_drewN)) hb); clear hb)))
  go_ret
  exact ⟨rfl, HB09.out⟩
set_option maxHeartbeats 4000000 in
set_option maxRecDepth 100000 in
theorem cut_lo (a0 : Bool) (A0 : Option Addr) (c0 : Nat) (l0 : List Int) (j k : Nat) (A1 : Option Addr) (c1 : Nat) (l1 : List Int) (w : World) (hr0 : Kd.C (Kd.int .u8) w A0 l0.length l0) (hc0 : l0.length ≤ c0) (hr1 : Kd.C (Kd.int .u8) w A1 l1.length l1) (hc1 : l1.length ≤ c1) (hb0 : l0.length ≤ 1048576) (hb1 : l1.length ≤ 1048576) (hG : GInv w) (he : (parseS a0 l0).2.2 = 0) (hn : (parseS a0 l0).2.1 = ((k : Nat) : Int)) (hk1 : 1 ≤ k) (hk2 : k ≤ l0.length) (at_ : Int) (hkj : (k : Int) - 1 = (j : Int)) (ha : at_ < 0) (hcj : parseS a0 (l0.take j) = (head0 false, 0, 6)) (hcm : parseS a0 (l0.take k ++ l1) = parseS a0 l0) :
    Calls Tryz.prog 6 #[.bool a0, .agg #[.slice A0 l0.length c0, .int .i64 at_, .slice A1 l1.length c1]] w fun e w' => e = .returned (.bool true) ∧ Below w.heap.size w w' := by
  obtain ⟨x, hx⟩ : ∃ x, x = (parseS a0 l0).1 := ⟨_, rfl⟩
  have hpe : parseS a0 l0 = (x, (k : Int), 0) := by
    have h1 : parseS a0 l0 = ((parseS a0 l0).1, (parseS a0 l0).2.1, (parseS a0 l0).2.2) := rfl
    rw [h1, hn, he, hx]
    all_goals rfl
  have hjk : j < k := by omega
  have HPa : Aside0 (∀ W, Below w.heap.size w W → Calls Tryz.prog 18 #[.bool a0, .slice A0 l0.length c0] W fun e w1 => ∃ A7 c7, e = .returned (.tuple #[.agg #[.bool x.f0, .string x.f1, .string x.f2, .int .i64 x.f3, .int .i64 x.f4, .string x.f5, .slice A7 x.f6.length c7], .int .i64 (k : Int), .int .i64 0]) ∧ Below W.heap.size W w1 ∧ x.f6.length ≤ c7 ∧ fldK.R 37 w1 0 (fun _ => True) (.slice A7 x.f6.length c7) x.f6) := ⟨fun W hW => by
    have h5 := parse_x a0 l0 W A0 c0 (Kd.C_below hr0 hW) (by omega) (hG.below hW)
    rw [hpe] at h5
    exact h5⟩
  have HPb : Aside0 (∀ W, Below w.heap.size w W → Calls Tryz.prog 18 #[.bool a0, .slice A0 j c0] W fun e w1 => ∃ AB cB, e = .returned (.tuple #[.agg #[.bool false, .string ⟨#[]⟩, .string ⟨#[]⟩, .int .i64 0, .int .i64 0, .string ⟨#[]⟩, .slice AB 0 cB], .int .i64 0, .int .i64 6]) ∧ Below W.heap.size W w1) := ⟨fun W hW => by
    have hj : (l0.take j).length = j := by rw [List.length_take]; omega
    have h5 := parse_x a0 (l0.take j) W A0 c0 (by rw [hj]; exact C_tak (Kd.C_below hr0 hW) j (by omega)) (by omega) (hG.below hW)
    rw [hcj, hj] at h5
    refine h5.mono ?_
    rintro e w1 ⟨AB, cB, rfl, hb, hc, hR⟩
    exact ⟨AB, cB, rfl, hb⟩⟩
  obtain ⟨T, hT⟩ : ∃ T, k + l1.length = T := ⟨_, rfl⟩
  have HLn : Aside0 ((l0.take k).length = k) := ⟨by rw [List.length_take]; omega⟩
  have HL6 : Aside0 ((l0.take k ++ l1).length = T) := ⟨by rw [List.length_append, HLn.out]; exact hT⟩
  have HPc : Aside0 (∀ W A c, Below w.heap.size w W → Kd.C (Kd.int .u8) W A T (l0.take k ++ l1) → Calls Tryz.prog 18 #[.bool a0, .slice A T c] W fun e w1 => ∃ A8 c8, e = .returned (.tuple #[.agg #[.bool x.f0, .string x.f1, .string x.f2, .int .i64 x.f3, .int .i64 x.f4, .string x.f5, .slice A8 x.f6.length c8], .int .i64 (k : Int), .int .i64 0]) ∧ Below W.heap.size W w1 ∧ x.f6.length ≤ c8 ∧ fldK.R 37 w1 0 (fun _ => True) (.slice A8 x.f6.length c8) x.f6) := ⟨fun W A c hW hC => by
    have h5 := parse_x a0 (l0.take k ++ l1) W A c (by rw [HL6.out]; exact hC) (by rw [HL6.out]; omega) (hG.below hW)
    rw [hcm, hpe, HL6.out] at h5
    exact h5⟩
  have hxl : x.f6.length ≤ 4294950000 := by rw [hx]; exact parseS_fields a0 l0 (by omega)
  have HPl : Aside0 (∀ (W : World) (A B : Option Addr) (c d : Nat), fldK.R 37 W 0 (fun _ => True) (.slice A x.f6.length c) x.f6 → fldK.R 37 W 0 (fun _ => True) (.slice B x.f6.length d) x.f6 → x.f6.length ≤ c → x.f6.length ≤ d → Calls Tryz.prog 19 #[hdV x (.slice A x.f6.length c), hdV x (.slice B x.f6.length d)] W fun e w' => e = .returned (.bool true) ∧ Below W.heap.size W w') := ⟨fun W A B c d h1 h2 hc hd => by
    obtain ⟨P1, q1, e1, -, f1⟩ := Kd.R_reads h1
    obtain ⟨P2, q2, e2, -, f2⟩ := Kd.R_reads h2
    injection e1 with e3 e4 e5
    injection e2 with e6 e7 e8
    subst e3; subst e6
    exact plain_same x A B c d W (by omega) f1 hc f2 hd⟩
  have HG := Aside0.mk hG
  have HC0 := Aside0.mk (C_tak hr0 k hk2)
  have HC1 := Aside0.mk hr1
  have hj0 : (0 : Int) ≤ (j : Int) := by omega
  have hjc : (j : Int) ≤ (c0 : Int) := by omega
  have hkc : (k : Int) ≤ (c0 : Int) := by omega
  have hc1z : (l1.length : Int) ≤ (c1 : Int) := by omega
  have hTz : (T : Int) ≤ 2097152 := by omega
  have HTM := Aside0.mk hT
  have hc1_ : ¬ (k : Int) < 1 := by omega
  have hc3_ : ¬ (j : Int) < 0 := by omega
  have hc4_ : ¬ (k : Int) ≤ (j : Int) := by omega
  have hc5_ : ¬ k ≤ j := by omega
  have hk1 := Aside0.mk hk1
  clear hx hpe hn he hcj hcm hr0 hr1 hG hT hjk 
  obtain ⟨N, hN⟩ : ∃ N, N = l0.length := ⟨_, rfl⟩
  rw [← hN] at HPa hc0 hb0 hk2 ⊢
  clear hN
  obtain ⟨M, hM⟩ : ∃ M, M = l1.length := ⟨_, rfl⟩
  rw [← hM] at HC1 hc1 hb1 hc1z HTM ⊢
  clear hM
  have hc6_ : ¬ (N : Int) < (k : Int) := by omega
  have hc7_ : ¬ N < k := by omega
  have Hk2 := Aside0.mk hk2
  clear hk2
  go_enter Tryz.func6, Tryz.ntmps6
  go_wp2_with fail
  with_reducible refine (HPa.out _ (by repeat (first | exact below_alloc (Below.refl _ _) _ | apply below_drew1 | apply pw_below_drewN))).mono ?_; rintro e w2 ⟨A7, c7, rfl, hb, hc7, hR⟩; have HB2 := Aside0.mk (below_step (below_alloc (Below.refl w.heap.size w) (.cells #[.slice A0 N c0, .int .i64 at_, .slice A1 M c1] 45)) hb); have HK2 := Aside0.mk (blk_below (blk_new w (.cells #[.slice A0 N c0, .int .i64 at_, .slice A1 M c1] 45)) hb); have HR2 := Aside0.mk hR; have Hc7 := Aside0.mk hc7; clear hb hc7 hR
  go_wp2_with fail
  with_reducible refine (HPb.out _ (by repeat (first | exact HB2.out | apply below_alloc | apply below_drew1 | apply pw_below_drewN))).mono ?_
  rintro e w3 ⟨AB, cB, rfl, hb⟩
  have HB3 := Aside0.mk (below_step (by repeat (first | exact HB2.out | apply below_alloc | apply below_drew1 | apply pw_below_drewN)) hb)
  have HBX : Aside0 (Below w2.heap.size w2 w3) := ⟨below_step (below_alloc (Below.refl _ _) _) hb⟩
  have HK3 := Aside0.mk (blk_below (blk_alloc HK2.out _) hb)
  have HX3 := Aside0.mk (blk_below (blk_new w2 (.cells #[.bool x.f0, .string x.f1, .string x.f2, .int .i64 x.f3, .int .i64 x.f4, .string x.f5, .slice A7 x.f6.length c7] 24)) hb)
  clear hb
  have HS3 : Aside0 ((w3.alloc (.cells #[.bool false, .string ⟨#[]⟩, .string ⟨#[]⟩, .int .i64 0, .int .i64 0, .string ⟨#[]⟩, .slice AB 0 cB] 24)).heap.size = w3.heap.size + 1) := ⟨World.size_alloc ..⟩
  have HKW := Aside0.mk (blk_alloc HK3.out (.cells #[.bool false, .string ⟨#[]⟩, .string ⟨#[]⟩, .int .i64 0, .int .i64 0, .string ⟨#[]⟩, .slice AB 0 cB] 24))
  go_wp2_with (first | ((with_reducible refine gate_builtin (b := .append) (xs := #[.tmp 61, .tmp 64]) rfl ?_); at_builtin; go_loud (refine Kd.R_append_row (Value.int .u8) 0 (h1 := fun _ => rfl) (w0 := _) (w3.heap.size + 1) rfl (.tmp 61) (.tmp 64) 33 5 (.int .u8 0) 1 rfl Tryz.underlying33 info_u8 rfl (by decide) (.slice none 0 0) [] (l0.take k) A0 k c0 (fun _ => True) rfl rfl (fun _ _ => trivial) (Kd.R_nil _ _ _ _ _) (Kd.C_below HC0.out (below_alloc HB3.out _)) (Below.refl _ _) (by rw [HS3.out]; exact Nat.le_refl _) (by simp only [List.length_nil]; have := Hk2.out; omega) ?_; intro v5 w5 hR5 hb5 hg5 hat5; have HR5 := Aside0.mk hR5; have HB5 := Aside0.mk hb5; have HB05 := Aside0.mk (below_step (below_alloc HB3.out (.cells #[.bool false, .string ⟨#[]⟩, .string ⟨#[]⟩, .int .i64 0, .int .i64 0, .string ⟨#[]⟩, .slice AB 0 cB] 24)) (by rw [HS3.out]; exact hb5)); have hK5 := (hb5.block w.heap.size (by have h5 := blk_lt HKW.out; rw [HS3.out] at h5; exact h5)).trans HKW.out; have hz2 : w5.cell? ⟨w.heap.size, 2, none⟩ = some (.slice A1 M c1) := (blk_cell hK5 2).trans rfl; clear hR5 hb5 hg5 hat5 hK5)) | ((with_reducible refine gate_builtin (b := .append) (xs := #[.tmp 66, .tmp 68]) rfl ?_); at_builtin; go_loud (refine Kd.R_append_row (Value.int .u8) 0 (h1 := fun _ => rfl) (w0 := _) (w3.heap.size + 1) rfl (.tmp 66) (.tmp 68) 33 5 (.int .u8 0) 1 rfl Tryz.underlying33 info_u8 rfl (by decide) v5 (l0.take k) l1 A1 M c1 (fun _ => True) rfl rfl (fun _ _ => trivial) HR5.out (Kd.C_below HC1.out HB05.out) HB5.out (by have h5 := HB5.out.size; rw [HS3.out] at h5; exact h5) (by have h5 := HLn.out; have := Hk2.out; omega) ?_; intro v6 w6 hR6 hb6 hg6 hat6; have HB6 := Aside0.mk hb6; have HB06 := Aside0.mk (below_step (below_alloc HB3.out (.cells #[.bool false, .string ⟨#[]⟩, .string ⟨#[]⟩, .int .i64 0, .int .i64 0, .string ⟨#[]⟩, .slice AB 0 cB] 24)) (by rw [HS3.out]; exact hb6)); obtain ⟨A6, c6, e6, hc6, hC6⟩ := Kd.R_reads hR6; subst e6; rw [HL6.out] at hC6 hc6; rw [HL6.out]; have HC6 := Aside0.mk hC6; clear hR6 hb6 hg6 hat6 hC6)))
  refine (HPc.out _ _ _ HB06.out HC6.out).mono ?_
  rintro e w7 ⟨A8, c8, rfl, hb, hc8, hR8⟩
  have HB07 := Aside0.mk (below_step HB06.out hb)
  have hB7 : Below (w3.heap.size + 1) (w3.alloc (.cells #[.bool false, .string ⟨#[]⟩, .string ⟨#[]⟩, .int .i64 0, .int .i64 0, .string ⟨#[]⟩, .slice AB 0 cB] 24)) w7 := below_then HB6.out (by have h5 := HB6.out.size; rw [HS3.out] at h5; exact h5) hb
  have hX7 : w7.heap[w2.heap.size]? = some (.cells #[.bool x.f0, .string x.f1, .string x.f2, .int .i64 x.f3, .int .i64 x.f4, .string x.f5, .slice A7 x.f6.length c7] 24 (0, 0)) := (hB7.block w2.heap.size (by have h5 := blk_lt HX3.out; omega)).trans (blk_alloc HX3.out (.cells #[.bool false, .string ⟨#[]⟩, .string ⟨#[]⟩, .int .i64 0, .int .i64 0, .string ⟨#[]⟩, .slice AB 0 cB] 24))
  have HB27 : Aside0 (Below w2.heap.size w2 w7) := ⟨below_step (below_alloc HBX.out (.cells #[.bool false, .string ⟨#[]⟩, .string ⟨#[]⟩, .int .i64 0, .int .i64 0, .string ⟨#[]⟩, .slice AB 0 cB] 24)) (by rw [HS3.out]; exact hB7)⟩
  have HR8 := Aside0.mk hR8
  have Hc8 := Aside0.mk hc8
  have y0 : w7.cell? ⟨w2.heap.size, 0, none⟩ = some (.bool x.f0) := (blk_cell hX7 0).trans rfl
  have y1 : w7.cell? ⟨w2.heap.size, 1, none⟩ = some (.string x.f1) := (blk_cell hX7 1).trans rfl
  have y2 : w7.cell? ⟨w2.heap.size, 2, none⟩ = some (.string x.f2) := (blk_cell hX7 2).trans rfl
  have y3 : w7.cell? ⟨w2.heap.size, 3, none⟩ = some (.int .i64 x.f3) := (blk_cell hX7 3).trans rfl
  have y4 : w7.cell? ⟨w2.heap.size, 4, none⟩ = some (.int .i64 x.f4) := (blk_cell hX7 4).trans rfl
  have y5 : w7.cell? ⟨w2.heap.size, 5, none⟩ = some (.string x.f5) := (blk_cell hX7 5).trans rfl
  have y6 : w7.cell? ⟨w2.heap.size, 6, none⟩ = some (.slice A7 x.f6.length c7) := (blk_cell hX7 6).trans rfl
  have hl7 : w2.heap.size < w7.heap.size := blk_lt hX7
  have hne7 : ¬ w2.heap.size = w7.heap.size := by omega
  have hne8 : ¬ w7.heap.size = w2.heap.size := by omega
  clear hb hc8 hR8 hB7 hX7
  go_wp2_with (first | (go_at_call 19; go_loud (refine (HPl.out _ A8 A7 c8 c7 (Kd.R_below HR8.out (by repeat (first | exact Below.refl _ _ | apply below_alloc | apply below_drew1 | apply pw_below_drewN))) (Kd.R_below HR2.out (by repeat (first | exact HB27.out | apply below_alloc | apply below_drew1 | apply pw_below_drewN))) Hc8.out Hc7.out).mono ?_; rintro e w8 ⟨rfl, hb⟩; have HB08 := Aside0.mk (below_step (by repeat (first | exact HB07.out | apply below_alloc | apply below_drew1 | apply pw_below_drewN)) hb); clear hb)) | (go_at_call 17; go_loud (refine (Hd.speaks_calls _ (HG.out.below (by repeat (first | exact HB08.out | apply below_alloc | apply below_drew1 | apply pw_below_drewN)))).mono ?_; rintro e w9 ⟨rfl, hb⟩; have HB09 := Aside0.mk (below_step (by repeat (first | exact HB08.out | apply below_alloc | apply below_drew1 | apply pw_below_drewN)) hb); clear hb)))
  go_ret
  exact ⟨rfl, HB09.out⟩
set_option maxHeartbeats 4000000 in
set_option maxRecDepth 100000 in
theorem cut_hi (a0 : Bool) (A0 : Option Addr) (c0 : Nat) (l0 : List Int) (j k : Nat) (A1 : Option Addr) (c1 : Nat) (l1 : List Int) (w : World) (hr0 : Kd.C (Kd.int .u8) w A0 l0.length l0) (hc0 : l0.length ≤ c0) (hr1 : Kd.C (Kd.int .u8) w A1 l1.length l1) (hc1 : l1.length ≤ c1) (hb0 : l0.length ≤ 1048576) (hb1 : l1.length ≤ 1048576) (hG : GInv w) (he : (parseS a0 l0).2.2 = 0) (hn : (parseS a0 l0).2.1 = ((k : Nat) : Int)) (hk1 : 1 ≤ k) (hk2 : k ≤ l0.length) (at_ : Int) (hkj : (k : Int) - 1 = (j : Int)) (ha0 : ¬ at_ < 0) (ha : (k : Int) ≤ at_) (hcj : parseS a0 (l0.take j) = (head0 false, 0, 6)) (hcm : parseS a0 (l0.take k ++ l1) = parseS a0 l0) :
    Calls Tryz.prog 6 #[.bool a0, .agg #[.slice A0 l0.length c0, .int .i64 at_, .slice A1 l1.length c1]] w fun e w' => e = .returned (.bool true) ∧ Below w.heap.size w w' := by
  obtain ⟨x, hx⟩ : ∃ x, x = (parseS a0 l0).1 := ⟨_, rfl⟩
  have hpe : parseS a0 l0 = (x, (k : Int), 0) := by
    have h1 : parseS a0 l0 = ((parseS a0 l0).1, (parseS a0 l0).2.1, (parseS a0 l0).2.2) := rfl
    rw [h1, hn, he, hx]
    all_goals rfl
  have hjk : j < k := by omega
  have HPa : Aside0 (∀ W, Below w.heap.size w W → Calls Tryz.prog 18 #[.bool a0, .slice A0 l0.length c0] W fun e w1 => ∃ A7 c7, e = .returned (.tuple #[.agg #[.bool x.f0, .string x.f1, .string x.f2, .int .i64 x.f3, .int .i64 x.f4, .string x.f5, .slice A7 x.f6.length c7], .int .i64 (k : Int), .int .i64 0]) ∧ Below W.heap.size W w1 ∧ x.f6.length ≤ c7 ∧ fldK.R 37 w1 0 (fun _ => True) (.slice A7 x.f6.length c7) x.f6) := ⟨fun W hW => by
    have h5 := parse_x a0 l0 W A0 c0 (Kd.C_below hr0 hW) (by omega) (hG.below hW)
    rw [hpe] at h5
    exact h5⟩
  have HPb : Aside0 (∀ W, Below w.heap.size w W → Calls Tryz.prog 18 #[.bool a0, .slice A0 j c0] W fun e w1 => ∃ AB cB, e = .returned (.tuple #[.agg #[.bool false, .string ⟨#[]⟩, .string ⟨#[]⟩, .int .i64 0, .int .i64 0, .string ⟨#[]⟩, .slice AB 0 cB], .int .i64 0, .int .i64 6]) ∧ Below W.heap.size W w1) := ⟨fun W hW => by
    have hj : (l0.take j).length = j := by rw [List.length_take]; omega
    have h5 := parse_x a0 (l0.take j) W A0 c0 (by rw [hj]; exact C_tak (Kd.C_below hr0 hW) j (by omega)) (by omega) (hG.below hW)
    rw [hcj, hj] at h5
    refine h5.mono ?_
    rintro e w1 ⟨AB, cB, rfl, hb, hc, hR⟩
    exact ⟨AB, cB, rfl, hb⟩⟩
  obtain ⟨T, hT⟩ : ∃ T, k + l1.length = T := ⟨_, rfl⟩
  have HLn : Aside0 ((l0.take k).length = k) := ⟨by rw [List.length_take]; omega⟩
  have HL6 : Aside0 ((l0.take k ++ l1).length = T) := ⟨by rw [List.length_append, HLn.out]; exact hT⟩
  have HPc : Aside0 (∀ W A c, Below w.heap.size w W → Kd.C (Kd.int .u8) W A T (l0.take k ++ l1) → Calls Tryz.prog 18 #[.bool a0, .slice A T c] W fun e w1 => ∃ A8 c8, e = .returned (.tuple #[.agg #[.bool x.f0, .string x.f1, .string x.f2, .int .i64 x.f3, .int .i64 x.f4, .string x.f5, .slice A8 x.f6.length c8], .int .i64 (k : Int), .int .i64 0]) ∧ Below W.heap.size W w1 ∧ x.f6.length ≤ c8 ∧ fldK.R 37 w1 0 (fun _ => True) (.slice A8 x.f6.length c8) x.f6) := ⟨fun W A c hW hC => by
    have h5 := parse_x a0 (l0.take k ++ l1) W A c (by rw [HL6.out]; exact hC) (by rw [HL6.out]; omega) (hG.below hW)
    rw [hcm, hpe, HL6.out] at h5
    exact h5⟩
  have hxl : x.f6.length ≤ 4294950000 := by rw [hx]; exact parseS_fields a0 l0 (by omega)
  have HPl : Aside0 (∀ (W : World) (A B : Option Addr) (c d : Nat), fldK.R 37 W 0 (fun _ => True) (.slice A x.f6.length c) x.f6 → fldK.R 37 W 0 (fun _ => True) (.slice B x.f6.length d) x.f6 → x.f6.length ≤ c → x.f6.length ≤ d → Calls Tryz.prog 19 #[hdV x (.slice A x.f6.length c), hdV x (.slice B x.f6.length d)] W fun e w' => e = .returned (.bool true) ∧ Below W.heap.size W w') := ⟨fun W A B c d h1 h2 hc hd => by
    obtain ⟨P1, q1, e1, -, f1⟩ := Kd.R_reads h1
    obtain ⟨P2, q2, e2, -, f2⟩ := Kd.R_reads h2
    injection e1 with e3 e4 e5
    injection e2 with e6 e7 e8
    subst e3; subst e6
    exact plain_same x A B c d W (by omega) f1 hc f2 hd⟩
  have HG := Aside0.mk hG
  have HC0 := Aside0.mk (C_tak hr0 k hk2)
  have HC1 := Aside0.mk hr1
  have hj0 : (0 : Int) ≤ (j : Int) := by omega
  have hjc : (j : Int) ≤ (c0 : Int) := by omega
  have hkc : (k : Int) ≤ (c0 : Int) := by omega
  have hc1z : (l1.length : Int) ≤ (c1 : Int) := by omega
  have hTz : (T : Int) ≤ 2097152 := by omega
  have HTM := Aside0.mk hT
  have hc1_ : ¬ (k : Int) < 1 := by omega
  have hc3_ : ¬ (j : Int) < 0 := by omega
  have hc4_ : ¬ (k : Int) ≤ (j : Int) := by omega
  have hc5_ : ¬ k ≤ j := by omega
  have hk1 := Aside0.mk hk1
  clear hx hpe hn he hcj hcm hr0 hr1 hG hT hjk 
  obtain ⟨N, hN⟩ : ∃ N, N = l0.length := ⟨_, rfl⟩
  rw [← hN] at HPa hc0 hb0 hk2 ⊢
  clear hN
  obtain ⟨M, hM⟩ : ∃ M, M = l1.length := ⟨_, rfl⟩
  rw [← hM] at HC1 hc1 hb1 hc1z HTM ⊢
  clear hM
  have hc6_ : ¬ (N : Int) < (k : Int) := by omega
  have hc7_ : ¬ N < k := by omega
  have Hk2 := Aside0.mk hk2
  clear hk2
  go_enter Tryz.func6, Tryz.ntmps6
  go_wp2_with fail
  with_reducible refine (HPa.out _ (by repeat (first | exact below_alloc (Below.refl _ _) _ | apply below_drew1 | apply pw_below_drewN))).mono ?_; rintro e w2 ⟨A7, c7, rfl, hb, hc7, hR⟩; have HB2 := Aside0.mk (below_step (below_alloc (Below.refl w.heap.size w) (.cells #[.slice A0 N c0, .int .i64 at_, .slice A1 M c1] 45)) hb); have HK2 := Aside0.mk (blk_below (blk_new w (.cells #[.slice A0 N c0, .int .i64 at_, .slice A1 M c1] 45)) hb); have HR2 := Aside0.mk hR; have Hc7 := Aside0.mk hc7; clear hb hc7 hR
  go_wp2_with fail
  with_reducible refine (HPb.out _ (by repeat (first | exact HB2.out | apply below_alloc | apply below_drew1 | apply pw_below_drewN))).mono ?_
  rintro e w3 ⟨AB, cB, rfl, hb⟩
  have HB3 := Aside0.mk (below_step (by repeat (first | exact HB2.out | apply below_alloc | apply below_drew1 | apply pw_below_drewN)) hb)
  have HBX : Aside0 (Below w2.heap.size w2 w3) := ⟨below_step (below_alloc (Below.refl _ _) _) hb⟩
  have HK3 := Aside0.mk (blk_below (blk_alloc HK2.out _) hb)
  have HX3 := Aside0.mk (blk_below (blk_new w2 (.cells #[.bool x.f0, .string x.f1, .string x.f2, .int .i64 x.f3, .int .i64 x.f4, .string x.f5, .slice A7 x.f6.length c7] 24)) hb)
  clear hb
  have HS3 : Aside0 ((w3.alloc (.cells #[.bool false, .string ⟨#[]⟩, .string ⟨#[]⟩, .int .i64 0, .int .i64 0, .string ⟨#[]⟩, .slice AB 0 cB] 24)).heap.size = w3.heap.size + 1) := ⟨World.size_alloc ..⟩
  have HKW := Aside0.mk (blk_alloc HK3.out (.cells #[.bool false, .string ⟨#[]⟩, .string ⟨#[]⟩, .int .i64 0, .int .i64 0, .string ⟨#[]⟩, .slice AB 0 cB] 24))
  go_wp2_with (first | ((with_reducible refine gate_builtin (b := .append) (xs := #[.tmp 61, .tmp 64]) rfl ?_); at_builtin; go_loud (refine Kd.R_append_row (Value.int .u8) 0 (h1 := fun _ => rfl) (w0 := _) (w3.heap.size + 1) rfl (.tmp 61) (.tmp 64) 33 5 (.int .u8 0) 1 rfl Tryz.underlying33 info_u8 rfl (by decide) (.slice none 0 0) [] (l0.take k) A0 k c0 (fun _ => True) rfl rfl (fun _ _ => trivial) (Kd.R_nil _ _ _ _ _) (Kd.C_below HC0.out (below_alloc HB3.out _)) (Below.refl _ _) (by rw [HS3.out]; exact Nat.le_refl _) (by simp only [List.length_nil]; have := Hk2.out; omega) ?_; intro v5 w5 hR5 hb5 hg5 hat5; have HR5 := Aside0.mk hR5; have HB5 := Aside0.mk hb5; have HB05 := Aside0.mk (below_step (below_alloc HB3.out (.cells #[.bool false, .string ⟨#[]⟩, .string ⟨#[]⟩, .int .i64 0, .int .i64 0, .string ⟨#[]⟩, .slice AB 0 cB] 24)) (by rw [HS3.out]; exact hb5)); have hK5 := (hb5.block w.heap.size (by have h5 := blk_lt HKW.out; rw [HS3.out] at h5; exact h5)).trans HKW.out; have hz2 : w5.cell? ⟨w.heap.size, 2, none⟩ = some (.slice A1 M c1) := (blk_cell hK5 2).trans rfl; clear hR5 hb5 hg5 hat5 hK5)) | ((with_reducible refine gate_builtin (b := .append) (xs := #[.tmp 66, .tmp 68]) rfl ?_); at_builtin; go_loud (refine Kd.R_append_row (Value.int .u8) 0 (h1 := fun _ => rfl) (w0 := _) (w3.heap.size + 1) rfl (.tmp 66) (.tmp 68) 33 5 (.int .u8 0) 1 rfl Tryz.underlying33 info_u8 rfl (by decide) v5 (l0.take k) l1 A1 M c1 (fun _ => True) rfl rfl (fun _ _ => trivial) HR5.out (Kd.C_below HC1.out HB05.out) HB5.out (by have h5 := HB5.out.size; rw [HS3.out] at h5; exact h5) (by have h5 := HLn.out; have := Hk2.out; omega) ?_; intro v6 w6 hR6 hb6 hg6 hat6; have HB6 := Aside0.mk hb6; have HB06 := Aside0.mk (below_step (below_alloc HB3.out (.cells #[.bool false, .string ⟨#[]⟩, .string ⟨#[]⟩, .int .i64 0, .int .i64 0, .string ⟨#[]⟩, .slice AB 0 cB] 24)) (by rw [HS3.out]; exact hb6)); obtain ⟨A6, c6, e6, hc6, hC6⟩ := Kd.R_reads hR6; subst e6; rw [HL6.out] at hC6 hc6; rw [HL6.out]; have HC6 := Aside0.mk hC6; clear hR6 hb6 hg6 hat6 hC6)))
  refine (HPc.out _ _ _ HB06.out HC6.out).mono ?_
  rintro e w7 ⟨A8, c8, rfl, hb, hc8, hR8⟩
  have HB07 := Aside0.mk (below_step HB06.out hb)
  have hB7 : Below (w3.heap.size + 1) (w3.alloc (.cells #[.bool false, .string ⟨#[]⟩, .string ⟨#[]⟩, .int .i64 0, .int .i64 0, .string ⟨#[]⟩, .slice AB 0 cB] 24)) w7 := below_then HB6.out (by have h5 := HB6.out.size; rw [HS3.out] at h5; exact h5) hb
  have hX7 : w7.heap[w2.heap.size]? = some (.cells #[.bool x.f0, .string x.f1, .string x.f2, .int .i64 x.f3, .int .i64 x.f4, .string x.f5, .slice A7 x.f6.length c7] 24 (0, 0)) := (hB7.block w2.heap.size (by have h5 := blk_lt HX3.out; omega)).trans (blk_alloc HX3.out (.cells #[.bool false, .string ⟨#[]⟩, .string ⟨#[]⟩, .int .i64 0, .int .i64 0, .string ⟨#[]⟩, .slice AB 0 cB] 24))
  have HB27 : Aside0 (Below w2.heap.size w2 w7) := ⟨below_step (below_alloc HBX.out (.cells #[.bool false, .string ⟨#[]⟩, .string ⟨#[]⟩, .int .i64 0, .int .i64 0, .string ⟨#[]⟩, .slice AB 0 cB] 24)) (by rw [HS3.out]; exact hB7)⟩
  have HR8 := Aside0.mk hR8
  have Hc8 := Aside0.mk hc8
  have y0 : w7.cell? ⟨w2.heap.size, 0, none⟩ = some (.bool x.f0) := (blk_cell hX7 0).trans rfl
  have y1 : w7.cell? ⟨w2.heap.size, 1, none⟩ = some (.string x.f1) := (blk_cell hX7 1).trans rfl
  have y2 : w7.cell? ⟨w2.heap.size, 2, none⟩ = some (.string x.f2) := (blk_cell hX7 2).trans rfl
  have y3 : w7.cell? ⟨w2.heap.size, 3, none⟩ = some (.int .i64 x.f3) := (blk_cell hX7 3).trans rfl
  have y4 : w7.cell? ⟨w2.heap.size, 4, none⟩ = some (.int .i64 x.f4) := (blk_cell hX7 4).trans rfl
  have y5 : w7.cell? ⟨w2.heap.size, 5, none⟩ = some (.string x.f5) := (blk_cell hX7 5).trans rfl
  have y6 : w7.cell? ⟨w2.heap.size, 6, none⟩ = some (.slice A7 x.f6.length c7) := (blk_cell hX7 6).trans rfl
  have hl7 : w2.heap.size < w7.heap.size := blk_lt hX7
  have hne7 : ¬ w2.heap.size = w7.heap.size := by omega
  have hne8 : ¬ w7.heap.size = w2.heap.size := by omega
  clear hb hc8 hR8 hB7 hX7
  go_wp2_with (first | (go_at_call 19; go_loud (refine (HPl.out _ A8 A7 c8 c7 (Kd.R_below HR8.out (by repeat (first | exact Below.refl _ _ | apply below_alloc | apply below_drew1 | apply pw_below_drewN))) (Kd.R_below HR2.out (by repeat (first | exact HB27.out | apply below_alloc | apply below_drew1 | apply pw_below_drewN))) Hc8.out Hc7.out).mono ?_; rintro e w8 ⟨rfl, hb⟩; have HB08 := Aside0.mk (below_step (by repeat (first | exact HB07.out | apply below_alloc | apply below_drew1 | apply pw_below_drewN)) hb); clear hb)) | (go_at_call 17; go_loud (refine (Hd.speaks_calls _ (HG.out.below (by repeat (first | exact HB08.out | apply below_alloc | apply below_drew1 | apply pw_below_drewN)))).mono ?_; rintro e w9 ⟨rfl, hb⟩; have HB09 := Aside0.mk (below_step (by repeat (first | exact HB08.out | apply below_alloc | apply below_drew1 | apply pw_below_drewN)) hb); clear hb)))
  go_ret
  exact ⟨rfl, HB09.out⟩
theorem cut_all (a0 : Bool) (A0 : Option Addr) (c0 : Nat) (l0 : List Int) (at_ : Int) (A1 : Option Addr) (c1 : Nat) (l1 : List Int) (w : World) (hr0 : Kd.C (Kd.int .u8) w A0 l0.length l0) (hc0 : l0.length ≤ c0) (hr1 : Kd.C (Kd.int .u8) w A1 l1.length l1) (hc1 : l1.length ≤ c1) (hb0 : l0.length ≤ 1048576) (hb1 : l1.length ≤ 1048576) (hG : GInv w) :
    Calls Tryz.prog 6 #[.bool a0, .agg #[.slice A0 l0.length c0, .int .i64 at_, .slice A1 l1.length c1]] w fun e w' => e = .returned (.bool true) ∧ Below w.heap.size w w' := by
  by_cases he : (parseS a0 l0).2.2 = 0
  · obtain ⟨k, hn, hk1, hk2, hcj, hcm⟩ := parseS_cut a0 l0 he
    by_cases h1 : at_ < 0
    · exact cut_lo a0 A0 c0 l0 (k - 1) k A1 c1 l1 w hr0 hc0 hr1 hc1 hb0 hb1 hG he hn hk1 hk2 at_ (by omega) h1 (hcj (k - 1) (by omega)) (hcm l1)
    · by_cases h2 : (k : Int) ≤ at_
      · exact cut_hi a0 A0 c0 l0 (k - 1) k A1 c1 l1 w hr0 hc0 hr1 hc1 hb0 hb1 hG he hn hk1 hk2 at_ (by omega) h1 h2 (hcj (k - 1) (by omega)) (hcm l1)
      · obtain ⟨j, rfl⟩ : ∃ j : Nat, at_ = (j : Int) := ⟨at_.toNat, by omega⟩
        exact cut_in a0 A0 c0 l0 j k A1 c1 l1 w hr0 hc0 hr1 hc1 hb0 hb1 hG he hn hk1 hk2 (by omega) (hcj j (by omega)) (hcm l1)
  · exact cut_no a0 A0 c0 l0 at_ A1 l1.length c1 w hr0 hc0 hb0 hG he
end Go.Proofs.YtccolnlfjbgnmaaGreatDoor.Hd
namespace Go.Proofs.YtccolnlfjbgnmaaGreatDoor.P
open Go.RowKit Go.Proofs.YtccolnlfjbgnmaaGreatDoorW.PrintWords Go.Proofs.YtccolnlfjbgnmaaGreatDoorW.PrintLast Chk Px Hr Hd
set_option linter.unusedVariables false
set_option linter.unusedSimpArgs false
def headracelaw08_HeadCut.f (k : Nat) (a0 : Bool) (l0 : List Int) (at_ : Int) (l1 : List Int) : Option Bool := if l0.length + l1.length ≤ 1048576 then some true else none
theorem headracelaw08_HeadCut.calls (k : Nat) (a0 : Bool) (A0 : Option Addr) (c0 : Nat) (l0 : List Int) (at_ : Int) (A1 : Option Addr) (c1 : Nat) (l1 : List Int) (r : Bool) (w : World) (hr0 : Kd.C (Kd.int .u8) w A0 l0.length l0) (hc0 : l0.length ≤ c0) (hr1 : Kd.C (Kd.int .u8) w A1 l1.length l1) (hc1 : l1.length ≤ c1) (hb0 : l0.length ≤ 1048576) (hb1 : l1.length ≤ 1048576) (h : headracelaw08_HeadCut.f k a0 l0 at_ l1 = some r) (hG_ : GInv w) :
    Calls Tryz.prog 6 #[.bool a0, .agg #[.slice A0 l0.length c0, .int .i64 at_, .slice A1 l1.length c1]] w fun e w' => e = .returned (.bool r) ∧ Below w.heap.size w w' := by
  unfold headracelaw08_HeadCut.f at h
  split at h
  · obtain rfl := Option.some.inj h
    exact Hd.cut_all a0 A0 c0 l0 at_ A1 c1 l1 w hr0 hc0 hr1 hc1 hb0 hb1 hG_
  · cases h
end Go.Proofs.YtccolnlfjbgnmaaGreatDoor.P
namespace Go.Proofs.YtccolnlfjbgnmaaGreatDoor.Px
theorem pure_HeadCut (a : Bool) (l : List Int) (at_ : Int) (m : List Int) (hb : l.length + m.length ≤ 1048576) : ∃ k, P.headracelaw08_HeadCut.f k a l at_ m = some true := ⟨0, by unfold P.headracelaw08_HeadCut.f; rw [if_pos hb]⟩
end Go.Proofs.YtccolnlfjbgnmaaGreatDoor.Px
