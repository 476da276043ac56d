/- Package world's laws, by hand: speaks; own text of this session. -/
import Derived.Test.YtnhhcmnjfaeliaaVld7
import Derived.Lib.SlBytesConst
namespace Go.Proofs.Ytnhhcmnjfaeliaa.Wld
open Go.RowKit Go.Proofs.YtnhhcmnjfaeliaaW.PrintWords Go.Proofs.YtnhhcmnjfaeliaaW.PrintLast Go.Maps
set_option linter.unusedVariables false
set_option linter.unusedSimpArgs false
/-- A world's state in a law's walk that began at w0. -/
structure Sit (w0 w : World) (p bm q : Nat) (vw vs vd : Value) (c : Int) (en : Bool) (ws ss : List Int) (room : Int) (ds : List Int) : Prop where
  st : St w p bm q vw vs vd c en ws ss room ds
  base : ∀ k, Ft p bm q vw vs vd k → w0.heap.size ≤ k
  below : Below w0.heap.size w0 w
section
variable {w0 w w' : World} {p bm q : Nat} {vw vs vd : Value} {c : Int} {en : Bool} {ws ss : List Int} {room : Int} {ds : List Int}
theorem Sit.low (h : Sit w0 w p bm q vw vs vd c en ws ss room ds) (hb : Below w.heap.size w w') : Sit w0 w' p bm q vw vs vd c en ws ss room ds := ⟨h.st.below hb, h.base, below_step h.below hb⟩
theorem Sit.go {vw' vs' vd' : Value} {en' : Bool} {ws' ss' : List Int} {room' : Int} {ds' : List Int} (h : Sit w0 w p bm q vw vs vd c en ws ss room ds) (hst : St w' p bm q vw' vs' vd' c en' ws' ss' room' ds')
    (hf : ∀ k, Ft p bm q vw' vs' vd' k → Ft p bm q vw vs vd k ∨ w.heap.size ≤ k) (hs : Stay (Ft p bm q vw vs vd) w w') : Sit w0 w' p bm q vw' vs' vd' c en' ws' ss' room' ds' :=
  ⟨hst, fun k hk => (hf k hk).elim (h.base k) (fun h2 => Nat.le_trans h.below.size h2), hs.out h.below h.base h.below.size⟩
/-- A row that lies elsewhere. -/
def Ext (F : Nat → Prop) (w : World) (v : Value) (xs : List Int) : Prop := Row .u8 5 w v xs ∧ ∀ i, v.ownBlock = some i → ¬ F i
theorem Ext.go {F F' : Nat → Prop} {v : Value} {xs : List Int} (h : Ext F w v xs) (hf : ∀ k, F' k → F k ∨ w.heap.size ≤ k) (hs : Stay F w w') : Ext F' w' v xs :=
  ⟨h.1.keep (fun i hi hl => hs.block i hl (h.2 i hi)), fun i hi h5 => (hf i h5).elim (h.2 i hi) (fun h6 => by have := h.1.lt i hi; omega)⟩
theorem Ext.low {F : Nat → Prop} {v : Value} {xs : List Int} (h : Ext F w v xs) (hb : Below w.heap.size w w') : Ext F w' v xs := ⟨h.1.below hb, h.2⟩
end
theorem Sit.new {w0 w1 w2 : World} {p bm q : Nat} {c : Int} (hp : w0.heap.size ≤ p) (hm : w0.heap.size ≤ bm) (hb : Below w0.heap.size w0 w1) (hst : St w2 p bm q (.slice none 0 0) (.slice none 0 0) (.slice none 0 0) c false [] [] 0 []) (hq : w1.heap.size ≤ q) (hs : Stay (fun k => k = bm) w1 w2) :
    Sit w0 w2 p bm q (.slice none 0 0) (.slice none 0 0) (.slice none 0 0) c false [] [] 0 [] := by
  refine ⟨hst, ?_, hs.out hb (fun k hk => by rw [hk]; exact hm) hb.size⟩
  rintro k (rfl | rfl | rfl | hk | hk | hk)
  · exact hp
  · exact hm
  · exact Nat.le_trans hb.size hq
  · simp [Value.ownBlock] at hk
  · simp [Value.ownBlock] at hk
  · simp [Value.ownBlock] at hk
set_option maxRecDepth 100000 in
theorem hcc3 (x y z : Int) (W : World) : (convert 30 30 (.slice (some ⟨W.heap.size, 0, none⟩) 3 3)).run Try.prog (W.alloc (.cells #[.int .u8 x, .int .u8 y, .int .u8 z] 5)) = Result.ok (.slice (some ⟨W.heap.size, 0, none⟩) 3 3) (W.alloc (.cells #[.int .u8 x, .int .u8 y, .int .u8 z] 5 (3, 4))) :=
  Lib.run_convert_bytes_const W _ _ #[.int .u8 x, .int .u8 y, .int .u8 z] 3 3 Try.underlying30 Try.underlying5
theorem const3 (W : World) (x y z : Int) : (Kd.int .u8).C (W.alloc (.cells #[.int .u8 x, .int .u8 y, .int .u8 z] 5 (3, 4))) (some ⟨W.heap.size, 0, none⟩) [x, y, z].length [x, y, z] :=
  C_blk (xs := [x, y, z]) (blk_new W (.cells #[.int .u8 x, .int .u8 y, .int .u8 z] 5 (3, 4))) (fun i hi => by match i, hi with | 0, _ => rfl | 1, _ => rfl | 2, _ => rfl) (by simp)
theorem row_str {W : World} {A : Option Addr} {n c : Nat} {xs : List Int} (h : Row .u8 5 W (.slice A n c) xs) : (convert 30 9 (.slice A n c)).run Try.prog W = Result.ok (.string (strOfNums xs)) W := by
  obtain ⟨h1, _, h2⟩ := h.C
  rw [h1]
  exact Kd.C_string Try.underlying30 Try.underlying5 Try.underlying9 h2
set_option maxHeartbeats 16000000 in
set_option maxRecDepth 100000 in
theorem speaks_calls (w : World) :
    Calls Try.prog 14 #[] w fun e w' => e = .returned (.bool true) ∧ Below w.heap.size w w' := by
  have hcA := hcc3 97 98 99
  have hcB := hcc3 120 121 122
  go_enter Try.func14, Try.ntmps14
  go_wp2_with fail
  refine (new_calls _).mono ?_
  rintro e w1 ⟨p, bm, rfl, h0, hp, hm, hb⟩
  have H0 := Aside0.mk h0
  have HP := Aside0.mk hp
  have HM := Aside0.mk hm
  have HB := Aside0.mk hb
  clear h0 hp hm hb
  go_wp2_with fail
  refine (open_calls H0.out 1 (by decide) (by decide)).mono ?_
  rintro e w2 ⟨q, rfl, hst, hq, hs⟩
  have S2 := Aside0.mk (Sit.new HP.out HM.out HB.out hst hq hs)
  clear hst hq hs H0 HP HM HB
  go_wp2_with fail
  have S3 := Aside0.mk (S2.out.low (below_alloc (Below.refl w2.heap.size w2) (.cells #[.int .u8 97, .int .u8 98, .int .u8 99] 5 (3, 4))))
  refine (arrive_ok S3.out.st (by decide) (some ⟨w2.heap.size, 0, none⟩) 3 3 [97, 98, 99] rfl (const3 w2 97 98 99) (by decide)).mono ?_
  rintro e w4 ⟨rfl, vw4, vs4, vd4, hst, hf, hs⟩
  have S4 := Aside0.mk (S3.out.go hst hf hs)
  clear hst hf hs S2 S3
  go_wp2_with fail
  refine (read_calls S4.out.st (by decide) (by decide) 2 2 (by decide)).mono ?_
  rintro e w5 ⟨A5, c5, vw5, rfl, hst, hf, hs, hrow, how⟩
  have E5 : Aside0 (Ext (Ft p bm q vw5 vs4 vd4) w5 (.slice A5 2 c5) [97, 98]) := ⟨⟨hrow, fun i hi h5 => by have := how i hi; have := S4.out.st.lt i (hf i h5); omega⟩⟩
  have S5 := Aside0.mk (S4.out.go hst (fun k hk => .inl (hf k hk)) hs)
  clear hst hf hs hrow how S4
  go_wp2_with fail
  refine (end_calls S5.out.st (by decide)).mono ?_
  rintro e w6 ⟨rfl, vw6, vs6, vd6, hst, hf, hs⟩
  have E6 := Aside0.mk (E5.out.go hf hs)
  have S6 := Aside0.mk (S5.out.go hst hf hs)
  clear hst hf hs S5 E5
  go_wp2_with fail
  refine (waits_calls S6.out.st (by decide)).mono ?_
  rintro e w7 ⟨rfl, hb⟩
  have E7 := Aside0.mk (E6.out.low hb)
  have S7 := Aside0.mk (S6.out.low hb)
  clear hb S6 E6
  go_wp2_with fail
  refine (room_calls S7.out.st (by decide) 2 (by decide) (by decide) (by decide) (by decide)).mono ?_
  rintro e w8 ⟨rfl, vw8, vs8, vd8, hst, hf, hs⟩
  have E8 := Aside0.mk (E7.out.go hf hs)
  have S8 := Aside0.mk (S7.out.go hst hf hs)
  clear hst hf hs S7 E7
  go_wp2_with fail
  have hb9 := below_alloc (Below.refl w8.heap.size w8) (.cells #[.int .u8 120, .int .u8 121, .int .u8 122] 5 (3, 4))
  have S9 := Aside0.mk (S8.out.low hb9)
  have E9 := Aside0.mk (E8.out.low hb9)
  clear hb9 S8 E8
  refine (write_calls S9.out.st (by decide) (some ⟨w8.heap.size, 0, none⟩) 3 3 [120, 121, 122] rfl (by decide) (const3 w8 120 121 122) 2 (by decide) (by decide) (by decide) (by decide)).mono ?_
  rintro e w10 ⟨rfl, vw10, vs10, vd10, hst, hf, hs⟩
  have E10 := Aside0.mk (E9.out.go hf hs)
  have S10 := Aside0.mk (S9.out.go hst hf hs)
  clear hst hf hs S9 E9
  go_wp2_with fail
  refine (give_calls S10.out.st 7 (by decide) (by decide) (by decide)).mono ?_
  rintro e w11 ⟨rfl, vw11, vs11, vd11, hst, hf, hs⟩
  have E11 := Aside0.mk (E10.out.go hf hs)
  have S11 := Aside0.mk (S10.out.go hst hf hs)
  clear hst hf hs S10 E10
  go_wp2_with fail
  refine (draw_calls 7 S11.out.st 3 (by decide) (by decide) (by decide) (by decide)).mono ?_
  rintro e w12 ⟨rfl, vw12, vs12, vd12, hst, hf, hs⟩
  have E12 := Aside0.mk (E11.out.go hf hs)
  have S12 := Aside0.mk (S11.out.go hst hf hs)
  clear hst hf hs S11 E11
  have hv1 : (convert 30 9 (.slice A5 2 c5)).run Try.prog w12 = Result.ok (.string ⟨#[97, 98]⟩) w12 := by
    have h5 := row_str E12.out.1
    rw [show strOfNums [97, 98] = ⟨#[97, 98]⟩ from by decide +kernel] at h5
    exact h5
  go_wp2_with fail
  refine (sent_calls S12.out.st (by decide) (by decide)).mono ?_
  rintro e w13 ⟨A13, c13, rfl, hrow, how, hb⟩
  have S13 := Aside0.mk (S12.out.low hb)
  have hv2 : (convert 30 9 (.slice A13 2 c13)).run Try.prog w13 = Result.ok (.string ⟨#[120, 121]⟩) w13 := by
    have h5 := row_str hrow
    rw [show strOfNums ([] ++ List.take 2 [120, 121, 122]) = ⟨#[120, 121]⟩ from by decide +kernel] at h5
    exact h5
  clear hb hrow how S12
  go_wp2_with fail
  refine (all_one S13.out.st (by decide)).mono ?_
  rintro e w14 ⟨A14, c14, rfl, hC, hb⟩
  have HC14 := Aside0.mk hC
  have HB14 := Aside0.mk (below_step S13.out.below hb)
  clear hC hb S13
  go_wp2_with fail
  have hb15 := below_alloc (Below.refl w14.heap.size w14) (.cells #[.int .i64 1] 3)
  refine (ints_one 1 A14 (some ⟨w14.heap.size, 0, none⟩) c14 1 _ (Kd.C_below HC14.out hb15) (C_blk (xs := [1]) (blk_new w14 (.cells #[.int .i64 1] 3)) (fun i hi => by match i, hi with | 0, _ => rfl) (by simp))).mono ?_
  rintro e w16 ⟨rfl, hb16⟩
  have HB16 := Aside0.mk (below_step (below_step HB14.out hb15) hb16)
  clear hb15 hb16
  go_wp2
  go_ret
  exact ⟨rfl, HB16.out⟩
end Go.Proofs.Ytnhhcmnjfaeliaa.Wld
