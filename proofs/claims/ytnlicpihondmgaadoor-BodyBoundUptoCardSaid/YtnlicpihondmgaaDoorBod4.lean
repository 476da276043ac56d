/- Package body's laws, by hand: speaks; BodyNil; own text of this session. -/
import Derived.Test.YtnlicpihondmgaaDoorBod3
import Derived.Test.YtnlicpihondmgaaDoorP
namespace Go.Proofs.YtnlicpihondmgaaDoor.Bod
open Go.RowKit Go.Proofs.YtnlicpihondmgaaDoorW.PrintWords Go.Proofs.YtnlicpihondmgaaDoorW.PrintLast Go.Proofs.YtnlicpihondmgaaDoorW.PrintMore Chk
set_option linter.unusedVariables false
set_option linter.unusedSimpArgs false
theorem R_stay {w w' : World} {base p : Nat} {v : Value} {xs : List Int} (h : (Kd.int .u8).R 5 w base (fun _ => True) v xs) (hp : p < base) (hs : Stay (fun k => k = p) w w') : (Kd.int .u8).R 5 w' base (fun _ => True) v xs :=
  R_keep h hp (fun k hl hk => hs.block k hl hk)
theorem Rd.stay {w w' : World} {p q : Nat} {left got kind wrong : Int} {dec : Value} {whole : Bool} (h : Rd w q left got kind dec whole wrong) (hne : q ≠ p) (hs : Stay (fun k => k = p) w w') : Rd w' q left got kind dec whole wrong :=
  (hs.block q (blk_lt h) hne).trans h
theorem const2 (W : World) (p : Nat) (x y : Int) (hp : p < W.heap.size) (u : Value) : (Kd.int .u8).C ((W.alloc (.cells #[.int .u8 x, .int .u8 y] 5 (2, 3))).setCell ⟨p, 0, none⟩ u) (some ⟨W.heap.size, 0, none⟩) 2 [x, y] :=
  C_of_block (xs := [x, y]) ((Below.heap_setCell _ _ _ _ (by show W.heap.size ≠ p; omega)).trans (blk_new W (.cells #[.int .u8 x, .int .u8 y] 5 (2, 3)))) (fun i hi => by match i, hi with | 0, _ => rfl | 1, _ => rfl) (by simp)
set_option maxRecDepth 100000 in
theorem hcc2 (x y : Int) (W : World) : (convert 22 22 (.slice (some ⟨W.heap.size, 0, none⟩) 2 2)).run Tryd.prog (W.alloc (.cells #[.int .u8 x, .int .u8 y] 5)) = Result.ok (.slice (some ⟨W.heap.size, 0, none⟩) 2 2) (W.alloc (.cells #[.int .u8 x, .int .u8 y] 5 (2, 3))) :=
  Lib.run_convert_bytes_const W _ _ #[.int .u8 x, .int .u8 y] 2 2 Tryd.underlying22 Tryd.underlying5
set_option maxRecDepth 100000 in
theorem str2 {W : World} {v : Value} {base : Nat} {xs : List Int} {n : Nat} (hn : xs.length = n) (h : (Kd.int .u8).R 5 W base (fun _ => True) v xs) (A : Option Addr) (c : Nat) (hv : v = .slice A n c) :
    (convert 22 9 (.slice A n c)).run Tryd.prog W = Result.ok (.string (strOfNums xs)) W := by
  obtain ⟨A4, c4, e4, _, hC4⟩ := Kd.R_reads h
  rw [hv] at e4
  injection e4 with e1 e2 e3
  subst e1 e3
  rw [← hn]
  exact Kd.C_string Tryd.underlying22 Tryd.underlying5 Tryd.underlying9 hC4
set_option maxHeartbeats 8000000 in
set_option maxRecDepth 100000 in
theorem speaks_calls (w : World) :
    Calls Tryd.prog 25 #[] w fun e w' => e = .returned (.bool true) ∧ Below w.heap.size w w' := by
  have hcA := hcc2 97 98
  have hcB := hcc2 99 100
  go_enter Tryd.func25, Tryd.ntmps25
  go_wp2_with fail
  refine (newLen_ok 3 9 _ _ (by decide) (by decide) (by decide)).mono ?_
  rintro e w1 ⟨p1, rfl, hp1, hr1, hb1⟩
  have HP1 := Aside0.mk hp1
  have HR1 := Aside0.mk hr1
  have HB1 := Aside0.mk hb1
  clear hp1 hr1 hb1
  go_wp2_with fail
  refine (newClose_ok 9 _ _ (by decide) (by decide)).mono ?_
  rintro e w2 ⟨p2, rfl, hp2, hr2, hb2⟩
  have HP2 := Aside0.mk hp2
  have HR2 := Aside0.mk hr2
  have HR1b := Aside0.mk (HR1.out.below hb2)
  have HB2 := Aside0.mk (below_step HB1.out hb2)
  have HLT : Aside0 (p1 < p2) := ⟨Nat.lt_of_lt_of_le HR1.out.lt hp2⟩
  clear hp2 hr2 hb2
  go_wp2_with fail
  have L1 : p1 < w2.heap.size := HR1b.out.lt
  have L2 : p2 < w2.heap.size := HR2.out.lt
  have HBa := Aside0.mk (below_alloc (Below.refl w2.heap.size w2) (.cells #[.int .u8 97, .int .u8 98] 5 (2, 3)))
  have HZ1 := Aside0.mk L1
  have HZ2 := Aside0.mk L2
  refine (feedLen_calls [97, 98] 2 _ 2 _ p1 3 0 (.pointer none) (HR1b.out.below HBa.out) (fun u => const2 w2 p1 97 98 L1 u) (by decide) (by decide) (by decide) (by decide) (by decide) (by decide) (by decide)).mono ?_
  rintro e w3 ⟨A3, c3, rfl, hx3, hr3, hs3⟩
  have HX3 := Aside0.mk hx3
  have HR3 := Aside0.mk hr3
  have HN2 := Aside0.mk ((HR2.out.below HBa.out).stay (p := p1) (by have := HLT.out; omega) hs3)
  have HB3 := Aside0.mk (hs3.out (below_step HB2.out HBa.out) (fun k hk => by rw [hk]; exact HP1.out) (below_step HB2.out HBa.out).size)
  have HS3 : Aside0 (w2.heap.size ≤ w3.heap.size) := ⟨Nat.le_trans HBa.out.size hs3.size⟩
  clear hx3 hr3 hs3 L1 L2
  go_wp2_with fail
  refine (end_cut p1 w3 HR3.out).mono ?_
  rintro e w4 ⟨rfl, hr4, hs4⟩
  have HX4 := Aside0.mk (R_stay HX3.out (by have := HZ1.out; have := HBa.out.size; omega) hs4)
  have HN4 := Aside0.mk (HN2.out.stay (p := p1) (by have := HLT.out; omega) hs4)
  have HB4 := Aside0.mk (hs4.out HB3.out (fun k hk => by rw [hk]; exact HP1.out) HB3.out.size)
  have HS4 : Aside0 (w3.heap.size ≤ w4.heap.size) := ⟨hs4.size⟩
  clear hr4 hs4
  go_wp2_with fail
  have HBc := Aside0.mk (below_alloc (Below.refl w4.heap.size w4) (.cells #[.int .u8 99, .int .u8 100] 5 (2, 3)))
  refine (feedClose_calls [99, 100] 2 _ 2 _ p2 9 0 (.pointer none) (HN4.out.below HBc.out) (fun u => const2 w4 p2 99 100 HN4.out.lt u) (by decide) (by decide) (by decide) (by decide) (by decide) (by decide) (by decide)).mono ?_
  rintro e w5 ⟨A5, c5, rfl, hx5, hr5, hs5⟩
  have HX5 := Aside0.mk hx5
  have HR5 := Aside0.mk hr5
  have HX4b := Aside0.mk (R_stay (Kd.R_below HX4.out HBc.out) (by have := HZ2.out; have := HBa.out.size; omega) hs5)
  have HB5 := Aside0.mk (hs5.out (below_step HB4.out HBc.out) (fun k hk => by rw [hk]; have := HLT.out; have := HP1.out; omega) (below_step HB4.out HBc.out).size)
  have HZ5 : Aside0 (p2 < (w4.alloc (.cells #[.int .u8 99, .int .u8 100] 5 (2, 3))).heap.size) := ⟨Nat.lt_of_lt_of_le HN4.out.lt HBc.out.size⟩
  clear hx5 hr5 hs5
  go_wp2_with fail
  refine (end_close p2 w5 HR5.out).mono ?_
  rintro e w6 ⟨rfl, hr6, hs6⟩
  have HX6 := Aside0.mk (R_stay HX4b.out (by have := HZ2.out; have := HBa.out.size; omega) hs6)
  have HY6 := Aside0.mk (R_stay HX5.out HZ5.out hs6)
  have HR6 := Aside0.mk hr6
  have HB6 := Aside0.mk (hs6.out HB5.out (fun k hk => by rw [hk]; have := HLT.out; have := HP1.out; omega) HB5.out.size)
  clear hr6 hs6
  have hv1 : (convert 22 9 (.slice A3 2 c3)).run Tryd.prog w6 = Result.ok (.string ⟨#[97, 98]⟩) w6 := by
    have h5 := str2 (n := 2) (by decide) HX6.out A3 c3 rfl
    rw [show strOfNums (List.take 2 [97, 98]) = ⟨#[97, 98]⟩ from by decide +kernel] at h5
    exact h5
  have hv2 : (convert 22 9 (.slice A5 2 c5)).run Tryd.prog w6 = Result.ok (.string ⟨#[99, 100]⟩) w6 := by
    have h5 := str2 (n := 2) (by decide) HY6.out A5 c5 rfl
    rw [show strOfNums (List.take 2 [99, 100]) = ⟨#[99, 100]⟩ from by decide +kernel] at h5
    exact h5
  go_wp2_with fail
  refine (whole_calls p2 w6 HR6.out).mono ?_
  rintro e w7 ⟨rfl, hb7⟩
  have HB7 := Aside0.mk (below_step HB6.out hb7)
  have HR7 := Aside0.mk (HR6.out.below hb7)
  clear hb7
  go_wp2_with fail
  refine (got_calls p2 w7 HR7.out).mono ?_
  rintro e w8 ⟨rfl, hb8⟩
  have HB8 := Aside0.mk (below_step HB7.out hb8)
  clear hb8
  go_wp2
  go_ret
  exact ⟨rfl, HB8.out⟩
end Go.Proofs.YtnlicpihondmgaaDoor.Bod
namespace Go.Proofs.YtnlicpihondmgaaDoor.P
open Go.RowKit Go.Proofs.YtnlicpihondmgaaDoorW.PrintWords Go.Proofs.YtnlicpihondmgaaDoorW.PrintLast Chk
set_option linter.unusedVariables false
set_option linter.unusedSimpArgs false
def headracelaw11_BodyNil.f (k : Nat) (l0 : List Int) : Option Bool := some true
set_option maxHeartbeats 4000000 in
set_option maxRecDepth 100000 in
theorem headracelaw11_BodyNil.calls (k : Nat) (A0 : Option Addr) (c0 : Nat) (l0 : List Int) (r : Bool) (w : World) (hr0 : Kd.C (Kd.int .u8) w A0 l0.length l0) (hc0 : l0.length ≤ c0) (h : headracelaw11_BodyNil.f k l0 = some r) (hG_ : GInv w) :
    Calls Tryd.prog 11 #[.slice A0 l0.length c0] w fun e w' => e = .returned (.bool r) ∧ Below w.heap.size w w' := by
  obtain rfl := Option.some.inj h
  clear h hG_ hr0 hc0
  go_enter Tryd.func11, Tryd.ntmps11
  go_wp2_with fail
  refine (Bod.feed_nil _ _).mono ?_
  rintro e w1 ⟨rfl, hb1⟩
  have HB1 := Aside0.mk hb1
  clear hb1
  go_wp2_with fail
  refine (Bod.end_nil _).mono ?_
  rintro e w2 ⟨rfl, hb2⟩
  have HB2 := Aside0.mk (below_step (by repeat (first | exact HB1.out | apply below_drew1 | apply pw_below_drewN)) hb2)
  clear hb2
  go_wp2_with fail
  refine (Bod.whole_nil _).mono ?_
  rintro e w3 ⟨rfl, hb3⟩
  have HB3 := Aside0.mk (below_step (by repeat (first | exact HB2.out | apply below_drew1 | apply pw_below_drewN)) hb3)
  clear hb3
  go_wp2_with fail
  refine (Bod.got_nil _).mono ?_
  rintro e w4 ⟨rfl, hb4⟩
  have HB4 := Aside0.mk (below_step (by repeat (first | exact HB3.out | apply below_drew1 | apply pw_below_drewN)) hb4)
  clear hb4
  go_wp2_with fail
  refine (Bod.speaks_calls _).mono ?_
  rintro e w5 ⟨rfl, hb5⟩
  have HB5 := Aside0.mk (below_step (by repeat (first | exact HB4.out | apply below_drew1 | apply pw_below_drewN)) hb5)
  clear hb5
  go_wp2
  go_ret
  exact ⟨rfl, HB5.out⟩
end Go.Proofs.YtnlicpihondmgaaDoor.P
namespace Go.Proofs.YtnlicpihondmgaaDoor.Px
theorem pure_BodyNil (l : List Int) (_ : ∀ x ∈ l, (Go.Lit.int .u8 x).wf = true) : ∃ k, P.headracelaw11_BodyNil.f k l = some true := ⟨0, rfl⟩
end Go.Proofs.YtnlicpihondmgaaDoor.Px
