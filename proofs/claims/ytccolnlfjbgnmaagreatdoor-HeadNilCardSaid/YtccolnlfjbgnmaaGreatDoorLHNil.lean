/- HeadNil: the walk; own text of this session. -/
import Derived.Test.YtccolnlfjbgnmaaGreatDoorHdS
namespace Go.Proofs.YtccolnlfjbgnmaaGreatDoor.P
open Go.RowKit Go.Proofs.YtccolnlfjbgnmaaGreatDoorW.PrintWords Go.Proofs.YtccolnlfjbgnmaaGreatDoorW.PrintLast Chk Px Hr Hd
set_option linter.unusedVariables false
set_option linter.unusedSimpArgs false
def headracelaw08_HeadNil.f (k : Nat) (l0 : List Int) : Option Bool := some true
set_option maxHeartbeats 4000000 in
set_option maxRecDepth 100000 in
theorem headracelaw08_HeadNil.calls (k : Nat) (A0 : Option Addr) (c0 : Nat) (l0 : List Int) (r : Bool) (w : World) (hr0 : Kd.C (Kd.int .u8) w A0 l0.length l0) (hc0 : l0.length ≤ c0) (h : headracelaw08_HeadNil.f k l0 = some r) (hG_ : GInv w) :
    Calls Tryz.prog 5 #[.slice A0 l0.length c0] w fun e w' => e = .returned (.bool r) ∧ Below w.heap.size w w' := by
  obtain rfl := Option.some.inj h
  have HG := Aside0.mk hG_
  clear h hG_ hr0 hc0
  have HPl : Aside0 (∀ (W : World) (A : Option Addr) (c : Nat), Kd.C P.k37 W A (head0 false).f6.length (head0 false).f6 → (head0 false).f6.length ≤ c → Calls Tryz.prog 19 #[.agg #[.bool false, .string ⟨#[]⟩, .string ⟨#[]⟩, .int .i64 0, .int .i64 0, .string ⟨#[]⟩, .slice A 0 c], .agg #[.bool false, .string ⟨#[]⟩, .string ⟨#[]⟩, .int .i64 0, .int .i64 0, .string ⟨#[]⟩, .slice none 0 0]] W fun e w' => e = .returned (.bool true) ∧ Below W.heap.size W w') := ⟨fun W A c hC hc => plain_same (head0 false) A none c 0 W (by simp [head0]) hC hc (Kd.C_nil _ W) (Nat.le_refl _)⟩
  go_enter Tryz.func5, Tryz.ntmps5
  go_wp2_with fail
  refine (Hd.feed_nil _ _).mono ?_
  rintro e w1 ⟨rfl, hb1⟩
  have HB1 := Aside0.mk hb1
  clear hb1
  go_wp2_with fail
  refine (Hd.head_nil _).mono ?_
  rintro e w2 ⟨v, rfl, hR, hb2⟩
  obtain ⟨A1, c1, e1, hc1, hC1⟩ := Kd.R_reads hR
  subst e1
  have HB2 := Aside0.mk (below_step (by repeat (first | exact HB1.out | apply below_drew1 | apply pw_below_drewN)) hb2)
  have HC1 := Aside0.mk hC1
  have Hc1 := Aside0.mk hc1
  clear hb2 hR hC1 hc1
  unfold Hd.hdV
  go_wp2_with fail
  refine (HPl.out _ A1 c1 (Kd.C_below HC1.out (by repeat (first | exact Below.refl _ _ | apply below_drew1 | apply pw_below_drewN))) Hc1.out).mono ?_
  rintro e w3 ⟨rfl, hb3⟩
  have HB3 := Aside0.mk (below_step (by repeat (first | exact HB2.out | apply below_drew1 | apply pw_below_drewN)) hb3)
  clear hb3
  go_wp2_with fail
  refine (Hd.speaks_calls _ (GInv.below' HG (by repeat (first | exact HB3.out | apply below_drew1 | apply pw_below_drewN)))).mono ?_
  rintro e w4 ⟨rfl, hb4⟩
  have HB4 := Aside0.mk (below_step (by repeat (first | exact HB3.out | apply below_drew1 | apply pw_below_drewN)) hb4)
  clear hb4
  go_wp2
  go_ret
  exact ⟨rfl, HB4.out⟩
end Go.Proofs.YtccolnlfjbgnmaaGreatDoor.P
namespace Go.Proofs.YtccolnlfjbgnmaaGreatDoor.Px
theorem pure_HeadNil (l : List Int) (_ : ∀ x ∈ l, (Go.Lit.int .u8 x).wf = true) : ∃ k, P.headracelaw08_HeadNil.f k l = some true := ⟨0, rfl⟩
end Go.Proofs.YtccolnlfjbgnmaaGreatDoor.Px
