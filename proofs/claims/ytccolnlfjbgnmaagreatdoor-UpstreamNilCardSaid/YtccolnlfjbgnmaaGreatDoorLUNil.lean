/- UpstreamNil: the walk; own text of this session. -/
import Derived.Test.YtccolnlfjbgnmaaGreatDoorUpZ
namespace Go.Proofs.YtccolnlfjbgnmaaGreatDoor.P
open Go.RowKit Go.Proofs.YtccolnlfjbgnmaaGreatDoorW.PrintWords Go.Proofs.YtccolnlfjbgnmaaGreatDoorW.PrintLast Chk Px Hr Hd
set_option linter.unusedVariables false
set_option linter.unusedSimpArgs false
def headracelaw24_UpstreamNil.f (k : Nat) (l0 : List Int) : Option Bool := some true
set_option maxHeartbeats 4000000 in
set_option maxRecDepth 100000 in
theorem headracelaw24_UpstreamNil.calls (k : Nat) (A0 : Option Addr) (c0 : Nat) (l0 : List Int) (r : Bool) (w : World) (hr0 : Kd.C (Kd.int .u8) w A0 l0.length l0) (hc0 : l0.length ≤ c0) (h : headracelaw24_UpstreamNil.f k l0 = some r) (hG_ : GInv w) :
    Calls Tryz.prog 14 #[.slice A0 l0.length c0] w fun e w' => e = .returned (.bool r) ∧ Below w.heap.size w w' := by
  obtain rfl := Option.some.inj h
  have HG := Aside0.mk hG_
  clear h hG_ hr0 hc0
  go_enter Tryz.func14, Tryz.ntmps14
  go_wp2_with fail
  refine (Ups.read_nil _ _).mono ?_
  rintro e w1 ⟨rfl, hb1⟩
  have HB1 := Aside0.mk hb1
  clear hb1
  go_wp2_with fail
  refine (Ups.head_nil _).mono ?_
  rintro e w2 ⟨v, rfl, hR, hb2⟩
  obtain ⟨A1, c1, e1, hc1, hC1⟩ := Kd.R_reads hR
  subst e1
  unfold hdV head0
  have HB2 := Aside0.mk (below_step (by repeat (first | exact HB1.out | apply below_alloc | apply below_drew1 | apply pw_below_drewN)) hb2)
  clear hb2 hR hc1 hC1
  go_wp2_with (first
    | (go_at_call 40; go_loud (refine (Ups.end_nil _).mono ?_; rintro e w3 ⟨rfl, hb⟩; have HB3 := Aside0.mk (below_step (by repeat (first | exact HB2.out | apply below_alloc | apply below_drew1 | apply pw_below_drewN)) hb); clear hb))
    | (go_at_call 27; go_loud (refine (Ups.whole_nil _).mono ?_; rintro e w4 ⟨rfl, hb⟩; have HB4 := Aside0.mk (below_step (by repeat (first | exact HB3.out | apply below_alloc | apply below_drew1 | apply pw_below_drewN)) hb); clear hb))
    | (go_at_call 41; go_loud (refine (Ups.again_nil _).mono ?_; rintro e w5 ⟨rfl, hb⟩; have HB5 := Aside0.mk (below_step (by repeat (first | exact HB4.out | apply below_alloc | apply below_drew1 | apply pw_below_drewN)) hb); clear hb))
    | (go_at_call 42; go_loud (refine (Ups.framing_nil _).mono ?_; rintro e w6 ⟨rfl, hb⟩; have HB6 := Aside0.mk (below_step (by repeat (first | exact HB5.out | apply below_alloc | apply below_drew1 | apply pw_below_drewN)) hb); clear hb))
    | (go_at_call 24; go_loud (refine (Ups.speaks_calls _ (HG.out.below (by repeat (first | exact HB6.out | apply below_alloc | apply below_drew1 | apply pw_below_drewN)))).mono ?_; rintro e w8 ⟨rfl, hb⟩; have HB8 := Aside0.mk (below_step (by repeat (first | exact HB6.out | apply below_alloc | apply below_drew1 | apply pw_below_drewN)) hb); clear hb)))
  go_ret
  exact ⟨rfl, HB8.out⟩
end Go.Proofs.YtccolnlfjbgnmaaGreatDoor.P
namespace Go.Proofs.YtccolnlfjbgnmaaGreatDoor.Px
theorem pure_UpstreamNil (l : List Int) (_ : ∀ x ∈ l, (Go.Lit.int .u8 x).wf = true) : ∃ k, P.headracelaw24_UpstreamNil.f k l = some true := ⟨0, rfl⟩
end Go.Proofs.YtccolnlfjbgnmaaGreatDoor.Px
