/- ClientNil: the walk; own text of this session. -/
import Derived.Test.YtccolnlfjbgnmaaGreatDoorClZ
namespace Go.Proofs.YtccolnlfjbgnmaaGreatDoor.P
open Go.RowKit Go.Proofs.YtccolnlfjbgnmaaGreatDoorW.PrintWords Go.Proofs.YtccolnlfjbgnmaaGreatDoorW.PrintLast Chk Px Hr Hd
set_option linter.unusedVariables false
set_option linter.unusedSimpArgs false
def headracelaw23_ClientNil.f (k : Nat) (l0 : List Int) : Option Bool := some true
set_option maxHeartbeats 4000000 in
set_option maxRecDepth 100000 in
theorem headracelaw23_ClientNil.calls (k : Nat) (A0 : Option Addr) (c0 : Nat) (l0 : List Int) (r : Bool) (w : World) (hr0 : Kd.C (Kd.int .u8) w A0 l0.length l0) (hc0 : l0.length ≤ c0) (h : headracelaw23_ClientNil.f k l0 = some r) (hG_ : GInv w) :
    Calls Tryz.prog 12 #[.slice A0 l0.length c0] w fun e w' => e = .returned (.bool r) ∧ Below w.heap.size w w' := by
  obtain rfl := Option.some.inj h
  have HG := Aside0.mk hG_
  clear h hG_ hr0 hc0
  go_enter Tryz.func12, Tryz.ntmps12
  go_wp2_with fail
  refine (Cli.read_nil _ _).mono ?_
  rintro e w1 ⟨rfl, hb1⟩
  have HB1 := Aside0.mk hb1
  clear hb1
  go_wp2_with fail
  refine (Cli.request_nil _).mono ?_
  rintro e w2 ⟨A1, c1, A2, c2, rfl, _, _, _, _, hb2⟩
  have HB2 := Aside0.mk (below_step (by repeat (first | exact HB1.out | apply below_alloc | apply below_drew1 | apply pw_below_drewN)) hb2)
  clear hb2
  go_wp2_with (first
    | (go_at_call 39; go_loud (refine (Cli.end_nil _).mono ?_; rintro e w3 ⟨rfl, hb⟩; have HB3 := Aside0.mk (below_step (by repeat (first | exact HB2.out | apply below_alloc | apply below_drew1 | apply pw_below_drewN)) hb); clear hb))
    | (go_at_call 34; go_loud (refine (Cli.answered_nil _ _).mono ?_; rintro e w4 ⟨rfl, hb⟩; have HB4 := Aside0.mk (below_step (by repeat (first | exact HB3.out | apply below_alloc | apply below_drew1 | apply pw_below_drewN)) hb); clear hb))
    | (go_at_call 32; go_loud (refine (Cli.wrong_nil _).mono ?_; rintro e w5 ⟨rfl, hb⟩; have HB5 := Aside0.mk (below_step (by repeat (first | exact HB4.out | apply below_alloc | apply below_drew1 | apply pw_below_drewN)) hb); clear hb))
    | (go_at_call 37; go_loud (refine (Cli.begun_nil _).mono ?_; rintro e w6 ⟨rfl, hb⟩; have HB6 := Aside0.mk (below_step (by repeat (first | exact HB5.out | apply below_alloc | apply below_drew1 | apply pw_below_drewN)) hb); clear hb))
    | (go_at_call 33; go_loud (refine (Cli.shut_nil _).mono ?_; rintro e w7 ⟨rfl, hb⟩; have HB7 := Aside0.mk (below_step (by repeat (first | exact HB6.out | apply below_alloc | apply below_drew1 | apply pw_below_drewN)) hb); clear hb))
    | (go_at_call 35; go_loud (refine (Cli.speaks_calls _ (HG.out.below (by repeat (first | exact HB7.out | apply below_alloc | apply below_drew1 | apply pw_below_drewN)))).mono ?_; rintro e w8 ⟨rfl, hb⟩; have HB8 := Aside0.mk (below_step (by repeat (first | exact HB7.out | apply below_alloc | apply below_drew1 | apply pw_below_drewN)) hb); clear hb)))
  go_ret
  exact ⟨rfl, HB8.out⟩
end Go.Proofs.YtccolnlfjbgnmaaGreatDoor.P
namespace Go.Proofs.YtccolnlfjbgnmaaGreatDoor.Px
theorem pure_ClientNil (l : List Int) (_ : ∀ x ∈ l, (Go.Lit.int .u8 x).wf = true) : ∃ k, P.headracelaw23_ClientNil.f k l = some true := ⟨0, rfl⟩
end Go.Proofs.YtccolnlfjbgnmaaGreatDoor.Px
