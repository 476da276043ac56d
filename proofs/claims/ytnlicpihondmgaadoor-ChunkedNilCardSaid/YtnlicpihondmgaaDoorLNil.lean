/- ChunkedNil: the walk; own text of this session. -/
import Derived.Test.YtnlicpihondmgaaDoorChk12
namespace Go.Proofs.YtnlicpihondmgaaDoor.P
open Go.RowKit Go.Proofs.YtnlicpihondmgaaDoorW.PrintWords Go.Proofs.YtnlicpihondmgaaDoorW.PrintLast Chk
set_option linter.unusedVariables false
set_option linter.unusedSimpArgs false
def headracelaw10_ChunkedNil.f (k : Nat) (l0 : List Int) : Option Bool := some true
set_option maxHeartbeats 4000000 in
set_option maxRecDepth 100000 in
theorem headracelaw10_ChunkedNil.calls (k : Nat) (A0 : Option Addr) (c0 : Nat) (l0 : List Int) (r : Bool) (w : World) (hr0 : Kd.C (Kd.int .u8) w A0 l0.length l0) (hc0 : l0.length ≤ c0) (h : headracelaw10_ChunkedNil.f k l0 = some r) (hG_ : GInv w) :
    Calls Tryd.prog 7 #[.slice A0 l0.length c0] w fun e w' => e = .returned (.bool r) ∧ Below w.heap.size w w' := by
  obtain rfl := Option.some.inj h
  have HG := Aside0.mk hG_
  clear h hG_ hr0 hc0
  go_enter Tryd.func7, Tryd.ntmps7
  go_wp2_with fail
  refine (feed_nil _ _).mono ?_
  rintro e w1 ⟨rfl, hb1⟩
  have HB1 := Aside0.mk hb1
  clear hb1
  go_wp2_with fail
  refine (trailers_nil _).mono ?_
  rintro e w2 ⟨rfl, hb2⟩
  have HB2 := Aside0.mk (below_step (by repeat (first | exact HB1.out | apply below_drew1 | apply pw_below_drewN)) hb2)
  clear hb2
  go_wp2_with fail
  refine (speaks_calls _ (GInv.below' HG (by repeat (first | exact HB2.out | apply below_drew1 | apply pw_below_drewN)))).mono ?_
  rintro e w3 ⟨rfl, hb3⟩
  have HB3 := Aside0.mk (below_step (by repeat (first | exact HB2.out | apply below_drew1 | apply pw_below_drewN)) hb3)
  clear hb3
  go_wp2
  go_ret
  exact ⟨rfl, HB3.out⟩
end Go.Proofs.YtnlicpihondmgaaDoor.P
namespace Go.Proofs.YtnlicpihondmgaaDoor.Px
theorem pure_ChunkedNil (l : List Int) (_ : ∀ x ∈ l, (Go.Lit.int .u8 x).wf = true) : ∃ k, P.headracelaw10_ChunkedNil.f k l = some true := ⟨0, rfl⟩
end Go.Proofs.YtnlicpihondmgaaDoor.Px
