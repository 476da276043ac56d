/- A row's argument of type api.Framing: what is known of it; own text of this session. -/
import Derived.Test.YtcfmihghgecefaaDoorSlOpen
import Derived.Carry
namespace Go.Proofs.YtcfmihghgecefaaDoor.FrmOpen
open Go.ChangeShapes Go.WideShapes Go.ChangeMaps Go.RowKit Go.Proofs.YtcfmihghgecefaaDoorW.PrintWords
set_option linter.unusedVariables false
variable {H : Type} {enc : TypeId × Value → H} {W : World} {base : Nat} {spare : Nat → Bool} {held : Bool}
theorem array3 {α : Type} {cs : Array α} (h : cs.size = 3) : ∃ c0 c1 c2, cs = #[c0, c1, c2] := by
  obtain ⟨l⟩ := cs
  match l, h with
  | [c0, c1, c2], _ => exact ⟨c0, c1, c2, rfl⟩
set_option maxRecDepth 100000 in
/-- A framing. -/
theorem open_framing {r : Reach} {b0 : Nat} {v : Value} {d : DataW H} {p : List MemPlace} (hv : Value.okWide Tryd.prog W r b0 23 v) (h : DataW.Trod enc Tryd.prog W base spare held 23 v d p) :
    ∃ (a0 a1 : Int) (a2 : Bool), v = .agg #[.int .i64 a0, .int .i64 a1, .bool a2] ∧ (Lit.int .i64 a0).wf = true ∧ (Lit.int .i64 a1).wf = true := by
  have hs := Tryd.underlying23
  obtain ⟨cs, rfl, hsz⟩ := okWide_struct hs hv
  obtain ⟨c0, c1, c2, rfl⟩ := array3 (hsz.trans (by kernel_rfl))
  obtain ⟨fuel, hf⟩ := h
  obtain ⟨xs, n, _, hxy, hl, hlen, hfs⟩ := DataW.trod_struct hs hf
  match xs, hlen with
  | [y0, y1, y2], _ =>
    have g0 := hfs 0 _ rfl
    have g1 := hfs 1 _ rfl
    have g2 := hfs 2 _ rfl
    have cB : Tryd.prog.cellsOf 4 = 1 := by kernel_rfl
    have cI : Tryd.prog.cellsOf 3 = 1 := by kernel_rfl
    simp [cB, cI, Value.cells] at g0 g1 g2
    obtain ⟨s0, e0, x0, w0⟩ := DataW.trod_int Tryd.underlying3 g0
    obtain ⟨s1, e1, x1, w1⟩ := DataW.trod_int Tryd.underlying3 g1
    obtain ⟨s2, e2, x2⟩ := DataW.trod_bool Tryd.underlying4 g2
    simp only [List.cons.injEq, and_true] at e0 e1 e2
    subst e0 e1 e2
    exact ⟨s0, s1, s2, rfl, w0, w1⟩
end Go.Proofs.YtcfmihghgecefaaDoor.FrmOpen
