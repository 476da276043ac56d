/- A row's argument of type Cut (bytes, a number, bytes): what is known of it; own text of this session. -/
import Derived.Test.YtccolnlfjbgnmaaGreatDoorSlOpen
import Derived.Carry
namespace Go.Proofs.YtccolnlfjbgnmaaGreatDoor.CutOpen
open Go.ChangeShapes Go.WideShapes Go.ChangeMaps Go.RowKit Go.Proofs.YtccolnlfjbgnmaaGreatDoorW.PrintWords
set_option linter.unusedVariables false
set_option linter.unusedSimpArgs false
variable {H : Type} {enc : TypeId × Value → H} {W : World} {base : Nat} {spare : Nat → Bool} {held : Bool}
theorem array3 {α : Type} {cs : Array α} (h : cs.size = 3) : ∃ c0 c1 c2, cs = #[c0, c1, c2] := by
  obtain ⟨l⟩ := cs
  match l, h with
  | [c0, c1, c2], _ => exact ⟨c0, c1, c2, rfl⟩
set_option maxRecDepth 100000 in
theorem open_cut {r : Reach} {b0 : Nat} {v : Value} {d : DataW H} {p : List MemPlace} (hv : Value.okWide Tryz.prog W r b0 45 v) (h : DataW.Trod enc Tryz.prog W base spare held 45 v d p) :
    ∃ (A0 : Option Addr) (l0 : List Int) (c0 : Nat) (a1 : Int) (A2 : Option Addr) (l2 : List Int) (c2 : Nat), v = .agg #[.slice A0 l0.length c0, .int .i64 a1, .slice A2 l2.length c2] ∧ l0.length ≤ c0 ∧ (Kd.int .u8).C W A0 l0.length l0 ∧ l2.length ≤ c2 ∧ (Kd.int .u8).C W A2 l2.length l2 ∧ l0.length + l2.length ≤ Rows.uptoBulk d := by
  have hs := Tryz.underlying45
  obtain ⟨cs, rfl, hsz⟩ := okWide_struct hs hv
  obtain ⟨c0, c1, c2, rfl⟩ := array3 (hsz.trans (by kernel_rfl))
  obtain ⟨fuel, hf⟩ := h
  obtain ⟨xs, n, _, hxy, hl, hlen, hfs⟩ := DataW.trod_struct hs hf
  match xs, hlen with
  | [y0, y1, y2], _ =>
    have g0 := hfs 0 _ rfl
    have g1 := hfs 1 _ rfl
    have g2 := hfs 2 _ rfl
    have cB : Tryz.prog.cellsOf 33 = 1 := by kernel_rfl
    have cI : Tryz.prog.cellsOf 3 = 1 := by kernel_rfl
    simp [cB, cI, Value.cells] at g0 g1 g2
    obtain ⟨A0, l0, k0, e0, f0, C0, b0, w0⟩ := SlOpen.bytes_trod g0
    obtain ⟨s1, e1, x1, w1⟩ := DataW.trod_int Tryz.underlying3 g1
    obtain ⟨A2, l2, k2, e2, f2, C2, b2, w2⟩ := SlOpen.bytes_trod g2
    simp only [List.cons.injEq, and_true] at e1
    subst e0 e1 e2
    refine ⟨A0, l0, k0, s1, A2, l2, k2, rfl, f0, C0, f2, C2, ?_⟩
    simp only [Prod.mk.injEq] at hxy
    obtain ⟨rfl, _⟩ := hxy
    simp only [Rows.uptoBulk, Rows.uptoBulkAll, List.map_cons, List.map_nil]
    omega
end Go.Proofs.YtccolnlfjbgnmaaGreatDoor.CutOpen
