/- What the rows' list of package-level variables gives a walk, and a world that holds it: laid by a program of this session (rows.py). -/
import Derived.Test.YtmlgejgnjfbblaaGreatDoorCards
import Derived.Test.YtmlgejgnjfbblaaGreatDoorTie
import Derived.Test.YtmlgejgnjfbblaaGreatDoorInv
import Derived.WalkKit
import Derived.ProofKit
import Derived.OpenShut
import Derived.ShutString
import Derived.ChangeOld
import Derived.SizedLaws
import Derived.Deep.DeepHandedRow
import Derived.Lib.LaidTab
import Derived.Stop.LaidErr
import Derived.LaidLaws
import Derived.LaidHandle
import Derived.Shelf.Vars
namespace Go.Proofs.YtmlgejgnjfbblaaGreatDoor.Laid
open Go.ChangeShapes Go.WideShapes Go.ChangeAt Go.RowKit
set_option linter.unusedVariables false
set_option maxRecDepth 100000
def list : List (String × DataW Unit) := [("math/bits.deBruijn32tab", Rows.laid_math_bits_deBruijn32tab), ("math/bits.deBruijn64tab", Rows.laid_math_bits_deBruijn64tab), ("internal/strconv.uint64pow10", Rows.laid_internal_strconv_uint64pow10), ("unicode/utf8.acceptRanges", Rows.laid_unicode_utf8_acceptRanges), ("errors.errorType", Rows.laid_errors_errorType), ("strconv.ErrRange", Rows.laid_strconv_ErrRange), ("strconv.ErrSyntax", Rows.laid_strconv_ErrSyntax), ("unicode/utf8.first", Rows.laid_unicode_utf8_first)]
def listN : List (String × DataW Unit) := [("math/bits.deBruijn32tab", Rows.laid_math_bits_deBruijn32tab), ("math/bits.deBruijn64tab", Rows.laid_math_bits_deBruijn64tab), ("internal/strconv.uint64pow10", Rows.laid_internal_strconv_uint64pow10), ("unicode/utf8.acceptRanges", Rows.laid_unicode_utf8_acceptRanges), ("strconv.ErrRange", Rows.laid_strconv_ErrRange), ("strconv.ErrSyntax", Rows.laid_strconv_ErrSyntax), ("unicode/utf8.first", Rows.laid_unicode_utf8_first)]
def listH : List (String × DataW Unit) := [("errors.errorType", Rows.laid_errors_errorType)]
theorem own : ownKnob Tryz.prog.godebug = none := by kernel_rfl
theorem laidOut : laidOutB Tryz.prog = true := by kernel_rfl
theorem noH : (list.filter fun x => x.2.handleName?.isNone) = listN := by kernel_rfl
theorem onlyH : (list.filter fun x => x.2.handleName?.isSome) = listH := by kernel_rfl
theorem parts {W : World} (h : laidMetH Tryz.prog list W) : laidMet Tryz.prog listN W ∧ handlesMet Tryz.prog listH W := by
  unfold laidMetH at h
  rw [onlyH] at h
  have h2 : laidMet Tryz.prog (list.filter fun x => x.2.handleName?.isNone) W ∧ handlesMet Tryz.prog listH W := h
  rw [noH] at h2
  exact h2
theorem met {W : World} (h : laidMetH Tryz.prog list W) : laidMet Tryz.prog listN W := (parts h).1
theorem etG : Tryz.prog.globalNamed "errors.errorType" = some 0 := by kernel_rfl
theorem rt : (Tryz.prog.cutTypes.find? (·.1 == "internal/reflectlite.rtype")).map (·.2) = some 129 := by kernel_rfl
theorem oneRow : ((List.range 202).filter fun t => Tryz.prog.rowNamed t [101, 114, 114, 111, 114]) = [41] := by kernel_rfl
theorem size : Tryz.prog.types.size = 202 := by kernel_rfl
theorem handle_of_laid {W : World} (h : laidMetH Tryz.prog list W) : W.cell? ⟨0, 0, none⟩ = some (.iface 129 (.agg #[.pointer (some ⟨9, 41, none⟩)])) := by
  obtain ⟨name, u, ty, e1, e2, e3, e4, e5⟩ := (parts h).2 _ (List.mem_singleton.2 rfl)
  have en : name = [101, 114, 114, 111, 114] := (Option.some.inj e1).symm
  subst en
  obtain rfl := Option.some.inj (rt.symm.trans e2)
  have hm : ty ∈ (List.range 202).filter fun t => Tryz.prog.rowNamed t [101, 114, 114, 111, 114] := List.mem_filter.2 ⟨List.mem_range.2 (by rw [← size]; exact e3), e4⟩
  rw [oneRow] at hm
  obtain rfl := List.mem_singleton.1 hm
  have hh : typeHandle Tryz.prog 41 = .pointer (some ⟨9, 41, none⟩) := by kernel_rfl
  rw [hh] at e5
  simpa using World.var?_cell etG e5 0
theorem at0 {W : World} (h : laidMetH Tryz.prog list W) : ∃ rest, laidMet Tryz.prog (("math/bits.deBruijn32tab", Rows.laid_math_bits_deBruijn32tab) :: rest) W := ⟨_, met h⟩
theorem at1 {W : World} (h : laidMetH Tryz.prog list W) : ∃ rest, laidMet Tryz.prog (("math/bits.deBruijn64tab", Rows.laid_math_bits_deBruijn64tab) :: rest) W := ⟨_, laidMet.tail (met h)⟩
theorem at2 {W : World} (h : laidMetH Tryz.prog list W) : ∃ rest, laidMet Tryz.prog (("internal/strconv.uint64pow10", Rows.laid_internal_strconv_uint64pow10) :: rest) W := ⟨_, laidMet.tail (laidMet.tail (met h))⟩
theorem at3 {W : World} (h : laidMetH Tryz.prog list W) : ∃ rest, laidMet Tryz.prog (("unicode/utf8.acceptRanges", Rows.laid_unicode_utf8_acceptRanges) :: rest) W := ⟨_, laidMet.tail (laidMet.tail (laidMet.tail (met h)))⟩
theorem at4 {W : World} (h : laidMetH Tryz.prog list W) : ∃ rest, laidMet Tryz.prog (("strconv.ErrRange", Rows.laid_strconv_ErrRange) :: rest) W := ⟨_, laidMet.tail (laidMet.tail (laidMet.tail (laidMet.tail (met h))))⟩
theorem at5 {W : World} (h : laidMetH Tryz.prog list W) : ∃ rest, laidMet Tryz.prog (("strconv.ErrSyntax", Rows.laid_strconv_ErrSyntax) :: rest) W := ⟨_, laidMet.tail (laidMet.tail (laidMet.tail (laidMet.tail (laidMet.tail (met h)))))⟩
theorem at6 {W : World} (h : laidMetH Tryz.prog list W) : ∃ rest, laidMet Tryz.prog (("unicode/utf8.first", Rows.laid_unicode_utf8_first) :: rest) W := ⟨_, laidMet.tail (laidMet.tail (laidMet.tail (laidMet.tail (laidMet.tail (laidMet.tail (met h))))))⟩
theorem star : "*" ++ "errors.errorString" = "*errors.errorString" := by decide
theorem rowE (u : TypeId) (h : Tryz.prog.typeName? 3 u = some "*errors.errorString") : u = 173 :=
  typeName_ptr_named (nm := "errors.errorString") (by rw [star]; kernel_rfl) (by kernel_rfl) (by decide) u (by rw [star]; exact h)
/-- What the row's list gives. -/
theorem ginv {W : World} (h : laidMetH Tryz.prog list W) (hs : W.ShapedOpen Tryz.prog) : GInv W := by
  have h0 : ∃ tp p, W.var? Tryz.prog "strconv.ErrSyntax" = some #[.iface tp p] := by
    obtain ⟨_, h5⟩ := at5 h
    obtain ⟨a, s, hv, _⟩ := laid_sentinel h5 (g := 7) (ti := 41) (tp := 173) (te := 175) (ts := 9) (by kernel_rfl) (by kernel_rfl) Tryz.underlying41 rowE Tryz.underlying173 Tryz.underlying175 rfl rfl Tryz.underlying9 (by kernel_rfl) (by kernel_rfl)
    exact ⟨_, _, hv⟩
  have h1 : ∃ tp p, W.var? Tryz.prog "strconv.ErrRange" = some #[.iface tp p] := by
    obtain ⟨_, h4⟩ := at4 h
    obtain ⟨a, s, hv, _⟩ := laid_sentinel h4 (g := 8) (ti := 41) (tp := 173) (te := 175) (ts := 9) (by kernel_rfl) (by kernel_rfl) Tryz.underlying41 rowE Tryz.underlying173 Tryz.underlying175 rfl rfl Tryz.underlying9 (by kernel_rfl) (by kernel_rfl)
    exact ⟨_, _, hv⟩
  have h2 : Lib.TabIs Tryz.prog W "internal/strconv.uint64pow10" .u64 Lib.pow10Tab := by
    obtain ⟨_, h2⟩ := at2 h
    have := Lib.tabIs_of_head (k := .u64) (zs := Lib.pow10Tab) (g := 1) (t := 112) (e := 84) (by kernel_rfl) (by kernel_rfl) Tryz.underlying112 Tryz.underlying84 (by kernel_rfl) (by kernel_rfl) h2
    exact this
  have h3 : W.cell? ⟨3, 15, none⟩ = some (.int .u8 4) := by
    obtain ⟨_, h1⟩ := at1 h
    have := Lib.tabIs_of_head (k := .u8) (zs := [0, 1, 56, 2, 57, 49, 28, 3, 61, 58, 42, 50, 38, 29, 17, 4, 62, 47, 59, 36, 45, 43, 51, 22, 53, 39, 33, 30, 24, 18, 12, 5, 63, 55, 48, 27, 60, 41, 37, 16, 46, 35, 44, 21, 52, 32, 23, 11, 54, 26, 40, 15, 34, 20, 31, 10, 25, 14, 19, 9, 13, 8, 7, 6]) (g := 3) (t := 156) (e := 5) (by kernel_rfl) (by kernel_rfl) Tryz.underlying156 Tryz.underlying5 (by kernel_rfl) (by kernel_rfl) h1
    exact this.cell (g := 3) (by kernel_rfl) 15 (by decide)
  have h4 : ∃ m, W.cell? ⟨4, 0, none⟩ = some (.int .i64 m) := cell_of_shapedOpen_int (zero := #[.int .i64 0]) (t := 3) hs (of_decide_eq_true (by kernel_rfl)) (by kernel_rfl) rfl (by kernel_rfl) (by kernel_rfl) Tryz.underlying3
  exact ⟨h0, h1, h2, h3, h4, handle_of_laid h⟩
def leaf : DataW Unit → Value
  | .lit (.int k z) => .int k z
  | _ => .bool false
def cell1 : DataW Unit → List Value
  | .agg l => l.map leaf
  | d => [leaf d]
def flat : DataW Unit → Array Value
  | .agg l => (l.flatMap cell1).toArray
  | _ => #[]
def put (w : World) (g : Nat) (cs : Array Value) : World := { w with heap := w.heap.modify g fun
  | .cells _ t frozen => .cells cs t frozen
  | o => o }
noncomputable def low : Nat := (World.holding Tryz.prog default ⟨#[], #[], []⟩).heap.size
/-- A world that holds what is listed. -/
noncomputable def laidWorld (os : Os) : World := put (put (put (put (put (put (put (put (World.holding Tryz.prog os ⟨#[.cells #[.string ⟨#[118, 97, 108, 117, 101, 32, 111, 117, 116, 32, 111, 102, 32, 114, 97, 110, 103, 101]⟩] 175, .cells #[.string ⟨#[105, 110, 118, 97, 108, 105, 100, 32, 115, 121, 110, 116, 97, 120]⟩] 175], #[], []⟩) 2 (flat Rows.laid_math_bits_deBruijn32tab)) 3 (flat Rows.laid_math_bits_deBruijn64tab)) 1 (flat Rows.laid_internal_strconv_uint64pow10)) 6 (flat Rows.laid_unicode_utf8_acceptRanges)) 0 #[.iface 129 (.agg #[.pointer (some ⟨9, 41, none⟩)])]) 8 #[.iface 173 (.pointer (some ⟨low + 0, 0, none⟩))]) 7 #[.iface 173 (.pointer (some ⟨low + 1, 0, none⟩))]) 5 (flat Rows.laid_unicode_utf8_first)
theorem laid_met (os : Os) (args : Array Value) : laidMetH Tryz.prog list ((laidWorld os).forCall (fun _ _ => 0) ⟨#[], args, []⟩).memory :=
  laidMetH_of_parts (by rw [noH]; exact laidMet_of_run' 12 (by kernel_rfl) (by kernel_rfl)) (by rw [onlyH]; kernel_rfl)
end Go.Proofs.YtmlgejgnjfbblaaGreatDoor.Laid
