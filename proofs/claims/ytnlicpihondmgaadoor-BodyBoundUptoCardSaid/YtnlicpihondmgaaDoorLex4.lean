/- Package lexis, by hand: Trim, and what List's closure does; own text of this session. -/
import Derived.Test.YtnlicpihondmgaaDoorLex3
import Derived.Shelf.Strings.SlTrimAscii
namespace Go.Proofs.YtnlicpihondmgaaDoor.Lex
open Go.RowKit Go.Proofs.YtnlicpihondmgaaDoorW.PrintWords Go.Proofs.Hr Go.Shelf Go.Lib
set_option linter.unusedVariables false
theorem trim_calls (a0 : ByteArray) (w : World) (hs : a0.size ≤ 4611686018427387904) :
    Calls Tryd.prog 68 #[.string a0, .string ⟨#[32, 9]⟩] w fun e w' => e = .returned (.string ⟨(trim a0.data.toList).toArray⟩) ∧ Below w.heap.size w w' :=
  Any.strings_Trim_laid Tryd.lays160 (by kernel_rfl) a0 ⟨#[32, 9]⟩ w (by omega) (by decide) (ascii_of_all (by decide))
theorem lexTrim_calls (a0 : ByteArray) (w : World) (hs : a0.size ≤ 4611686018427387904) :
    Calls Tryd.prog 58 #[.string a0] w fun e w' => e = .returned (.string ⟨(trim a0.data.toList).toArray⟩) ∧ Below w.heap.size w w' := by
  have H := Lib.hid (trim_calls a0 w hs)
  generalize hr : (⟨(trim a0.data.toList).toArray⟩ : ByteArray) = r at H ⊢
  clear hr
  go_enter Tryd.func58, Tryd.ntmps58
  go_wp2_with (go_at_call 68; refine H.out.mono ?_; rintro e w' ⟨rfl, hB⟩)
  go_ret
  exact ⟨rfl, hB⟩
end Go.Proofs.YtnlicpihondmgaaDoor.Lex
