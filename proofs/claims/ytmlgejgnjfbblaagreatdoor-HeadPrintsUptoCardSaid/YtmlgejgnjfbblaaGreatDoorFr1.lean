/- A head's fields, plainly: All, Items, Has of packages fields and its reference: own text of this session. -/
import Derived.Test.YtmlgejgnjfbblaaGreatDoorPx5
namespace Go.Proofs.YtmlgejgnjfbblaaGreatDoor.Px
open Go.RowKit Go.Proofs.YtmlgejgnjfbblaaGreatDoor.P Go.Proofs.YtmlgejgnjfbblaaGreatDoorW.PrintWords Go.Proofs.YtmlgejgnjfbblaaGreatDoorW.PrintLast Go.Proofs.Hr
set_option linter.unusedVariables false
set_option linter.unusedSimpArgs false
abbrev Fld := S45
def fsz (l : List Fld) : Nat := (l.map fun f => f.f0.size + f.f1.size + 1).sum
theorem fsz_cons (f : Fld) (l : List Fld) : fsz (f :: l) = f.f0.size + f.f1.size + 1 + fsz l := by simp [fsz]
theorem rd_fld {l r : List Fld} {f : Fld} {i : Nat} (h : l.drop i = f :: r) : rd_T45 l (i : Int) = f := by
  have h1 := drop_lt h
  unfold rd_T45
  rw [Int.toNat_natCast, List.getD_eq_getElem?_getD]
  rw [List.drop_eq_getElem_cons h1] at h
  injection h with h2 h3
  rw [List.getElem?_eq_getElem h1, h2]; rfl
/-! Has -/
end Go.Proofs.YtmlgejgnjfbblaaGreatDoor.Px
