/- Package chunked, by hand: one byte in a decoder, whatever its state; own text of this session. -/
import Derived.Test.YtmlgejgnjfbblaaGreatDoorChB
import Derived.Deep.RegionWith
import Derived.Test.YtmlgejgnjfbblaaGreatDoorP
namespace Go.Proofs.YtmlgejgnjfbblaaGreatDoor.Chk
open Go.RowKit Go.Proofs.YtmlgejgnjfbblaaGreatDoorW.PrintWords Go.Proofs.YtmlgejgnjfbblaaGreatDoorW.PrintLast
set_option linter.unusedVariables false
/-- What the walks ask of a decoder's numbers. -/
structure Fine (d : Dec) : Prop where
  left0 : 0 ≤ d.left
  left1 : d.left ≤ 9007199254740992
  need1 : d.need ≤ 9007199254740992
  need0 : d.st = 1 → 1 ≤ d.need
end Go.Proofs.YtmlgejgnjfbblaaGreatDoor.Chk
/- Package chunked, by hand: what Feed comes to; own text of this session. -/
namespace Go.Proofs.YtmlgejgnjfbblaaGreatDoor.Chk
open Go.RowKit Go.Proofs.YtmlgejgnjfbblaaGreatDoorW.PrintWords Go.Proofs.YtmlgejgnjfbblaaGreatDoorW.PrintLast
set_option linter.unusedVariables false
end Go.Proofs.YtmlgejgnjfbblaaGreatDoor.Chk
/- Package chunked, by hand: New; a nil decoder; own text of this session. -/
namespace Go.Proofs.YtmlgejgnjfbblaaGreatDoor.Chk
open Go.RowKit Go.Proofs.YtmlgejgnjfbblaaGreatDoorW.PrintWords Go.Proofs.YtmlgejgnjfbblaaGreatDoorW.PrintLast
set_option linter.unusedVariables false
end Go.Proofs.YtmlgejgnjfbblaaGreatDoor.Chk
/- Package chunked's laws, by hand: speaks; own text of this session. -/
namespace Go.Proofs.YtmlgejgnjfbblaaGreatDoor.Chk
open Go.RowKit Go.Proofs.YtmlgejgnjfbblaaGreatDoorW.PrintWords Go.Proofs.YtmlgejgnjfbblaaGreatDoorW.PrintLast Go.Proofs.YtmlgejgnjfbblaaGreatDoorW.PrintMore
set_option linter.unusedVariables false
set_option linter.unusedSimpArgs false
theorem below_grown {w w1 : World} (h : w.grownBy w1 none) : Below w.heap.size w w1 := ⟨h.os, h.tape, h.output, h.size, fun k hk => h.block k hk (by simp)⟩
end Go.Proofs.YtmlgejgnjfbblaaGreatDoor.Chk
