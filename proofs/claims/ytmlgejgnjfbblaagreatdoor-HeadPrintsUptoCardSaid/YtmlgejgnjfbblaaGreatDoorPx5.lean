/- Lists: the laws LexisLists and LexisJoined: own text of this session. -/
import Derived.Test.YtmlgejgnjfbblaaGreatDoorPx4
namespace Go.Proofs.YtmlgejgnjfbblaaGreatDoor.Px
open Go.RowKit Go.Proofs.YtmlgejgnjfbblaaGreatDoor.P Go.Proofs.YtmlgejgnjfbblaaGreatDoorW.PrintWords Go.Proofs.YtmlgejgnjfbblaaGreatDoorW.PrintLast Go.Proofs.Hr
set_option linter.unusedVariables false
set_option linter.unusedSimpArgs false
theorem ev_rTrim' (l : Bs) (hl : l.length ≤ 4611686018427387904) : Ev (fun k => headraceref05_Trim.f k (mkB l)) (mkB (trim l)) := by
  have h := ev_rTrim (mkB l) (by rw [mkB_size]; exact hl)
  rwa [mkB_data] at h
theorem trim_length (l : Bs) : (trim l).length ≤ l.length := by
  rw [trim_eq]
  unfold trimL trimR
  refine Nat.le_trans (List.dropWhile_sublist _).length_le ?_
  rw [List.length_reverse]
  exact Nat.le_trans (List.dropWhile_sublist _).length_le (by simp)
end Go.Proofs.YtmlgejgnjfbblaaGreatDoor.Px
