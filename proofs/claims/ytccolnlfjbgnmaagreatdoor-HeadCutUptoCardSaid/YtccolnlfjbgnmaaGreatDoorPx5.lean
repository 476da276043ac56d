/- Lists: the laws LexisLists and LexisJoined: own text of this session. -/
import Derived.Test.YtccolnlfjbgnmaaGreatDoorPx4
namespace Go.Proofs.YtccolnlfjbgnmaaGreatDoor.Px
open Go.RowKit Go.Proofs.YtccolnlfjbgnmaaGreatDoor.P Go.Proofs.YtccolnlfjbgnmaaGreatDoorW.PrintWords Go.Proofs.YtccolnlfjbgnmaaGreatDoorW.PrintLast Go.Proofs.Hr
set_option linter.unusedVariables false
set_option linter.unusedSimpArgs false
/-! a list, letter by letter: whether it stands in quotes, whether a letter is to be passed -/
def lg : Bs → Bs → Bool → Bool → List Bs → List Bs
  | [], part, _, _, out => put part out
  | c :: r, part, q, sk, out =>
    if c == 44 && !q then lg r [] q sk (put part out)
    else if sk then lg r (part ++ [c]) q false out
    else if c == 92 && q then lg r (part ++ [c]) q true out
    else if c == 34 then lg r (part ++ [c]) (!q) sk out
    else lg r (part ++ [c]) q sk out
theorem trim_length (l : Bs) : (trim l).length ≤ l.length := by
  rw [trim_eq]
  unfold trimL trimR
  refine Nat.le_trans (List.dropWhile_sublist _).length_le ?_
  rw [List.length_reverse]
  exact Nat.le_trans (List.dropWhile_sublist _).length_le (by simp)
end Go.Proofs.YtccolnlfjbgnmaaGreatDoor.Px
