/- Lists: the laws LexisLists and LexisJoined: own text of this session. -/
import Derived.Test.YtccolnlfjbgnmaaGreatDoorPx4
namespace Go.Proofs.YtccolnlfjbgnmaaGreatDoor.Px
open Go.RowKit Go.Proofs.YtccolnlfjbgnmaaGreatDoor.P Go.Proofs.YtccolnlfjbgnmaaGreatDoorW.PrintWords Go.Proofs.YtccolnlfjbgnmaaGreatDoorW.PrintLast Go.Proofs.Hr
set_option linter.unusedVariables false
set_option linter.unusedSimpArgs false
/-! a list, letter by letter: whether it stands in quotes, whether a letter is to be passed -/
def lg : Bs → Bs → Bool → Bool → List Bs → List Bs
  | [], part, _, _, out => put part out
  | c :: r, part, q, sk, out =>
    if c == 44 && !q then lg r [] q sk (put part out)
    else if sk then lg r (part ++ [c]) q false out
    else if c == 92 && q then lg r (part ++ [c]) q true out
    else if c == 34 then lg r (part ++ [c]) (!q) sk out
    else lg r (part ++ [c]) q sk out
theorem put_nil (out : List Bs) : put [] out = out := by unfold put; rw [if_pos (by decide)]
theorem listGo_lg (n : Nat) : ∀ (r part : Bs) (q : Bool) (out : List Bs), r.length ≤ n → listGo r part q out = lg r part q false out := by
  induction n with
  | zero => intro r part q out h; cases r with
    | nil => unfold listGo lg; rfl
    | cons c r => simp at h
  | succ n ih =>
    intro r part q out h
    cases r with
    | nil => unfold listGo lg; rfl
    | cons c r =>
      simp only [List.length_cons] at h
      cases r with
      | nil =>
        unfold listGo lg
        by_cases h44 : c = 44
        · subst h44
          cases q
          · simp [lg, put_nil]
          · simp [lg]
        · have e44 : (c == 44) = false := by simpa using h44
          simp only [e44, Bool.false_and, Bool.false_eq_true, if_false]
          unfold lg
          split
          · rfl
          · split <;> rfl
      | cons d r =>
        rw [listGo]
        unfold lg
        simp only [List.length_cons] at h
        by_cases h34 : c = 34
        · subst h34
          simp only [beq_self_eq_true, if_true, show ((34 : UInt8) == 44) = false from rfl, show ((34 : UInt8) == 92) = false from rfl, Bool.false_and, Bool.false_eq_true, if_false]
          exact ih _ _ _ _ (by simp only [List.length_cons]; omega)
        · have e34 : (c == 34) = false := by simpa using h34
          by_cases h92 : c = 92
          · subst h92
            cases q with
            | true =>
              simp only [beq_self_eq_true, if_true, show ((92 : UInt8) == 44) = false from rfl, show ((92 : UInt8) == 34) = false from rfl, Bool.false_and, Bool.true_and, Bool.false_eq_true, if_false]
              rw [ih r (part ++ [92, d]) true out (by omega)]
              conv => rhs; unfold lg
              simp only [Bool.not_true, Bool.and_false, Bool.false_eq_true, if_false, if_true, List.append_assoc]
              rfl
            | false =>
              simp only [Bool.and_false, show ((92 : UInt8) == 44) = false from rfl, show ((92 : UInt8) == 34) = false from rfl, Bool.false_and, Bool.false_eq_true, if_false]
              exact ih _ _ _ _ (by simp only [List.length_cons]; omega)
          · have e92 : (c == 92) = false := by simpa using h92
            simp only [e34, e92, Bool.false_and, Bool.false_eq_true, if_false]
            split
            · exact ih _ _ _ _ (by simp only [List.length_cons]; omega)
            · exact ih _ _ _ _ (by simp only [List.length_cons]; omega)
theorem list_lg (s : Bs) : Hr.list s = lg s [] false false [] := listGo_lg s.length s [] false [] (Nat.le_refl _)
theorem trim_length (l : Bs) : (trim l).length ≤ l.length := by
  rw [trim_eq]
  unfold trimL trimR
  refine Nat.le_trans (List.dropWhile_sublist _).length_le ?_
  rw [List.length_reverse]
  exact Nat.le_trans (List.dropWhile_sublist _).length_le (by simp)
/-- All letters of a list's elements, one more for each. -/
def total (out : List Bs) : Nat := (out.map fun x => x.length + 1).sum
theorem total_append (a b : List Bs) : total (a ++ b) = total a + total b := by unfold total; rw [List.map_append, List.sum_append]
theorem total_put (p : Bs) (out : List Bs) : total (put p out) ≤ total out + p.length + 1 := by
  unfold put
  split
  · omega
  · rw [total_append]
    have := trim_length p
    simp [total]
    omega
theorem total_lg (r : Bs) : ∀ (part : Bs) (q sk : Bool) (out : List Bs), total (lg r part q sk out) ≤ total out + part.length + r.length + 1 := by
  induction r with
  | nil => intro part q sk out; unfold lg; have := total_put part out; simp only [List.length_nil]; omega
  | cons c r ih =>
    intro part q sk out
    unfold lg
    have hp := total_put part out
    simp only [List.length_cons]
    repeat' split
    · have := ih [] q sk (put part out); simp only [List.length_nil] at this; omega
    all_goals (first | (have := ih (part ++ [c]) q false out; simp only [List.length_append, List.length_singleton] at this; omega) | (have := ih (part ++ [c]) q true out; simp only [List.length_append, List.length_singleton] at this; omega) | (have := ih (part ++ [c]) (!q) sk out; simp only [List.length_append, List.length_singleton] at this; omega) | (have := ih (part ++ [c]) q sk out; simp only [List.length_append, List.length_singleton] at this; omega))
theorem length_total (out : List Bs) : out.length ≤ total out := by
  induction out with
  | nil => simp [total]
  | cons x r ih =>
    have e : total (x :: r) = (x.length + 1) + total r := by simp [total]
    rw [e]; simp only [List.length_cons]; omega
theorem total_list (s : Bs) : total (Hr.list s) ≤ s.length + 1 := by
  rw [list_lg]
  have := total_lg s [] false false []
  simp [total] at this ⊢
  exact this
theorem lList (s : ByteArray) (hs : s.size ≤ 4398046511104) : lexis_List.f s = some ((Hr.list s.data.toList).map mkB) := by
  unfold lexis_List.f
  rw [if_pos hs]
  rfl
end Go.Proofs.YtccolnlfjbgnmaaGreatDoor.Px
