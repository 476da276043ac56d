/- What the reference's texts take from chunked's (for a seat without chunked.Chunk); own text of this session. -/
import Derived.Test.YtcfmihghgecefaaDoorBdZ
import Derived.Test.YtcfmihghgecefaaDoorPx5
namespace Go.Proofs.YtcfmihghgecefaaDoor.Chk
open Go.RowKit Go.Proofs.YtcfmihghgecefaaDoorW.PrintWords Go.Proofs.YtcfmihghgecefaaDoorW.PrintLast Px
set_option linter.unusedVariables false
set_option linter.unusedSimpArgs false
/-- A decoder that is neither whole nor wrong. -/
abbrev D (left need : Int) (line : List Int) (st : Nat) (out : List Int) (tr : List Fld) : Dec := ⟨left, need, line, st, out, tr, false, 0⟩
theorem index_one (a b : List UInt8) (c : UInt8) (h : c ∉ a) : Lib.index (a ++ c :: b) [c] = (a.length : Int) := by
  induction a with
  | nil => simp [Lib.index]
  | cons x r ih =>
    have hx : ¬ c = x := fun e => h (by simp [e])
    have hr := ih (fun e => h (by simp [e]))
    show (if [c].isPrefixOf (x :: (r ++ c :: b)) then 0 else if Lib.index (r ++ c :: b) [c] == -1 then -1 else Lib.index (r ++ c :: b) [c] + 1) = _
    rw [hr]
    have hp : [c].isPrefixOf (x :: (r ++ c :: b)) = false := by simp [List.isPrefixOf, hx]
    rw [hp]
    have hn : ((r.length : Int) == -1) = false := by simp
    rw [hn]
    simp
theorem index_none (a : List UInt8) (c : UInt8) (h : c ∉ a) : Lib.index a [c] = -1 := by
  induction a with
  | nil => simp [Lib.index]
  | cons x r ih =>
    have hx : ¬ c = x := fun e => h (by simp [e])
    have hr := ih (fun e => h (by simp [e]))
    show (if [c].isPrefixOf (x :: r) then 0 else if Lib.index r [c] == -1 then -1 else Lib.index r [c] + 1) = _
    rw [hr]
    have hp : [c].isPrefixOf (x :: r) = false := by simp [List.isPrefixOf, hx]
    rw [hp]
    rfl
theorem cut_one (a b : List UInt8) (c : UInt8) (h : c ∉ a) : Lib.cut (a ++ c :: b) [c] = (a, b, true) := by
  unfold Lib.cut
  rw [index_one a b c h, if_pos (by omega)]
  simp
theorem cut_none (a : List UInt8) (c : UInt8) (h : c ∉ a) : Lib.cut a [c] = (a, [], false) := by
  unfold Lib.cut
  rw [index_none a c h]
  rfl
theorem ev_rCheck_l0 (l : List Fld) (hl : l.length ≤ 100) (hs : ∀ f ∈ l, f.f0.size ≤ 4611686018427387904 ∧ f.f1.size ≤ 4611686018427387904) (rest : List Fld) : ∀ i : Nat, l.drop i = rest → Ev (fun k => P.headraceref07_Check.l0 k l (l.length : Int) (i : Int)) (chkGo rest) := by
  induction rest with
  | nil =>
    intro i hi
    have := Px.drop_nil hi
    refine Ev.step (fun k => rfl) ?_
    simp only [P.headraceref07_Check.l0, if_neg (show ¬ (i : Int) < (l.length : Int) by omega)]
    exact Ev.now _
  | cons f r ih =>
    intro i hi
    have hlt := Px.drop_lt hi
    have hf := hs f (List.mem_of_mem_drop (by rw [hi]; simp))
    refine Ev.step (fun k => rfl) ?_
    simp only [P.headraceref07_Check.l0, if_pos (show (i : Int) < (l.length : Int) by omega), if_pos (show 0 ≤ (i : Int) by omega), rd_fld hi, Px.w64 (show i < 9223372036854775807 by omega)]
    refine Ev.bind (Px.ev_rToken f.f0 hf.1) ?_
    unfold chkGo
    refine Px.ev_ite (fun h => ?_) (fun h => ?_)
    · refine Ev.bind (Px.ev_rValue f.f1 hf.2) ?_
      refine Px.ev_ite (fun h2 => ?_) (fun h2 => ?_)
      · rw [if_pos (show fldE f = 0 by unfold fldE; rw [if_pos h, if_pos h2])]
        exact ih (i + 1) (Px.drop_succ hi)
      · have e : fldE f = 71 := by unfold fldE; rw [if_pos h, if_neg h2]
        rw [e, if_neg (by decide)]
        exact Ev.now _
    · have e : fldE f = 70 := by unfold fldE; rw [if_neg h]
      rw [e, if_neg (by decide)]
      exact Ev.now _
theorem ev_rCheck (l : List Fld) (hs : ∀ f ∈ l, f.f0.size ≤ 4611686018427387904 ∧ f.f1.size ≤ 4611686018427387904) : Ev (fun k => P.headraceref07_Check.f k l) (chkS l) := by
  unfold P.headraceref07_Check.f chkS
  refine Px.ev_ite (fun h => ?_) (fun h => ?_)
  · rw [if_pos (by omega)]; exact Ev.now _
  · rw [if_neg (by omega)]; exact ev_rCheck_l0 l (by omega) hs l 0 rfl
end Go.Proofs.YtcfmihghgecefaaDoor.Chk
