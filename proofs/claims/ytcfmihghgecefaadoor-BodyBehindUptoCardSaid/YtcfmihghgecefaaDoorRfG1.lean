/- headraceref11.All, plainly (where the connection did not end): it is the body's reader; own text of this session. -/
import Derived.Test.YtcfmihghgecefaaDoorBdZ
import Derived.Test.YtcfmihghgecefaaDoorRfD
namespace Go.Proofs.YtcfmihghgecefaaDoor.Bod
open Go.RowKit Go.Proofs.YtcfmihghgecefaaDoorW.PrintWords Go.Proofs.YtcfmihghgecefaaDoorW.PrintLast Chk
set_option linter.unusedVariables false
set_option linter.unusedSimpArgs false
/-- A body from its front: its bytes, the trailers, how many bytes were read, whether it is whole, what is wrong. -/
structure Seen11 where
  out : List Int
  tr : List Chk.Fld
  n : Nat
  whole : Bool
  e : Int
def seenB (kind len most : Int) (b : List Int) : Seen11 :=
  if kind = 1 then ⟨[], [], 0, true, 0⟩
  else if kind = 2 then ⟨b.take len.toNat, [], min b.length len.toNat, decide (((min b.length len.toNat : Nat) : Int) = len), 0⟩
  else if kind = 3 then ⟨(feedGo (newDec most) b 0).1.out, if (feedGo (newDec most) b 0).1.whole = true then (feedGo (newDec most) b 0).1.tr else [], (feedGo (newDec most) b 0).2, (feedGo (newDec most) b 0).1.whole, (feedGo (newDec most) b 0).1.wrong⟩
  else if b.length ≤ most.toNat then ⟨b, [], b.length, false, 0⟩ else ⟨b.take most.toNat, [], most.toNat + 1, false, 2⟩
/-- It is what a new reader reads. -/
theorem seenB_feed {kind len most : Int} {b : List Int} {r : Bd} (hk : kind = 1 ∨ kind = 2 ∨ kind = 3 ∨ kind = 4) (hl : 0 ≤ len) (h0 : 0 ≤ most) (hr : newB kind len most = some r) :
    (seenB kind len most b).out = (feedB r b).2.1 ∧ (seenB kind len most b).n = (feedB r b).2.2 ∧ (seenB kind len most b).whole = (feedB r b).1.whole ∧ (seenB kind len most b).e = (feedB r b).1.wrong := by
  unfold newB at hr
  unfold seenB
  rcases hk with rfl | rfl | rfl | rfl
  · rw [if_neg (by decide), if_neg (by decide)] at hr
    cases hr
    rw [if_pos rfl, feedB_stop _ b (.inr (.inl rfl))]
    exact ⟨rfl, rfl, rfl, rfl⟩
  · rw [if_pos rfl] at hr
    split at hr
    · cases hr
    · cases hr
      rw [if_neg (by decide), if_pos rfl, feedB_len b _ rfl rfl rfl hl]
      refine ⟨?_, rfl, ?_, rfl⟩
      · show b.take len.toNat = b.take (min b.length len.toNat)
        by_cases h5 : b.length ≤ len.toNat
        · rw [Nat.min_eq_left h5, List.take_of_length_le h5, List.take_length]
        · rw [Nat.min_eq_right (by omega)]
      · show decide _ = (len - ((min b.length len.toNat : Nat) : Int) == 0)
        by_cases h5 : ((min b.length len.toNat : Nat) : Int) = len
        · rw [decide_eq_true h5]
          have : len - ((min b.length len.toNat : Nat) : Int) = 0 := by omega
          rw [this]; rfl
        · rw [decide_eq_false h5]
          have : ¬ len - ((min b.length len.toNat : Nat) : Int) = 0 := by omega
          exact (beq_false_of_ne this).symm
  · rw [if_neg (by decide), if_pos rfl] at hr
    cases hr
    rw [if_neg (by decide), if_neg (by decide), if_pos rfl, feedB_chunk b _ (newDec most) rfl rfl rfl rfl rfl]
    exact ⟨rfl, rfl, rfl, rfl⟩
  · rw [if_neg (by decide), if_neg (by decide)] at hr
    cases hr
    rw [if_neg (by decide), if_neg (by decide), if_neg (by decide), feedB_close b _ rfl rfl rfl h0]
    by_cases h5 : b.length ≤ most.toNat
    · rw [if_pos h5]
      simp only [Nat.min_eq_left h5, List.take_length, if_neg (Nat.lt_irrefl b.length)]
      exact ⟨trivial, trivial, rfl, trivial⟩
    · have h6 : most.toNat < b.length := by omega
      rw [if_neg h5]
      simp only [Nat.min_eq_right (Nat.le_of_lt h6), if_pos h6]
      exact ⟨trivial, trivial, rfl, trivial⟩
end Go.Proofs.YtcfmihghgecefaaDoor.Bod
