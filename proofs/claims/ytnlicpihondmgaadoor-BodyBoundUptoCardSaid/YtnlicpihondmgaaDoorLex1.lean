/- Package lexis, by hand: what Lower comes to; own text of this session. -/
import Derived.Test.YtnlicpihondmgaaDoorProg
import Derived.Test.YtnlicpihondmgaaDoorSpec
import Derived.Test.YtnlicpihondmgaaDoorBytes
import Derived.Laws.IdiomStrings
import Derived.Lib.ConvBytes
import Derived.WalkSpells
import Derived.Outline
namespace Go.Proofs.YtnlicpihondmgaaDoor.Lex
open Go.RowKit Go.Proofs.YtnlicpihondmgaaDoorW.PrintWords Go.Proofs.Hr
set_option linter.unusedVariables false
theorem ret_str {a b : ByteArray} (h : a = b) : Ending.returned (.string a) = .returned (.string b) := by rw [h]
/-- A row of bytes as values. -/
def bvs (l : Bs) : List Value := l.map fun b => Value.int .u8 (b.toNat : Int)
theorem bvs_length (l : Bs) : (bvs l).length = l.length := by simp [bvs]
def midRow (l : Bs) (k m : Nat) : Array Value := (bvs (lower (l.take k) ++ l.drop k) ++ List.replicate m (Value.int .u8 0)).toArray
theorem midRow_zero (s : ByteArray) (cap : Nat) : Go.bytesRow s cap = midRow s.data.toList 0 (cap - s.size) := by
  unfold Go.bytesRow midRow bvs lower
  apply Array.ext'
  simp
theorem midRow_size (l : Bs) (k m : Nat) : (midRow l k m).size = l.length + m := by
  simp [midRow, bvs, lower]
  omega
theorem midRow_at (l : Bs) (k m : Nat) (h : k < l.length) : (midRow l k m)[k]? = some (.int .u8 ((l[k]'h).toNat : Int)) := by
  have h1 : k < (lower (l.take k) ++ l.drop k).length := by simp [lower]; omega
  have h2 : (lower (l.take k) ++ l.drop k)[k]'h1 = l[k]'h := by
    rw [List.getElem_append_right (by simp [lower]; omega)]
    simp [lower, Nat.min_eq_left (Nat.le_of_lt h)]
  unfold midRow
  rw [List.getElem?_toArray, List.getElem?_append_left (by rw [bvs_length]; exact h1)]
  simp only [bvs, List.getElem?_map, List.getElem?_eq_getElem h1, Option.map_some, h2]
theorem lower_succ (l : Bs) (k : Nat) (h : k < l.length) : lower (l.take (k + 1)) ++ l.drop (k + 1) = (lower (l.take k) ++ l.drop k).set k (lowB (l[k]'h)) := by
  have e : lower (l.take k) ++ l.drop k = lower (l.take k) ++ (l[k]'h :: l.drop (k + 1)) := by rw [List.drop_eq_getElem_cons h]
  rw [e, List.set_append_right _ _ (by simp [lower]; omega)]
  have h3 : k - (lower (l.take k)).length = 0 := by simp [lower]; omega
  rw [h3, List.set_cons_zero, List.take_succ_eq_append_getElem h]
  unfold lower
  simp only [List.map_append, List.map_cons, List.map_nil, List.append_assoc, List.cons_append, List.nil_append]
theorem midRow_set (l : Bs) (k m : Nat) (h : k < l.length) (v : Int) (hv : v = ((lowB (l[k]'h)).toNat : Int)) : (midRow l k m).setIfInBounds k (.int .u8 v) = midRow l (k + 1) m := by
  subst hv
  unfold midRow
  rw [lower_succ l k h]
  rw [List.setIfInBounds_toArray]
  congr 1
  rw [List.set_append_left _ _ (by rw [bvs_length]; simp [lower]; omega)]
  simp [bvs, List.map_set]
theorem midRow_keep (l : Bs) (k m : Nat) (h : k < l.length) (hv : lowB (l[k]'h) = l[k]'h) : midRow l k m = midRow l (k + 1) m := by
  unfold midRow
  rw [lower_succ l k h, hv]
  have h1 : k < (lower (l.take k) ++ l.drop k).length := by simp [lower]; omega
  have h2 : (lower (l.take k) ++ l.drop k)[k]'h1 = l[k]'h := by
    rw [List.getElem_append_right (by simp [lower]; omega)]
    simp [lower, Nat.min_eq_left (Nat.le_of_lt h)]
  rw [← h2, List.set_getElem_self]
theorem setCell_block {w : World} {b : Nat} {C : Array Value} {ty : TypeId} {fr : Nat × Nat} {k : Nat} {v : Value} (h : w.heap[b]? = some (.cells C ty fr)) :
    (w.setCell ⟨b, k, none⟩ v).heap[b]? = some (.cells (C.setIfInBounds k v) ty fr) := by
  unfold World.setCell
  simp [Array.getElem?_modify, h]
theorem lowB_hit (c : UInt8) (h1 : 65 ≤ (c.toNat : Int)) (h2 : (c.toNat : Int) ≤ 90) : (c.toNat : Int) + 32 = ((lowB c).toNat : Int) := by
  have a : 65 ≤ c := by rw [UInt8.le_iff_toNat_le]; show 65 ≤ _; omega
  have b : c ≤ 90 := by rw [UInt8.le_iff_toNat_le]; show _ ≤ 90; omega
  unfold lowB
  rw [if_pos (by simp [a, b]), UInt8.toNat_add]
  rw [show UInt8.toNat 32 = 32 from rfl]
  omega
theorem midRow_all (l : Bs) (m i : Nat) (h : i < l.length) : (midRow l l.length m)[i]? = some (.int .u8 ((nOf (lower l)).getD i 0)) := by
  unfold midRow
  rw [List.getElem?_toArray, List.getElem?_append_left (by rw [bvs_length]; simp [lower]; exact h)]
  simp [bvs, nOf, lower, h]
theorem lowB_miss (c : UInt8) (h : ¬ (65 ≤ (c.toNat : Int) ∧ (c.toNat : Int) ≤ 90)) : lowB c = c := by
  unfold lowB
  rw [if_neg]
  intro h2
  simp only [Bool.and_eq_true, decide_eq_true_eq, UInt8.le_iff_toNat_le] at h2
  have h3 : 65 ≤ c.toNat ∧ c.toNat ≤ 90 := h2
  omega
end Go.Proofs.YtnlicpihondmgaaDoor.Lex
