/- Package lexis, by hand: what Lower comes to; own text of this session. -/
import Derived.Test.YtmfhhhokacjgeaaDoorProg
import Derived.Test.YtmfhhhokacjgeaaDoorSpec
import Derived.Test.YtmfhhhokacjgeaaDoorBytes
import Derived.Laws.IdiomStrings
import Derived.Lib.ConvBytes
import Derived.WalkSpells
import Derived.Outline
namespace Go.Proofs.YtmfhhhokacjgeaaDoor.Lex
open Go.RowKit Go.Proofs.YtmfhhhokacjgeaaDoorW.PrintWords Go.Proofs.Hr
set_option linter.unusedVariables false
theorem ret_str {a b : ByteArray} (h : a = b) : Ending.returned (.string a) = .returned (.string b) := by rw [h]
/-- A row of bytes as values. -/
def bvs (l : Bs) : List Value := l.map fun b => Value.int .u8 (b.toNat : Int)
theorem bvs_length (l : Bs) : (bvs l).length = l.length := by simp [bvs]
def midRow (l : Bs) (k m : Nat) : Array Value := (bvs (lower (l.take k) ++ l.drop k) ++ List.replicate m (Value.int .u8 0)).toArray
theorem midRow_zero (s : ByteArray) (cap : Nat) : Go.bytesRow s cap = midRow s.data.toList 0 (cap - s.size) := by
  unfold Go.bytesRow midRow bvs lower
  apply Array.ext'
  simp
theorem midRow_size (l : Bs) (k m : Nat) : (midRow l k m).size = l.length + m := by
  simp [midRow, bvs, lower]
  omega
theorem midRow_at (l : Bs) (k m : Nat) (h : k < l.length) : (midRow l k m)[k]? = some (.int .u8 ((l[k]'h).toNat : Int)) := by
  have h1 : k < (lower (l.take k) ++ l.drop k).length := by simp [lower]; omega
  have h2 : (lower (l.take k) ++ l.drop k)[k]'h1 = l[k]'h := by
    rw [List.getElem_append_right (by simp [lower]; omega)]
    simp [lower, Nat.min_eq_left (Nat.le_of_lt h)]
  unfold midRow
  rw [List.getElem?_toArray, List.getElem?_append_left (by rw [bvs_length]; exact h1)]
  simp only [bvs, List.getElem?_map, List.getElem?_eq_getElem h1, Option.map_some, h2]
theorem lower_succ (l : Bs) (k : Nat) (h : k < l.length) : lower (l.take (k + 1)) ++ l.drop (k + 1) = (lower (l.take k) ++ l.drop k).set k (lowB (l[k]'h)) := by
  have e : lower (l.take k) ++ l.drop k = lower (l.take k) ++ (l[k]'h :: l.drop (k + 1)) := by rw [List.drop_eq_getElem_cons h]
  rw [e, List.set_append_right _ _ (by simp [lower]; omega)]
  have h3 : k - (lower (l.take k)).length = 0 := by simp [lower]; omega
  rw [h3, List.set_cons_zero, List.take_succ_eq_append_getElem h]
  unfold lower
  simp only [List.map_append, List.map_cons, List.map_nil, List.append_assoc, List.cons_append, List.nil_append]
theorem midRow_set (l : Bs) (k m : Nat) (h : k < l.length) (v : Int) (hv : v = ((lowB (l[k]'h)).toNat : Int)) : (midRow l k m).setIfInBounds k (.int .u8 v) = midRow l (k + 1) m := by
  subst hv
  unfold midRow
  rw [lower_succ l k h]
  rw [List.setIfInBounds_toArray]
  congr 1
  rw [List.set_append_left _ _ (by rw [bvs_length]; simp [lower]; omega)]
  simp [bvs, List.map_set]
theorem midRow_keep (l : Bs) (k m : Nat) (h : k < l.length) (hv : lowB (l[k]'h) = l[k]'h) : midRow l k m = midRow l (k + 1) m := by
  unfold midRow
  rw [lower_succ l k h, hv]
  have h1 : k < (lower (l.take k) ++ l.drop k).length := by simp [lower]; omega
  have h2 : (lower (l.take k) ++ l.drop k)[k]'h1 = l[k]'h := by
    rw [List.getElem_append_right (by simp [lower]; omega)]
    simp [lower, Nat.min_eq_left (Nat.le_of_lt h)]
  rw [← h2, List.set_getElem_self]
theorem setCell_block {w : World} {b : Nat} {C : Array Value} {ty : TypeId} {fr : Nat × Nat} {k : Nat} {v : Value} (h : w.heap[b]? = some (.cells C ty fr)) :
    (w.setCell ⟨b, k, none⟩ v).heap[b]? = some (.cells (C.setIfInBounds k v) ty fr) := by
  unfold World.setCell
  simp [Array.getElem?_modify, h]
theorem lowB_hit (c : UInt8) (h1 : 65 ≤ (c.toNat : Int)) (h2 : (c.toNat : Int) ≤ 90) : (c.toNat : Int) + 32 = ((lowB c).toNat : Int) := by
  have a : 65 ≤ c := by rw [UInt8.le_iff_toNat_le]; show 65 ≤ _; omega
  have b : c ≤ 90 := by rw [UInt8.le_iff_toNat_le]; show _ ≤ 90; omega
  unfold lowB
  rw [if_pos (by simp [a, b]), UInt8.toNat_add]
  rw [show UInt8.toNat 32 = 32 from rfl]
  omega
theorem midRow_all (l : Bs) (m i : Nat) (h : i < l.length) : (midRow l l.length m)[i]? = some (.int .u8 ((nOf (lower l)).getD i 0)) := by
  unfold midRow
  rw [List.getElem?_toArray, List.getElem?_append_left (by rw [bvs_length]; simp [lower]; exact h)]
  simp [bvs, nOf, lower, h]
theorem lowB_miss (c : UInt8) (h : ¬ (65 ≤ (c.toNat : Int) ∧ (c.toNat : Int) ≤ 90)) : lowB c = c := by
  unfold lowB
  rw [if_neg]
  intro h2
  simp only [Bool.and_eq_true, decide_eq_true_eq, UInt8.le_iff_toNat_le] at h2
  have h3 : 65 ≤ c.toNat ∧ c.toNat ≤ 90 := h2
  omega
set_option maxRecDepth 100000 in
set_option maxHeartbeats 1000000 in
theorem lower_calls (a0 : ByteArray) (w : World) (hs : a0.size ≤ 4611686018427387904) :
    Calls Tryd.prog 54 #[.string a0] w fun e w' => e = .returned (.string ⟨(lower a0.data.toList).toArray⟩) ∧ Below w.heap.size w w' := by
  have hcv := Go.run_bytes_of_string (P := Tryd.prog) w 9 42 5 a0 Tryd.underlying9 Tryd.underlying42 Tryd.underlying5
  go_enter Tryd.func54, Tryd.ntmps54
  go_wp2
  have hcap : a0.size ≤ grownCap w a0.size 0 5 := by
    show a0.size ≤ a0.size + _
    omega
  obtain ⟨cap, hcape⟩ : ∃ c, c = grownCap w a0.size 0 5 := ⟨_, rfl⟩
  rw [← hcape] at hcap ⊢
  clear hcv hcape
  rw [midRow_zero]
  have hsz := midRow_size a0.data.toList 0 (cap - a0.size)
  have hsz2 : (midRow a0.data.toList 0 (cap - a0.size)).size = cap := by rw [hsz]; have := (show a0.size = a0.data.toList.length from Array.length_toList.symm); omega
  rw [hsz2]
  clear hsz hsz2
  obtain ⟨l, hl⟩ : ∃ l, l = a0.data.toList := ⟨_, rfl⟩
  have hn : a0.size = l.length := by rw [hl]; exact Array.length_toList.symm
  rw [← hl]
  obtain ⟨n, hnn⟩ : ∃ n, n = a0.size := ⟨_, rfl⟩
  rw [← hnn] at hcap hs hn ⊢
  have HN := Aside0.mk hn
  clear hn hnn
  have HL := Aside0.mk hl
  clear hl
  go_loopw [10] (fun i wr => ∃ k : Nat, k ≤ n ∧ i = .int .i64 k ∧ Aside0 (wr.heap[w.heap.size]? = some (.cells (midRow l k (cap - n)) 5 (cap, cap + 1))) ∧ Aside0 (Below w.heap.size w wr)) (fun i _ => n - (intOf i).toNat)
  case atStart => exact ⟨0, Nat.zero_le _, rfl, ⟨by show (w.heap.push _)[_]? = _; simp⟩, ⟨((Below.refl _ _).alloc (Nat.le_refl _) _).drew⟩⟩
  case round =>
    obtain ⟨k, hk, rfl, HR, HB⟩ := hrel
    by_cases hlt : k < n
    · have hkl : k < l.length := by rw [← HN.out]; exact hlt
      obtain ⟨c, hc⟩ : ∃ c, c = l[k]'hkl := ⟨_, rfl⟩
      have hcell : wr.cell? ⟨w.heap.size, k, none⟩ = some (.int .u8 (c.toNat : Int)) := by
        unfold World.cell?; simp only [HR.out, Option.isSome_none, Bool.false_eq_true, if_false]; rw [hc]; exact midRow_at l k _ hkl
      have hfr : wr.frozen? ⟨w.heap.size, k, none⟩ = false := by
        unfold World.frozen?; simp only [HR.out]; simp; omega
      have HC := Aside0.mk hc
      clear hc
      have hcb : (c.toNat : Int) < 256 := by have := c.toNat_lt; omega
      have hc0 : 0 ≤ (c.toNat : Int) := by omega
      go_wp2
      · have h1 : (65 : Int) ≤ (c.toNat : Int) := by assumption
        have h2 : (c.toNat : Int) ≤ 90 := by assumption
        go_roundw
        case rel => exact ⟨k + 1, by omega, by go_num, ⟨by rw [setCell_block HR.out, midRow_set l k _ hkl _ (by rw [← HC.out]; exact lowB_hit c h1 h2)]⟩, ⟨HB.out.setCell (Nat.le_refl _) _⟩⟩
        case measure => simp [intOf]; omega
      all_goals
        have hmiss : lowB c = c := lowB_miss c (by omega)
        go_roundw
        case rel => exact ⟨k + 1, by omega, by go_num, ⟨by rw [← midRow_keep l k _ hkl (by rw [← HC.out]; exact hmiss)]; exact HR.out⟩, HB⟩
        case measure => simp [intOf]; omega
    · obtain rfl : k = n := by omega
      have hcv2 := run_convert_bytes_arg (P := Tryd.prog) wr 42 5 Tryd.underlying42 Tryd.underlying5 w.heap.size 0 k cap (nOf (lower l)) (by simp [nOf, lower]; exact HN.out.symm) (fun i hi => by unfold World.cell?; simp only [HR.out, Option.isSome_none, Bool.false_eq_true, if_false, Nat.zero_add]; have e := midRow_all l (cap - k) i (by rw [← HN.out]; exact hi); rw [← HN.out] at e; exact e) 9 Tryd.underlying9
      go_wp2
      go_ret
      exact ⟨ret_str (by rw [strOfNums_nOf, HL.out]), HB.out⟩
end Go.Proofs.YtmfhhhokacjgeaaDoor.Lex
