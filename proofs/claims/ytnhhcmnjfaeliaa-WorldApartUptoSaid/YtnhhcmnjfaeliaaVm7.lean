/- Package world, by hand: slices.Sort of a row of numbers; All at any connections; own text of this session. -/
import Derived.Test.YtnhhcmnjfaeliaaVm6
import Derived.Test.YtnhhcmnjfaeliaaVld8
namespace Go.Proofs.Ytnhhcmnjfaeliaa.Vm
open Go.Sort
open Wld hiding St Ft Next cellsQ cellsP ReadPost
open Go.RowKit Go.Proofs.YtnhhcmnjfaeliaaW.PrintWords Go.Proofs.YtnhhcmnjfaeliaaW.PrintLast Go.Maps
set_option linter.unusedVariables false
set_option linter.unusedSimpArgs false
theorem put_take (cur : Array Value) (off : Nat) (d : Array Int) (h : off + d.size ≤ cur.size) : ((putCells (Value.int .i64) off d cur).toList.drop off).take d.size = d.toList.map (Value.int .i64) := by
  apply List.ext_getElem?
  intro j
  by_cases hj : j < d.size
  · have h1 : off + j < cur.size := by omega
    have h2 : off ≤ off + j ∧ off + j < off + d.size := by omega
    rw [List.getElem?_take_of_lt hj, List.getElem?_drop, List.getElem?_map, Array.getElem?_toList, Array.getElem?_toList]
    unfold putCells
    rw [Array.getElem?_mapIdx, Array.getElem?_eq_getElem h1, Array.getElem?_eq_getElem hj]
    simp only [Option.map_some, if_pos h2]
    rw [Nat.add_sub_cancel_left, getElem!_pos d j hj]
  · rw [List.getElem?_eq_none (by rw [List.length_take]; omega), List.getElem?_eq_none (by rw [List.length_map, Array.length_toList]; omega)]
theorem sorted_len (xs : List Int) : (xs.mergeSort fun x y => decide (x ≤ y)).length = xs.length := List.length_mergeSort xs
/-- slices.Sort, a row of numbers of one's own. -/
theorem sort_row {w : World} {A : Option Addr} {n c : Nat} {xs : List Int} (h : Row .i64 3 w (.slice A n c) xs) (hl : xs.length < 4611686018427387904) :
    Calls Try.prog 36 #[.slice A n c] w fun e w' => e = .returned (.tuple #[]) ∧ Row .i64 3 w' (.slice A n c) (xs.mergeSort fun x y => decide (x ≤ y)) ∧ Stay (fun k => (Value.slice A n c).ownBlock = some k) w w' := by
  obtain ⟨hn, h2⟩ := h
  rcases h2 with ⟨h0, A', e, hA⟩ | ⟨g, off, cap, cur, e, hb, hh, hnc, hcm, hcs, ht⟩
  · injection e with e1 e2 e3
    subst e1 e2 e3
    have hx : xs = [] := List.eq_nil_of_length_eq_zero h0
    subst hx
    refine (Try.slices_Sort_int_none A 0 w).mono ?_
    rintro e w' ⟨rfl, rfl⟩
    rw [List.mergeSort_nil]
    exact ⟨rfl, ⟨hn, .inl ⟨rfl, A, rfl, hA⟩⟩, Stay.refl _ _⟩
  · injection e with e1 e2 e3
    subst e1 e2 e3
    simp only [Nat.mul_one] at hcs ht
    have hget : ∀ j, j < xs.length → cur[off + j]? = some (Value.int .i64 (xs[j]!)) := by
      intro j hj
      have h5 := congrArg (fun l => l[j]?) ht
      rw [List.getElem?_take_of_lt hj, List.getElem?_drop, Array.getElem?_toList] at h5
      rw [h5]
      unfold nums
      rw [List.getElem?_map, List.getElem?_eq_getElem hj, getElem!_pos xs j hj]
      rfl
    have hH : Holds (Value.int .i64) w g (off * 1) xs.toArray := by
      intro j hj
      have hj' : j < xs.length := by simpa using hj
      rw [Nat.mul_one]
      refine ⟨?_, blk_frozen hh _⟩
      rw [blk_cell hh, hget j hj', getElem!_pos xs j hj', getElem!_pos xs.toArray j hj]
      rfl
    refine (Try.slices_Sort_int g (off * 1) c xs w hH (blk_lt hh) hl).mono ?_
    rintro e w' ⟨rfl, m, os, rfl⟩
    rw [Nat.mul_one]
    obtain ⟨ys, hys⟩ : ∃ ys, ys = (xs.mergeSort fun x y => decide (x ≤ y)) := ⟨_, rfl⟩
    have hyl : ys.length = xs.length := by rw [hys]; exact sorted_len xs
    rw [← hys]
    have hg1 : (grow (putRow (Value.int .i64) (Sort.ahead w m) g off ys.toArray) os).heap[g]? = some (.cells (putCells (Value.int .i64) off ys.toArray cur) 3 (0, 0)) := by
      have hlt := blk_lt hh
      unfold grow putRow mapBlock Sort.ahead
      simp only []
      rw [Array.getElem?_append_left (by rw [Array.size_modify]; exact hlt), Array.getElem?_modify, if_pos rfl, hh]
      rfl
    have hk1 : ∀ k, k < w.heap.size → k ≠ g → (grow (putRow (Value.int .i64) (Sort.ahead w m) g off ys.toArray) os).heap[k]? = w.heap[k]? := by
      intro k hk hne
      unfold grow putRow mapBlock Sort.ahead
      simp only []
      rw [Array.getElem?_append_left (by rw [Array.size_modify]; exact hk), Array.getElem?_modify, if_neg (fun e => hne e.symm)]
    refine ⟨rfl, ⟨by unfold nums; rw [List.length_map, hyl]; omega, .inr ⟨g, off, c, _, by rw [Nat.mul_one, hyl], Nat.zero_le _, hg1, by omega, hcm, ?_, ?_⟩⟩, ⟨rfl, rfl, rfl, ?_, fun k hk hne => hk1 k hk (fun e => hne (by rw [e]; rfl))⟩⟩
    · rw [Nat.mul_one]
      unfold putCells
      rw [Array.size_mapIdx]
      exact hcs
    · rw [Nat.mul_one, Nat.mul_one]
      have h5 := put_take cur off ys.toArray (by simp only [List.size_toArray]; omega)
      simp only [List.size_toArray] at h5
      rw [h5]
      rfl
    · unfold grow putRow mapBlock Sort.ahead
      simp only [Array.size_append, Array.size_modify]
      omega
end Go.Proofs.Ytnhhcmnjfaeliaa.Vm
