/- A head's fields, plainly: All, Items, Has of packages fields and its reference: own text of this session. -/
import Derived.Test.YtccolnlfjbgnmaaGreatDoorPx5
import Derived.Test.YtccolnlfjbgnmaaGreatDoorPX
import Derived.Test.YtccolnlfjbgnmaaGreatDoorPY
namespace Go.Proofs.YtccolnlfjbgnmaaGreatDoor.Px
open Go.RowKit Go.Proofs.YtccolnlfjbgnmaaGreatDoor.P Go.Proofs.YtccolnlfjbgnmaaGreatDoorW.PrintWords Go.Proofs.YtccolnlfjbgnmaaGreatDoorW.PrintLast Go.Proofs.Hr
set_option linter.unusedVariables false
set_option linter.unusedSimpArgs false
abbrev Fld := S37
def fsz (l : List Fld) : Nat := (l.map fun f => f.f0.size + f.f1.size + 1).sum
def bsz (l : List ByteArray) : Nat := (l.map fun v => v.size + 1).sum
theorem fsz_cons (f : Fld) (l : List Fld) : fsz (f :: l) = f.f0.size + f.f1.size + 1 + fsz l := by simp [fsz]
theorem bsz_cons (v : ByteArray) (l : List ByteArray) : bsz (v :: l) = v.size + 1 + bsz l := by simp [bsz]
theorem len_fsz (l : List Fld) : l.length ≤ fsz l := by
  induction l with
  | nil => simp
  | cons f l ih => rw [fsz_cons]; simp only [List.length_cons]; omega
theorem len_bsz (l : List ByteArray) : l.length ≤ bsz l := by
  induction l with
  | nil => simp
  | cons f l ih => rw [bsz_cons]; simp only [List.length_cons]; omega
theorem bsz_mem {v : ByteArray} {l : List ByteArray} (h : v ∈ l) : v.size + 1 ≤ bsz l := by
  induction l with
  | nil => cases h
  | cons x l ih =>
    rw [bsz_cons]
    rcases List.mem_cons.1 h with rfl | h
    · omega
    · have := ih h; omega
def isN (n : Bs) (f : Fld) : Bool := lower f.f0.data.toList == lower n
def allS (n : Bs) (l : List Fld) : List ByteArray := (l.filter (isN n)).map (·.f1)
theorem allS_cons (n : Bs) (f : Fld) (l : List Fld) : allS n (f :: l) = if isN n f then f.f1 :: allS n l else allS n l := by
  unfold allS
  rw [List.filter_cons]
  split <;> rfl
theorem bsz_allS (n : Bs) (l : List Fld) : bsz (allS n l) ≤ fsz l := by
  induction l with
  | nil => simp [allS, bsz]
  | cons f l ih =>
    rw [allS_cons, fsz_cons]
    split
    · rw [bsz_cons]; omega
    · omega
def itemsOf (v : ByteArray) : List ByteArray := (Hr.list v.data.toList).map fun x => mkB (lower x)
def itemsS (n : Bs) (l : List Fld) : List ByteArray := (allS n l).flatMap itemsOf
def hasS (n item : Bs) (l : List Fld) : Bool := (itemsS n l).any fun x => x.data.toList == lower item
theorem itemsOf_length (v : ByteArray) : (itemsOf v).length ≤ v.size + 1 := by
  unfold itemsOf
  rw [List.length_map]
  have h1 := length_total (Hr.list v.data.toList)
  have h2 := total_list v.data.toList
  rw [← sz] at h2
  omega
theorem items_length (l : List ByteArray) : (l.flatMap itemsOf).length ≤ bsz l := by
  induction l with
  | nil => simp
  | cons v l ih => rw [List.flatMap_cons, List.length_append, bsz_cons]; have := itemsOf_length v; omega
theorem mem_total {x : Bs} {l : List Bs} (h : x ∈ l) : x.length + 1 ≤ total l := by
  induction l with
  | nil => cases h
  | cons y l ih =>
    have e : total (y :: l) = (y.length + 1) + total l := by simp [total]
    rcases List.mem_cons.1 h with rfl | h
    · omega
    · have := ih h; omega
theorem lower_length (l : Bs) : (lower l).length = l.length := by unfold lower; rw [List.length_map]
theorem itemsOf_size {v x : ByteArray} (h : x ∈ itemsOf v) : x.size ≤ v.size := by
  unfold itemsOf at h
  obtain ⟨y, hy, rfl⟩ := List.mem_map.1 h
  have h1 := mem_total hy
  have h2 := total_list v.data.toList
  rw [← sz] at h2
  rw [mkB_size, lower_length]
  omega
theorem items_size {x : ByteArray} {n : Bs} {l : List Fld} (h : x ∈ itemsS n l) : x.size ≤ fsz l := by
  unfold itemsS at h
  obtain ⟨v, hv, hx⟩ := List.mem_flatMap.1 h
  have h1 := itemsOf_size hx
  have h2 := bsz_mem hv
  have h3 := bsz_allS n l
  omega
theorem items_len (n : Bs) (l : List Fld) : (itemsS n l).length ≤ fsz l := Nat.le_trans (items_length _) (bsz_allS n l)
theorem rd_fld {l r : List Fld} {f : Fld} {i : Nat} (h : l.drop i = f :: r) : rd_T37 l (i : Int) = f := by
  have h1 := drop_lt h
  unfold rd_T37
  rw [Int.toNat_natCast, List.getD_eq_getElem?_getD]
  rw [List.drop_eq_getElem_cons h1] at h
  injection h with h2 h3
  rw [List.getElem?_eq_getElem h1, h2]; rfl
theorem rd_str {l r : List ByteArray} {v : ByteArray} {i : Nat} (h : l.drop i = v :: r) : rdOf ByteArray.empty l (i : Int) = v := by
  have h1 := drop_lt h
  unfold rdOf
  rw [Int.toNat_natCast, List.getD_eq_getElem?_getD]
  rw [List.drop_eq_getElem_cons h1] at h
  injection h with h2 h3
  rw [List.getElem?_eq_getElem h1, h2]; rfl
theorem mem_drop {α : Type} {l r : List α} {v : α} {i : Nat} (h : l.drop i = v :: r) : v ∈ l := List.mem_of_mem_drop (by rw [h]; simp)
theorem lSame (a b : ByteArray) (ha : a.size ≤ 4611686018427387904) (hb : b.size ≤ 4611686018427387904) : lexis_Same.f a b = some (lower a.data.toList == lower b.data.toList) := by
  unfold lexis_Same.f
  rw [lLower a ha, lLower b hb]
  simp only [Option.bind_some, tl, mkB_data]
/-! All -/
theorem ev_All_l0 (n : ByteArray) (hn : n.size ≤ 140737488355328) (l : List Fld) (hl : fsz l ≤ 4194304) (rest : List Fld) : ∀ (i : Nat) (out : List ByteArray), l.drop i = rest → i ≤ l.length → out.length ≤ i → fsz rest ≤ 4194304 →
    Ev (fun k => fields_All.l0 k n out l (l.length : Int) (i : Int)) (out ++ allS n.data.toList rest) := by
  have hll := len_fsz l
  induction rest with
  | nil =>
    intro i out h hi ho _
    have h1 := drop_nil h
    refine Ev.step (fun k => rfl) ?_
    simp only [fields_All.l0, if_neg (show ¬ (i : Int) < (l.length : Int) by omega)]
    simp only [allS, List.filter_nil, List.map_nil, List.append_nil]
    exact Ev.now _
  | cons f r ih =>
    intro i out h hi ho hfs
    have h1 := drop_lt h
    have hd := drop_succ h
    rw [fsz_cons] at hfs
    refine Ev.step (fun k => rfl) ?_
    simp only [fields_All.l0, if_pos (show (i : Int) < (l.length : Int) by omega), if_pos (show 0 ≤ (i : Int) by omega), rd_fld h, lSame f.f0 n (by omega) (by omega), Option.bind_some, w64 (show i < 9223372036854775807 by omega), if_pos (show out.length < 8796093022208 by omega)]
    rw [allS_cons]
    have e : (lower f.f0.data.toList == lower n.data.toList) = isN n.data.toList f := rfl
    rw [e]
    cases isN n.data.toList f with
    | true =>
      simp only [if_true]
      have := ih (i + 1) (out ++ [f.f1]) hd (by omega) (by simp; omega) (by omega)
      rw [List.append_assoc] at this
      exact this
    | false =>
      simp only [Bool.false_eq_true, if_false]
      exact ih (i + 1) out hd (by omega) (by omega) (by omega)
theorem ev_All (n : ByteArray) (hn : n.size ≤ 140737488355328) (l : List Fld) (hl : fsz l ≤ 4194304) : Ev (fun k => fields_All.f k l n) (allS n.data.toList l) := by
  unfold fields_All.f
  exact ev_All_l0 n hn l hl l 0 [] rfl (by omega) (by simp) hl
/-! Items -/
theorem lowmap (xs : List Bs) : (xs.map mkB).map (fun x => mkB (lower x.data.toList)) = xs.map fun x => mkB (lower x) := by
  rw [List.map_map]
  apply List.map_congr_left
  intro x _
  simp only [Function.comp, mkB_data]
theorem ev_Items_l1 (x12 : List ByteArray) (x13 x14 : Int) (xs : List ByteArray) (hx : xs.length ≤ 4194304) (hb : ∀ x ∈ xs, x.size ≤ 4194304) (R : List ByteArray) (rest : List ByteArray) : ∀ (j : Nat) (out : List ByteArray), xs.drop j = rest → j ≤ xs.length → out.length + rest.length ≤ 8388608 →
    Ev (fun k => fields_Items.l0 k (out ++ rest.map fun x => mkB (lower x.data.toList)) x12 x13 (wrap64 (x14 + 1))) R → Ev (fun k => fields_Items.l1 k out x12 x13 x14 xs (xs.length : Int) (j : Int)) R := by
  induction rest with
  | nil =>
    intro j out h hj ho hk
    have h1 := drop_nil h
    refine Ev.step (fun k => rfl) ?_
    simp only [fields_Items.l1, if_neg (show ¬ (j : Int) < (xs.length : Int) by omega)]
    simpa using hk
  | cons x r ih =>
    intro j out h hj ho hk
    have h1 := drop_lt h
    have hd := drop_succ h
    have hxb := hb x (mem_drop h)
    simp only [List.length_cons] at ho
    refine Ev.step (fun k => rfl) ?_
    simp only [fields_Items.l1, if_pos (show (j : Int) < (xs.length : Int) by omega), if_pos (show 0 ≤ (j : Int) by omega), rd_str h, lLower x (by omega), Option.bind_some, w64 (show j < 9223372036854775807 by omega), if_pos (show out.length < 8796093022208 by omega)]
    refine ih (j + 1) _ hd (by omega) (by simp; omega) ?_
    simpa using hk
theorem ev_Items_l0 (vs : List ByteArray) (hv : bsz vs ≤ 4194304) (rest : List ByteArray) : ∀ (i : Nat) (out : List ByteArray), vs.drop i = rest → i ≤ vs.length → out.length + bsz rest ≤ 4194304 →
    Ev (fun k => fields_Items.l0 k out vs (vs.length : Int) (i : Int)) (out ++ rest.flatMap itemsOf) := by
  have hvl := len_bsz vs
  induction rest with
  | nil =>
    intro i out h hi ho
    have h1 := drop_nil h
    refine Ev.step (fun k => rfl) ?_
    simp only [fields_Items.l0, if_neg (show ¬ (i : Int) < (vs.length : Int) by omega)]
    simpa using Ev.now out
  | cons v r ih =>
    intro i out h hi ho
    have h1 := drop_lt h
    have hd := drop_succ h
    have hvb := bsz_mem (mem_drop h)
    rw [bsz_cons] at ho
    have hil := itemsOf_length v
    refine Ev.step (fun k => rfl) ?_
    simp only [fields_Items.l0, if_pos (show (i : Int) < (vs.length : Int) by omega), if_pos (show 0 ≤ (i : Int) by omega), rd_str h, lList v (by omega), Option.bind_some]
    have hlen : ((Hr.list v.data.toList).map mkB).length = (itemsOf v).length := by unfold itemsOf; rw [List.length_map, List.length_map]
    refine ev_Items_l1 vs _ _ ((Hr.list v.data.toList).map mkB) (by omega) (fun x hx => ?_) _ ((Hr.list v.data.toList).map mkB) 0 out rfl (by omega) (by omega) ?_
    · obtain ⟨y, hy, rfl⟩ := List.mem_map.1 hx
      have h3 := mem_total hy
      have h4 := total_list v.data.toList
      rw [← sz] at h4
      rw [mkB_size]; omega
    · rw [lowmap, List.flatMap_cons]
      rw [w64 (show i < 9223372036854775807 by omega)]
      have := ih (i + 1) (out ++ itemsOf v) hd (by omega) (by rw [List.length_append]; omega)
      rw [List.append_assoc] at this
      exact this
theorem ev_Items (n : ByteArray) (hn : n.size ≤ 140737488355328) (l : List Fld) (hl : fsz l ≤ 4194304) : Ev (fun k => fields_Items.f k l n) (itemsS n.data.toList l) := by
  unfold fields_Items.f
  have hb := bsz_allS n.data.toList l
  refine Ev.bind (ev_All n hn l hl) ?_
  have := ev_Items_l0 (allS n.data.toList l) (by omega) _ 0 [] rfl (by omega) (by simp; omega)
  exact this
/-! Has -/
theorem ev_Index_l0 (xs : List ByteArray) (y : ByteArray) (hx : xs.length ≤ 4611686018427387904) (rest : List ByteArray) : ∀ i : Nat, xs.drop i = rest → i ≤ xs.length →
    ∃ r : Int, decide (r ≥ 0) = rest.any (fun x => x.data.toList == y.data.toList) ∧ Ev (fun k => slices_Index_string_string.l0 k xs y (xs.length : Int) (i : Int)) r := by
  induction rest with
  | nil =>
    intro i h hi
    have h1 := drop_nil h
    refine ⟨-1, rfl, ?_⟩
    refine Ev.step (fun k => rfl) ?_
    simp only [slices_Index_string_string.l0, if_neg (show ¬ (i : Int) < (xs.length : Int) by omega)]
    exact Ev.now _
  | cons x r ih =>
    intro i h hi
    have h1 := drop_lt h
    have hd := drop_succ h
    by_cases he : y.data.toList = x.data.toList
    · refine ⟨(i : Int), ?_, ?_⟩
      · rw [List.any_cons, he, beq_self_eq_true, Bool.true_or]; exact decide_eq_true (by omega)
      · refine Ev.step (fun k => rfl) ?_
        simp only [slices_Index_string_string.l0, if_pos (show (i : Int) < (xs.length : Int) by omega), if_pos (show 0 ≤ (i : Int) by omega), rd_str h, tl, if_pos he]
        exact Ev.now _
    · obtain ⟨q, hq, hev⟩ := ih (i + 1) hd (by omega)
      refine ⟨q, ?_, ?_⟩
      · have hn : (x.data.toList == y.data.toList) = false := by rw [beq_eq_false_iff_ne]; exact fun h => he h.symm
        rw [List.any_cons, hn, Bool.false_or]; exact hq
      · refine Ev.step (fun k => rfl) ?_
        simp only [slices_Index_string_string.l0, if_pos (show (i : Int) < (xs.length : Int) by omega), if_pos (show 0 ≤ (i : Int) by omega), rd_str h, tl, if_neg he, w64 (show i < 9223372036854775807 by omega)]
        exact hev
theorem ev_Contains (xs : List ByteArray) (y : ByteArray) (hx : xs.length ≤ 4611686018427387904) : Ev (fun k => slices_Contains_string_string.f k xs y) (xs.any (fun x => x.data.toList == y.data.toList)) := by
  obtain ⟨r, hr, hev⟩ := ev_Index_l0 xs y hx xs 0 rfl (by omega)
  unfold slices_Contains_string_string.f slices_Index_string_string.f
  refine Ev.bind hev ?_
  rw [hr]
  exact Ev.now _
theorem ev_Has (n item : ByteArray) (hn : n.size ≤ 140737488355328) (hi : item.size ≤ 140737488355328) (l : List Fld) (hl : fsz l ≤ 4194304) : Ev (fun k => fields_Has.f k l n item) (hasS n.data.toList item.data.toList l) := by
  unfold fields_Has.f
  have hlen := items_len n.data.toList l
  refine Ev.bind (ev_Items n hn l hl) ?_
  simp only [lLower item (by omega), Option.bind_some]
  refine Ev.bind (ev_Contains _ _ (by omega)) ?_
  rw [mkB_data]
  exact Ev.now _
end Go.Proofs.YtccolnlfjbgnmaaGreatDoor.Px
/- Framing, plainly: whether a connection is kept, how a body ends: own text of this session. -/
namespace Go.Proofs.YtccolnlfjbgnmaaGreatDoor.Px
open Go.RowKit Go.Proofs.YtccolnlfjbgnmaaGreatDoor.P Go.Proofs.YtccolnlfjbgnmaaGreatDoorW.PrintWords Go.Proofs.YtccolnlfjbgnmaaGreatDoorW.PrintLast Go.Proofs.Hr
set_option linter.unusedVariables false
set_option linter.unusedSimpArgs false
abbrev TE : Bs := [116, 114, 97, 110, 115, 102, 101, 114, 45, 101, 110, 99, 111, 100, 105, 110, 103]
abbrev CL : Bs := [99, 111, 110, 116, 101, 110, 116, 45, 108, 101, 110, 103, 116, 104]
abbrev CN : Bs := [99, 111, 110, 110, 101, 99, 116, 105, 111, 110]
abbrev CE : Bs := [99, 108, 111, 115, 101]
abbrev KA : Bs := [107, 101, 101, 112, 45, 97, 108, 105, 118, 101]
abbrev CH : Bs := [99, 104, 117, 110, 107, 101, 100]
def keepS (minor : Int) (l : List Fld) : Bool := if hasS CN CE l then false else if minor = 1 then true else if minor = 0 then hasS CN KA l else false
def lenS (items : List ByteArray) : Int × Int := match items with
  | [] => (0, 90)
  | x :: r => if (decide (¬ (digits 10 x.data.toList).2 = 0) || (x :: r).any (Frm.unlikeB (digits 10 x.data.toList).1)) then (0, 90) else ((digits 10 x.data.toList).1, 0)
def toldS (minor : Int) (l : List Fld) : Int × Int × Bool × Int :=
  if allS TE l = [] then (if allS CL l = [] then (4, 0, keepS minor l, 0) else (if (lenS (itemsS CL l)).2 = 0 then (2, (lenS (itemsS CL l)).1, keepS minor l, 0) else (0, 0, false, (lenS (itemsS CL l)).2)))
  else if allS CL l = [] then (if minor = 1 ∧ (itemsS TE l).length = 1 ∧ (rdOf ByteArray.empty (itemsS TE l) 0).data.toList = CH then (3, 0, keepS minor l, 0) else (0, 0, false, 92))
  else (0, 0, false, 91)
theorem small_of (l : Bs) (h : l.length ≤ 140737488355328) : (mkB l).size ≤ 140737488355328 := by rw [mkB_size]; exact h
theorem ev_Keep (a : Bool) (b c : ByteArray) (minor d : Int) (e : ByteArray) (l : List Fld) (hl : fsz l ≤ 4194304) : Ev (fun k => framing_Keep.f k a b c minor d e l) (keepS minor l) := by
  unfold framing_Keep.f keepS
  refine Ev.bind (ev_Has (mkB CN) (mkB CE) (small_of _ (by decide)) (small_of _ (by decide)) l hl) ?_
  rw [mkB_data, mkB_data]
  cases hasS CN CE l with
  | true => simp only [if_true]; exact Ev.now _
  | false =>
    simp only [Bool.false_eq_true, if_false]
    by_cases h1 : minor = 1
    · simp only [if_pos h1]; exact Ev.now _
    · simp only [if_neg h1]
      by_cases h0 : minor = 0
      · simp only [if_pos h0]
        exact Ev.bind (ev_Has (mkB CN) (mkB KA) (small_of _ (by decide)) (small_of _ (by decide)) l hl) (Ev.now _)
      · simp only [if_neg h0]; exact Ev.now _
theorem lengthOf_eq (n : Bs) (l : List Fld) (hl : fsz l ≤ 4194304) : lengthOf (itemsS n l) = some (lenS (itemsS n l)) := by
  have hs : ∀ x ∈ itemsS n l, x.size ≤ 281474976710656 := fun x hx => by have := items_size hx; omega
  revert hs
  generalize itemsS n l = L
  intro hs
  unfold lengthOf lenS
  cases L with
  | nil => rfl
  | cons x r =>
    have h : ((x :: r).all fun y => decide (y.size ≤ 281474976710656)) = true := List.all_eq_true.2 fun y hy => decide_eq_true (hs y hy)
    simp only [if_pos h]
    split <;> rfl
theorem ev_length (a : Bool) (b c : ByteArray) (minor d : Int) (e : ByteArray) (l : List Fld) (hl : fsz l ≤ 4194304) : Ev (fun k => framing_length.f k a b c minor d e l) (lenS (itemsS CL l)) := by
  unfold framing_length.f
  refine Ev.bind (ev_Items (mkB CL) (small_of _ (by decide)) l hl) ?_
  rw [mkB_data, lengthOf_eq CL l hl]
  exact Ev.now _
theorem pos_len {α : Type} {l : List α} (h : ¬ l = []) : (l.length : Int) > 0 := by
  cases l with
  | nil => exact absurd rfl h
  | cons x r => simp only [List.length_cons]; omega
theorem ev_told (a : Bool) (b c : ByteArray) (minor d : Int) (e : ByteArray) (l : List Fld) (hl : fsz l ≤ 4194304) : Ev (fun k => framing_told.f k a b c minor d e l) (toldS minor l) := by
  have hK := ev_Keep a b c minor d e l hl
  have hT : Ev (fun k => fields_All.f k l (mkB TE)) (allS TE l) := ev_All (mkB TE) (small_of _ (by decide)) l hl
  have hC : Ev (fun k => fields_All.f k l (mkB CL)) (allS CL l) := ev_All (mkB CL) (small_of _ (by decide)) l hl
  have hI : Ev (fun k => fields_Items.f k l (mkB TE)) (itemsS TE l) := ev_Items (mkB TE) (small_of _ (by decide)) l hl
  have hL := ev_length a b c minor d e l hl
  unfold framing_told.f
  refine Ev.bind hK (Ev.bind hT (Ev.bind hC (Ev.bind hI ?_)))
  unfold toldS
  generalize keepS minor l = K at *
  generalize lenS (itemsS CL l) = p at *
  generalize itemsS TE l = I at *
  by_cases h1 : allS TE l = []
  · simp only [h1, List.length_nil, if_true, show ¬ (((0 : Nat) : Int) > 0) by decide, if_false, decide_false]
    refine Ev.step (fun k => rfl) ?_
    simp only [framing_told.j0, Bool.false_eq_true, if_false]
    refine Ev.step (fun k => rfl) ?_
    simp only [framing_told.j1, Bool.false_eq_true, if_false]
    refine Ev.step (fun k => rfl) ?_
    simp only [framing_told.j2, Bool.false_eq_true, if_false]
    by_cases h2 : allS CL l = []
    · simp only [h2, List.length_nil, show ¬ (((0 : Nat) : Int) > 0) by decide, decide_false, Bool.false_eq_true, if_false, if_true]
      exact Ev.now _
    · simp only [if_neg h2, decide_eq_true (pos_len h2), if_true]
      refine Ev.bind hL ?_
      by_cases h3 : p.2 = 0
      · simp only [if_pos h3]; exact Ev.now _
      · simp only [if_neg h3]; exact Ev.now _
  · simp only [if_neg h1, if_pos (pos_len h1), decide_eq_true (pos_len h1)]
    by_cases h2 : allS CL l = []
    · simp only [h2, List.length_nil, show ¬ (((0 : Nat) : Int) > 0) by decide, decide_false, if_true]
      refine Ev.step (fun k => rfl) ?_
      simp only [framing_told.j0, Bool.false_eq_true, if_false, if_true]
      by_cases h3 : minor = 1
      · simp only [if_pos h3]
        by_cases h4 : I.length = 1
        · have e4 : ((I.length : Int) != 1) = false := by rw [h4]; rfl
          rw [e4]
          refine Ev.step (fun k => rfl) ?_
          simp only [framing_told.j1, Bool.false_eq_true, if_false, if_true, if_pos (show 0 < (I.length : Int) by rw [h4]; decide), tl]
          by_cases h5 : (rdOf ByteArray.empty I 0).data.toList = CH
          · have e5 : ((rdOf ByteArray.empty I 0).data.toList != CH) = false := by simp [h5]
            rw [e5, if_pos ⟨h3, h4, h5⟩]
            refine Ev.step (fun k => rfl) ?_
            simp only [framing_told.j2, Bool.false_eq_true, if_false, if_true]
            exact Ev.now _
          · have e5 : ((rdOf ByteArray.empty I 0).data.toList != CH) = true := by simpa using h5
            rw [e5, if_neg (fun h => h5 h.2.2)]
            refine Ev.step (fun k => rfl) ?_
            simp only [framing_told.j2, if_true, if_neg (show ¬ (92 : Int) = 0 by decide)]
            exact Ev.now _
        · have e4 : ((I.length : Int) != 1) = true := by simp only [bne_iff_ne, ne_eq]; omega
          rw [e4, if_neg (fun h => h4 h.2.1)]
          refine Ev.step (fun k => rfl) ?_
          simp only [framing_told.j1, if_true, if_neg (show ¬ (92 : Int) = 0 by decide)]
          exact Ev.now _
      · simp only [if_neg h3, if_neg (show ¬ (minor = 1 ∧ I.length = 1 ∧ (rdOf ByteArray.empty I 0).data.toList = CH) from fun h => h3 h.1)]
        refine Ev.step (fun k => rfl) ?_
        simp only [framing_told.j1, if_true, if_neg (show ¬ (92 : Int) = 0 by decide)]
        exact Ev.now _
    · simp only [if_neg h2, decide_eq_true (pos_len h2)]
      refine Ev.step (fun k => rfl) ?_
      simp only [framing_told.j0, if_true, if_neg (show ¬ (91 : Int) = 0 by decide)]
      exact Ev.now _
theorem digits_nonneg (b : Nat) (s : Bs) : 0 ≤ (digits b s).1 := by
  unfold digits
  split
  · simp
  · split
    · simp
    · split
      · simp
      · simp
def rtoldS (none minor : Int) (l : List Fld) : Int × Int × Bool × Int := if (toldS minor l).1 = 4 then (none, 0, keepS minor l && none != 4, 0) else toldS minor l
end Go.Proofs.YtccolnlfjbgnmaaGreatDoor.Px
/- Requests' and responses' framing, plainly (out of Fr3, for a seat without the laws of framing): own text of this session. -/
namespace Go.Proofs.YtccolnlfjbgnmaaGreatDoor.Px
open Go.RowKit Go.Proofs.YtccolnlfjbgnmaaGreatDoor.P Go.Proofs.YtccolnlfjbgnmaaGreatDoorW.PrintWords Go.Proofs.YtccolnlfjbgnmaaGreatDoorW.PrintLast Go.Proofs.Hr
set_option linter.unusedVariables false
set_option linter.unusedSimpArgs false
def reqS (a : Bool) (minor : Int) (l : List Fld) : Int × Int × Bool × Int := if a = true then rtoldS 1 minor l else (0, 0, false, 1)
theorem toldS_four (minor : Int) (l : List Fld) (h : (toldS minor l).1 = 4) : toldS minor l = (4, 0, keepS minor l, 0) := by
  revert h
  unfold toldS
  split
  · split
    · intro _; rfl
    · split <;> (intro h; simp at h)
  · split
    · split <;> (intro h; simp at h)
    · intro h; simp at h
def bare (status : Int) (m : Bs) : Bool := decide (status < 200) || decide (status = 204) || decide (status = 304) || m == [72, 69, 65, 68]
def resS (a : Bool) (minor status : Int) (l : List Fld) (m : Bs) : Int × Int × Bool × Int := if a = true then (0, 0, false, 1) else if bare status m = true then (1, 0, keepS minor l, 0) else rtoldS 4 minor l
theorem ev_Response (a : Bool) (b c : ByteArray) (minor d : Int) (e : ByteArray) (l : List Fld) (m : ByteArray) (hl : fsz l ≤ 4194304) : Ev (fun k => framing_Response.f k a b c minor d e l m) (resS a minor d l m.data.toList) := by
  have key : ∀ q : Bool, Ev (fun k => framing_Response.j0 k q a b c minor d e l) (if q = true then (1, 0, keepS minor l, 0) else rtoldS 4 minor l) := by
    intro q
    refine Ev.step (fun k => rfl) ?_
    cases q with
    | true =>
      simp only [framing_Response.j0, if_true]
      exact Ev.bind (ev_Keep a b c minor d e l hl) (Ev.now _)
    | false =>
      simp only [framing_Response.j0, Bool.false_eq_true, if_false]
      refine Ev.bind (ev_told a b c minor d e l hl) ?_
      unfold rtoldS
      by_cases h : (toldS minor l).1 = 4
      · simp only [if_pos h]
        rw [toldS_four minor l h]
        simp only [show ((4 : Int) != 4) = false from rfl, Bool.and_false]
        exact Ev.now _
      · simp only [if_neg h]; exact Ev.now _
  unfold framing_Response.f resS bare
  cases a with
  | true => simp only [if_true]; exact Ev.now _
  | false =>
    simp only [Bool.false_eq_true, if_false]
    by_cases h1 : d < 200
    · have := key true
      simpa [h1] using this
    · by_cases h2 : d = 204
      · have := key true
        simpa [h1, h2] using this
      · by_cases h3 : d = 304
        · have := key true
          simpa [h1, h2, h3] using this
        · have := key (m.data.toList == [72, 69, 65, 68])
          simpa [h1, h2, h3, tl] using this
end Go.Proofs.YtccolnlfjbgnmaaGreatDoor.Px
