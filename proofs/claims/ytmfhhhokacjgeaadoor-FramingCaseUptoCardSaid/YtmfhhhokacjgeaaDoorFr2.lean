/- Framing, plainly: whether a connection is kept, how a body ends: own text of this session. -/
import Derived.Test.YtmfhhhokacjgeaaDoorFr1
namespace Go.Proofs.YtmfhhhokacjgeaaDoor.Px
open Go.RowKit Go.Proofs.YtmfhhhokacjgeaaDoor.P Go.Proofs.YtmfhhhokacjgeaaDoorW.PrintWords Go.Proofs.YtmfhhhokacjgeaaDoorW.PrintLast Go.Proofs.Hr
set_option linter.unusedVariables false
set_option linter.unusedSimpArgs false
abbrev TE : Bs := [116, 114, 97, 110, 115, 102, 101, 114, 45, 101, 110, 99, 111, 100, 105, 110, 103]
abbrev CL : Bs := [99, 111, 110, 116, 101, 110, 116, 45, 108, 101, 110, 103, 116, 104]
abbrev CN : Bs := [99, 111, 110, 110, 101, 99, 116, 105, 111, 110]
abbrev CE : Bs := [99, 108, 111, 115, 101]
abbrev KA : Bs := [107, 101, 101, 112, 45, 97, 108, 105, 118, 101]
abbrev CH : Bs := [99, 104, 117, 110, 107, 101, 100]
def keepS (minor : Int) (l : List Fld) : Bool := if hasS CN CE l then false else if minor = 1 then true else if minor = 0 then hasS CN KA l else false
def lenS (items : List ByteArray) : Int × Int := match items with
  | [] => (0, 90)
  | x :: r => if (decide (¬ (digits 10 x.data.toList).2 = 0) || (x :: r).any (Frm.unlikeB (digits 10 x.data.toList).1)) then (0, 90) else ((digits 10 x.data.toList).1, 0)
def toldS (minor : Int) (l : List Fld) : Int × Int × Bool × Int :=
  if allS TE l = [] then (if allS CL l = [] then (4, 0, keepS minor l, 0) else (if (lenS (itemsS CL l)).2 = 0 then (2, (lenS (itemsS CL l)).1, keepS minor l, 0) else (0, 0, false, (lenS (itemsS CL l)).2)))
  else if allS CL l = [] then (if minor = 1 ∧ (itemsS TE l).length = 1 ∧ (rdOf ByteArray.empty (itemsS TE l) 0).data.toList = CH then (3, 0, keepS minor l, 0) else (0, 0, false, 92))
  else (0, 0, false, 91)
theorem small_of (l : Bs) (h : l.length ≤ 140737488355328) : (mkB l).size ≤ 140737488355328 := by rw [mkB_size]; exact h
theorem ev_Keep (a : Bool) (b c : ByteArray) (minor d : Int) (e : ByteArray) (l : List Fld) (hl : fsz l ≤ 4194304) : Ev (fun k => framing_Keep.f k a b c minor d e l) (keepS minor l) := by
  unfold framing_Keep.f keepS
  refine Ev.bind (ev_Has (mkB CN) (mkB CE) (small_of _ (by decide)) (small_of _ (by decide)) l hl) ?_
  rw [mkB_data, mkB_data]
  cases hasS CN CE l with
  | true => simp only [if_true]; exact Ev.now _
  | false =>
    simp only [Bool.false_eq_true, if_false]
    by_cases h1 : minor = 1
    · simp only [if_pos h1]; exact Ev.now _
    · simp only [if_neg h1]
      by_cases h0 : minor = 0
      · simp only [if_pos h0]
        exact Ev.bind (ev_Has (mkB CN) (mkB KA) (small_of _ (by decide)) (small_of _ (by decide)) l hl) (Ev.now _)
      · simp only [if_neg h0]; exact Ev.now _
theorem lengthOf_eq (n : Bs) (l : List Fld) (hl : fsz l ≤ 4194304) : lengthOf (itemsS n l) = some (lenS (itemsS n l)) := by
  have hs : ∀ x ∈ itemsS n l, x.size ≤ 281474976710656 := fun x hx => by have := items_size hx; omega
  revert hs
  generalize itemsS n l = L
  intro hs
  unfold lengthOf lenS
  cases L with
  | nil => rfl
  | cons x r =>
    have h : ((x :: r).all fun y => decide (y.size ≤ 281474976710656)) = true := List.all_eq_true.2 fun y hy => decide_eq_true (hs y hy)
    simp only [if_pos h]
    split <;> rfl
theorem ev_length (a : Bool) (b c : ByteArray) (minor d : Int) (e : ByteArray) (l : List Fld) (hl : fsz l ≤ 4194304) : Ev (fun k => framing_length.f k a b c minor d e l) (lenS (itemsS CL l)) := by
  unfold framing_length.f
  refine Ev.bind (ev_Items (mkB CL) (small_of _ (by decide)) l hl) ?_
  rw [mkB_data, lengthOf_eq CL l hl]
  exact Ev.now _
theorem pos_len {α : Type} {l : List α} (h : ¬ l = []) : (l.length : Int) > 0 := by
  cases l with
  | nil => exact absurd rfl h
  | cons x r => simp only [List.length_cons]; omega
theorem ev_told (a : Bool) (b c : ByteArray) (minor d : Int) (e : ByteArray) (l : List Fld) (hl : fsz l ≤ 4194304) : Ev (fun k => framing_told.f k a b c minor d e l) (toldS minor l) := by
  have hK := ev_Keep a b c minor d e l hl
  have hT : Ev (fun k => fields_All.f k l (mkB TE)) (allS TE l) := ev_All (mkB TE) (small_of _ (by decide)) l hl
  have hC : Ev (fun k => fields_All.f k l (mkB CL)) (allS CL l) := ev_All (mkB CL) (small_of _ (by decide)) l hl
  have hI : Ev (fun k => fields_Items.f k l (mkB TE)) (itemsS TE l) := ev_Items (mkB TE) (small_of _ (by decide)) l hl
  have hL := ev_length a b c minor d e l hl
  unfold framing_told.f
  refine Ev.bind hK (Ev.bind hT (Ev.bind hC (Ev.bind hI ?_)))
  unfold toldS
  generalize keepS minor l = K at *
  generalize lenS (itemsS CL l) = p at *
  generalize itemsS TE l = I at *
  by_cases h1 : allS TE l = []
  · simp only [h1, List.length_nil, if_true, show ¬ (((0 : Nat) : Int) > 0) by decide, if_false, decide_false]
    refine Ev.step (fun k => rfl) ?_
    simp only [framing_told.j0, Bool.false_eq_true, if_false]
    refine Ev.step (fun k => rfl) ?_
    simp only [framing_told.j1, Bool.false_eq_true, if_false]
    refine Ev.step (fun k => rfl) ?_
    simp only [framing_told.j2, Bool.false_eq_true, if_false]
    by_cases h2 : allS CL l = []
    · simp only [h2, List.length_nil, show ¬ (((0 : Nat) : Int) > 0) by decide, decide_false, Bool.false_eq_true, if_false, if_true]
      exact Ev.now _
    · simp only [if_neg h2, decide_eq_true (pos_len h2), if_true]
      refine Ev.bind hL ?_
      by_cases h3 : p.2 = 0
      · simp only [if_pos h3]; exact Ev.now _
      · simp only [if_neg h3]; exact Ev.now _
  · simp only [if_neg h1, if_pos (pos_len h1), decide_eq_true (pos_len h1)]
    by_cases h2 : allS CL l = []
    · simp only [h2, List.length_nil, show ¬ (((0 : Nat) : Int) > 0) by decide, decide_false, if_true]
      refine Ev.step (fun k => rfl) ?_
      simp only [framing_told.j0, Bool.false_eq_true, if_false, if_true]
      by_cases h3 : minor = 1
      · simp only [if_pos h3]
        by_cases h4 : I.length = 1
        · have e4 : ((I.length : Int) != 1) = false := by rw [h4]; rfl
          rw [e4]
          refine Ev.step (fun k => rfl) ?_
          simp only [framing_told.j1, Bool.false_eq_true, if_false, if_true, if_pos (show 0 < (I.length : Int) by rw [h4]; decide), tl]
          by_cases h5 : (rdOf ByteArray.empty I 0).data.toList = CH
          · have e5 : ((rdOf ByteArray.empty I 0).data.toList != CH) = false := by simp [h5]
            rw [e5, if_pos ⟨h3, h4, h5⟩]
            refine Ev.step (fun k => rfl) ?_
            simp only [framing_told.j2, Bool.false_eq_true, if_false, if_true]
            exact Ev.now _
          · have e5 : ((rdOf ByteArray.empty I 0).data.toList != CH) = true := by simpa using h5
            rw [e5, if_neg (fun h => h5 h.2.2)]
            refine Ev.step (fun k => rfl) ?_
            simp only [framing_told.j2, if_true, if_neg (show ¬ (92 : Int) = 0 by decide)]
            exact Ev.now _
        · have e4 : ((I.length : Int) != 1) = true := by simp only [bne_iff_ne, ne_eq]; omega
          rw [e4, if_neg (fun h => h4 h.2.1)]
          refine Ev.step (fun k => rfl) ?_
          simp only [framing_told.j1, if_true, if_neg (show ¬ (92 : Int) = 0 by decide)]
          exact Ev.now _
      · simp only [if_neg h3, if_neg (show ¬ (minor = 1 ∧ I.length = 1 ∧ (rdOf ByteArray.empty I 0).data.toList = CH) from fun h => h3 h.1)]
        refine Ev.step (fun k => rfl) ?_
        simp only [framing_told.j1, if_true, if_neg (show ¬ (92 : Int) = 0 by decide)]
        exact Ev.now _
    · simp only [if_neg h2, decide_eq_true (pos_len h2)]
      refine Ev.step (fun k => rfl) ?_
      simp only [framing_told.j0, if_true, if_neg (show ¬ (91 : Int) = 0 by decide)]
      exact Ev.now _
/-! the reference's -/
def rlen : Int → List ByteArray → Int × Int
  | n, [] => if n < 0 then (0, 90) else (n, 0)
  | n, x :: r => if (digits 10 x.data.toList).2 = 0 then (if n ≥ 0 then (if (digits 10 x.data.toList).1 = n then rlen (digits 10 x.data.toList).1 r else (0, 90)) else rlen (digits 10 x.data.toList).1 r) else (0, 90)
theorem digits_nonneg (b : Nat) (s : Bs) : 0 ≤ (digits b s).1 := by
  unfold digits
  split
  · simp
  · split
    · simp
    · split
      · simp
      · simp
theorem rlen_any (r : List ByteArray) : ∀ n : Int, 0 ≤ n → rlen n r = if r.any (Frm.unlikeB n) then (0, 90) else (n, 0) := by
  induction r with
  | nil => intro n hn; unfold rlen; rw [if_neg (by omega)]; rfl
  | cons x r ih =>
    intro n hn
    unfold rlen
    rw [List.any_cons]
    unfold Frm.unlikeB
    by_cases h2 : (digits 10 x.data.toList).2 = 0
    · rw [if_pos h2, if_pos (by omega : n ≥ 0)]
      by_cases h1 : (digits 10 x.data.toList).1 = n
      · rw [if_pos h1, ih _ (digits_nonneg 10 _), h1]
        simp [h2, Frm.unlikeB]
      · rw [if_neg h1]; simp [h1]
    · rw [if_neg h2]; simp [h2]
theorem rlen_lenS (L : List ByteArray) : rlen (-1) L = lenS L := by
  cases L with
  | nil => rfl
  | cons x r =>
    unfold rlen lenS
    by_cases h2 : (digits 10 x.data.toList).2 = 0
    · have e : Frm.unlikeB (digits 10 x.data.toList).1 x = false := by unfold Frm.unlikeB; simp [h2]
      rw [if_pos h2, if_neg (by omega), rlen_any r _ (digits_nonneg 10 _)]
      simp only [List.any_cons, e, Bool.false_or, h2, not_true_eq_false, decide_false]
    · rw [if_neg h2]
      simp [h2]
def lenT (minor : Int) (l : List Fld) (p : Int × Int) : Int × Int × Bool × Int := if p.2 = 0 then (2, p.1, keepS minor l, 0) else (0, 0, false, p.2)
theorem rlen_err (r : List ByteArray) : ∀ n : Int, (rlen n r).2 = 0 ∨ rlen n r = (0, 90) := by
  induction r with
  | nil => intro n; unfold rlen; split <;> simp
  | cons x r ih =>
    intro n
    unfold rlen
    split
    · split
      · split
        · exact ih _
        · exact Or.inr rfl
      · exact ih _
    · exact Or.inr rfl
def rtoldS (none minor : Int) (l : List Fld) : Int × Int × Bool × Int := if (toldS minor l).1 = 4 then (none, 0, keepS minor l && none != 4, 0) else toldS minor l
end Go.Proofs.YtmfhhhokacjgeaaDoor.Px
