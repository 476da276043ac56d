/- Package lexis, by hand: what List comes to; own text of this session. -/
import Derived.Test.YtnlicpihondmgaaDoorLex4
namespace Go.Proofs.YtnlicpihondmgaaDoor.Lex
open Go.RowKit Go.Proofs.YtnlicpihondmgaaDoorW.PrintWords Go.Proofs.Hr Go.Shelf Go.Lib
set_option linter.unusedVariables false
def mkB (l : Bs) : ByteArray := ⟨l.toArray⟩
theorem listGo_nil (part : Bs) (q : Bool) (out : List Bs) : listGo [] part q out = Hr.put part out := by unfold listGo; rfl
theorem listGo_cons (c : UInt8) (rest part : Bs) (q : Bool) (out : List Bs) : listGo (c :: rest) part q out =
    if c == 34 then listGo rest (part ++ [c]) (!q) out
    else if c == 92 && q then (match rest with | [] => Hr.put (part ++ [c]) out | d :: r => listGo r (part ++ [c, d]) q out)
    else if c == 44 && !q then listGo rest [] q (Hr.put part out)
    else listGo rest (part ++ [c]) q out := by
  cases rest with
  | cons d r => rw [listGo]
  | nil =>
    have e0 : listGo [c] part q out = (if c == 44 && !q then Hr.put [] (Hr.put part out) else Hr.put (part ++ [c]) out) := by unfold listGo; rfl
    rw [e0]
    simp only [listGo_nil]
    by_cases h1 : c = 34
    · subst h1; rfl
    · by_cases h2 : c = 92
      · subst h2; cases q <;> rfl
      · by_cases h3 : c = 44
        · subst h3; cases q <;> rfl
        · have e1 : (c == 34) = false := by simpa using h1
          have e2 : (c == 92) = false := by simpa using h2
          have e3 : (c == 44) = false := by simpa using h3
          simp only [e1, e2, e3, Bool.false_and, Bool.false_eq_true, if_false]
/-- What is still to come, at place i. -/
structure LFin (l : Bs) (R : List Bs) (i : Nat) (q : Bool) (fr : Nat) (ys : List Bs) : Prop where
  le : fr ≤ l.length
  cnt : ys.length ≤ fr
  i1 : i ≤ l.length + 1
  go : i ≤ l.length → fr ≤ i ∧ listGo (l.drop i) ((l.take i).drop fr) q ys = R
  fin : l.length ≤ i → Hr.put (l.drop fr) ys = R
theorem put_len (p : Bs) (ys : List Bs) : (Hr.put p ys).length ≤ ys.length + 1 := by unfold Hr.put; split <;> simp
theorem part_succ (l : Bs) (fr i : Nat) (h : i < l.length) (hf : fr ≤ i) : (l.take (i + 1)).drop fr = (l.take i).drop fr ++ [l[i]'h] := by
  rw [List.take_succ_eq_append_getElem h, List.drop_append_of_le_length (by simp; omega)]
theorem LFin.start (l : Bs) : LFin l (Hr.list l) 0 false 0 [] :=
  ⟨Nat.zero_le _, Nat.zero_le _, Nat.zero_le _, fun _ => ⟨Nat.zero_le _, rfl⟩, fun h => by
    have : l = [] := List.eq_nil_of_length_eq_zero (by omega)
    subst this; rfl⟩
section
variable {l : Bs} {R ys : List Bs} {i fr : Nat} {q : Bool}
theorem LFin.mk' (hle : fr ≤ l.length) (hc : ys.length ≤ fr) (hi : i ≤ l.length) (hf : fr ≤ i) (h : listGo (l.drop i) ((l.take i).drop fr) q ys = R) : LFin l R i q fr ys :=
  ⟨hle, hc, by omega, fun _ => ⟨hf, h⟩, fun h2 => by
    have e : i = l.length := by omega
    subst e
    rw [List.drop_length, listGo_nil, List.take_length] at h
    exact h⟩
theorem LFin.at (h : LFin l R i q fr ys) (hi : i < l.length) : fr ≤ i ∧ listGo (l[i]'hi :: l.drop (i + 1)) ((l.take i).drop fr) q ys = R := by
  obtain ⟨h1, h2⟩ := h.go (by omega)
  rw [List.drop_eq_getElem_cons hi] at h2
  exact ⟨h1, h2⟩
theorem LFin.quote (h : LFin l R i q fr ys) (hi : i < l.length) (hc : l[i]'hi = 34) : LFin l R (i + 1) (!q) fr ys := by
  obtain ⟨h1, h2⟩ := h.at hi
  rw [listGo_cons, hc] at h2
  refine LFin.mk' h.le h.cnt (by omega) (by omega) ?_
  rw [part_succ l fr i hi h1, hc]
  exact h2
theorem LFin.plain (h : LFin l R i q fr ys) (hi : i < l.length) (h34 : ¬ l[i]'hi = 34) (h92 : ¬ (l[i]'hi = 92 ∧ q = true)) (h44 : ¬ (l[i]'hi = 44 ∧ q = false)) : LFin l R (i + 1) q fr ys := by
  obtain ⟨h1, h2⟩ := h.at hi
  rw [listGo_cons, if_neg (by simpa using h34), if_neg (by simpa using h92), if_neg (by simpa using h44)] at h2
  refine LFin.mk' h.le h.cnt (by omega) (by omega) ?_
  rw [part_succ l fr i hi h1]
  exact h2
theorem LFin.comma (h : LFin l R i false fr ys) (hi : i < l.length) (hc : l[i]'hi = 44) : LFin l R (i + 1) false (i + 1) (Hr.put ((l.take i).drop fr) ys) := by
  obtain ⟨h1, h2⟩ := h.at hi
  rw [listGo_cons, hc] at h2
  refine LFin.mk' (by omega) (by have := put_len ((l.take i).drop fr) ys; have := h.cnt; omega) (by omega) (by omega) ?_
  have e : (l.take (i + 1)).drop (i + 1) = [] := List.drop_eq_nil_of_le (by rw [List.length_take]; omega)
  rw [e]
  exact h2
theorem LFin.skip (h : LFin l R i true fr ys) (hi : i < l.length) (hc : l[i]'hi = 92) : LFin l R (i + 2) true fr ys := by
  obtain ⟨h1, h2⟩ := h.at hi
  rw [listGo_cons, hc] at h2
  by_cases hi2 : i + 1 < l.length
  · rw [List.drop_eq_getElem_cons hi2] at h2
    refine LFin.mk' h.le h.cnt (by omega) (by omega) ?_
    rw [part_succ l fr (i + 1) hi2 (by omega), part_succ l fr i hi h1, hc, List.append_assoc]
    exact h2
  · have e : l.drop (i + 1) = [] := List.drop_eq_nil_of_le (by omega)
    rw [e] at h2
    refine ⟨h.le, h.cnt, by omega, fun h3 => by omega, fun _ => ?_⟩
    have h4 : Hr.put ((l.take i).drop fr ++ [92]) ys = R := h2
    rw [← hc, ← part_succ l fr i hi h1, List.take_of_length_le (by omega)] at h4
    exact h4
end
theorem put_mk (p : Bs) (ys : List Bs) : (let t := trim p; if t = [] then ys.map mkB else ys.map mkB ++ [(⟨t.toArray⟩ : ByteArray)]) = (Hr.put p ys).map mkB := by
  unfold Hr.put
  dsimp only
  split
  · rfl
  · rw [List.map_append]; rfl
theorem ext_part (a0 : ByteArray) (l : Bs) (hl : l = a0.data.toList) (fr i : Nat) : (a0.extract fr i).data.toList = (l.take i).drop fr := by
  subst hl
  rw [ByteArray.data_extract]
  simp [List.extract_eq_take_drop, List.drop_take]
end Go.Proofs.YtnlicpihondmgaaDoor.Lex
