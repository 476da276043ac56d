/- headraceref08.Read, plainly: byte by byte it is the parser; own text of this session. -/
import Derived.Test.YtmlgejgnjfbblaaGreatDoorHdR
namespace Go.Proofs.YtmlgejgnjfbblaaGreatDoor.Hd
open Go.RowKit Go.Proofs.YtmlgejgnjfbblaaGreatDoorW.PrintWords Go.Proofs.YtmlgejgnjfbblaaGreatDoorW.PrintLast Chk Px Hr
set_option linter.unusedVariables false
set_option linter.unusedSimpArgs false
/-- What Read hands back: the head, how many bytes were read, whether it is whole, what is wrong. -/
def outS (q : Par × Nat) (N : Nat) : Head × Int × Bool × Int :=
  if ¬ codeOf q.1.err = 0 then (head0 false, (q.2 : Int), false, codeOf q.1.err) else if q.1.whole = true then (q.1.hd, (q.2 : Int), true, 0) else (head0 false, (N : Int), false, 0)
def readS (rq : Bool) (most : Int) (b : List Int) : Head × Int × Bool × Int := outS (feedP (newPar rq most) b 0) b.length
theorem out_err {p p' : Par} {c : Int} {r : List Int} {i N : Nat} {e : Er} (hw : p.whole = false) (he : p.err = none) (h : takeS p c = (p', some e)) (h0 : ¬ codeOf (some e) = 0) :
    outS (feedP p (c :: r) i) N = (head0 false, ((i + 1 : Nat) : Int), false, codeOf (some e)) := by
  rw [feedP_next p c r i hw he, h, feedP_stop _ _ _ (.inr (.inr rfl))]
  unfold outS
  rw [if_pos h0]
theorem out_next {p p' : Par} {c : Int} {r : List Int} {i N : Nat} (hw : p.whole = false) (he : p.err = none) (h : takeS p c = (p', none)) :
    outS (feedP p (c :: r) i) N = outS (feedP { p' with err := none } r (i + 1)) N := by
  rw [feedP_next p c r i hw he, h]
/-- A line that is at hand: whether its last byte is a CR. -/
def aftS (l : List Int) : Bool := decide (0 < l.length) && (rd l ((l.length : Int) - 1) == 13)
theorem take_bare {p : Par} {c : Int} (h : ((c == 10) != aftS p.line) = true) : takeS p c = (p, some (.bare 81)) := if_pos h
theorem take_large {p : Par} {c : Int} (h : ¬ ((c == 10) != aftS p.line) = true) (hB : p.rd + 1 > p.most ∨ (aftS p.line = false ∧ (if c ≠ 10 ∧ c ≠ 13 then (p.line.length : Int) + 1 else p.line.length) > 8192)) :
    takeS p c = ({ p with rd := p.rd + 1 }, some (.bare 85)) := (if_neg h).trans (if_pos hB)
theorem take_more {p : Par} {c : Int} (h : ¬ ((c == 10) != aftS p.line) = true) (hB : ¬ (p.rd + 1 > p.most ∨ (aftS p.line = false ∧ (if c ≠ 10 ∧ c ≠ 13 then (p.line.length : Int) + 1 else p.line.length) > 8192))) (hc : c ≠ 10) :
    takeS p c = ({ p with rd := p.rd + 1, line := p.line ++ [c] }, none) := (if_neg h).trans ((if_neg hB).trans (if_pos hc))
theorem take_end {p : Par} {c : Int} (h : ¬ ((c == 10) != aftS p.line) = true) (hB : ¬ (p.rd + 1 > p.most ∨ (aftS p.line = false ∧ (if c ≠ 10 ∧ c ≠ 13 then (p.line.length : Int) + 1 else p.line.length) > 8192))) (hc : c = 10) (q : Par × Int)
    (hq : q = lineS { p with rd := p.rd + 1, line := [], lines := p.lines + 1 } (bytesS (p.line.take (p.line.length - 1)))) :
    takeS p c = (q.1, if q.2 = 0 then none else some (.at (p.lines + 1) q.2)) := by
  subst hq
  exact (if_neg h).trans ((if_neg hB).trans (if_neg (fun h => h hc)))
/-- A parser at byte i of b, whose line begins at byte o. -/
structure At (rq : Bool) (most : Int) (b : List Int) (i o : Nat) (p : Par) : Prop where
  inv : InvP rq p i
  w : p.whole = false
  e : p.err = none
  m : p.most = most
  oi : o ≤ i
  ib : i ≤ b.length
  l : p.line = (b.drop o).take (i - o)
  short : aftS p.line = false → p.line.length ≤ 8192
theorem At.new (rq : Bool) (most : Int) (b : List Int) : At rq most b 0 0 (newPar rq most) :=
  ⟨inv_new rq most, rfl, rfl, rfl, Nat.le_refl _, Nat.zero_le _, by rw [Nat.sub_zero, List.take_zero]; rfl, fun _ => Nat.zero_le _⟩
section
variable {rq : Bool} {most : Int} {b : List Int} {i o : Nat} {p : Par}
theorem At.len (h : At rq most b i o p) : p.line.length = i - o := by
  have := h.oi; have := h.ib
  rw [h.l, List.length_take, List.length_drop]
  omega
theorem At.cons (h : At rq most b i o p) (hi : i < b.length) : b.drop i = rd b (i : Int) :: b.drop (i + 1) := by
  rw [List.drop_eq_getElem_cons hi]
  congr 1
  unfold rd
  rw [Int.toNat_natCast, List.getD_eq_getElem?_getD, List.getElem?_eq_getElem hi]
  rfl
theorem At.grow (h : At rq most b i o p) (hi : i < b.length) : p.line ++ [rd b (i : Int)] = (b.drop o).take (i + 1 - o) := by
  have h1 := h.oi
  have e : i + 1 - o = (i - o) + 1 := by omega
  rw [h.l, e, List.take_add_one]
  congr 1
  rw [List.getElem?_drop, show o + (i - o) = i by omega, List.getElem?_eq_getElem hi]
  unfold rd
  rw [Int.toNat_natCast, List.getD_eq_getElem?_getD, List.getElem?_eq_getElem hi]
  rfl
theorem At.after (h : At rq most b i o p) : aftS p.line = (decide (o < i) && (rd b ((i : Int) - 1) == 13)) := by
  unfold aftS
  rw [h.len]
  have h1 := h.oi
  have h2 := h.ib
  by_cases hlt : o < i
  · rw [decide_eq_true (show 0 < i - o by omega), decide_eq_true hlt, Bool.true_and, Bool.true_and]
    congr 1
    unfold rd
    rw [h.l, List.getD_eq_getElem?_getD, List.getD_eq_getElem?_getD, List.getElem?_take, if_pos (by omega), List.getElem?_drop]
    congr 2
    omega
  · rw [decide_eq_false (show ¬ 0 < i - o by omega), decide_eq_false hlt]
    rfl
theorem At.rdi (h : At rq most b i o p) : p.rd = (i : Int) := h.inv.rd
/-- The parser's bounds are the reference's. -/
theorem At.large (h : At rq most b i o p) (c : Int) (hb : ¬ ((c == 10) != aftS p.line) = true) :
    (p.rd + 1 > p.most ∨ (aftS p.line = false ∧ (if c ≠ 10 ∧ c ≠ 13 then (p.line.length : Int) + 1 else p.line.length) > 8192)) ↔ ((i : Int) + 1 > most ∨ (¬ c = 10 ∧ ¬ c = 13 ∧ (i : Int) - (o : Int) + 1 > 8192)) := by
  have h1 := h.oi
  rw [h.m, h.rdi, h.len]
  have hs := h.short
  rw [h.len] at hs
  have hb2 : (c == 10) = aftS p.line := by
    cases hx : (c == 10) <;> cases hy : aftS p.line <;> rw [hx, hy] at hb <;> simp_all
  have e2 : ((i - o : Nat) : Int) = (i : Int) - (o : Int) := by omega
  by_cases hc : c = 10
  · have ha : aftS p.line = true := by rw [← hb2, hc]; rfl
    constructor
    · rintro (h5 | ⟨h5, _⟩)
      · exact .inl h5
      · rw [ha] at h5; cases h5
    · rintro (h5 | ⟨h5, _⟩)
      · exact .inl h5
      · exact absurd hc h5
  · have ha : aftS p.line = false := by rw [← hb2]; simpa using hc
    have hs2 := hs ha
    constructor
    · rintro (h5 | ⟨_, h5⟩)
      · exact .inl h5
      · by_cases hd : c = 13
        · rw [if_neg (fun h => h.2 hd)] at h5; omega
        · rw [if_pos ⟨hc, hd⟩] at h5; exact .inr ⟨hc, hd, by omega⟩
    · rintro (h5 | ⟨h6, h7, h5⟩)
      · exact .inl h5
      · exact .inr ⟨ha, by rw [if_pos ⟨h6, h7⟩]; omega⟩
variable {N : Nat}
theorem At.bare (h : At rq most b i o p) (hi : i < b.length) (hb : ((rd b (i : Int) == 10) != (decide (o < i) && (rd b ((i : Int) - 1) == 13))) = true) :
    outS (feedP p (b.drop i) i) N = (head0 false, ((i + 1 : Nat) : Int), false, 81) := by
  rw [h.cons hi]
  exact out_err h.w h.e (take_bare (by rw [h.after]; exact hb)) (by decide)
theorem At.over (h : At rq most b i o p) (hi : i < b.length) (hb : ¬ ((rd b (i : Int) == 10) != (decide (o < i) && (rd b ((i : Int) - 1) == 13))) = true)
    (hl : (i : Int) + 1 > most ∨ (¬ rd b (i : Int) = 10 ∧ ¬ rd b (i : Int) = 13 ∧ (i : Int) - (o : Int) + 1 > 8192)) :
    outS (feedP p (b.drop i) i) N = (head0 false, ((i + 1 : Nat) : Int), false, 85) := by
  have hb' : ¬ ((rd b (i : Int) == 10) != aftS p.line) = true := by rw [h.after]; exact hb
  rw [h.cons hi]
  exact out_err h.w h.e (take_large hb' ((h.large _ hb').2 hl)) (by decide)
theorem At.char (h : At rq most b i o p) (hi : i < b.length) (hb : ¬ ((rd b (i : Int) == 10) != (decide (o < i) && (rd b ((i : Int) - 1) == 13))) = true)
    (hl : ¬ ((i : Int) + 1 > most ∨ (¬ rd b (i : Int) = 10 ∧ ¬ rd b (i : Int) = 13 ∧ (i : Int) - (o : Int) + 1 > 8192))) (hc : ¬ rd b (i : Int) = 10) :
    ∃ q, outS (feedP p (b.drop i) i) N = outS (feedP q (b.drop (i + 1)) (i + 1)) N ∧ At rq most b (i + 1) o q ∧ q.hd = p.hd ∧ q.st = p.st ∧ q.lines = p.lines := by
  have hb' : ¬ ((rd b (i : Int) == 10) != aftS p.line) = true := by rw [h.after]; exact hb
  have ht := take_more hb' (fun h5 => hl ((h.large _ hb').1 h5)) hc
  have hinv := inv_take h.inv h.w _ ht
  refine ⟨{ p with rd := p.rd + 1, line := p.line ++ [rd b (i : Int)], err := none }, ?_, ⟨hinv, h.w, rfl, h.m, Nat.le_succ_of_le h.oi, hi, ?_, ?_⟩, rfl, rfl, rfl⟩
  · rw [h.cons hi]
    exact out_next h.w h.e ht
  · show p.line ++ [_] = _
    exact h.grow hi
  · intro ha
    show (p.line ++ [_]).length ≤ 8192
    have ha2 : aftS (p.line ++ [rd b (i : Int)]) = false := ha
    have hx : ¬ rd b (i : Int) = 13 := by
      intro hx
      unfold aftS at ha2
      rw [rd_last', hx] at ha2
      simp at ha2
    have h7 := h.len
    have h1 := h.oi
    rw [List.length_append, List.length_singleton, h7]
    by_cases h5 : (i : Int) - (o : Int) + 1 > 8192
    · exact absurd (.inr ⟨hc, hx, h5⟩) hl
    · omega
/-- The text of the line at hand. -/
def lineTx (b : List Int) (o i : Nat) : List Int := (b.drop o).take (i - 1 - o)
theorem At.endl (h : At rq most b i o p) (hi : i < b.length) (hb : ¬ ((rd b (i : Int) == 10) != (decide (o < i) && (rd b ((i : Int) - 1) == 13))) = true)
    (hl : ¬ ((i : Int) + 1 > most ∨ (¬ rd b (i : Int) = 10 ∧ ¬ rd b (i : Int) = 13 ∧ (i : Int) - (o : Int) + 1 > 8192))) (hc : rd b (i : Int) = 10) :
    o + 1 ≤ i ∧ ∃ p1 : Par, p1.hd = p.hd ∧ p1.st = p.st ∧ p1.lines = p.lines + 1 ∧ p1.whole = false ∧
      (¬ (lineS p1 (bytesS (lineTx b o i))).2 = 0 → outS (feedP p (b.drop i) i) N = (head0 false, ((i + 1 : Nat) : Int), false, (lineS p1 (bytesS (lineTx b o i))).2)) ∧
      ((lineS p1 (bytesS (lineTx b o i))).2 = 0 → (lineS p1 (bytesS (lineTx b o i))).1.whole = true → outS (feedP p (b.drop i) i) N = ((lineS p1 (bytesS (lineTx b o i))).1.hd, ((i + 1 : Nat) : Int), true, 0)) ∧
      ((lineS p1 (bytesS (lineTx b o i))).2 = 0 → (lineS p1 (bytesS (lineTx b o i))).1.whole = false → ∃ q, q.hd = (lineS p1 (bytesS (lineTx b o i))).1.hd ∧ q.st = (lineS p1 (bytesS (lineTx b o i))).1.st ∧ q.lines = p1.lines ∧ outS (feedP p (b.drop i) i) N = outS (feedP q (b.drop (i + 1)) (i + 1)) N ∧ At rq most b (i + 1) (i + 1) q) := by
  have hb' : ¬ ((rd b (i : Int) == 10) != aftS p.line) = true := by rw [h.after]; exact hb
  have hoi : o + 1 ≤ i := by
    have := h.oi
    by_cases h5 : o < i
    · exact h5
    · exfalso
      apply hb
      rw [hc, decide_eq_false h5]
      rfl
  obtain ⟨q, hq⟩ : ∃ q, q = lineS { p with rd := p.rd + 1, line := [], lines := p.lines + 1 } (bytesS (p.line.take (p.line.length - 1))) := ⟨_, rfl⟩
  have ht := take_end hb' (fun h5 => hl ((h.large _ hb').1 h5)) hc q hq
  have hlt : p.line.take (p.line.length - 1) = lineTx b o i := by
    unfold lineTx
    rw [h.len, h.l, List.take_take]
    congr 1
    omega
  rw [hlt] at hq
  refine ⟨hoi, { p with rd := p.rd + 1, line := [], lines := p.lines + 1 }, rfl, rfl, rfl, h.w, ?_, ?_, ?_⟩ <;> rw [← hq]
  · intro h0
    rw [if_neg h0] at ht
    rw [h.cons hi]
    exact out_err h.w h.e ht h0
  · intro h0 hw
    rw [if_pos h0] at ht
    rw [h.cons hi, out_next h.w h.e ht, feedP_stop { q.1 with err := none } (b.drop (i + 1)) (i + 1) (.inr (.inl hw))]
    unfold outS
    rw [if_neg (by show ¬ ¬ (0 : Int) = 0; exact fun h => h rfl), if_pos hw]
  · intro h0 hw
    rw [if_pos h0] at ht
    have hinv := inv_take h.inv h.w _ ht
    have hkeep : q.1.rd = p.rd + 1 ∧ q.1.line = [] ∧ q.1.lines = p.lines + 1 ∧ q.1.most = p.most := by
      obtain ⟨k1, k2, k3, k4, _⟩ := lineS_keeps { p with rd := p.rd + 1, line := [], lines := p.lines + 1 } (bytesS (lineTx b o i))
      rw [← hq] at k1 k2 k3 k4
      exact ⟨k2, k4, k1, k3⟩
    refine ⟨{ q.1 with err := none }, rfl, rfl, hkeep.2.2.1, ?_, ⟨hinv, hw, rfl, hkeep.2.2.2.trans h.m, Nat.le_refl _, hi, ?_, ?_⟩⟩
    · rw [h.cons hi]
      exact out_next h.w h.e ht
    · show q.1.line = _
      rw [hkeep.2.1, Nat.sub_self, List.take_zero]
    · intro _
      show q.1.line.length ≤ _
      rw [hkeep.2.1]
      exact Nat.zero_le _
theorem At.whole (h : At rq most b i o p) (hi : i = b.length) : outS (feedP p (b.drop i) i) N = (head0 false, (N : Int), false, 0) := by
  rw [hi, List.drop_length]
  unfold feedP outS
  rw [h.e, h.w]
  rfl
end
end Go.Proofs.YtmlgejgnjfbblaaGreatDoor.Hd
