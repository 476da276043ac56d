/- A decoder, plainly: bytes that come in two pieces; own text of this session. -/
import Derived.Test.YtnlicpihondmgaaDoorChkF
namespace Go.Proofs.YtnlicpihondmgaaDoor.Chk
open Go.RowKit Go.Proofs.YtnlicpihondmgaaDoorW.PrintWords Go.Proofs.YtnlicpihondmgaaDoorW.PrintLast
set_option linter.unusedVariables false
set_option linter.unusedSimpArgs false
theorem feed_go (d : Dec) (c : Int) (r : List Int) (n : Nat) (h : ¬ (d.whole = true ∨ ¬ d.wrong = 0)) : feedGo d (c :: r) n = feedGo { (stepE d c).1 with wrong := (stepE d c).2 } r (n + 1) := by
  show (if d.whole = true ∨ ¬ d.wrong = 0 then (d, n) else _) = _
  rw [if_neg h]
theorem feed_append (a b : List Int) : ∀ (d : Dec) (n : Nat), feedGo d (a ++ b) n = if (feedGo d a n).2 = n + a.length then feedGo (feedGo d a n).1 b (n + a.length) else feedGo d a n := by
  induction a with
  | nil => intro d n; rw [List.nil_append]; show _ = if n = n + 0 then feedGo d b (n + 0) else (d, n); rw [Nat.add_zero, if_pos rfl]
  | cons c r ih =>
    intro d n
    rw [List.cons_append]
    by_cases h : d.whole = true ∨ ¬ d.wrong = 0
    · rw [feed_stop d (c :: (r ++ b)) n (.inr h), feed_stop d (c :: r) n (.inr h), if_neg (by simp only [List.length_cons]; omega)]
    · rw [feed_go _ _ _ _ h, feed_go _ _ _ _ h, ih, List.length_cons, show n + 1 + r.length = n + (r.length + 1) from by omega]
/-- Of bytes that are read whole, a beginning leaves the decoder neither whole nor wrong. -/
theorem feed_cut (d D : Dec) (a b : List Int) (hb : b ≠ []) (h : feedGo d (a ++ b) 0 = (D, (a ++ b).length)) :
    ∃ d1, feedGo d a 0 = (d1, a.length) ∧ d1.whole = false ∧ d1.wrong = 0 ∧ feedGo d1 b a.length = (D, (a ++ b).length) := by
  have hlen := List.length_pos_iff.2 hb
  have hl := feed_len a d 0
  rw [feed_append] at h
  have e : (feedGo d a 0).2 = 0 + a.length := by
    by_cases e : (feedGo d a 0).2 = 0 + a.length
    · exact e
    · rw [if_neg e] at h
      rw [h] at hl
      simp only [List.length_append] at hl
      omega
  rw [if_pos e, Nat.zero_add] at h
  rw [Nat.zero_add] at e
  refine ⟨(feedGo d a 0).1, by rw [← e], ?_, ?_, h⟩
  · cases hw : (feedGo d a 0).1.whole with
    | false => rfl
    | true =>
      rw [feed_stop _ _ _ (.inr (.inl hw))] at h
      have := congrArg Prod.snd h
      simp only [List.length_append] at this
      omega
  · by_cases hw : (feedGo d a 0).1.wrong = 0
    · exact hw
    · rw [feed_stop _ _ _ (.inr (.inr hw))] at h
      have := congrArg Prod.snd h
      simp only [List.length_append] at this
      omega
/-- Bytes that were read before change nothing. -/
def Dec.pre (p : List Int) (d : Dec) : Dec := { d with out := p ++ d.out }
theorem step_pre (p : List Int) (d : Dec) (c : Int) : stepE (d.pre p) c = ((stepE d c).1.pre p, (stepE d c).2) := by
  unfold stepE
  have hst : (d.pre p).st = d.st := rfl
  rw [hst]
  match d.st with
  | 0 =>
    show sizeS (d.pre p) c = ((sizeS d c).1.pre p, (sizeS d c).2)
    unfold sizeS
    have hl : (d.pre p).line = d.line := rfl
    rw [hl]
    cases (lined d.line c).2.1 with
    | none => rfl
    | some s =>
      cases hs : sizeLine s with
      | none => simp only [hs]; rfl
      | some n =>
        simp only [hs]
        unfold sizeN
        have hle : (d.pre p).left = d.left := rfl
        rw [hle]
        by_cases h1 : n > d.left
        · rw [if_pos h1, if_pos h1]; rfl
        · rw [if_neg h1, if_neg h1]
          by_cases h2 : n = 0
          · rw [if_pos h2, if_pos h2]; rfl
          · rw [if_neg h2, if_neg h2]; rfl
  | 1 =>
    show dataS (d.pre p) c = ((dataS d c).1.pre p, (dataS d c).2)
    unfold dataS Dec.pre
    simp only [List.append_assoc]
  | 2 =>
    show endS (d.pre p) c = ((endS d c).1.pre p, (endS d c).2)
    unfold endS
    have hl : (d.pre p).line = d.line := rfl
    rw [hl]
    by_cases h1 : c ≠ (if d.line.length = 1 then 10 else 13)
    · rw [if_pos h1, if_pos h1]
    · rw [if_neg h1, if_neg h1]
      by_cases h2 : c = 10
      · rw [if_pos h2, if_pos h2]; rfl
      · rw [if_neg h2, if_neg h2]; rfl
  | n + 3 =>
    show trailerS (d.pre p) c = ((trailerS d c).1.pre p, (trailerS d c).2)
    unfold trailerS
    have hl : (d.pre p).line = d.line := rfl
    have ht : (d.pre p).tr = d.tr := rfl
    rw [hl, ht]
    cases (lined d.line c).2.1 with
    | none => rfl
    | some s =>
      simp only
      by_cases h1 : s.size = 0
      · rw [if_pos h1, if_pos h1]; rfl
      · rw [if_neg h1, if_neg h1]
        by_cases h2 : (Lib.cut s.data.toList [58]).2.2 = false ∨ d.tr.length = 100 ∨ ¬ fldE (trailerF s) = 0
        · rw [if_pos h2, if_pos h2]; rfl
        · rw [if_neg h2, if_neg h2]; rfl
theorem feed_pre (p : List Int) (b : List Int) : ∀ (d : Dec) (n : Nat), feedGo (d.pre p) b n = ((feedGo d b n).1.pre p, (feedGo d b n).2) := by
  induction b with
  | nil => intro d n; rfl
  | cons c r ih =>
    intro d n
    by_cases h : d.whole = true ∨ ¬ d.wrong = 0
    · rw [feed_stop d (c :: r) n (.inr h), feed_stop (d.pre p) (c :: r) n (.inr h)]
    · rw [feed_go d c r n h, feed_go (d.pre p) c r n h, ← ih]
      congr 1
      rw [step_pre]
      rfl
theorem feed_shift (b : List Int) : ∀ (d : Dec) (n k : Nat), feedGo d b (n + k) = ((feedGo d b n).1, (feedGo d b n).2 + k) := by
  induction b with
  | nil => intro d n k; rfl
  | cons c r ih =>
    intro d n k
    by_cases h : d.whole = true ∨ ¬ d.wrong = 0
    · rw [feed_stop d (c :: r) _ (.inr h), feed_stop d (c :: r) _ (.inr h)]
    · rw [feed_go d c r _ h, feed_go d c r _ h, show n + k + 1 = n + 1 + k from by omega, ih]
/-- Bytes that are read whole, in two pieces. -/
theorem feed_two (d D : Dec) (a b : List Int) (hb : b ≠ []) (h : feedGo d (a ++ b) 0 = (D, (a ++ b).length)) :
    ∃ d1 d2, feedGo d a 0 = (d1, a.length) ∧ d1.whole = false ∧ d1.wrong = 0 ∧ feedGo { d1 with out := [] } b 0 = (d2, b.length) ∧ d2.whole = D.whole ∧ d2.wrong = D.wrong ∧ d1.out ++ d2.out = D.out ∧ d2.tr = D.tr := by
  obtain ⟨d1, h1, h2, h3, h4⟩ := feed_cut d D a b hb h
  have e : d1 = ({ d1 with out := [] } : Dec).pre d1.out := by unfold Dec.pre; simp
  have h5 := feed_pre d1.out b { d1 with out := [] } a.length
  rw [← e, h4] at h5
  have h6 := feed_shift b { d1 with out := [] } 0 a.length
  rw [Nat.zero_add] at h6
  rw [h6] at h5
  simp only [Prod.mk.injEq, List.length_append] at h5
  obtain ⟨h7, h8⟩ := h5
  refine ⟨d1, (feedGo { d1 with out := [] } b 0).1, h1, h2, h3, ?_, ?_, ?_, ?_, ?_⟩
  · rw [show b.length = (feedGo { d1 with out := [] } b 0).2 from by omega]
  · rw [h7]; rfl
  · rw [h7]; rfl
  · rw [h7]; rfl
  · rw [h7]; rfl
end Go.Proofs.YtnlicpihondmgaaDoor.Chk
