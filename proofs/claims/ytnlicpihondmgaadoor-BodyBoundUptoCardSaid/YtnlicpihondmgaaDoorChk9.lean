/- Package chunked, by hand: one byte in a decoder, whatever its state; own text of this session. -/
import Derived.Test.YtnlicpihondmgaaDoorChk8
namespace Go.Proofs.YtnlicpihondmgaaDoor.Chk
open Go.RowKit Go.Proofs.YtnlicpihondmgaaDoorW.PrintWords Go.Proofs.YtnlicpihondmgaaDoorW.PrintLast
set_option linter.unusedVariables false
/-- What the walks ask of a decoder's numbers. -/
structure Fine (d : Dec) : Prop where
  left0 : 0 ≤ d.left
  left1 : d.left ≤ 9007199254740992
  need1 : d.need ≤ 9007199254740992
  need0 : d.st = 1 → 1 ≤ d.need
theorem size_calls (w0 w : World) (F : Nat → Prop) (p : Nat) (vl vo vt : Value) (d : Dec) (c : Int) (h : Rep w F p vl vo vt d) (hH : Held w0 w F) (hl : d.line.length ≤ 4294960000) (hd : Fine d) :
    Calls Tryd.prog 32 #[.pointer (some ⟨p, 0, none⟩), .int .u8 c] w (StepPost w F p (sizeS d c)) := by
  unfold sizeS
  obtain ⟨⟨l1, so, e1⟩, hr⟩ : ∃ r, r = lined d.line c := ⟨_, rfl⟩
  rw [← hr]
  cases so with
  | none => exact size_none w0 w F p vl vo vt d c h hH hl l1 e1 hr.symm
  | some s =>
    obtain ⟨⟨n, f⟩, hx⟩ : ∃ r, r = Hr.digits 16 (Lib.cut s.data.toList [59]).1 := ⟨_, rfl⟩
    have hn0 : 0 ≤ n := by have := digits_nonneg 16 (Lib.cut s.data.toList [59]).1; rw [← hx] at this; exact this
    show Calls _ _ _ _ (StepPost w F p (match sizeLine s with | none => ({ d with line := l1 }, 100) | some n => sizeN d l1 n))
    unfold sizeLine
    rw [← hx]
    by_cases hf : f = 0
    · cases hv : Px.value ([97] ++ (Lib.cut s.data.toList [59]).2.1 ++ [97]) with
      | false =>
        rw [if_neg (by simp)]
        exact size_v w0 w F p vl vo vt d c h hH hl l1 s e1 hr.symm n f hx.symm hf hv
      | true =>
        rw [if_pos ⟨hf, rfl⟩]
        show Calls _ _ _ _ (StepPost w F p (sizeN d l1 n))
        unfold sizeN
        by_cases hn : n > d.left
        · rw [if_pos hn]
          exact size_long w0 w F p vl vo vt d c h hH hl l1 s e1 hr.symm n f hx.symm hf hv (by omega)
        · rw [if_neg hn]
          by_cases hz : n = 0
          · rw [if_pos hz]
            exact size_zero w0 w F p vl vo vt d c h hH hl l1 s e1 hr.symm n f hx.symm hf hv hz hd.left0
          · rw [if_neg hz]
            exact size_go w0 w F p vl vo vt d c h hH hl l1 s e1 hr.symm n f hx.symm hf hv (by omega) (by omega) hd.left1
    · rw [if_neg (fun h5 => hf h5.1)]
      exact size_f w0 w F p vl vo vt d c h hH hl l1 s e1 hr.symm n f hx.symm hf
theorem trailer_calls (w0 w : World) (F : Nat → Prop) (p : Nat) (vl vo vt : Value) (d : Dec) (c : Int) (h : Rep w F p vl vo vt d) (hH : Held w0 w F) (hl : d.line.length ≤ 4294960000) (ht : d.tr.length ≤ 4294960000) :
    Calls Tryd.prog 47 #[.pointer (some ⟨p, 0, none⟩), .int .u8 c] w (StepPost w F p (trailerS d c)) := by
  unfold trailerS
  obtain ⟨⟨l1, so, e1⟩, hr⟩ : ∃ r, r = lined d.line c := ⟨_, rfl⟩
  rw [← hr]
  cases so with
  | none => exact trailer_none w0 w F p vl vo vt d c h hH hl l1 e1 hr.symm
  | some s =>
    show Calls _ _ _ _ (StepPost w F p (if s.size = 0 then ({ d with line := l1, whole := true }, 0) else if (Lib.cut s.data.toList [58]).2.2 = false ∨ d.tr.length = 100 ∨ ¬ fldE (trailerF s) = 0 then ({ d with line := l1 }, 100) else ({ d with line := l1, tr := d.tr ++ [trailerF s] }, 0)))
    by_cases hse : s.size = 0
    · rw [if_pos hse]
      exact trailer_end w0 w F p vl vo vt d c h hH hl l1 s e1 hr.symm hse
    · rw [if_neg hse]
      cases hok : (Lib.cut s.data.toList [58]).2.2 with
      | false =>
        rw [if_pos (.inl rfl)]
        exact trailer_nok w0 w F p vl vo vt d c h hH hl l1 s e1 hr.symm hse hok
      | true =>
        by_cases hm : d.tr.length = 100
        · rw [if_pos (.inr (.inl hm))]
          exact trailer_many w0 w F p vl vo vt d c h hH hl l1 s e1 hr.symm hse hok hm
        · by_cases hfe : fldE (trailerF s) = 0
          · rw [if_neg (fun h5 => h5.elim (fun h6 => by cases h6) (fun h6 => h6.elim hm (fun h7 => h7 hfe)))]
            exact trailer_go w0 w F p vl vo vt d c h hH hl l1 s e1 hr.symm hse hok hm ht hfe
          · rw [if_pos (.inr (.inr hfe))]
            exact trailer_bad w0 w F p vl vo vt d c h hH hl l1 s e1 hr.symm hse hok hm _ rfl hfe
/-- One byte: the decoder then, and what is wrong. -/
def stepE (d : Dec) (c : Int) : Dec × Int := match d.st with
  | 0 => sizeS d c
  | 1 => dataS d c
  | 2 => endS d c
  | _ => trailerS d c
/-- How long its rows are. -/
def Dec.mass (d : Dec) : Nat := d.line.length + d.out.length + d.tr.length
theorem step_calls (w0 w : World) (F : Nat → Prop) (p : Nat) (vl vo vt : Value) (d : Dec) (c : Int) (h : Rep w F p vl vo vt d) (hH : Held w0 w F) (hm : d.mass ≤ 4294960000) (hd : Fine d) :
    Calls Tryd.prog (stF d.st) #[.pointer (some ⟨p, 0, none⟩), .int .u8 c] w (StepPost w F p (stepE d c)) := by
  unfold Dec.mass at hm
  unfold stepE
  match hs : d.st with
  | 0 => exact size_calls w0 w F p vl vo vt d c h hH (by omega) hd
  | 1 => exact data_calls w F p vl vo vt d c h (by omega) (hd.need0 hs) hd.need1
  | 2 => exact end_calls w F p vl vo vt d c h (by omega)
  | n + 3 => exact trailer_calls w0 w F p vl vo vt d c h hH (by omega) (by omega)
theorem lined_len (l : List Int) (c : Int) : (lined l c).1.length ≤ l.length + 1 := by
  unfold lined
  repeat' split
  all_goals simp
theorem step_mass (d : Dec) (c : Int) : (stepE d c).1.mass ≤ d.mass + 1 := by
  have hl := lined_len d.line c
  unfold stepE Dec.mass
  repeat' split
  · unfold sizeS
    split
    · simp only; omega
    · split
      · simp only; omega
      · unfold sizeN
        repeat' split
        all_goals (simp only; omega)
  · unfold dataS; simp only [List.length_append, List.length_singleton]; omega
  · unfold endS
    by_cases h1 : c ≠ (if d.line.length = 1 then 10 else 13)
    · rw [if_pos h1]; simp only; omega
    · rw [if_neg h1]
      split
      · simp only [List.length_nil]; omega
      · simp only [List.length_append, List.length_singleton]; omega
  · unfold trailerS
    split
    · simp only; omega
    · rename_i s hs
      have hl0 : (lined d.line c).1 = [] := by
        obtain ⟨⟨l1, so, e1⟩, hr⟩ : ∃ r, r = lined d.line c := ⟨_, rfl⟩
        rw [← hr] at hs ⊢
        simp only at hs
        subst hs
        exact (lined_size d.line c l1 s e1 hr.symm).2
      rw [hl0]
      repeat' split
      all_goals (simp only [List.length_nil, List.length_append, List.length_singleton]; omega)
theorem step_fine (d : Dec) (c : Int) (h : Fine d) : Fine (stepE d c).1 := by
  obtain ⟨h0, h1, h2, h3⟩ := h
  unfold stepE
  match hs : d.st with
  | 0 =>
    show Fine (sizeS d c).1
    unfold sizeS
    split
    · exact ⟨h0, h1, h2, fun h => by rw [show ({ d with line := (lined d.line c).1 } : Dec).st = d.st from rfl, hs] at h; cases h⟩
    · split
      · exact ⟨h0, h1, h2, fun h => by rw [show ({ d with line := (lined d.line c).1 } : Dec).st = d.st from rfl, hs] at h; cases h⟩
      · rename_i s hs2 n hn2
        have hn0 : 0 ≤ n := by
          unfold sizeLine at hn2
          split at hn2
          · injection hn2 with hn2; rw [← hn2]; exact digits_nonneg _ _
          · cases hn2
        unfold sizeN
        split
        · exact ⟨h0, h1, h2, fun h => by rw [show ({ d with line := (lined d.line c).1 } : Dec).st = d.st from rfl, hs] at h; cases h⟩
        · split
          · exact ⟨h0, h1, h2, fun h => by cases h⟩
          · exact ⟨by show 0 ≤ d.left - n; omega, by show d.left - n ≤ _; omega, by show n ≤ _; omega, fun _ => by show 1 ≤ n; omega⟩
  | 1 =>
    have h4 := h3 hs
    refine ⟨h0, h1, by show d.need - 1 ≤ _; omega, fun h => ?_⟩
    show 1 ≤ d.need - 1
    by_cases h5 : d.need - 1 = 0
    · have : (dataS d c).1.st = 2 := by unfold dataS; simp only [if_pos h5]
      have h' : (dataS d c).1.st = 1 := h
      rw [this] at h'; cases h'
    · omega
  | 2 =>
    show Fine (endS d c).1
    unfold endS
    repeat' split
    all_goals first
      | exact ⟨h0, h1, h2, h3⟩
      | exact ⟨h0, h1, h2, fun h => by cases h⟩
  | n + 3 =>
    show Fine (trailerS d c).1
    unfold trailerS
    repeat' split
    all_goals exact ⟨h0, h1, h2, h3⟩
end Go.Proofs.YtnlicpihondmgaaDoor.Chk
