/- Plain laws of package lexis and its reference, second part (values, small letters, the law LexisTells): own text of this session. -/
import Derived.Test.YtmfhhhokacjgeaaDoorPx1
namespace Go.Proofs.YtmfhhhokacjgeaaDoor.Px
open Go.RowKit Go.Proofs.YtmfhhhokacjgeaaDoor.P Go.Proofs.YtmfhhhokacjgeaaDoorW.PrintWords Go.Proofs.YtmfhhhokacjgeaaDoorW.PrintLast Go.Proofs.Hr
set_option linter.unusedVariables false
set_option linter.unusedSimpArgs false
def valOk (c : UInt8) : Bool := !((c < 32 && c != 9) || c == 127)
def value (l : Bs) : Bool := l.all valOk && (trim l == l)
theorem beq_toList (s t : ByteArray) : (s.toList == t.toList) = (s.data.toList == t.data.toList) := by rw [tl, tl]
theorem ev_ite {α : Type} {p : Prop} [Decidable p] {f g : Nat → Option α} {r : α} (hf : p → Ev f r) (hg : ¬ p → Ev g r) : Ev (fun k => if p then f k else g k) r := by
  by_cases h : p
  · simp only [if_pos h]; exact hf h
  · simp only [if_neg h]; exact hg h
theorem valOk_nat (c : UInt8) : valOk c = decide (¬ ((c.toNat < 32 ∧ c.toNat ≠ 9) ∨ c.toNat = 127)) :=
  byte_of (fun c => valOk c = decide (¬ ((c.toNat < 32 ∧ c.toNat ≠ 9) ∨ c.toNat = 127))) (by decide +kernel) c
def headOk (m : Bs) : Bool := match m with | [] => true | c :: _ => !isBlank c
theorem dw_fix (m : Bs) : (m.dropWhile isBlank == m) = headOk m := by
  cases m with
  | nil => rfl
  | cons c r =>
    rw [List.dropWhile_cons]
    unfold headOk
    cases hc : isBlank c with
    | true =>
      simp only [if_true, hc, Bool.not_true]
      rw [beq_eq_false_iff_ne]
      intro h
      have h2 := congrArg List.length h
      have := (List.dropWhile_sublist isBlank (l := r)).length_le
      simp only [List.length_cons] at h2
      omega
    | false => simp [hc]
theorem trim_fix (l : Bs) : (trim l == l) = (headOk l && headOk l.reverse) := by
  rw [← dw_fix, ← dw_fix, trim_eq]
  rw [Bool.eq_iff_iff]
  simp only [beq_iff_eq, Bool.and_eq_true]
  have hR : ∀ m : Bs, (trimR m).length ≤ m.length := by
    intro m; unfold trimR; rw [List.length_reverse]; exact Nat.le_trans (List.dropWhile_sublist _).length_le (by simp)
  constructor
  · intro h
    have h1 : (trimL (trimR l)).length ≤ (trimR l).length := (List.dropWhile_sublist _).length_le
    rw [h] at h1
    have h2 : l.reverse.dropWhile isBlank = l.reverse := by
      refine (List.dropWhile_sublist (l := l.reverse) isBlank).eq_of_length_le ?_
      unfold trimR at h1
      rw [List.length_reverse] at h1
      rw [List.length_reverse]
      exact h1
    have h3 : trimR l = l := by unfold trimR; rw [h2, List.reverse_reverse]
    rw [h3] at h
    exact ⟨h, h2⟩
  · rintro ⟨h1, h2⟩
    have h3 : trimR l = l := by unfold trimR; rw [h2, List.reverse_reverse]
    rw [h3]; exact h1
/-! small letters -/
theorem str_nums (l : Bs) : strOfNums (l.map fun c => (c.toNat : Int)) = mkB l := by
  unfold strOfNums mkB
  rw [List.map_map]
  have : ((fun x : Int => UInt8.ofNat x.toNat) ∘ fun c : UInt8 => (c.toNat : Int)) = id := by funext c; simp
  simp [this]
theorem lLower (s : ByteArray) (hs : s.size ≤ 4611686018427387904) : lexis_Lower.f s = some (mkB (lower s.data.toList)) := by
  unfold lexis_Lower.f
  rw [if_pos hs]
  rfl
end Go.Proofs.YtmfhhhokacjgeaaDoor.Px
