/- Numbers: the laws LexisNumbers and LexisBack: own text of this session. -/
import Derived.Test.YtmfhhhokacjgeaaDoorPx3
namespace Go.Proofs.YtmfhhhokacjgeaaDoor.Px
open Go.RowKit Go.Proofs.YtmfhhhokacjgeaaDoor.P Go.Proofs.YtmfhhhokacjgeaaDoorW.PrintWords Go.Proofs.YtmfhhhokacjgeaaDoorW.PrintLast Go.Proofs.Hr
set_option linter.unusedVariables false
set_option linter.unusedSimpArgs false
/-! digits: what was read goes on -/
def dStep (base : Nat) (c : UInt8) (n : Nat) (b : Bool) : Option (Nat × Bool) := match digitOf base c with
  | none => none
  | some d => if b then some (n, b) else some (n * base + d, decide (9007199254740992 < n * base + d))
theorem digitsGo_cons (base : Nat) (c : UInt8) (r : Bs) (n : Nat) (b : Bool) : digitsGo base (c :: r) n b = (dStep base c n b).bind fun p => digitsGo base r p.1 p.2 := by
  unfold dStep
  rw [digitsGo]
  cases digitOf base c with
  | none => rfl
  | some d => cases b <;> rfl
theorem digitsGo_append (base : Nat) (l m : Bs) : ∀ (n : Nat) (b : Bool), digitsGo base (l ++ m) n b = (digitsGo base l n b).bind fun p => digitsGo base m p.1 p.2 := by
  induction l with
  | nil => intro n b; rfl
  | cons c r ih =>
    intro n b
    rw [List.cons_append, digitsGo_cons, digitsGo_cons]
    cases dStep base c n b with
    | none => rfl
    | some p => exact ih p.1 p.2
theorem digitsGo_one (base : Nat) (c : UInt8) (d n : Nat) (hd : digitOf base c = some d) (hs : n * base + d ≤ 9007199254740992) : digitsGo base [c] n false = some (n * base + d, false) := by
  rw [digitsGo_cons]
  unfold dStep
  rw [hd]
  simp only [Bool.false_eq_true, if_false, Option.bind_some, digitsGo]
  rw [show decide (9007199254740992 < n * base + d) = false from decide_eq_false (by omega)]
theorem hexDigit_says : ∀ d : Fin 16, digitOf 16 (Hr.hexDigit d.val) = some d.val := by decide +kernel
theorem decDigit_says : ∀ d : Fin 10, digitOf 10 (UInt8.ofNat (48 + d.val)) = some d.val := by decide +kernel
theorem hexGo_acc (k : Nat) : ∀ (n : Nat) (acc : Bs), hexGo k n acc = hexGo k n [] ++ acc := by
  induction k with
  | zero => intro n acc; rfl
  | succ k ih =>
    intro n acc
    unfold hexGo
    split
    · rfl
    · rw [ih _ (Hr.hexDigit (n % 16) :: acc), ih _ [Hr.hexDigit (n % 16)], List.append_assoc]; rfl
theorem digits_hexGo (k : Nat) : ∀ n : Nat, n < 16 ^ k → 0 < k → n ≤ 9007199254740992 → digitsGo 16 (hexGo k n []) 0 false = some (n, false) := by
  induction k with
  | zero => intro n h h0; omega
  | succ k ih =>
    intro n h _ hm
    unfold hexGo
    split
    · rename_i h16
      have := digitsGo_one 16 (Hr.hexDigit n) n 0 (hexDigit_says ⟨n, h16⟩) (by omega)
      simpa using this
    · rename_i h16
      rw [Nat.pow_succ] at h
      have hk : 0 < k := by
        rcases Nat.eq_zero_or_pos k with hk | hk
        · subst hk; simp at h; omega
        · exact hk
      rw [hexGo_acc, digitsGo_append, ih (n / 16) (by omega) hk (by omega)]
      simp only [Option.bind_some]
      rw [digitsGo_one 16 _ (n % 16) (n / 16) (hexDigit_says ⟨n % 16, Nat.mod_lt _ (by decide)⟩) (by omega)]
      rw [show n / 16 * 16 + n % 16 = n by omega]
theorem hexGo_ne (k n : Nat) (h : 0 < k) (acc : Bs) : hexGo k n acc ≠ [] := by
  rw [hexGo_acc]
  cases k with
  | zero => omega
  | succ k =>
    unfold hexGo
    split
    · simp
    · rw [hexGo_acc]; simp
theorem digits_hex (n : Nat) (hm : n ≤ 9007199254740992) : digits 16 (hex n) = ((n : Int), 0) := by
  unfold digits hex
  rw [digits_hexGo 17 n (Nat.lt_of_le_of_lt hm (by decide)) (by decide) hm]
  simp only [if_neg (hexGo_ne 17 n (by decide) []), Bool.false_eq_true, if_false]
theorem decDigits_says (n : Nat) : n ≤ 9007199254740992 → digitsGo 10 (Lib.decDigits n) 0 false = some (n, false) := by
  induction n using Nat.strongRecOn with
  | ind n ih =>
    intro hm
    unfold Lib.decDigits
    split
    · rename_i h
      have := digitsGo_one 10 (UInt8.ofNat (48 + n)) n 0 (decDigit_says ⟨n, h⟩) (by omega)
      simpa using this
    · rw [digitsGo_append, ih (n / 10) (by omega) (by omega)]
      simp only [Option.bind_some]
      rw [digitsGo_one 10 _ (n % 10) (n / 10) (decDigit_says ⟨n % 10, Nat.mod_lt _ (by decide)⟩) (by omega)]
      rw [show n / 10 * 10 + n % 10 = n by omega]
theorem decDigits_ne (n : Nat) : Lib.decDigits n ≠ [] := by
  unfold Lib.decDigits
  split <;> simp
theorem decDigits_length (k : Nat) : ∀ n : Nat, n < 10 ^ k → 0 < k → (Lib.decDigits n).length ≤ k := by
  induction k with
  | zero => intro n h h0; omega
  | succ k ih =>
    intro n h _
    unfold Lib.decDigits
    split
    · simp
    · rename_i h10
      rw [Nat.pow_succ] at h
      have hk : 0 < k := by
        rcases Nat.eq_zero_or_pos k with hk | hk
        · subst hk; simp at h; omega
        · exact hk
      rw [List.length_append]
      have := ih (n / 10) (by omega) hk
      simp only [List.length_singleton]
      omega
theorem digits_itoa (n : Nat) (hm : n ≤ 9007199254740992) : digits 10 (Lib.itoa (n : Int)) = ((n : Int), 0) := by
  unfold digits Lib.itoa
  rw [if_neg (by omega), Int.toNat_natCast, decDigits_says n hm]
  simp only [if_neg (decDigits_ne n), Bool.false_eq_true, if_false]
theorem hexGo_length (k : Nat) : ∀ (n : Nat) (acc : Bs), (hexGo k n acc).length ≤ k + acc.length := by
  induction k with
  | zero => intro n acc; simp [hexGo]
  | succ k ih =>
    intro n acc
    unfold hexGo
    split
    · simp; omega
    · have := ih (n / 16) (Hr.hexDigit (n % 16) :: acc); simp only [List.length_cons] at this; omega
end Go.Proofs.YtmfhhhokacjgeaaDoor.Px
