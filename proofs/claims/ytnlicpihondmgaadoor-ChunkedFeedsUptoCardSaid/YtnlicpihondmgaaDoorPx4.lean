/- Numbers: the laws LexisNumbers and LexisBack: own text of this session. -/
import Derived.Test.YtnlicpihondmgaaDoorPx3
namespace Go.Proofs.YtnlicpihondmgaaDoor.Px
open Go.RowKit Go.Proofs.YtnlicpihondmgaaDoor.P Go.Proofs.YtnlicpihondmgaaDoorW.PrintWords Go.Proofs.YtnlicpihondmgaaDoorW.PrintLast Go.Proofs.Hr
set_option linter.unusedVariables false
set_option linter.unusedSimpArgs false
/-! digits: what was read goes on -/
def dStep (base : Nat) (c : UInt8) (n : Nat) (b : Bool) : Option (Nat × Bool) := match digitOf base c with
  | none => none
  | some d => if b then some (n, b) else some (n * base + d, decide (9007199254740992 < n * base + d))
theorem digitsGo_cons (base : Nat) (c : UInt8) (r : Bs) (n : Nat) (b : Bool) : digitsGo base (c :: r) n b = (dStep base c n b).bind fun p => digitsGo base r p.1 p.2 := by
  unfold dStep
  rw [digitsGo]
  cases digitOf base c with
  | none => rfl
  | some d => cases b <;> rfl
theorem digitsGo_append (base : Nat) (l m : Bs) : ∀ (n : Nat) (b : Bool), digitsGo base (l ++ m) n b = (digitsGo base l n b).bind fun p => digitsGo base m p.1 p.2 := by
  induction l with
  | nil => intro n b; rfl
  | cons c r ih =>
    intro n b
    rw [List.cons_append, digitsGo_cons, digitsGo_cons]
    cases dStep base c n b with
    | none => rfl
    | some p => exact ih p.1 p.2
theorem digitsGo_one (base : Nat) (c : UInt8) (d n : Nat) (hd : digitOf base c = some d) (hs : n * base + d ≤ 9007199254740992) : digitsGo base [c] n false = some (n * base + d, false) := by
  rw [digitsGo_cons]
  unfold dStep
  rw [hd]
  simp only [Bool.false_eq_true, if_false, Option.bind_some, digitsGo]
  rw [show decide (9007199254740992 < n * base + d) = false from decide_eq_false (by omega)]
theorem hexDigit_says : ∀ d : Fin 16, digitOf 16 (Hr.hexDigit d.val) = some d.val := by decide +kernel
theorem decDigit_says : ∀ d : Fin 10, digitOf 10 (UInt8.ofNat (48 + d.val)) = some d.val := by decide +kernel
theorem hexGo_acc (k : Nat) : ∀ (n : Nat) (acc : Bs), hexGo k n acc = hexGo k n [] ++ acc := by
  induction k with
  | zero => intro n acc; rfl
  | succ k ih =>
    intro n acc
    unfold hexGo
    split
    · rfl
    · rw [ih _ (Hr.hexDigit (n % 16) :: acc), ih _ [Hr.hexDigit (n % 16)], List.append_assoc]; rfl
theorem digits_hexGo (k : Nat) : ∀ n : Nat, n < 16 ^ k → 0 < k → n ≤ 9007199254740992 → digitsGo 16 (hexGo k n []) 0 false = some (n, false) := by
  induction k with
  | zero => intro n h h0; omega
  | succ k ih =>
    intro n h _ hm
    unfold hexGo
    split
    · rename_i h16
      have := digitsGo_one 16 (Hr.hexDigit n) n 0 (hexDigit_says ⟨n, h16⟩) (by omega)
      simpa using this
    · rename_i h16
      rw [Nat.pow_succ] at h
      have hk : 0 < k := by
        rcases Nat.eq_zero_or_pos k with hk | hk
        · subst hk; simp at h; omega
        · exact hk
      rw [hexGo_acc, digitsGo_append, ih (n / 16) (by omega) hk (by omega)]
      simp only [Option.bind_some]
      rw [digitsGo_one 16 _ (n % 16) (n / 16) (hexDigit_says ⟨n % 16, Nat.mod_lt _ (by decide)⟩) (by omega)]
      rw [show n / 16 * 16 + n % 16 = n by omega]
theorem hexGo_ne (k n : Nat) (h : 0 < k) (acc : Bs) : hexGo k n acc ≠ [] := by
  rw [hexGo_acc]
  cases k with
  | zero => omega
  | succ k =>
    unfold hexGo
    split
    · simp
    · rw [hexGo_acc]; simp
theorem digits_hex (n : Nat) (hm : n ≤ 9007199254740992) : digits 16 (hex n) = ((n : Int), 0) := by
  unfold digits hex
  rw [digits_hexGo 17 n (Nat.lt_of_le_of_lt hm (by decide)) (by decide) hm]
  simp only [if_neg (hexGo_ne 17 n (by decide) []), Bool.false_eq_true, if_false]
theorem decDigits_says (n : Nat) : n ≤ 9007199254740992 → digitsGo 10 (Lib.decDigits n) 0 false = some (n, false) := by
  induction n using Nat.strongRecOn with
  | ind n ih =>
    intro hm
    unfold Lib.decDigits
    split
    · rename_i h
      have := digitsGo_one 10 (UInt8.ofNat (48 + n)) n 0 (decDigit_says ⟨n, h⟩) (by omega)
      simpa using this
    · rw [digitsGo_append, ih (n / 10) (by omega) (by omega)]
      simp only [Option.bind_some]
      rw [digitsGo_one 10 _ (n % 10) (n / 10) (decDigit_says ⟨n % 10, Nat.mod_lt _ (by decide)⟩) (by omega)]
      rw [show n / 10 * 10 + n % 10 = n by omega]
theorem decDigits_ne (n : Nat) : Lib.decDigits n ≠ [] := by
  unfold Lib.decDigits
  split <;> simp
theorem decDigits_length (k : Nat) : ∀ n : Nat, n < 10 ^ k → 0 < k → (Lib.decDigits n).length ≤ k := by
  induction k with
  | zero => intro n h h0; omega
  | succ k ih =>
    intro n h _
    unfold Lib.decDigits
    split
    · simp
    · rename_i h10
      rw [Nat.pow_succ] at h
      have hk : 0 < k := by
        rcases Nat.eq_zero_or_pos k with hk | hk
        · subst hk; simp at h; omega
        · exact hk
      rw [List.length_append]
      have := ih (n / 10) (by omega) hk
      simp only [List.length_singleton]
      omega
theorem digits_itoa (n : Nat) (hm : n ≤ 9007199254740992) : digits 10 (Lib.itoa (n : Int)) = ((n : Int), 0) := by
  unfold digits Lib.itoa
  rw [if_neg (by omega), Int.toNat_natCast, decDigits_says n hm]
  simp only [if_neg (decDigits_ne n), Bool.false_eq_true, if_false]
theorem hexGo_length (k : Nat) : ∀ (n : Nat) (acc : Bs), (hexGo k n acc).length ≤ k + acc.length := by
  induction k with
  | zero => intro n acc; simp [hexGo]
  | succ k ih =>
    intro n acc
    unfold hexGo
    split
    · simp; omega
    · have := ih (n / 16) (Hr.hexDigit (n % 16) :: acc); simp only [List.length_cons] at this; omega
theorem lDigits (s : ByteArray) (hs : s.size ≤ 281474976710656) (base : Int) (hb : base = 10 ∨ base = 16) : lexis_digits.f s base = some (digits base.toNat s.data.toList) := by
  unfold lexis_digits.f
  rw [if_pos ⟨hs, hb⟩]
theorem lHex (s : ByteArray) (hs : s.size ≤ 281474976710656) : lexis_Hex.f s = some (digits 16 s.data.toList) := by
  unfold lexis_Hex.f
  rw [lDigits s hs 16 (Or.inr rfl)]; rfl
theorem lHexText (n : Int) : lexis_HexText.f n = some (if n < 0 ∨ 9007199254740992 < n then ((⟨#[]⟩ : ByteArray), 1) else (mkB (hex n.toNat), 0)) := by
  unfold lexis_HexText.f
  by_cases h0 : n < 0
  · rw [if_pos h0, if_pos (Or.inl h0)]
  · rw [if_neg h0]
    by_cases h1 : 9007199254740992 < n
    · rw [if_pos h1, if_pos (Or.inr h1)]
    · rw [if_neg h1, if_neg (by omega)]
      unfold strconv_FormatInt.f
      rw [if_pos (show 0 ≤ n ∧ n ≤ 9007199254740992 ∧ (16 : Int) = 16 from ⟨by omega, by omega, rfl⟩)]
      rfl
def dInt (base : Nat) (c : UInt8) : Int := match digitOf base c with | none => -1 | some d => (d : Int)
theorem rdigit10_at : ∀ n : Fin 256, headraceref05_digit.f 4 ((UInt8.ofNat n.val).toNat : Int) 10 = some (dInt 10 (UInt8.ofNat n.val)) := by decide +kernel
theorem rdigit16_at : ∀ n : Fin 256, headraceref05_digit.f 4 ((UInt8.ofNat n.val).toNat : Int) 16 = some (dInt 16 (UInt8.ofNat n.val)) := by decide +kernel
theorem ev_rdigit (base : Nat) (hb : base = 10 ∨ base = 16) (c : UInt8) : Ev (fun k => headraceref05_digit.f k (c.toNat : Int) (base : Int)) (dInt base c) := by
  rcases hb with rfl | rfl
  · exact Ev.of (headraceref05_digit.mono _ _) (byte_of (fun c => headraceref05_digit.f 4 (c.toNat : Int) 10 = some (dInt 10 c)) rdigit10_at c)
  · exact Ev.of (headraceref05_digit.mono _ _) (byte_of (fun c => headraceref05_digit.f 4 (c.toNat : Int) 16 = some (dInt 16 c)) rdigit16_at c)
def tellGo : Option (Nat × Bool) → Int × Int
  | none => (0, 50)
  | some (n, big) => if big then (0, 51) else ((n : Int), 0)
theorem digitOf_lt (base : Nat) (c : UInt8) (d : Nat) (h : digitOf base c = some d) : d < base := by
  unfold digitOf at h
  split at h
  · split at h
    · injection h with h; omega
    · cases h
  · split at h
    · split at h
      · injection h with h; omega
      · cases h
    · split at h
      · split at h
        · injection h with h; omega
        · cases h
      · cases h
theorem ev_rDigits_l0 (base : Nat) (hb : base = 10 ∨ base = 16) (s : ByteArray) (hs : s.size ≤ 4611686018427387904) (rest : Bs) : ∀ i n : Nat, n ≤ 9007199254740992 * 16 + 15 → s.data.toList.drop i = rest → Ev (fun k => headraceref05_Digits.l0 k s (base : Int) (n : Int) (i : Int)) (tellGo (digitsGo base rest n (decide (9007199254740992 < n)))) := by
  have hb2 : base ≤ 16 := by omega
  induction rest with
  | nil =>
    intro i n hn h
    have h1 := drop_nil h
    rw [← sz] at h1
    refine Ev.step (fun k => rfl) ?_
    simp only [headraceref05_Digits.l0, if_neg (show ¬ ((i : Int) < (s.size : Int)) by omega), digitsGo, tellGo]
    by_cases hm : 9007199254740992 < n
    · simp only [if_pos (show (n : Int) > 9007199254740992 by omega), decide_eq_true hm, if_true]
      exact Ev.now _
    · simp only [if_neg (show ¬ (n : Int) > 9007199254740992 by omega), decide_eq_false hm, Bool.false_eq_true, if_false]
      exact Ev.now _
  | cons c r ih =>
    intro i n hn h
    have h1 := drop_lt h
    rw [← sz] at h1
    have hw := w64 (i := i) (by omega)
    refine Ev.step (fun k => rfl) ?_
    simp only [headraceref05_Digits.l0, if_pos (show (i : Int) < (s.size : Int) by omega), if_pos (show 0 ≤ (i : Int) by omega), bt_nat h, hw]
    refine Ev.bind (ev_rdigit base hb c) ?_
    rw [digitsGo_cons]
    unfold dStep dInt
    cases hd : digitOf base c with
    | none =>
      simp only [if_pos (show (-1 : Int) < 0 by decide), Option.bind_none, tellGo]
      exact Ev.now _
    | some d =>
      have hdl := digitOf_lt base c d hd
      simp only [if_neg (show ¬ (d : Int) < 0 by omega)]
      by_cases hm : 9007199254740992 < n
      · simp only [if_neg (show ¬ (n : Int) ≤ 9007199254740992 by omega), decide_eq_true hm, if_true, Option.bind_some]
        have := ih (i + 1) n hn (drop_succ h)
        rwa [decide_eq_true hm] at this
      · simp only [if_pos (show (n : Int) ≤ 9007199254740992 by omega), decide_eq_false hm, Bool.false_eq_true, if_false, Option.bind_some]
        have hmul : n * base ≤ 9007199254740992 * 16 := Nat.mul_le_mul (by omega) hb2
        have e1 : wrap64 ((n : Int) * (base : Int)) = ((n * base : Nat) : Int) := by
          rw [← Int.natCast_mul]; unfold wrap64; omega
        have e2 : wrap64 (((n * base : Nat) : Int) + (d : Int)) = ((n * base + d : Nat) : Int) := by unfold wrap64; omega
        rw [e1, e2]
        exact ih (i + 1) (n * base + d) (by omega) (drop_succ h)
theorem ev_rDigits (base : Nat) (hb : base = 10 ∨ base = 16) (s : ByteArray) (hs : s.size ≤ 4611686018427387904) : Ev (fun k => headraceref05_Digits.f k s (base : Int)) (digits base s.data.toList) := by
  unfold headraceref05_Digits.f
  have hsz := sz s
  cases hl : s.data.toList with
  | nil =>
    rw [hl] at hsz
    have h0 : s.size = 0 := hsz
    simp only [if_pos (show (s.size : Int) = 0 by omega)]
    exact Ev.now _
  | cons c r =>
    rw [hl] at hsz
    simp only [List.length_cons] at hsz
    simp only [if_neg (show ¬ (s.size : Int) = 0 by omega)]
    have h := ev_rDigits_l0 base hb s hs (c :: r) 0 0 (by omega) (by rw [hl]; rfl)
    unfold digits
    unfold tellGo at h
    simp only [show decide (9007199254740992 < 0) = false from rfl] at h
    revert h
    cases digitsGo base (c :: r) 0 false with
    | none => exact fun h => h
    | some p =>
      intro h
      simp only [if_neg (show ¬ (c :: r) = [] by simp)]
      exact h
theorem hexCut : ∀ d : Fin 16, (⟨#[48, 49, 50, 51, 52, 53, 54, 55, 56, 57, 97, 98, 99, 100, 101, 102]⟩ : ByteArray).extract d.val (d.val + 1) = mkB [Hr.hexDigit d.val] := by
  intro d
  rw [show (⟨#[48, 49, 50, 51, 52, 53, 54, 55, 56, 57, 97, 98, 99, 100, 101, 102]⟩ : ByteArray) = mkB [48, 49, 50, 51, 52, 53, 54, 55, 56, 57, 97, 98, 99, 100, 101, 102] from rfl, mkB_extract]
  congr 1
  revert d
  decide +kernel
theorem ev_rHex_l0 (k : Nat) : ∀ (m : Nat) (acc : Bs), 1 ≤ m → m < 16 ^ k → k ≤ 17 → m ≤ 9007199254740992 → acc.length + k ≤ 20 → Ev (fun q => headraceref05_HexText.l0 q (mkB acc) (m : Int)) (mkB (hexGo k m acc), 0) := by
  induction k with
  | zero => intro m acc h1 h; simp at h; omega
  | succ k ih =>
    intro m acc h1 h hk hm hl
    have t1 : Int.tmod (m : Int) 16 = ((m % 16 : Nat) : Int) := by rw [Int.tmod_eq_emod_of_nonneg (by omega)]; omega
    have t2 : Int.tdiv (m : Int) 16 = ((m / 16 : Nat) : Int) := by rw [Int.tdiv_eq_ediv_of_nonneg (by omega)]; omega
    have hr : m % 16 < 16 := Nat.mod_lt _ (by decide)
    have w1 : wrap64 (((m % 16 : Nat) : Int) + 1) = ((m % 16 + 1 : Nat) : Int) := by unfold wrap64; omega
    have w2 : wrap64 ((m / 16 : Nat) : Int) = ((m / 16 : Nat) : Int) := by unfold wrap64; omega
    refine Ev.step (fun q => rfl) ?_
    simp only [headraceref05_HexText.l0, if_pos (show (m : Int) > 0 by omega), t1, t2, w1, w2, Int.toNat_natCast, hexCut ⟨m % 16, hr⟩, if_pos (show 0 ≤ ((m % 16 : Nat) : Int) by omega), if_pos (show ((m % 16 : Nat) : Int) ≤ ((m % 16 + 1 : Nat) : Int) by omega), if_pos (show ((m % 16 + 1 : Nat) : Int) ≤ 16 by omega), mkB_append, List.singleton_append]
    simp only [if_pos (show (mkB [Hr.hexDigit (m % 16)]).size + (mkB acc).size ≤ 9223372036854775807 by rw [mkB_size, mkB_size]; simp only [List.length_singleton]; omega)]
    unfold hexGo
    by_cases h16 : m < 16
    · rw [if_pos h16, Nat.mod_eq_of_lt h16, Nat.div_eq_of_lt h16]
      refine Ev.step (fun q => rfl) ?_
      simp only [headraceref05_HexText.l0, if_neg (show ¬ ((0 : Nat) : Int) > 0 by omega), tl, mkB_data, if_neg (show ¬ (Hr.hexDigit m :: acc) = ([] : List UInt8) by simp)]
      exact Ev.now _
    · rw [if_neg h16]
      rw [Nat.pow_succ] at h
      exact ih (m / 16) (Hr.hexDigit (m % 16) :: acc) (by omega) (by omega) (by omega) (by omega) (by simp only [List.length_cons]; omega)
theorem ev_rHexText (n : Int) : Ev (fun k => headraceref05_HexText.f k n) (if n < 0 ∨ 9007199254740992 < n then ((⟨#[]⟩ : ByteArray), 1) else (mkB (hex n.toNat), 0)) := by
  unfold headraceref05_HexText.f
  have bad : Ev (fun k => headraceref05_HexText.j0 k n true) ((⟨#[]⟩ : ByteArray), 1) := by
    refine Ev.step (fun k => rfl) ?_
    simp only [headraceref05_HexText.j0, if_true]
    exact Ev.now _
  by_cases h0 : n < 0
  · simp only [if_pos h0, if_pos (show n < 0 ∨ 9007199254740992 < n from Or.inl h0)]
    exact bad
  · by_cases h1 : 9007199254740992 < n
    · simp only [if_neg h0, if_pos (show n < 0 ∨ 9007199254740992 < n from Or.inr h1), show decide (n > 9007199254740992) = true from decide_eq_true h1]
      exact bad
    · simp only [if_neg h0, if_neg (show ¬ (n < 0 ∨ 9007199254740992 < n) by omega), show decide (n > 9007199254740992) = false from decide_eq_false h1]
      obtain ⟨m, rfl⟩ : ∃ m : Nat, n = (m : Int) := ⟨n.toNat, by omega⟩
      rw [Int.toNat_natCast]
      refine Ev.step (fun k => rfl) ?_
      simp only [headraceref05_HexText.j0, Bool.false_eq_true, if_false]
      have hm : m ≤ 9007199254740992 := by omega
      rcases Nat.eq_zero_or_pos m with rfl | hp
      · exact Ev.of (k := 3) (fun k => headraceref05_HexText.mono_l k |>.2 _ _) (by simp only [headraceref05_HexText.l0, tl]; decide +kernel)
      · exact ev_rHex_l0 17 m [] hp (Nat.lt_of_le_of_lt hm (by decide)) (by decide) hm (by decide)
end Go.Proofs.YtnlicpihondmgaaDoor.Px
