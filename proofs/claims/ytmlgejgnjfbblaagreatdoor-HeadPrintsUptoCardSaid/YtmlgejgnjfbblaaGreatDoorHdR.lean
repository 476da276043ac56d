/- Package head, plainly: what a head that is read holds; a head's text is read as that head; own text of this session. -/
import Derived.Test.YtmlgejgnjfbblaaGreatDoorHdL
namespace Go.Proofs.YtmlgejgnjfbblaaGreatDoor.Hd
open Go.RowKit Go.Proofs.YtmlgejgnjfbblaaGreatDoorW.PrintWords Go.Proofs.YtmlgejgnjfbblaaGreatDoorW.PrintLast Chk Px Hr
set_option linter.unusedVariables false
set_option linter.unusedSimpArgs false
/-! ### texts -/
theorem hindex_one (a b : List UInt8) (c : UInt8) (h : c ∉ a) : Lib.index (a ++ c :: b) [c] = (a.length : Int) := by
  induction a with
  | nil => simp [Lib.index]
  | cons x r ih =>
    have hx : ¬ c = x := fun e => h (by simp [e])
    have hr := ih (fun e => h (by simp [e]))
    show (if [c].isPrefixOf (x :: (r ++ c :: b)) then 0 else if Lib.index (r ++ c :: b) [c] == -1 then -1 else Lib.index (r ++ c :: b) [c] + 1) = _
    rw [hr]
    have hp : [c].isPrefixOf (x :: (r ++ c :: b)) = false := by simp [List.isPrefixOf, hx]
    rw [hp]
    have hn : ((r.length : Int) == -1) = false := by simp
    rw [hn]
    simp
theorem hindex_none (a : List UInt8) (c : UInt8) (h : c ∉ a) : Lib.index a [c] = -1 := by
  induction a with
  | nil => simp [Lib.index]
  | cons x r ih =>
    have hx : ¬ c = x := fun e => h (by simp [e])
    have hr := ih (fun e => h (by simp [e]))
    show (if [c].isPrefixOf (x :: r) then 0 else if Lib.index r [c] == -1 then -1 else Lib.index r [c] + 1) = _
    rw [hr]
    have hp : [c].isPrefixOf (x :: r) = false := by simp [List.isPrefixOf, hx]
    rw [hp]
    rfl
theorem hcut_one (a b : List UInt8) (c : UInt8) (h : c ∉ a) : Lib.cut (a ++ c :: b) [c] = (a, b, true) := by
  unfold Lib.cut
  rw [hindex_one a b c h, if_pos (by omega)]
  simp
theorem hcut_none (a : List UInt8) (c : UInt8) (h : c ∉ a) : Lib.cut a [c] = (a, [], false) := by
  unfold Lib.cut
  rw [hindex_none a c h]
  rfl
theorem cut_spec (s : Bs) (c : UInt8) : (∃ a b, c ∉ a ∧ s = a ++ c :: b ∧ Lib.cut s [c] = (a, b, true)) ∨ (c ∉ s ∧ Lib.cut s [c] = (s, [], false)) := by
  by_cases h : c ∈ s
  · obtain ⟨a, b, e, hn⟩ := List.eq_append_cons_of_mem h
    exact .inl ⟨a, b, hn, e, by rw [e]; exact hcut_one a b c hn⟩
  · exact .inr ⟨h, hcut_none s c h⟩
theorem three_spec (l a b c : Bs) (h : three l = some (a, b, c)) : l = a ++ 32 :: (b ++ 32 :: c) ∧ (32 : UInt8) ∉ a ∧ (32 : UInt8) ∉ b := by
  unfold three at h
  rcases cut_spec l 32 with ⟨x, y, hx, e, hc⟩ | ⟨hx, hc⟩
  · rw [hc] at h
    simp only at h
    rcases cut_spec y 32 with ⟨u, v, hu, e2, hc2⟩ | ⟨hu, hc2⟩
    · rw [hc2] at h
      simp at h
      obtain ⟨h1, h2, h3⟩ := h
      subst h1 h2 h3
      exact ⟨by rw [e, e2], hx, hu⟩
    · rw [hc2] at h
      simp at h
  · rw [hc] at h
    simp at h
/-! ### what a head holds that is read -/
structure HdOk (h : Head) : Prop where
  first : (h.f0 = true ∧ token h.f1.data.toList = true ∧ visS h.f2.data.toList = true ∧ h.f4 = 0 ∧ h.f5 = ⟨#[]⟩) ∨ (h.f0 = false ∧ h.f1 = ⟨#[]⟩ ∧ h.f2 = ⟨#[]⟩ ∧ 100 ≤ h.f4 ∧ h.f4 ≤ 599 ∧ value ([97] ++ h.f5.data.toList ++ [97]) = true)
  minor : h.f3 = 0 ∨ h.f3 = 1
  flds : ∀ f ∈ h.f6, token f.f0.data.toList = true ∧ value f.f1.data.toList = true
  few : h.f6.length ≤ 100
abbrev http : Bs := [72, 84, 84, 80, 47, 49, 46]
def firstL (h : Head) : Bs :=
  if h.f0 = true then h.f1.data.toList ++ 32 :: (h.f2.data.toList ++ 32 :: (http ++ Lib.itoa h.f3))
  else (http ++ Lib.itoa h.f3) ++ 32 :: (Lib.itoa h.f4 ++ 32 :: h.f5.data.toList)
theorem itoa_01 : Lib.itoa 0 = [48] ∧ Lib.itoa 1 = [49] := by decide +kernel
theorem version_spec (l : Bs) (h : (versionS l).2 = 0) : ((versionS l).1 = 0 ∨ (versionS l).1 = 1) ∧ l = http ++ Lib.itoa (versionS l).1 := by
  unfold versionS at h ⊢
  by_cases h0 : l = http0
  · rw [if_pos h0]; exact ⟨.inl rfl, by rw [itoa_01.1]; exact h0⟩
  · rw [if_neg h0] at h ⊢
    by_cases h1 : l = http1
    · rw [if_pos h1]; exact ⟨.inr rfl, by rw [itoa_01.2]; exact h1⟩
    · rw [if_neg h1] at h
      split at h <;> cases h
theorem dig10 (c : UInt8) (d : Nat) : digitOf 10 c = some d → d < 10 ∧ c = UInt8.ofNat (48 + d) := by
  intro h
  have key : ∀ n : Fin 256, ∀ d, digitOf 10 (UInt8.ofNat n.val) = some d → d < 10 ∧ UInt8.ofNat n.val = UInt8.ofNat (48 + d) := by
    intro n
    have : ∀ n : Fin 256, (match digitOf 10 (UInt8.ofNat n.val) with | none => true | some d => decide (d < 10) && (UInt8.ofNat n.val == UInt8.ofNat (48 + d))) = true := by decide +kernel
    intro d hd
    have h2 := this n
    rw [hd] at h2
    simp only [Bool.and_eq_true, decide_eq_true_eq, beq_iff_eq] at h2
    exact h2
  exact byte_of (fun c => ∀ d, digitOf 10 c = some d → d < 10 ∧ c = UInt8.ofNat (48 + d)) key c d h
theorem three_digits : ∀ x y z : Fin 10, Lib.itoa ((((x.val * 10 + y.val) * 10 + z.val : Nat)) : Int) = (if x.val = 0 then Lib.itoa ((((x.val * 10 + y.val) * 10 + z.val : Nat)) : Int) else [UInt8.ofNat (48 + x.val), UInt8.ofNat (48 + y.val), UInt8.ofNat (48 + z.val)]) := by decide +kernel
theorem status_spec (b : Bs) (hl : b.length = 3) (h : (digits 10 b).2 = 0) (h0 : 100 ≤ (digits 10 b).1) : b = Lib.itoa (digits 10 b).1 := by
  match b, hl with
  | [p, q, r], _ =>
    obtain ⟨x, hx⟩ : ∃ x, digitOf 10 p = x := ⟨_, rfl⟩
    obtain ⟨y, hy⟩ : ∃ y, digitOf 10 q = y := ⟨_, rfl⟩
    obtain ⟨z, hz⟩ : ∃ z, digitOf 10 r = z := ⟨_, rfl⟩
    unfold digits at h h0 ⊢
    simp only [digitsGo, hx, hy, hz] at h h0 ⊢
    cases x with
    | none => simp at h
    | some x =>
      cases y with
      | none =>
        have hx10 := dig10 p x hx
        simp only [Nat.zero_mul, Nat.zero_add, Bool.false_eq_true, if_false] at h
        exact absurd h (by decide)
      | some y =>
        have hx10 := dig10 p x hx
        have hy10 := dig10 q y hy
        cases z with
        | none =>
          simp only [Nat.zero_mul, Nat.zero_add, Bool.false_eq_true, if_false] at h
          rw [show decide (9007199254740992 < x) = false from decide_eq_false (by omega)] at h
          simp only [Bool.false_eq_true, if_false] at h
          exact absurd h (by decide)
        | some z =>
          have hz10 := dig10 r z hz
          have e1 : decide (9007199254740992 < x) = false := decide_eq_false (by omega)
          have e2 : decide (9007199254740992 < x * 10 + y) = false := decide_eq_false (by omega)
          have e3 : decide (9007199254740992 < (x * 10 + y) * 10 + z) = false := decide_eq_false (by omega)
          simp only [Nat.zero_mul, Nat.zero_add, Bool.false_eq_true, if_false, e1, e2, e3] at h h0 ⊢
          rw [if_neg (by simp)] at h0 ⊢
          simp only at h0 ⊢
          have h5 := three_digits ⟨x, hx10.1⟩ ⟨y, hy10.1⟩ ⟨z, hz10.1⟩
          simp only at h5
          rw [h5, if_neg (by intro hx0; rw [hx0] at h0; have := hy10.1; have := hz10.1; omega), hx10.2, hy10.2, hz10.2]
theorem token_mem {l : Bs} (h : token l = true) : (∀ c ∈ l, Px.tch c = true) ∧ l ≠ [] := by
  unfold Px.token at h
  rw [Bool.and_eq_true] at h
  exact ⟨List.all_eq_true.1 h.1, by simpa using h.2⟩
theorem field_spec (l : Bs) (h : fieldE l = 0) : token (fieldF l).f0.data.toList = true ∧ value (fieldF l).f1.data.toList = true ∧ (fieldF l).f0.size + (fieldF l).f1.size + 1 ≤ l.length := by
  unfold fieldE at h
  unfold fieldF
  simp only [mkB_data, mkB_size]
  rcases cut_spec l 58 with ⟨a, b, hx, e, hc⟩ | ⟨hx, hc⟩
  · rw [hc] at h ⊢
    simp only at h ⊢
    have hl : (trim b).length ≤ b.length := trim_length b
    repeat' split at h
    all_goals first
      | (cases h; done)
      | (rename_i h1 h2 h3 h4 h5
         refine ⟨by simpa using h4, by simpa using h5, ?_⟩
         rw [e]; simp only [List.length_append, List.length_cons]; omega)
  · rw [hc] at h
    simp only [if_true] at h
    repeat' split at h
    all_goals cases h
/-! ### a text is read as that head -/
theorem rd_last' (l : List Int) (c : Int) : rd (l ++ [c]) (((l ++ [c]).length : Int) - 1) = c := by
  unfold rd
  have : ((((l ++ [c]).length : Nat) : Int) - 1).toNat = l.length := by rw [List.length_append]; simp
  rw [this]
  simp
def HRuns (p : Par) (a : List Int) (p' : Par) : Prop := ∀ b n, feedP p (a ++ b) n = feedP p' b (n + a.length)
theorem HRuns.nil (p : Par) : HRuns p [] p := fun b n => rfl
theorem HRuns.trans {p q r : Par} {a c : List Int} (h : HRuns p a q) (k : HRuns q c r) : HRuns p (a ++ c) r := fun b n => by
  rw [List.append_assoc, h, k, List.length_append, Nat.add_assoc]
theorem HRuns.one {p q : Par} {c : Int} (hw : p.whole = false) (he : p.err = none) (h : takeS p c = (q, none)) (hq : q.err = none) : HRuns p [c] q := fun b n => by
  rw [List.singleton_append, feedP_next p c b n hw he, h]
  have e : ({ q with err := none } : Par) = q := by rw [← hq]
  simp only
  rw [e]
  rfl
/-! ### what is read -/
def wtF (l : List Fld) : Nat := (l.map fun f => f.f0.size + f.f1.size + 3).sum
theorem wtF_snoc (l : List Fld) (f : Fld) : wtF (l ++ [f]) = wtF l + (f.f0.size + f.f1.size + 3) := by unfold wtF; simp
structure InvP (rq : Bool) (p : Par) (n : Nat) : Prop where
  rd : p.rd = n
  line : p.line.length ≤ 8193
  li : 0 ≤ p.lines ∧ p.lines ≤ n
  st : (p.st = (if rq then 0 else 1) ∧ p.hd = head0 rq ∧ p.whole = false ∧ p.line.length ≤ n) ∨ (p.st = 2 ∧ HdOk p.hd ∧ p.hd.f0 = rq ∧ (firstL p.hd).length ≤ 8192 ∧ (firstL p.hd).length + 2 + wtF p.hd.f6 + (if p.whole then 2 else p.line.length) ≤ n)
theorem bytesS_length (l : List Int) : (bytesS l).length = l.length := by
  unfold bytesS strOfNums
  simp
theorem req_spec (p q : Par) (l : Bs) (h : reqS p l = (q, 0)) (hhd : p.hd = head0 true) : q = p ∨ (q = { p with hd := q.hd, st := 2 } ∧ HdOk q.hd ∧ q.hd.f0 = true ∧ q.hd.f6 = [] ∧ firstL q.hd = l) := by
  unfold reqS at h
  split at h
  · exact .inl (Prod.mk.inj h).1.symm
  · split at h
    · cases (Prod.mk.inj h).2
    · rename_i a b c h3
      split at h
      · cases (Prod.mk.inj h).2
      · rename_i hn
        obtain ⟨e1, e2⟩ := Prod.mk.inj h
        obtain ⟨g1, g2, g3⟩ := three_spec l a b c h3
        obtain ⟨v1, v2⟩ := version_spec c e2
        have ht : token a = true := by cases ht : token a with | true => rfl | false => exact absurd (.inr (.inl ht)) hn
        have hv : visS b = true := by cases hv : visS b with | true => rfl | false => exact absurd (.inr (.inr hv)) hn
        subst e1
        refine .inr ⟨rfl, ⟨.inl ⟨?_, ?_, ?_, ?_, ?_⟩, v1, ?_, ?_⟩, ?_, ?_, ?_⟩ <;> simp only [hhd, head0, mkB_data]
        · exact ht
        · exact hv
        · intro f hf; cases hf
        · decide
        · unfold firstL
          simp only [if_true, mkB_data]
          rw [← v2, g1]
theorem resp_spec (p q : Par) (l : Bs) (h : respS p l = (q, 0)) (hhd : p.hd = head0 false) : q = { p with hd := q.hd, st := 2 } ∧ HdOk q.hd ∧ q.hd.f0 = false ∧ q.hd.f6 = [] ∧ firstL q.hd = l := by
  unfold respS at h
  split at h
  · cases (Prod.mk.inj h).2
  · rename_i a b c h3
    split at h
    · cases (Prod.mk.inj h).2
    · rename_i hn
      obtain ⟨e1, e2⟩ := Prod.mk.inj h
      obtain ⟨g1, g2, g3⟩ := three_spec l a b c h3
      obtain ⟨v1, v2⟩ := version_spec a e2
      have hl : b.length = 3 := by by_cases h5 : b.length = 3; exact h5; exact absurd (.inl h5) hn
      have hv : value ([97] ++ c ++ [97]) = true := by cases hv : value ([97] ++ c ++ [97]) with | true => rfl | false => exact absurd (.inr (.inl hv)) hn
      have hd : (digits 10 b).2 = 0 := by by_cases h5 : (digits 10 b).2 = 0; exact h5; exact absurd (.inr (.inr (.inl h5))) hn
      have h100 : 100 ≤ (digits 10 b).1 := by by_cases h5 : (digits 10 b).1 < 100; exact absurd (.inr (.inr (.inr (.inl h5)))) hn; omega
      have h599 : (digits 10 b).1 ≤ 599 := by by_cases h5 : 599 < (digits 10 b).1; exact absurd (.inr (.inr (.inr (.inr h5)))) hn; omega
      subst e1
      refine ⟨rfl, ⟨.inr ⟨?_, ?_, ?_, ?_, ?_, ?_⟩, v1, ?_, ?_⟩, ?_, ?_, ?_⟩ <;> simp only [hhd, head0, mkB_data]
      · exact h100
      · exact h599
      · exact hv
      · intro f hf; cases hf
      · decide
      · unfold firstL
        simp only [Bool.false_eq_true, if_false, mkB_data]
        rw [← v2, ← status_spec b hl hd h100, g1]
theorem fld_spec (p q : Par) (l : Bs) (h : fldS p l = (q, 0)) (hf : p.hd.f6.length ≤ 100) : (l = [] ∧ q = { p with whole := true }) ∨ (∃ f : Fld, token f.f0.data.toList = true ∧ value f.f1.data.toList = true ∧ f.f0.size + f.f1.size + 1 ≤ l.length ∧ p.hd.f6.length < 100 ∧ q = { p with hd := ⟨p.hd.f0, p.hd.f1, p.hd.f2, p.hd.f3, p.hd.f4, p.hd.f5, p.hd.f6 ++ [f]⟩ }) := by
  unfold fldS at h
  split at h
  · rename_i hl
    exact .inl ⟨hl, (Prod.mk.inj h).1.symm⟩
  · split at h
    · rename_i h1 h2
      exact absurd (Prod.mk.inj h).2 h2
    · rename_i h1 h2
      split at h
      · cases (Prod.mk.inj h).2
      · rename_i h3
        have h2 : fieldE l = 0 := by by_cases h5 : fieldE l = 0; exact h5; exact absurd h5 h2
        obtain ⟨a, b, c⟩ := field_spec l h2
        exact .inr ⟨fieldF l, a, b, c, by omega, (Prod.mk.inj h).1.symm⟩
theorem HdOk.add {h : Head} (ok : HdOk h) (f : Fld) (h0 : token f.f0.data.toList = true) (h1 : value f.f1.data.toList = true) (hf : h.f6.length < 100) : HdOk ⟨h.f0, h.f1, h.f2, h.f3, h.f4, h.f5, h.f6 ++ [f]⟩ :=
  ⟨ok.first, ok.minor, fun g hg => (List.mem_append.1 hg).elim (ok.flds g) (fun h => by rw [List.mem_singleton.1 h]; exact ⟨h0, h1⟩), by simp; omega⟩
theorem take_gen (A : Bool) (B : Prop) [Decidable B] (c : Int) (p q p2 p3 : Par) (L : Par × Int) (n : Int) (h : (if A = true then (p, some (Er.bare 81)) else if B then (p2, some (Er.bare 85)) else if c ≠ 10 then (p3, none) else (L.1, if L.2 = 0 then none else some (Er.at n L.2))) = (q, none)) : ¬ A = true ∧ ¬ B ∧ ((c ≠ 10 ∧ p3 = q) ∨ (c = 10 ∧ L = (q, 0))) := by
  by_cases hA : A = true
  · rw [if_pos hA] at h; cases (Prod.mk.inj h).2
  · rw [if_neg hA] at h
    by_cases hB : B
    · rw [if_pos hB] at h; cases (Prod.mk.inj h).2
    · rw [if_neg hB] at h
      refine ⟨hA, hB, ?_⟩
      by_cases hc : c ≠ 10
      · rw [if_pos hc] at h; exact .inl ⟨hc, (Prod.mk.inj h).1⟩
      · rw [if_neg hc] at h
        refine .inr ⟨by omega, ?_⟩
        obtain ⟨e1, e2⟩ := Prod.mk.inj h
        by_cases h5 : L.2 = 0
        · exact Prod.ext e1 h5
        · rw [if_neg h5] at e2; cases e2
theorem take_none (p q : Par) (c : Int) (h : takeS p c = (q, none)) : (p.rd + 1 ≤ p.most ∧ c ≠ 10 ∧ p.line.length ≤ 8192 ∧ q = { p with rd := p.rd + 1, line := p.line ++ [c] }) ∨ (p.rd + 1 ≤ p.most ∧ 1 ≤ p.line.length ∧ lineS { p with rd := p.rd + 1, line := [], lines := p.lines + 1 } (bytesS (p.line.take (p.line.length - 1))) = (q, 0)) := by
  obtain ⟨h1, h2, h3⟩ := take_gen _ _ c p q _ _ _ _ h
  have hm : p.rd + 1 ≤ p.most := by by_cases h5 : p.rd + 1 > p.most; exact absurd (.inl h5) h2; omega
  rcases h3 with ⟨h3, h4⟩ | ⟨h3, h4⟩
  · refine .inl ⟨hm, h3, ?_, h4.symm⟩
    have ha : (decide (0 < p.line.length) && (rd p.line ((p.line.length : Int) - 1) == 13)) = false := by
      have hb : (c == 10) = false := by simpa using h3
      rw [hb] at h1
      simpa using h1
    by_cases h5 : p.line.length ≤ 8192
    · exact h5
    · exfalso
      refine h2 (.inr ⟨ha, ?_⟩)
      split <;> omega
  · refine .inr ⟨hm, ?_, h4⟩
    by_cases h5 : 0 < p.line.length
    · exact h5
    · exfalso
      apply h1
      rw [h3, show decide (0 < p.line.length) = false from decide_eq_false h5]
      rfl
theorem inv_take {rq : Bool} {p q : Par} {n : Nat} (hI : InvP rq p n) (hw : p.whole = false) (c : Int) (h : takeS p c = (q, none)) : InvP rq { q with err := none } (n + 1) := by
  obtain ⟨hrd, hln, hli, hst⟩ := hI
  rcases take_none p q c h with ⟨hm, hc, hl, rfl⟩ | ⟨hm, hl, hq⟩
  · refine ⟨by show p.rd + 1 = _; omega, by show (p.line ++ [c]).length ≤ _; simp; omega, ⟨hli.1, by show p.lines ≤ _; omega⟩, ?_⟩
    rcases hst with ⟨s1, s2, s3, s4⟩ | ⟨s1, s2, s3, s4, s5⟩
    · exact .inl ⟨s1, s2, s3, by show (p.line ++ [c]).length ≤ _; simp; omega⟩
    · refine .inr ⟨s1, s2, s3, s4, ?_⟩
      rw [hw] at s5
      show _ + (if p.whole then 2 else (p.line ++ [c]).length) ≤ _
      rw [hw]
      simp only [Bool.false_eq_true, if_false, List.length_append, List.length_singleton] at s5 ⊢
      omega
  · obtain ⟨l, hlq⟩ : ∃ l, l = bytesS (p.line.take (p.line.length - 1)) := ⟨_, rfl⟩
    rw [← hlq] at hq
    have hll : l.length = p.line.length - 1 := by rw [hlq, bytesS_length, List.length_take]; omega
    rcases hst with ⟨s1, s2, s3, s4⟩ | ⟨s1, s2, s3, s4, s5⟩
    · cases rq with
      | true =>
        simp only [if_true] at s1
        have hq2 : reqS { p with rd := p.rd + 1, line := [], lines := p.lines + 1 } l = (q, 0) := by
          unfold lineS at hq
          simp only [s1] at hq
          rw [s1]; exact hq
        rcases req_spec _ q l hq2 s2 with rfl | ⟨e, ok, e0, e6, ef⟩
        · exact ⟨by show p.rd + 1 = _; omega, by show 0 ≤ _; omega, ⟨by show 0 ≤ p.lines + 1; omega, by show p.lines + 1 ≤ _; omega⟩, .inl ⟨s1, s2, s3, by show 0 ≤ _; omega⟩⟩
        · rw [e]
          refine ⟨by show p.rd + 1 = _; omega, by show 0 ≤ _; omega, ⟨by show 0 ≤ p.lines + 1; omega, by show p.lines + 1 ≤ _; omega⟩, .inr ⟨rfl, ok, e0, by show (firstL q.hd).length ≤ _; rw [ef]; omega, ?_⟩⟩
          show (firstL q.hd).length + 2 + wtF q.hd.f6 + (if p.whole then 2 else 0) ≤ _
          rw [ef, e6, hw]
          show l.length + 2 + 0 + 0 ≤ _
          omega
      | false =>
        simp only [Bool.false_eq_true, if_false] at s1
        have hq2 : respS { p with rd := p.rd + 1, line := [], lines := p.lines + 1 } l = (q, 0) := by
          unfold lineS at hq
          simp only [s1] at hq
          rw [s1]; exact hq
        obtain ⟨e, ok, e0, e6, ef⟩ := resp_spec _ q l hq2 s2
        rw [e]
        refine ⟨by show p.rd + 1 = _; omega, by show 0 ≤ _; omega, ⟨by show 0 ≤ p.lines + 1; omega, by show p.lines + 1 ≤ _; omega⟩, .inr ⟨rfl, ok, e0, by show (firstL q.hd).length ≤ _; rw [ef]; omega, ?_⟩⟩
        show (firstL q.hd).length + 2 + wtF q.hd.f6 + (if p.whole then 2 else 0) ≤ _
        rw [ef, e6, hw]
        show l.length + 2 + 0 + 0 ≤ _
        omega
    · have hq2 : fldS { p with rd := p.rd + 1, line := [], lines := p.lines + 1 } l = (q, 0) := by
        unfold lineS at hq
        simp only [s1] at hq
        rw [s1]; exact hq
      rw [hw] at s5
      simp only [Bool.false_eq_true, if_false] at s5
      rcases fld_spec _ q l hq2 s2.few with ⟨e1, rfl⟩ | ⟨f, f1, f2, f3, f4, rfl⟩
      · refine ⟨by show p.rd + 1 = _; omega, by show 0 ≤ _; omega, ⟨by show 0 ≤ p.lines + 1; omega, by show p.lines + 1 ≤ _; omega⟩, .inr ⟨s1, s2, s3, s4, ?_⟩⟩
        show (firstL p.hd).length + 2 + wtF p.hd.f6 + 2 ≤ _
        omega
      · refine ⟨by show p.rd + 1 = _; omega, by show 0 ≤ _; omega, ⟨by show 0 ≤ p.lines + 1; omega, by show p.lines + 1 ≤ _; omega⟩, .inr ⟨s1, s2.add f f1 f2 f4, s3, s4, ?_⟩⟩
        show (firstL p.hd).length + 2 + wtF (p.hd.f6 ++ [f]) + (if p.whole then 2 else 0) ≤ _
        rw [wtF_snoc, hw]
        simp only [Bool.false_eq_true, if_false]
        omega
theorem inv_new (rq : Bool) (m : Int) : InvP rq (newPar rq m) 0 := ⟨rfl, by show 0 ≤ 8193; omega, ⟨Int.le_refl _, Int.le_refl _⟩, .inl ⟨rfl, rfl, rfl, Nat.le_refl _⟩⟩
end Go.Proofs.YtmlgejgnjfbblaaGreatDoor.Hd
