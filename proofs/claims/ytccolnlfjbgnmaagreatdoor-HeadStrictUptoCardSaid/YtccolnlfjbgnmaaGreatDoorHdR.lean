/- Package head, plainly: what a head that is read holds; a head's text is read as that head; own text of this session. -/
import Derived.Test.YtccolnlfjbgnmaaGreatDoorHdL
namespace Go.Proofs.YtccolnlfjbgnmaaGreatDoor.Hd
open Go.RowKit Go.Proofs.YtccolnlfjbgnmaaGreatDoorW.PrintWords Go.Proofs.YtccolnlfjbgnmaaGreatDoorW.PrintLast Chk Px Hr
set_option linter.unusedVariables false
set_option linter.unusedSimpArgs false
/-! ### texts -/
theorem hindex_one (a b : List UInt8) (c : UInt8) (h : c ∉ a) : Lib.index (a ++ c :: b) [c] = (a.length : Int) := by
  induction a with
  | nil => simp [Lib.index]
  | cons x r ih =>
    have hx : ¬ c = x := fun e => h (by simp [e])
    have hr := ih (fun e => h (by simp [e]))
    show (if [c].isPrefixOf (x :: (r ++ c :: b)) then 0 else if Lib.index (r ++ c :: b) [c] == -1 then -1 else Lib.index (r ++ c :: b) [c] + 1) = _
    rw [hr]
    have hp : [c].isPrefixOf (x :: (r ++ c :: b)) = false := by simp [List.isPrefixOf, hx]
    rw [hp]
    have hn : ((r.length : Int) == -1) = false := by simp
    rw [hn]
    simp
theorem hindex_none (a : List UInt8) (c : UInt8) (h : c ∉ a) : Lib.index a [c] = -1 := by
  induction a with
  | nil => simp [Lib.index]
  | cons x r ih =>
    have hx : ¬ c = x := fun e => h (by simp [e])
    have hr := ih (fun e => h (by simp [e]))
    show (if [c].isPrefixOf (x :: r) then 0 else if Lib.index r [c] == -1 then -1 else Lib.index r [c] + 1) = _
    rw [hr]
    have hp : [c].isPrefixOf (x :: r) = false := by simp [List.isPrefixOf, hx]
    rw [hp]
    rfl
theorem hcut_one (a b : List UInt8) (c : UInt8) (h : c ∉ a) : Lib.cut (a ++ c :: b) [c] = (a, b, true) := by
  unfold Lib.cut
  rw [hindex_one a b c h, if_pos (by omega)]
  simp
theorem hcut_none (a : List UInt8) (c : UInt8) (h : c ∉ a) : Lib.cut a [c] = (a, [], false) := by
  unfold Lib.cut
  rw [hindex_none a c h]
  rfl
theorem cut_spec (s : Bs) (c : UInt8) : (∃ a b, c ∉ a ∧ s = a ++ c :: b ∧ Lib.cut s [c] = (a, b, true)) ∨ (c ∉ s ∧ Lib.cut s [c] = (s, [], false)) := by
  by_cases h : c ∈ s
  · obtain ⟨a, b, e, hn⟩ := List.eq_append_cons_of_mem h
    exact .inl ⟨a, b, hn, e, by rw [e]; exact hcut_one a b c hn⟩
  · exact .inr ⟨h, hcut_none s c h⟩
theorem three_of (a b c : Bs) (ha : (32 : UInt8) ∉ a) (hb : (32 : UInt8) ∉ b) : three (a ++ 32 :: (b ++ 32 :: c)) = some (a, b, c) := by
  unfold three
  rw [hcut_one a _ 32 ha]
  simp only
  rw [hcut_one b c 32 hb]
  simp
theorem three_spec (l a b c : Bs) (h : three l = some (a, b, c)) : l = a ++ 32 :: (b ++ 32 :: c) ∧ (32 : UInt8) ∉ a ∧ (32 : UInt8) ∉ b := by
  unfold three at h
  rcases cut_spec l 32 with ⟨x, y, hx, e, hc⟩ | ⟨hx, hc⟩
  · rw [hc] at h
    simp only at h
    rcases cut_spec y 32 with ⟨u, v, hu, e2, hc2⟩ | ⟨hu, hc2⟩
    · rw [hc2] at h
      simp at h
      obtain ⟨h1, h2, h3⟩ := h
      subst h1 h2 h3
      exact ⟨by rw [e, e2], hx, hu⟩
    · rw [hc2] at h
      simp at h
  · rw [hc] at h
    simp at h
theorem mkB_nil : mkB [] = (⟨#[]⟩ : ByteArray) := rfl
theorem trim_blank' (v : Bs) : Hr.trim (32 :: v) = Hr.trim v := by
  rw [Px.trim_eq, Px.trim_comm, Px.trim_eq v, Px.trim_comm v]
  rfl
/-! ### what a head holds that is read -/
structure HdOk (h : Head) : Prop where
  first : (h.f0 = true ∧ token h.f1.data.toList = true ∧ visS h.f2.data.toList = true ∧ h.f4 = 0 ∧ h.f5 = ⟨#[]⟩) ∨ (h.f0 = false ∧ h.f1 = ⟨#[]⟩ ∧ h.f2 = ⟨#[]⟩ ∧ 100 ≤ h.f4 ∧ h.f4 ≤ 599 ∧ value ([97] ++ h.f5.data.toList ++ [97]) = true)
  minor : h.f3 = 0 ∨ h.f3 = 1
  flds : ∀ f ∈ h.f6, token f.f0.data.toList = true ∧ value f.f1.data.toList = true
  few : h.f6.length ≤ 100
abbrev http : Bs := [72, 84, 84, 80, 47, 49, 46]
def firstL (h : Head) : Bs :=
  if h.f0 = true then h.f1.data.toList ++ 32 :: (h.f2.data.toList ++ 32 :: (http ++ Lib.itoa h.f3))
  else (http ++ Lib.itoa h.f3) ++ 32 :: (Lib.itoa h.f4 ++ 32 :: h.f5.data.toList)
def fldL (f : Fld) : Bs := f.f0.data.toList ++ 58 :: (32 :: f.f1.data.toList)
theorem firstT_eq (h : Head) : firstT h = firstL h ++ crlf := by
  unfold firstT firstL
  split <;> simp [List.append_assoc]
theorem fldT_eq (f : Fld) : fldT f = fldL f ++ crlf := by
  unfold fldT fldL
  simp [List.append_assoc]
theorem itoa_01 : Lib.itoa 0 = [48] ∧ Lib.itoa 1 = [49] := by decide +kernel
theorem version_back (m : Int) (h : m = 0 ∨ m = 1) : versionS (http ++ Lib.itoa m) = (m, 0) ∧ (32 : UInt8) ∉ http ++ Lib.itoa m := by
  rcases h with rfl | rfl
  · rw [itoa_01.1]; decide +kernel
  · rw [itoa_01.2]; decide +kernel
theorem version_spec (l : Bs) (h : (versionS l).2 = 0) : ((versionS l).1 = 0 ∨ (versionS l).1 = 1) ∧ l = http ++ Lib.itoa (versionS l).1 := by
  unfold versionS at h ⊢
  by_cases h0 : l = http0
  · rw [if_pos h0]; exact ⟨.inl rfl, by rw [itoa_01.1]; exact h0⟩
  · rw [if_neg h0] at h ⊢
    by_cases h1 : l = http1
    · rw [if_pos h1]; exact ⟨.inr rfl, by rw [itoa_01.2]; exact h1⟩
    · rw [if_neg h1] at h
      split at h <;> cases h
theorem status_back : ∀ n : Fin 500, (Lib.itoa ((n.val : Int) + 100)).length = 3 ∧ digits 10 (Lib.itoa ((n.val : Int) + 100)) = ((n.val : Int) + 100, 0) ∧ (32 : UInt8) ∉ Lib.itoa ((n.val : Int) + 100) := by decide +kernel
theorem status_back' (s : Int) (h0 : 100 ≤ s) (h1 : s ≤ 599) : (Lib.itoa s).length = 3 ∧ digits 10 (Lib.itoa s) = (s, 0) ∧ (32 : UInt8) ∉ Lib.itoa s := by
  have h := status_back ⟨(s - 100).toNat, by omega⟩
  have e : (((s - 100).toNat : Nat) : Int) + 100 = s := by omega
  simp only [e] at h
  exact h
theorem dig10 (c : UInt8) (d : Nat) : digitOf 10 c = some d → d < 10 ∧ c = UInt8.ofNat (48 + d) := by
  intro h
  have key : ∀ n : Fin 256, ∀ d, digitOf 10 (UInt8.ofNat n.val) = some d → d < 10 ∧ UInt8.ofNat n.val = UInt8.ofNat (48 + d) := by
    intro n
    have : ∀ n : Fin 256, (match digitOf 10 (UInt8.ofNat n.val) with | none => true | some d => decide (d < 10) && (UInt8.ofNat n.val == UInt8.ofNat (48 + d))) = true := by decide +kernel
    intro d hd
    have h2 := this n
    rw [hd] at h2
    simp only [Bool.and_eq_true, decide_eq_true_eq, beq_iff_eq] at h2
    exact h2
  exact byte_of (fun c => ∀ d, digitOf 10 c = some d → d < 10 ∧ c = UInt8.ofNat (48 + d)) key c d h
theorem three_digits : ∀ x y z : Fin 10, Lib.itoa ((((x.val * 10 + y.val) * 10 + z.val : Nat)) : Int) = (if x.val = 0 then Lib.itoa ((((x.val * 10 + y.val) * 10 + z.val : Nat)) : Int) else [UInt8.ofNat (48 + x.val), UInt8.ofNat (48 + y.val), UInt8.ofNat (48 + z.val)]) := by decide +kernel
theorem status_spec (b : Bs) (hl : b.length = 3) (h : (digits 10 b).2 = 0) (h0 : 100 ≤ (digits 10 b).1) : b = Lib.itoa (digits 10 b).1 := by
  match b, hl with
  | [p, q, r], _ =>
    obtain ⟨x, hx⟩ : ∃ x, digitOf 10 p = x := ⟨_, rfl⟩
    obtain ⟨y, hy⟩ : ∃ y, digitOf 10 q = y := ⟨_, rfl⟩
    obtain ⟨z, hz⟩ : ∃ z, digitOf 10 r = z := ⟨_, rfl⟩
    unfold digits at h h0 ⊢
    simp only [digitsGo, hx, hy, hz] at h h0 ⊢
    cases x with
    | none => simp at h
    | some x =>
      cases y with
      | none =>
        have hx10 := dig10 p x hx
        simp only [Nat.zero_mul, Nat.zero_add, Bool.false_eq_true, if_false] at h
        exact absurd h (by decide)
      | some y =>
        have hx10 := dig10 p x hx
        have hy10 := dig10 q y hy
        cases z with
        | none =>
          simp only [Nat.zero_mul, Nat.zero_add, Bool.false_eq_true, if_false] at h
          rw [show decide (9007199254740992 < x) = false from decide_eq_false (by omega)] at h
          simp only [Bool.false_eq_true, if_false] at h
          exact absurd h (by decide)
        | some z =>
          have hz10 := dig10 r z hz
          have e1 : decide (9007199254740992 < x) = false := decide_eq_false (by omega)
          have e2 : decide (9007199254740992 < x * 10 + y) = false := decide_eq_false (by omega)
          have e3 : decide (9007199254740992 < (x * 10 + y) * 10 + z) = false := decide_eq_false (by omega)
          simp only [Nat.zero_mul, Nat.zero_add, Bool.false_eq_true, if_false, e1, e2, e3] at h h0 ⊢
          rw [if_neg (by simp)] at h0 ⊢
          simp only at h0 ⊢
          have h5 := three_digits ⟨x, hx10.1⟩ ⟨y, hy10.1⟩ ⟨z, hz10.1⟩
          simp only at h5
          rw [h5, if_neg (by intro hx0; rw [hx0] at h0; have := hy10.1; have := hz10.1; omega), hx10.2, hy10.2, hz10.2]
theorem tch_ch' (c : UInt8) : Px.tch c = true → c ≠ 10 ∧ c ≠ 13 ∧ c ≠ 58 ∧ c ≠ 32 ∧ isBlank c = false ∧ c ≠ 0 ∧ 32 < c.toNat := Px.byte_of (fun c => Px.tch c = true → c ≠ 10 ∧ c ≠ 13 ∧ c ≠ 58 ∧ c ≠ 32 ∧ isBlank c = false ∧ c ≠ 0 ∧ 32 < c.toNat) (by decide +kernel) c
theorem val_ch' (c : UInt8) : Px.valOk c = true → c ≠ 10 ∧ c ≠ 13 ∧ c ≠ 0 := Px.byte_of (fun c => Px.valOk c = true → c ≠ 10 ∧ c ≠ 13 ∧ c ≠ 0) (by decide +kernel) c
theorem vis_ch' (c : UInt8) : visB c = true → c ≠ 10 ∧ c ≠ 13 ∧ c ≠ 0 ∧ c ≠ 32 := Px.byte_of (fun c => visB c = true → c ≠ 10 ∧ c ≠ 13 ∧ c ≠ 0 ∧ c ≠ 32) (by decide +kernel) c
theorem token_mem {l : Bs} (h : token l = true) : (∀ c ∈ l, Px.tch c = true) ∧ l ≠ [] := by
  unfold Px.token at h
  rw [Bool.and_eq_true] at h
  exact ⟨List.all_eq_true.1 h.1, by simpa using h.2⟩
theorem value_mem {l : Bs} (h : value l = true) : (∀ c ∈ l, Px.valOk c = true) ∧ Hr.trim l = l := by
  unfold Px.value at h
  rw [Bool.and_eq_true] at h
  exact ⟨List.all_eq_true.1 h.1, by simpa using h.2⟩
theorem vis_mem {l : Bs} (h : visS l = true) : (∀ c ∈ l, visB c = true) ∧ l ≠ [] := by
  unfold visS at h
  rw [Bool.and_eq_true] at h
  exact ⟨List.all_eq_true.1 h.1, by simpa using h.2⟩
/-- No line's end in it. -/
def clean (l : Bs) : Prop := ∀ c ∈ l, c ≠ 10 ∧ c ≠ 13
theorem clean_app {a b : Bs} (ha : clean a) (hb : clean b) : clean (a ++ b) := fun c hc => (List.mem_append.1 hc).elim (ha c) (hb c)
theorem clean_cons {b : Bs} {x : UInt8} (hx : x ≠ 10 ∧ x ≠ 13) (hb : clean b) : clean (x :: b) := fun c hc => (List.mem_cons.1 hc).elim (fun e => by rw [e]; exact hx) (hb c)
theorem clean_token {l : Bs} (h : token l = true) : clean l := fun c hc => ⟨(tch_ch' c ((token_mem h).1 c hc)).1, (tch_ch' c ((token_mem h).1 c hc)).2.1⟩
theorem clean_value {l : Bs} (h : value l = true) : clean l := fun c hc => ⟨(val_ch' c ((value_mem h).1 c hc)).1, (val_ch' c ((value_mem h).1 c hc)).2.1⟩
theorem clean_vis {l : Bs} (h : visS l = true) : clean l := fun c hc => ⟨(vis_ch' c ((vis_mem h).1 c hc)).1, (vis_ch' c ((vis_mem h).1 c hc)).2.1⟩
theorem clean_mid {l : Bs} (h : value ([97] ++ l ++ [97]) = true) : clean l := fun c hc => clean_value h c (by simp [hc])
theorem clean_version (m : Int) (h : m = 0 ∨ m = 1) : clean (http ++ Lib.itoa m) := by
  rcases h with rfl | rfl
  · rw [itoa_01.1]; unfold clean; decide +kernel
  · rw [itoa_01.2]; unfold clean; decide +kernel
theorem clean_status : ∀ n : Fin 500, ∀ c ∈ Lib.itoa ((n.val : Int) + 100), c ≠ 10 ∧ c ≠ 13 := by decide +kernel
theorem clean_status' (s : Int) (h0 : 100 ≤ s) (h1 : s ≤ 599) : clean (Lib.itoa s) := by
  have h := clean_status ⟨(s - 100).toNat, by omega⟩
  have e : (((s - 100).toNat : Nat) : Int) + 100 = s := by omega
  simp only [e] at h
  exact h
theorem firstL_clean {h : Head} (ok : HdOk h) : clean (firstL h) := by
  unfold firstL
  rcases ok.first with ⟨e, h1, h2, _, _⟩ | ⟨e, _, _, h4, h5, h6⟩
  · rw [if_pos e]
    exact clean_app (clean_token h1) (clean_cons (by decide) (clean_app (clean_vis h2) (clean_cons (by decide) (clean_version _ ok.minor))))
  · rw [if_neg (by rw [e]; decide)]
    exact clean_app (clean_version _ ok.minor) (clean_cons (by decide) (clean_app (clean_status' _ h4 h5) (clean_cons (by decide) (clean_mid h6))))
theorem fldL_clean {f : Fld} (h0 : token f.f0.data.toList = true) (h1 : value f.f1.data.toList = true) : clean (fldL f) :=
  clean_app (clean_token h0) (clean_cons (by decide) (clean_cons (by decide) (clean_value h1)))
/-! ### lines are read as they were written -/
theorem first_back {h : Head} (ok : HdOk h) (p : Par) (hst : p.st = if h.f0 then 0 else 1) (hhd : p.hd = head0 h.f0) : lineS p (firstL h) = ({ p with hd := ⟨h.f0, h.f1, h.f2, h.f3, h.f4, h.f5, []⟩, st := 2 }, 0) := by
  obtain ⟨hv, hv2⟩ := version_back h.f3 ok.minor
  rcases ok.first with ⟨e, h1, h2, h4, h5⟩ | ⟨e, h1, h2, h4, h5, h6⟩
  · rw [e] at hst hhd
    simp only [if_true] at hst
    have ha : (32 : UInt8) ∉ h.f1.data.toList := fun hc => (tch_ch' _ ((token_mem h1).1 _ hc)).2.2.2.1 rfl
    have hb : (32 : UInt8) ∉ h.f2.data.toList := fun hc => (vis_ch' _ ((vis_mem h2).1 _ hc)).2.2.2 rfl
    unfold lineS
    rw [hst]
    simp only
    unfold reqS firstL
    rw [if_pos e, if_neg (by rintro ⟨h7, _⟩; simp at h7), three_of _ _ _ ha hb]
    simp only
    rw [if_neg (by rintro (h7 | h7 | h7); exact hv2 (by simpa using h7); (rw [h1] at h7; cases h7); (rw [h2] at h7; cases h7)), hv, hhd]
    simp only [head0, mkB_of, h4, h5, e]
  · rw [e] at hst hhd
    simp only [Bool.false_eq_true, if_false] at hst
    obtain ⟨s1, s2, s3⟩ := status_back' h.f4 h4 h5
    unfold lineS
    rw [hst]
    simp only
    unfold respS firstL
    rw [if_neg (by rw [e]; decide), three_of _ _ _ hv2 s3]
    simp only
    rw [s2, hv, if_neg (by rintro (h7 | h7 | h7 | h7 | h7); exact h7 s1; (rw [h6] at h7; cases h7); exact h7 rfl; (simp only at h7; omega); (simp only at h7; omega)), hhd]
    simp only [head0, mkB_of, h1, h2, e]
theorem field_back {f : Fld} (h0 : token f.f0.data.toList = true) (h1 : value f.f1.data.toList = true) : fldL f ≠ [] ∧ fieldE (fldL f) = 0 ∧ fieldF (fldL f) = f := by
  have hn : (58 : UInt8) ∉ f.f0.data.toList := fun hc => (tch_ch' _ ((token_mem h0).1 _ hc)).2.2.1 rfl
  have hc : Lib.cut (fldL f) [58] = (f.f0.data.toList, 32 :: f.f1.data.toList, true) := hcut_one _ _ _ hn
  have ht : trim (32 :: f.f1.data.toList) = f.f1.data.toList := by rw [trim_blank', (value_mem h1).2]
  refine ⟨by unfold fldL; simp, ?_, ?_⟩
  · unfold fieldE
    rw [hc]
    simp only
    rw [ht]
    obtain ⟨m1, m2⟩ := token_mem h0
    have hb0 : isBlank ((fldL f).getD 0 0) = false := by
      unfold fldL
      cases hl : f.f0.data.toList with
      | nil => exact absurd hl m2
      | cons x r => exact (tch_ch' x (m1 x (by rw [hl]; simp))).2.2.2.2.1
    have hlb : lastBlank f.f0.data.toList = false := by
      unfold lastBlank
      cases hl : f.f0.data.toList.reverse with
      | nil => rfl
      | cons x r => exact (tch_ch' x (m1 x (by rw [← List.mem_reverse, hl]; simp))).2.2.2.2.1
    rw [hb0, hlb, h0, h1]
    rfl
  · unfold fieldF
    rw [hc]
    simp only
    rw [ht, mkB_of, mkB_of]
theorem field_spec (l : Bs) (h : fieldE l = 0) : token (fieldF l).f0.data.toList = true ∧ value (fieldF l).f1.data.toList = true ∧ (fieldF l).f0.size + (fieldF l).f1.size + 1 ≤ l.length := by
  unfold fieldE at h
  unfold fieldF
  simp only [mkB_data, mkB_size]
  rcases cut_spec l 58 with ⟨a, b, hx, e, hc⟩ | ⟨hx, hc⟩
  · rw [hc] at h ⊢
    simp only at h ⊢
    have hl : (trim b).length ≤ b.length := trim_length b
    repeat' split at h
    all_goals first
      | (cases h; done)
      | (rename_i h1 h2 h3 h4 h5
         refine ⟨by simpa using h4, by simpa using h5, ?_⟩
         rw [e]; simp only [List.length_append, List.length_cons]; omega)
  · rw [hc] at h
    simp only [if_true] at h
    repeat' split at h
    all_goals cases h
/-! ### a text is read as that head -/
theorem rd_last' (l : List Int) (c : Int) : rd (l ++ [c]) (((l ++ [c]).length : Int) - 1) = c := by
  unfold rd
  have : ((((l ++ [c]).length : Nat) : Int) - 1).toNat = l.length := by rw [List.length_append]; simp
  rw [this]
  simp
theorem not_after' (l : List Int) (hl : ∀ x ∈ l, x ≠ 13) : (decide (0 < l.length) && (rd l ((l.length : Int) - 1) == 13)) = false := by
  rcases List.eq_nil_or_concat l with rfl | ⟨a, x, rfl⟩
  · rfl
  · rw [List.concat_eq_append] at hl ⊢
    rw [rd_last']
    have := hl x (by simp)
    simp [this]
def par (m rd li : Int) (line : List Int) (st : Nat) (hd : Head) : Par := ⟨m, rd, li, line, st, hd, false, none⟩
def HRuns (p : Par) (a : List Int) (p' : Par) : Prop := ∀ b n, feedP p (a ++ b) n = feedP p' b (n + a.length)
theorem HRuns.nil (p : Par) : HRuns p [] p := fun b n => rfl
theorem HRuns.trans {p q r : Par} {a c : List Int} (h : HRuns p a q) (k : HRuns q c r) : HRuns p (a ++ c) r := fun b n => by
  rw [List.append_assoc, h, k, List.length_append, Nat.add_assoc]
theorem HRuns.one {p q : Par} {c : Int} (hw : p.whole = false) (he : p.err = none) (h : takeS p c = (q, none)) (hq : q.err = none) : HRuns p [c] q := fun b n => by
  rw [List.singleton_append, feedP_next p c b n hw he, h]
  have e : ({ q with err := none } : Par) = q := by rw [← hq]
  simp only
  rw [e]
  rfl
theorem take_char {m rd li : Int} {line : List Int} {st : Nat} {hd : Head} (c : Int) (h10 : c ≠ 10) (h13 : c ≠ 13) (hl : ∀ x ∈ line, x ≠ 13) (hn : line.length < 8192) (hm : rd + 1 ≤ m) : takeS (par m rd li line st hd) c = (par m (rd + 1) li (line ++ [c]) st hd, none) := by
  unfold takeS par
  simp only
  rw [not_after' line hl, show (c == 10) = false by simpa using h10]
  rw [if_neg (by simp), if_neg (by rintro (h | ⟨_, h⟩); omega; (rw [if_pos ⟨h10, h13⟩] at h; omega)), if_pos h10]
theorem take_cr {m rd li : Int} {line : List Int} {st : Nat} {hd : Head} (hl : ∀ x ∈ line, x ≠ 13) (hn : line.length ≤ 8192) (hm : rd + 1 ≤ m) : takeS (par m rd li line st hd) 13 = (par m (rd + 1) li (line ++ [13]) st hd, none) := by
  unfold takeS par
  simp only
  rw [not_after' line hl]
  rw [if_neg (by decide), if_neg (by rintro (h | ⟨_, h⟩); omega; (rw [if_neg (by rintro ⟨_, h5⟩; exact h5 rfl)] at h; omega)), if_pos (by decide)]
theorem take_lf {m rd li : Int} {l : List Int} {st : Nat} {hd : Head} (hm : rd + 1 ≤ m) : takeS (par m rd li (l ++ [13]) st hd) 10 = ((lineS (par m (rd + 1) (li + 1) [] st hd) (bytesS l)).1, if (lineS (par m (rd + 1) (li + 1) [] st hd) (bytesS l)).2 = 0 then none else some (.at (li + 1) (lineS (par m (rd + 1) (li + 1) [] st hd) (bytesS l)).2)) := by
  unfold takeS par
  simp only
  rw [rd_last']
  have h1 : decide (0 < (l ++ [13]).length) = true := by simp
  have h2 : (l ++ [13]).take ((l ++ [13]).length - 1) = l := by simp
  rw [h1, h2, if_neg (by decide), if_neg (by rintro (h | ⟨h, _⟩); omega; cases h), if_neg (by decide)]
theorem run_chars {m li : Int} {st : Nat} {hd : Head} (a : List Int) : ∀ (rd : Int) (line : List Int), (∀ x ∈ line, x ≠ 13) → (∀ c ∈ a, c ≠ 10 ∧ c ≠ 13) → line.length + a.length ≤ 8192 → rd + a.length ≤ m → HRuns (par m rd li line st hd) a (par m (rd + a.length) li (line ++ a) st hd) := by
  induction a with
  | nil => intro rd line _ _ _ _; simpa using HRuns.nil _
  | cons c r ih =>
    intro rd line hl ha hn hm
    have hc := ha c (by simp)
    simp only [List.length_cons] at hn hm
    have h1 : HRuns (par m rd li line st hd) [c] (par m (rd + 1) li (line ++ [c]) st hd) := HRuns.one rfl rfl (take_char c hc.1 hc.2 hl (by omega) (by omega)) rfl
    have h2 := ih (rd + 1) (line ++ [c]) (fun x hx => (List.mem_append.1 hx).elim (hl x) (fun h => by rw [List.mem_singleton.1 h]; exact hc.2)) (fun x hx => ha x (by simp [hx])) (by simp; omega) (by omega)
    have h3 := h1.trans h2
    rw [List.singleton_append, List.append_assoc, List.singleton_append] at h3
    have e : rd + 1 + (r.length : Int) = rd + ((c :: r).length : Int) := by simp only [List.length_cons]; omega
    rw [e] at h3
    exact h3
theorem nOf_ch' (l : Bs) (h : clean l) : ∀ c ∈ nOf l, c ≠ 10 ∧ c ≠ 13 := by
  intro c hc
  unfold nOf at hc
  obtain ⟨b, hb, rfl⟩ := List.mem_map.1 hc
  obtain ⟨h1, h2⟩ := h b hb
  constructor
  · intro e; exact h1 (UInt8.toNat_inj.1 (by show b.toNat = 10; omega))
  · intro e; exact h2 (UInt8.toNat_inj.1 (by show b.toNat = 13; omega))
theorem nOf_app' (a b : List UInt8) : nOf (a ++ b) = nOf a ++ nOf b := by unfold nOf; rw [List.map_append]
theorem bytesS_nOf (l : Bs) : bytesS (nOf l) = l := by
  unfold bytesS
  have h := Px.str_nums l
  rw [show nOf l = l.map fun c => (c.toNat : Int) from rfl, h, mkB_data]
/-- A line. -/
theorem run_line {m rd li : Int} {st : Nat} {hd : Head} (t : Bs) (q : Par) (ht : clean t) (hn : t.length ≤ 8192) (hm : rd + t.length + 2 ≤ m) (hq : lineS (par m (rd + t.length + 2) (li + 1) [] st hd) t = (q, 0)) (he : q.err = none) :
    HRuns (par m rd li [] st hd) (nOf (t ++ crlf)) q := by
  have h1 : HRuns (par m rd li [] st hd) (nOf t) (par m (rd + t.length) li (nOf t) st hd) := by
    have h5 := run_chars (m := m) (li := li) (st := st) (hd := hd) (nOf t) rd [] (fun x hx => by cases hx) (nOf_ch' t ht) (by rw [nOf_length]; simpa using hn) (by rw [nOf_length]; omega)
    rw [nOf_length, List.nil_append] at h5
    exact h5
  have h2 : HRuns (par m (rd + t.length) li (nOf t) st hd) [13] (par m (rd + t.length + 1) li (nOf t ++ [13]) st hd) := HRuns.one rfl rfl (take_cr (fun x hx => (nOf_ch' t ht x hx).2) (by rw [nOf_length]; exact hn) (by omega)) rfl
  have h3 : HRuns (par m (rd + t.length + 1) li (nOf t ++ [13]) st hd) [10] q := by
    refine HRuns.one rfl rfl ?_ he
    rw [take_lf (by omega), bytesS_nOf, show rd + (t.length : Int) + 1 + 1 = rd + t.length + 2 by omega, hq]
    rfl
  have h4 := (h1.trans h2).trans h3
  rw [nOf_app', show nOf crlf = [13] ++ [10] from rfl, ← List.append_assoc]
  exact h4
theorem run_fld {m rd li : Int} {hd : Head} (f : Fld) (h0 : token f.f0.data.toList = true) (h1 : value f.f1.data.toList = true) (hn : f.f0.size + f.f1.size ≤ 8190) (hf : hd.f6.length < 100) (hm : rd + (fldT f).length ≤ m) :
    HRuns (par m rd li [] 2 hd) (nOf (fldT f)) (par m (rd + (fldT f).length) (li + 1) [] 2 ⟨hd.f0, hd.f1, hd.f2, hd.f3, hd.f4, hd.f5, hd.f6 ++ [f]⟩) := by
  obtain ⟨b1, b2, b3⟩ := field_back h0 h1
  have hlen : (fldL f).length = f.f0.size + f.f1.size + 2 := by
    unfold fldL; rw [sz, sz]; simp only [List.length_append, List.length_cons]; omega
  have hlt : (fldT f).length = (fldL f).length + 2 := by rw [fldT_eq]; simp [crlf]
  have h5 := run_line (m := m) (rd := rd) (li := li) (st := 2) (hd := hd) (fldL f) (par m (rd + (fldL f).length + 2) (li + 1) [] 2 ⟨hd.f0, hd.f1, hd.f2, hd.f3, hd.f4, hd.f5, hd.f6 ++ [f]⟩) (fldL_clean h0 h1) (by omega) (by omega) (by
    unfold lineS
    show fldS (par m (rd + (fldL f).length + 2) (li + 1) [] 2 hd) (fldL f) = _
    unfold fldS
    rw [if_neg b1, b2, b3, if_neg (by decide), if_neg (by show ¬ hd.f6.length = 100; omega)]
    rfl) rfl
  rw [fldT_eq]
  have e : rd + ((fldL f ++ crlf).length : Int) = rd + (fldL f).length + 2 := by simp only [List.length_append, crlf, List.length_cons, List.length_nil]; omega
  rw [e]
  exact h5
theorem run_flds {m : Int} (l : List Fld) : ∀ (rd li : Int) (hd : Head), (∀ f ∈ l, token f.f0.data.toList = true ∧ value f.f1.data.toList = true) → (∀ f ∈ l, f.f0.size + f.f1.size ≤ 8190) → hd.f6.length + l.length ≤ 100 → rd + (l.flatMap fldT).length ≤ m →
    HRuns (par m rd li [] 2 hd) (nOf (l.flatMap fldT)) (par m (rd + (l.flatMap fldT).length) (li + l.length) [] 2 ⟨hd.f0, hd.f1, hd.f2, hd.f3, hd.f4, hd.f5, hd.f6 ++ l⟩) := by
  induction l with
  | nil =>
    intro rd li hd _ _ _ _
    simp only [List.flatMap_nil, List.length_nil, Int.natCast_zero, Int.add_zero, List.append_nil]
    exact HRuns.nil _
  | cons f r ih =>
    intro rd li hd hf hs hn hm
    rw [List.flatMap_cons, List.length_append] at hm
    simp only [List.length_cons] at hn
    have h1 := run_fld (m := m) (rd := rd) (li := li) (hd := hd) f (hf f (by simp)).1 (hf f (by simp)).2 (hs f (by simp)) (by omega) (by omega)
    have h2 := ih (rd + (fldT f).length) (li + 1) ⟨hd.f0, hd.f1, hd.f2, hd.f3, hd.f4, hd.f5, hd.f6 ++ [f]⟩ (fun x hx => hf x (by simp [hx])) (fun x hx => hs x (by simp [hx])) (by simp; omega) (by omega)
    have h3 := h1.trans h2
    rw [← nOf_app', List.append_assoc, List.singleton_append] at h3
    rw [List.flatMap_cons, List.length_append]
    have e1 : rd + ((fldT f).length : Int) + ((r.flatMap fldT).length : Int) = rd + (((fldT f).length + (r.flatMap fldT).length : Nat) : Int) := by omega
    have e2 : li + 1 + (r.length : Int) = li + ((f :: r).length : Int) := by simp only [List.length_cons]; omega
    rw [e1, e2] at h3
    exact h3
/-- There and back. -/
theorem parse_back {h : Head} (ok : HdOk h) (hn : (textS h).length ≤ 65536) (h1 : (firstL h).length ≤ 8192) (hs : ∀ f ∈ h.f6, f.f0.size + f.f1.size ≤ 8190) (more : List Int) : parseS h.f0 (nOf (textS h) ++ more) = (h, ((textS h).length : Int), 0) := by
  have e0 : textS h = (firstL h ++ crlf) ++ (h.f6.flatMap fldT ++ crlf) := by unfold textS; rw [firstT_eq, List.append_assoc]
  have hlen : (textS h).length = (firstL h).length + 2 + (h.f6.flatMap fldT).length + 2 := by rw [e0]; simp only [List.length_append, crlf, List.length_cons, List.length_nil]; omega
  have r1 := run_line (m := 65536) (rd := 0) (li := 0) (st := if h.f0 then 0 else 1) (hd := head0 h.f0) (firstL h) (par 65536 (0 + (firstL h).length + 2) (0 + 1) [] 2 ⟨h.f0, h.f1, h.f2, h.f3, h.f4, h.f5, []⟩) (firstL_clean ok) h1 (by omega) (first_back ok _ rfl rfl) rfl
  have r2 := run_flds (m := 65536) h.f6 (0 + (firstL h).length + 2) (0 + 1) ⟨h.f0, h.f1, h.f2, h.f3, h.f4, h.f5, []⟩ ok.flds hs (by simpa using ok.few) (by omega)
  have r3 := run_line (m := 65536) (rd := 0 + (firstL h).length + 2 + (h.f6.flatMap fldT).length) (li := 0 + 1 + h.f6.length) (st := 2) (hd := h) [] ⟨65536, 0 + (firstL h).length + 2 + (h.f6.flatMap fldT).length + ((([] : Bs).length : Nat) : Int) + 2, 0 + 1 + h.f6.length + 1, [], 2, h, true, none⟩ (fun c hc => by cases hc) (by decide) (by simp only [List.length_nil]; omega) rfl rfl
  have r4 := (r1.trans r2).trans r3
  rw [List.nil_append, ← nOf_app', ← nOf_app', List.append_assoc, ← e0] at r4
  have r5 := r4 more 0
  unfold parseS
  rw [show newPar h.f0 65536 = par 65536 0 0 [] (if h.f0 then 0 else 1) (head0 h.f0) from rfl, r5, feedP_stop _ more _ (.inr (.inl rfl)), nOf_length, Nat.zero_add]
  simp only
  rw [if_neg (by decide), if_neg (by decide)]
theorem print_back {h : Head} (ok : HdOk h) (hn : (textS h).length ≤ 65536) (h1 : (firstL h).length ≤ 8192) (hs : ∀ f ∈ h.f6, f.f0.size + f.f1.size ≤ 8190) : printS h = (textS h, 0) := by
  have h5 := parse_back ok hn h1 hs []
  rw [List.append_nil] at h5
  unfold printS
  rw [if_neg (by have := ok.few; omega), h5]
  rw [if_neg (by rintro (h7 | h7 | h7); exact h7 rfl; exact h7 rfl; (simp only at h7; rw [(sameB_iff h h).2 rfl] at h7; cases h7))]
/-! ### what is read -/
def wtF (l : List Fld) : Nat := (l.map fun f => f.f0.size + f.f1.size + 3).sum
theorem wtF_snoc (l : List Fld) (f : Fld) : wtF (l ++ [f]) = wtF l + (f.f0.size + f.f1.size + 3) := by unfold wtF; simp
structure InvP (rq : Bool) (p : Par) (n : Nat) : Prop where
  rd : p.rd = n
  line : p.line.length ≤ 8193
  li : 0 ≤ p.lines ∧ p.lines ≤ n
  st : (p.st = (if rq then 0 else 1) ∧ p.hd = head0 rq ∧ p.whole = false ∧ p.line.length ≤ n) ∨ (p.st = 2 ∧ HdOk p.hd ∧ p.hd.f0 = rq ∧ (firstL p.hd).length ≤ 8192 ∧ (firstL p.hd).length + 2 + wtF p.hd.f6 + (if p.whole then 2 else p.line.length) ≤ n)
theorem bytesS_length (l : List Int) : (bytesS l).length = l.length := by
  unfold bytesS strOfNums
  simp
theorem req_spec (p q : Par) (l : Bs) (h : reqS p l = (q, 0)) (hhd : p.hd = head0 true) : q = p ∨ (q = { p with hd := q.hd, st := 2 } ∧ HdOk q.hd ∧ q.hd.f0 = true ∧ q.hd.f6 = [] ∧ firstL q.hd = l) := by
  unfold reqS at h
  split at h
  · exact .inl (Prod.mk.inj h).1.symm
  · split at h
    · cases (Prod.mk.inj h).2
    · rename_i a b c h3
      split at h
      · cases (Prod.mk.inj h).2
      · rename_i hn
        obtain ⟨e1, e2⟩ := Prod.mk.inj h
        obtain ⟨g1, g2, g3⟩ := three_spec l a b c h3
        obtain ⟨v1, v2⟩ := version_spec c e2
        have ht : token a = true := by cases ht : token a with | true => rfl | false => exact absurd (.inr (.inl ht)) hn
        have hv : visS b = true := by cases hv : visS b with | true => rfl | false => exact absurd (.inr (.inr hv)) hn
        subst e1
        refine .inr ⟨rfl, ⟨.inl ⟨?_, ?_, ?_, ?_, ?_⟩, v1, ?_, ?_⟩, ?_, ?_, ?_⟩ <;> simp only [hhd, head0, mkB_data]
        · exact ht
        · exact hv
        · intro f hf; cases hf
        · decide
        · unfold firstL
          simp only [if_true, mkB_data]
          rw [← v2, g1]
theorem resp_spec (p q : Par) (l : Bs) (h : respS p l = (q, 0)) (hhd : p.hd = head0 false) : q = { p with hd := q.hd, st := 2 } ∧ HdOk q.hd ∧ q.hd.f0 = false ∧ q.hd.f6 = [] ∧ firstL q.hd = l := by
  unfold respS at h
  split at h
  · cases (Prod.mk.inj h).2
  · rename_i a b c h3
    split at h
    · cases (Prod.mk.inj h).2
    · rename_i hn
      obtain ⟨e1, e2⟩ := Prod.mk.inj h
      obtain ⟨g1, g2, g3⟩ := three_spec l a b c h3
      obtain ⟨v1, v2⟩ := version_spec a e2
      have hl : b.length = 3 := by by_cases h5 : b.length = 3; exact h5; exact absurd (.inl h5) hn
      have hv : value ([97] ++ c ++ [97]) = true := by cases hv : value ([97] ++ c ++ [97]) with | true => rfl | false => exact absurd (.inr (.inl hv)) hn
      have hd : (digits 10 b).2 = 0 := by by_cases h5 : (digits 10 b).2 = 0; exact h5; exact absurd (.inr (.inr (.inl h5))) hn
      have h100 : 100 ≤ (digits 10 b).1 := by by_cases h5 : (digits 10 b).1 < 100; exact absurd (.inr (.inr (.inr (.inl h5)))) hn; omega
      have h599 : (digits 10 b).1 ≤ 599 := by by_cases h5 : 599 < (digits 10 b).1; exact absurd (.inr (.inr (.inr (.inr h5)))) hn; omega
      subst e1
      refine ⟨rfl, ⟨.inr ⟨?_, ?_, ?_, ?_, ?_, ?_⟩, v1, ?_, ?_⟩, ?_, ?_, ?_⟩ <;> simp only [hhd, head0, mkB_data]
      · exact h100
      · exact h599
      · exact hv
      · intro f hf; cases hf
      · decide
      · unfold firstL
        simp only [Bool.false_eq_true, if_false, mkB_data]
        rw [← v2, ← status_spec b hl hd h100, g1]
theorem fld_spec (p q : Par) (l : Bs) (h : fldS p l = (q, 0)) (hf : p.hd.f6.length ≤ 100) : (l = [] ∧ q = { p with whole := true }) ∨ (∃ f : Fld, token f.f0.data.toList = true ∧ value f.f1.data.toList = true ∧ f.f0.size + f.f1.size + 1 ≤ l.length ∧ p.hd.f6.length < 100 ∧ q = { p with hd := ⟨p.hd.f0, p.hd.f1, p.hd.f2, p.hd.f3, p.hd.f4, p.hd.f5, p.hd.f6 ++ [f]⟩ }) := by
  unfold fldS at h
  split at h
  · rename_i hl
    exact .inl ⟨hl, (Prod.mk.inj h).1.symm⟩
  · split at h
    · rename_i h1 h2
      exact absurd (Prod.mk.inj h).2 h2
    · rename_i h1 h2
      split at h
      · cases (Prod.mk.inj h).2
      · rename_i h3
        have h2 : fieldE l = 0 := by by_cases h5 : fieldE l = 0; exact h5; exact absurd h5 h2
        obtain ⟨a, b, c⟩ := field_spec l h2
        exact .inr ⟨fieldF l, a, b, c, by omega, (Prod.mk.inj h).1.symm⟩
theorem HdOk.add {h : Head} (ok : HdOk h) (f : Fld) (h0 : token f.f0.data.toList = true) (h1 : value f.f1.data.toList = true) (hf : h.f6.length < 100) : HdOk ⟨h.f0, h.f1, h.f2, h.f3, h.f4, h.f5, h.f6 ++ [f]⟩ :=
  ⟨ok.first, ok.minor, fun g hg => (List.mem_append.1 hg).elim (ok.flds g) (fun h => by rw [List.mem_singleton.1 h]; exact ⟨h0, h1⟩), by simp; omega⟩
theorem take_gen (A : Bool) (B : Prop) [Decidable B] (c : Int) (p q p2 p3 : Par) (L : Par × Int) (n : Int) (h : (if A = true then (p, some (Er.bare 81)) else if B then (p2, some (Er.bare 85)) else if c ≠ 10 then (p3, none) else (L.1, if L.2 = 0 then none else some (Er.at n L.2))) = (q, none)) : ¬ A = true ∧ ¬ B ∧ ((c ≠ 10 ∧ p3 = q) ∨ (c = 10 ∧ L = (q, 0))) := by
  by_cases hA : A = true
  · rw [if_pos hA] at h; cases (Prod.mk.inj h).2
  · rw [if_neg hA] at h
    by_cases hB : B
    · rw [if_pos hB] at h; cases (Prod.mk.inj h).2
    · rw [if_neg hB] at h
      refine ⟨hA, hB, ?_⟩
      by_cases hc : c ≠ 10
      · rw [if_pos hc] at h; exact .inl ⟨hc, (Prod.mk.inj h).1⟩
      · rw [if_neg hc] at h
        refine .inr ⟨by omega, ?_⟩
        obtain ⟨e1, e2⟩ := Prod.mk.inj h
        by_cases h5 : L.2 = 0
        · exact Prod.ext e1 h5
        · rw [if_neg h5] at e2; cases e2
theorem take_none (p q : Par) (c : Int) (h : takeS p c = (q, none)) : (p.rd + 1 ≤ p.most ∧ c ≠ 10 ∧ p.line.length ≤ 8192 ∧ q = { p with rd := p.rd + 1, line := p.line ++ [c] }) ∨ (p.rd + 1 ≤ p.most ∧ 1 ≤ p.line.length ∧ lineS { p with rd := p.rd + 1, line := [], lines := p.lines + 1 } (bytesS (p.line.take (p.line.length - 1))) = (q, 0)) := by
  obtain ⟨h1, h2, h3⟩ := take_gen _ _ c p q _ _ _ _ h
  have hm : p.rd + 1 ≤ p.most := by by_cases h5 : p.rd + 1 > p.most; exact absurd (.inl h5) h2; omega
  rcases h3 with ⟨h3, h4⟩ | ⟨h3, h4⟩
  · refine .inl ⟨hm, h3, ?_, h4.symm⟩
    have ha : (decide (0 < p.line.length) && (rd p.line ((p.line.length : Int) - 1) == 13)) = false := by
      have hb : (c == 10) = false := by simpa using h3
      rw [hb] at h1
      simpa using h1
    by_cases h5 : p.line.length ≤ 8192
    · exact h5
    · exfalso
      refine h2 (.inr ⟨ha, ?_⟩)
      split <;> omega
  · refine .inr ⟨hm, ?_, h4⟩
    by_cases h5 : 0 < p.line.length
    · exact h5
    · exfalso
      apply h1
      rw [h3, show decide (0 < p.line.length) = false from decide_eq_false h5]
      rfl
theorem inv_take {rq : Bool} {p q : Par} {n : Nat} (hI : InvP rq p n) (hw : p.whole = false) (c : Int) (h : takeS p c = (q, none)) : InvP rq { q with err := none } (n + 1) := by
  obtain ⟨hrd, hln, hli, hst⟩ := hI
  rcases take_none p q c h with ⟨hm, hc, hl, rfl⟩ | ⟨hm, hl, hq⟩
  · refine ⟨by show p.rd + 1 = _; omega, by show (p.line ++ [c]).length ≤ _; simp; omega, ⟨hli.1, by show p.lines ≤ _; omega⟩, ?_⟩
    rcases hst with ⟨s1, s2, s3, s4⟩ | ⟨s1, s2, s3, s4, s5⟩
    · exact .inl ⟨s1, s2, s3, by show (p.line ++ [c]).length ≤ _; simp; omega⟩
    · refine .inr ⟨s1, s2, s3, s4, ?_⟩
      rw [hw] at s5
      show _ + (if p.whole then 2 else (p.line ++ [c]).length) ≤ _
      rw [hw]
      simp only [Bool.false_eq_true, if_false, List.length_append, List.length_singleton] at s5 ⊢
      omega
  · obtain ⟨l, hlq⟩ : ∃ l, l = bytesS (p.line.take (p.line.length - 1)) := ⟨_, rfl⟩
    rw [← hlq] at hq
    have hll : l.length = p.line.length - 1 := by rw [hlq, bytesS_length, List.length_take]; omega
    rcases hst with ⟨s1, s2, s3, s4⟩ | ⟨s1, s2, s3, s4, s5⟩
    · cases rq with
      | true =>
        simp only [if_true] at s1
        have hq2 : reqS { p with rd := p.rd + 1, line := [], lines := p.lines + 1 } l = (q, 0) := by
          unfold lineS at hq
          simp only [s1] at hq
          rw [s1]; exact hq
        rcases req_spec _ q l hq2 s2 with rfl | ⟨e, ok, e0, e6, ef⟩
        · exact ⟨by show p.rd + 1 = _; omega, by show 0 ≤ _; omega, ⟨by show 0 ≤ p.lines + 1; omega, by show p.lines + 1 ≤ _; omega⟩, .inl ⟨s1, s2, s3, by show 0 ≤ _; omega⟩⟩
        · rw [e]
          refine ⟨by show p.rd + 1 = _; omega, by show 0 ≤ _; omega, ⟨by show 0 ≤ p.lines + 1; omega, by show p.lines + 1 ≤ _; omega⟩, .inr ⟨rfl, ok, e0, by show (firstL q.hd).length ≤ _; rw [ef]; omega, ?_⟩⟩
          show (firstL q.hd).length + 2 + wtF q.hd.f6 + (if p.whole then 2 else 0) ≤ _
          rw [ef, e6, hw]
          show l.length + 2 + 0 + 0 ≤ _
          omega
      | false =>
        simp only [Bool.false_eq_true, if_false] at s1
        have hq2 : respS { p with rd := p.rd + 1, line := [], lines := p.lines + 1 } l = (q, 0) := by
          unfold lineS at hq
          simp only [s1] at hq
          rw [s1]; exact hq
        obtain ⟨e, ok, e0, e6, ef⟩ := resp_spec _ q l hq2 s2
        rw [e]
        refine ⟨by show p.rd + 1 = _; omega, by show 0 ≤ _; omega, ⟨by show 0 ≤ p.lines + 1; omega, by show p.lines + 1 ≤ _; omega⟩, .inr ⟨rfl, ok, e0, by show (firstL q.hd).length ≤ _; rw [ef]; omega, ?_⟩⟩
        show (firstL q.hd).length + 2 + wtF q.hd.f6 + (if p.whole then 2 else 0) ≤ _
        rw [ef, e6, hw]
        show l.length + 2 + 0 + 0 ≤ _
        omega
    · have hq2 : fldS { p with rd := p.rd + 1, line := [], lines := p.lines + 1 } l = (q, 0) := by
        unfold lineS at hq
        simp only [s1] at hq
        rw [s1]; exact hq
      rw [hw] at s5
      simp only [Bool.false_eq_true, if_false] at s5
      rcases fld_spec _ q l hq2 s2.few with ⟨e1, rfl⟩ | ⟨f, f1, f2, f3, f4, rfl⟩
      · refine ⟨by show p.rd + 1 = _; omega, by show 0 ≤ _; omega, ⟨by show 0 ≤ p.lines + 1; omega, by show p.lines + 1 ≤ _; omega⟩, .inr ⟨s1, s2, s3, s4, ?_⟩⟩
        show (firstL p.hd).length + 2 + wtF p.hd.f6 + 2 ≤ _
        omega
      · refine ⟨by show p.rd + 1 = _; omega, by show 0 ≤ _; omega, ⟨by show 0 ≤ p.lines + 1; omega, by show p.lines + 1 ≤ _; omega⟩, .inr ⟨s1, s2.add f f1 f2 f4, s3, s4, ?_⟩⟩
        show (firstL p.hd).length + 2 + wtF (p.hd.f6 ++ [f]) + (if p.whole then 2 else 0) ≤ _
        rw [wtF_snoc, hw]
        simp only [Bool.false_eq_true, if_false]
        omega
theorem inv_feed (b : List Int) : ∀ (rq : Bool) (p : Par) (n : Nat), p.err = none → InvP rq p n → (feedP p b n).1.err = none → InvP rq (feedP p b n).1 (feedP p b n).2 := by
  induction b with
  | nil => intro rq p n _ h _; exact h
  | cons c r ih =>
    intro rq p n he h hf
    by_cases hs : p.whole = true
    · rw [feedP_stop p _ n (.inr (.inl hs))]; exact h
    · have hw : p.whole = false := by simpa using hs
      rw [feedP_next p c r n hw he] at hf ⊢
      obtain ⟨⟨q, er⟩, hq⟩ : ∃ q, q = takeS p c := ⟨_, rfl⟩
      rw [← hq] at hf ⊢
      cases er with
      | some y => rw [feedP_stop _ _ _ (.inr (.inr rfl))] at hf; cases hf
      | none => exact ih rq _ (n + 1) rfl (inv_take h hw c hq.symm) hf
theorem inv_new (rq : Bool) (m : Int) : InvP rq (newPar rq m) 0 := ⟨rfl, by show 0 ≤ 8193; omega, ⟨Int.le_refl _, Int.le_refl _⟩, .inl ⟨rfl, rfl, rfl, Nat.le_refl _⟩⟩
theorem textS_length (h : Head) : (textS h).length = (firstL h).length + 2 + wtF h.f6 + h.f6.length + 2 := by
  have key : ∀ l : List Fld, (l.flatMap fldT).length = wtF l + l.length := by
    intro l
    induction l with
    | nil => rfl
    | cons f r ih =>
      rw [List.flatMap_cons, List.length_append, ih, fldT_eq]
      unfold fldL wtF crlf
      rw [List.map_cons, List.sum_cons, sz, sz]
      simp only [List.length_append, List.length_cons, List.length_nil]
      omega
  unfold textS
  rw [firstT_eq, List.length_append, List.length_append, List.length_append, key]
  simp only [crlf, List.length_cons, List.length_nil]
  omega
theorem code_none {o : Option Er} (h : ∀ e, o = some e → ¬ codeOf o = 0) (h0 : codeOf o = 0) : o = none := by
  cases o with
  | none => rfl
  | some e => exact absurd h0 (h e rfl)
/-- What is wrong has a code. -/
theorem code_gen (A : Bool) (B : Prop) [Decidable B] (c : Int) (p p2 p3 : Par) (L : Par × Int) (n : Int) (h : codeOf (if A = true then (p, some (Er.bare 81)) else if B then (p2, some (Er.bare 85)) else if c ≠ 10 then (p3, none) else (L.1, if L.2 = 0 then none else some (Er.at n L.2))).2 = 0) : (if A = true then (p, some (Er.bare 81)) else if B then (p2, some (Er.bare 85)) else if c ≠ 10 then (p3, none) else (L.1, if L.2 = 0 then none else some (Er.at n L.2))).2 = none := by
  by_cases hA : A = true
  · rw [if_pos hA] at h; exact absurd (show (81 : Int) = 0 from h) (by decide)
  · rw [if_neg hA] at h ⊢
    by_cases hB : B
    · rw [if_pos hB] at h; exact absurd (show (85 : Int) = 0 from h) (by decide)
    · rw [if_neg hB] at h ⊢
      by_cases hc : c ≠ 10
      · rw [if_pos hc]
      · rw [if_neg hc] at h ⊢
        by_cases h5 : L.2 = 0
        · show (if L.2 = 0 then _ else _) = _
          rw [if_pos h5]
        · have h6 : codeOf (if L.2 = 0 then none else some (Er.at n L.2)) = 0 := h
          rw [if_neg h5] at h6
          exact absurd h6 h5
theorem takeS_code (p : Par) (c : Int) (h : codeOf (takeS p c).2 = 0) : (takeS p c).2 = none := code_gen _ _ c p _ _ _ _ h
theorem feed_code (b : List Int) : ∀ (p : Par) (n : Nat), p.err = none → codeOf (feedP p b n).1.err = 0 → (feedP p b n).1.err = none := by
  induction b with
  | nil => intro p n he _; exact he
  | cons c r ih =>
    intro p n he h
    by_cases hs : p.whole = true
    · rw [feedP_stop p _ n (.inr (.inl hs))]; exact he
    · have hw : p.whole = false := by simpa using hs
      rw [feedP_next p c r n hw he] at h ⊢
      by_cases h0 : (takeS p c).2 = none
      · rw [h0] at h ⊢
        exact ih _ _ rfl h
      · exfalso
        have h1 : ((takeS p c).2).isSome = true := by cases hx : (takeS p c).2 with | none => exact absurd hx h0 | some y => rfl
        rw [feedP_stop _ _ _ (.inr (.inr h1))] at h
        exact h0 (takeS_code p c h)
/-- What a head holds that is read. -/
theorem parse_holds (rq : Bool) (b : List Int) (h : (parseS rq b).2.2 = 0) : HdOk (parseS rq b).1 ∧ (parseS rq b).1.f0 = rq ∧ (firstL (parseS rq b).1).length ≤ 8192 ∧ ((textS (parseS rq b).1).length : Int) ≤ (parseS rq b).2.1 + ((parseS rq b).1.f6.length : Int) := by
  obtain ⟨h1, h2, h3⟩ := parseS_yes rq b h
  have h4 := feed_code b (newPar rq 65536) 0 rfl h1
  obtain ⟨i1, i2, i2l, i3⟩ := inv_feed b rq (newPar rq 65536) 0 rfl (inv_new rq 65536) h4
  rw [h3]
  simp only
  rcases i3 with ⟨_, _, s3, _⟩ | ⟨s1, s2, s3, s4, s5⟩
  · rw [s3] at h2; cases h2
  · rw [h2] at s5
    simp only [if_true] at s5
    refine ⟨s2, s3, s4, ?_⟩
    rw [textS_length]
    omega
end Go.Proofs.YtccolnlfjbgnmaaGreatDoor.Hd
