/- headraceref08's first line and field, plainly; own text of this session. -/
import Derived.Test.YtmlgejgnjfbblaaGreatDoorRh2
import Derived.Test.YtmlgejgnjfbblaaGreatDoorPx4
namespace Go.Proofs.YtmlgejgnjfbblaaGreatDoor.Hd
open Go.RowKit Go.Proofs.YtmlgejgnjfbblaaGreatDoorW.PrintWords Go.Proofs.YtmlgejgnjfbblaaGreatDoorW.PrintLast Chk Px Hr
set_option linter.unusedVariables false
set_option linter.unusedSimpArgs false
theorem mid_trim (c : Bs) : trim ([97] ++ c ++ [97]) = [97] ++ c ++ [97] := by
  rw [trim_eq]
  have e : trimR ([97] ++ c ++ [97]) = [97] ++ c ++ [97] := by
    unfold trimR
    rw [List.reverse_append]
    show (([97] ++ ([97] ++ c).reverse).dropWhile isBlank).reverse = _
    rw [List.singleton_append, List.dropWhile_cons_of_neg (by decide)]
    simp
  rw [e]
  unfold trimL
  rw [List.singleton_append, List.cons_append, List.dropWhile_cons_of_neg (by decide)]
theorem mid_value (c : Bs) : value ([97] ++ c ++ [97]) = c.all valOk := by
  unfold value
  have h97 : valOk 97 = true := by decide
  rw [mid_trim, beq_self_eq_true, Bool.and_true, List.all_append, List.all_append]
  simp [h97]
theorem version_blank {c : Bs} (h : c.contains 32 = true) : (versionS c).2 = 80 := by
  have hm : (32 : UInt8) ∈ c := by simpa using h
  unfold versionS
  by_cases h0 : c = http0
  · rw [h0] at hm; exact absurd hm (by decide)
  · rw [if_neg h0]
    by_cases h1 : c = http1
    · rw [h1] at hm; exact absurd hm (by decide)
    · rw [if_neg h1]
      by_cases hv : verLike c = true
      · exfalso
        unfold verLike at hv
        simp only [Bool.and_eq_true, decide_eq_true_eq, beq_iff_eq] at hv
        obtain ⟨⟨⟨⟨h8, h5⟩, d5⟩, d6⟩, d7⟩ := hv
        match c, h8, h5, d5, d6, d7, hm with
        | [c0, c1, c2, c3, c4, c5, c6, c7], _, h5, d5, d6, d7, hm =>
          simp only [List.take_succ_cons, List.take_zero, List.cons.injEq, and_true] at h5
          obtain ⟨rfl, rfl, rfl, rfl, rfl⟩ := h5
          have d5' : digB c5 = true := d5
          have d6' : c6 = 46 := d6
          have d7' : digB c7 = true := d7
          subst d6'
          simp only [List.mem_cons, List.not_mem_nil, or_false] at hm
          rcases hm with h | h | h | h | h | h | h | h
          · exact absurd h (by decide)
          · exact absurd h (by decide)
          · exact absurd h (by decide)
          · exact absurd h (by decide)
          · exact absurd h (by decide)
          · rw [← h] at d5'; exact absurd d5' (by decide)
          · exact absurd h (by decide)
          · rw [← h] at d7'; exact absurd d7' (by decide)
      · rw [if_neg hv]
/-- What first hands back. -/
def tupF (h : Head) (e : Int) : Bool × ByteArray × ByteArray × Int × Int × ByteArray × List P.S45 × Int := (h.f0, h.f1, h.f2, h.f3, h.f4, h.f5, h.f6, e)
def noHead : Head := head0 false
theorem vis_nat (c : UInt8) : ((c.toNat : Int) < 33 ∨ (c.toNat : Int) > 126) ↔ visB c = false := by
  unfold visB
  simp only [Bool.not_eq_false', Bool.or_eq_true, decide_eq_true_eq]
  omega
theorem ev_first_l0 (a b c : ByteArray) (ha : a.size ≤ 4611686018427387904) (hb : b.size ≤ 4611686018427387904) (h : Head) (e : Int)
    (hh : h = if (b.data.toList.all visB && (token a.data.toList && b.data.toList != [])) = true then ⟨true, a, b, (versionS c.data.toList).1, 0, ⟨#[]⟩, []⟩ else noHead)
    (he : e = if (b.data.toList.all visB && (token a.data.toList && b.data.toList != [])) = true then (versionS c.data.toList).2 else 80) (rest : Bs) : ∀ i : Nat, b.data.toList.drop i = rest → (b.data.toList.all visB = rest.all visB) → 
    Ev (fun k => P.headraceref08_first.l0 k a b c (i : Int)) (tupF h e) := by
  induction rest with
  | nil =>
    intro i hi hall
    have h1 := drop_nil hi
    rw [← sz] at h1
    refine Ev.step (fun k => rfl) ?_
    simp only [P.headraceref08_first.l0, if_neg (show ¬ ((i : Int) < (b.size : Int)) by omega)]
    rw [hall] at hh he
    simp only [List.all_nil, Bool.true_and] at hh he
    refine Ev.bind (ev_rToken a ha) ?_
    by_cases ht : token a.data.toList = true
    · rw [ht] at hh he ⊢
      simp only [if_true, Bool.true_and] at hh he ⊢
      rw [tl]
      by_cases hn : b.data.toList = ([] : List UInt8)
      · rw [hn] at hh he
        rw [if_neg (by decide)] at hh he
        rw [hh, he]
        simp only [if_pos hn]
        exact Ev.now _
      · have hb2 : (b.data.toList != []) = true := by simpa using hn
        rw [if_pos hb2] at hh he
        rw [hh, he]
        simp only [if_neg hn]
        exact Ev.bind (ev_rversion c) (Ev.now _)
    · have ht' : token a.data.toList = false := by simpa using ht
      rw [ht', Bool.false_and, if_neg (by decide)] at hh he
      rw [ht', hh, he]
      exact Ev.now _
  | cons x r ih =>
    intro i hi hall
    have h1 := drop_lt hi
    rw [← sz] at h1
    have hw := w64 (i := i) (by omega)
    refine Ev.step (fun k => rfl) ?_
    simp only [P.headraceref08_first.l0, if_pos (show (i : Int) < (b.size : Int) by omega), if_pos (show 0 ≤ (i : Int) by omega), bt_nat hi, hw]
    have hv := vis_nat x
    by_cases hx : visB x = true
    · have n1 : ¬ (x.toNat : Int) < 33 := fun h5 => by rw [hv.1 (.inl h5)] at hx; cases hx
      have n2 : ¬ (x.toNat : Int) > 126 := fun h5 => by rw [hv.1 (.inr h5)] at hx; cases hx
      simp only [if_neg n1, if_neg n2]
      refine ih (i + 1) (drop_succ hi) ?_
      rw [hall, List.all_cons, hx, Bool.true_and]
    · have hx' : visB x = false := by simpa using hx
      have hf : b.data.toList.all visB = false := by rw [hall, List.all_cons, hx', Bool.false_and]
      rw [hf, Bool.false_and, if_neg (by decide)] at hh he
      rw [hh, he]
      rcases hv.2 hx' with h5 | h5
      · simp only [if_pos h5]; exact Ev.now _
      · by_cases h6 : (x.toNat : Int) < 33
        · simp only [if_pos h6]; exact Ev.now _
        · simp only [if_neg h6, if_pos h5]; exact Ev.now _
theorem val_nat (c : UInt8) : (valOk c = false) ↔ (((c.toNat : Int) < 32 ∧ ¬ (c.toNat : Int) = 9) ∨ (c.toNat : Int) = 127) := by
  rw [valOk_nat]
  simp only [decide_eq_false_iff_not, Decidable.not_not]
  omega
theorem ev_first_l1 (c : ByteArray) (hc : c.size ≤ 4611686018427387904) (minor ev status : Int) (h : Head) (e : Int)
    (hh : h = if c.data.toList.all valOk = true then ⟨false, ⟨#[]⟩, ⟨#[]⟩, minor, status, c, []⟩ else noHead) (he : e = if c.data.toList.all valOk = true then ev else 80) (rest : Bs) : ∀ i : Nat, c.data.toList.drop i = rest → (c.data.toList.all valOk = rest.all valOk) →
    Ev (fun k => P.headraceref08_first.l1 k c minor ev status (i : Int)) (tupF h e) := by
  induction rest with
  | nil =>
    intro i hi hall
    have h1 := drop_nil hi
    rw [← sz] at h1
    refine Ev.step (fun k => rfl) ?_
    simp only [P.headraceref08_first.l1, if_neg (show ¬ ((i : Int) < (c.size : Int)) by omega)]
    rw [hall] at hh he
    simp only [List.all_nil, if_true] at hh he
    rw [hh, he]
    exact Ev.now _
  | cons x r ih =>
    intro i hi hall
    have h1 := drop_lt hi
    rw [← sz] at h1
    have hw := w64 (i := i) (by omega)
    refine Ev.step (fun k => rfl) ?_
    simp only [P.headraceref08_first.l1, if_pos (show (i : Int) < (c.size : Int) by omega), if_pos (show 0 ≤ (i : Int) by omega), bt_nat hi, hw]
    have hv := val_nat x
    have hgo : valOk x = true → Ev (fun k => P.headraceref08_first.l1 k c minor ev status ((i + 1 : Nat) : Int)) (tupF h e) := fun hx => ih (i + 1) (drop_succ hi) (by rw [hall, List.all_cons, hx, Bool.true_and])
    have hno : valOk x = false → tupF h e = (false, (⟨#[]⟩ : ByteArray), (⟨#[]⟩ : ByteArray), 0, 0, (⟨#[]⟩ : ByteArray), ([] : List P.S45), 80) := fun hx => by
      have hf : c.data.toList.all valOk = false := by rw [hall, List.all_cons, hx, Bool.false_and]
      rw [hf, if_neg (by decide)] at hh he
      rw [hh, he]
      rfl
    by_cases h32 : (x.toNat : Int) < 32
    · simp only [if_pos h32]
      by_cases h9 : (x.toNat : Int) = 9
      · simp only [if_pos h9, if_neg (show ¬ (x.toNat : Int) = 127 by omega)]
        refine hgo ?_
        cases hx : valOk x with
        | true => rfl
        | false => exact absurd (hv.1 hx) (by omega)
      · simp only [if_neg h9]
        rw [hno (hv.2 (.inl ⟨h32, h9⟩))]
        exact Ev.now _
    · simp only [if_neg h32]
      by_cases h127 : (x.toNat : Int) = 127
      · simp only [if_pos h127]
        rw [hno (hv.2 (.inr h127))]
        exact Ev.now _
      · simp only [if_neg h127]
        refine hgo ?_
        cases hx : valOk x with
        | true => rfl
        | false => exact absurd (hv.1 hx) (by omega)
/-- A first line: the parser's. -/
theorem ev_rfirst (rq : Bool) (s : ByteArray) (hs : s.size ≤ 4611686018427387904) (p : Par) (hst : p.st = if rq then 0 else 1) (hhd : p.hd = head0 rq) (hw : p.whole = false) (hno : ¬ (rq = true ∧ s.data.toList = [] ∧ p.lines ≤ 4)) :
    ∃ h : Head, Ev (fun k => P.headraceref08_first.f k rq s) (tupF h (lineS p s.data.toList).2) ∧ h.f6 = [] ∧ ((lineS p s.data.toList).2 = 0 → h = (lineS p s.data.toList).1.hd ∧ (lineS p s.data.toList).1.st = 2 ∧ (lineS p s.data.toList).1.whole = false) := by
  obtain ⟨l, hl⟩ : ∃ l, l = s.data.toList := ⟨_, rfl⟩
  have hlen : l.length = s.size := by rw [hl, sz]
  have hc1 := ev_rcut 32 (by decide) s hs
  have e32 : UInt8.ofNat 32 = 32 := rfl
  rw [e32, ← hl] at hc1
  have hl1 := cut_len l 32
  have hc2 := ev_rcut 32 (by decide) (mkB (Lib.cut l [32]).2.1) (by rw [mkB_size]; omega)
  rw [e32, mkB_data] at hc2
  have hl2 := cut_len (Lib.cut l [32]).2.1 32
  rw [← hl] at hno ⊢
  obtain ⟨⟨a, rest, ok⟩, hq1⟩ : ∃ q, q = Lib.cut l [32] := ⟨_, rfl⟩
  rw [← hq1] at hc1 hc2 hl1 hl2
  simp only at hc1 hc2 hl1 hl2
  obtain ⟨⟨b, c, is⟩, hq2⟩ : ∃ q, q = Lib.cut rest [32] := ⟨_, rfl⟩
  rw [← hq2] at hc2 hl2
  simp only at hc2 hl2
  have hthree : three l = if ok = true ∧ is = true then some (a, b, c) else none := by
    unfold three
    rw [← hq1]
    simp only
    rw [← hq2]
  have hfun : ∀ (h : Head) (e : Int), Ev (fun k => P.headraceref08_first.j0 k rq (mkB a) (mkB b) (mkB c) (!(ok && is))) (tupF h e) → Ev (fun k => P.headraceref08_first.f k rq s) (tupF h e) := by
    intro h e hj
    unfold P.headraceref08_first.f
    refine Ev.bind hc1 ?_
    refine Ev.bind hc2 ?_
    cases ok with
    | true =>
      simp only [if_true]
      rw [Bool.true_and] at hj
      exact hj
    | false =>
      simp only [Bool.false_eq_true, if_false]
      exact hj
  by_cases hoi : ok = true ∧ is = true
  · rw [if_pos hoi] at hthree
    have hb1 : (!(ok && is)) = false := by rw [hoi.1, hoi.2]; rfl
    rw [hb1] at hfun
    cases rq with
    | true =>
      simp only [if_true] at hst
      have hlS : lineS p l = reqS p l := by unfold lineS; rw [hst]; rfl
      have hreq : reqS p l = if c.contains 32 = true ∨ token a = false ∨ visS b = false then (p, 80) else ({ p with hd := ⟨p.hd.f0, mkB a, mkB b, (versionS c).1, p.hd.f4, p.hd.f5, p.hd.f6⟩, st := 2 }, (versionS c).2) := by
        unfold reqS
        rw [if_neg (fun h => hno ⟨rfl, h.1, h.2⟩), hthree]
      rw [hlS]
      have hj : ∀ (h : Head) (e : Int), h = (if ((mkB b).data.toList.all visB && (token (mkB a).data.toList && (mkB b).data.toList != [])) = true then ⟨true, mkB a, mkB b, (versionS (mkB c).data.toList).1, 0, ⟨#[]⟩, []⟩ else noHead) → e = (if ((mkB b).data.toList.all visB && (token (mkB a).data.toList && (mkB b).data.toList != [])) = true then (versionS (mkB c).data.toList).2 else 80) → Ev (fun k => P.headraceref08_first.f k true s) (tupF h e) := by
        intro h e hh he
        refine hfun h e ?_
        refine Ev.step (fun k => rfl) ?_
        simp only [P.headraceref08_first.j0, Bool.false_eq_true, if_false, if_true]
        exact ev_first_l0 (mkB a) (mkB b) (mkB c) (by rw [mkB_size]; omega) (by rw [mkB_size]; omega) h e hh he _ 0 rfl rfl
      simp only [mkB_data] at hj
      by_cases hg : (b.all visB && (token a && b != [])) = true
      · rw [if_pos hg, if_pos hg] at hj
        simp only [Bool.and_eq_true] at hg
        have hvis : visS b = true := by unfold visS; rw [hg.1, hg.2.2]; rfl
        refine ⟨⟨true, mkB a, mkB b, (versionS c).1, 0, ⟨#[]⟩, []⟩, ?_, rfl, ?_⟩
        · have hE : (reqS p l).2 = (versionS c).2 := by
            rw [hreq]
            by_cases h32 : c.contains 32 = true
            · rw [if_pos (.inl h32), version_blank h32]
            · rw [if_neg (by rintro (h5 | h5 | h5); exact h32 h5; rw [hg.2.1] at h5; cases h5; rw [hvis] at h5; cases h5)]
          rw [hE]
          exact hj _ _ rfl rfl
        · intro h0
          rw [hreq] at h0 ⊢
          by_cases h32 : c.contains 32 = true
          · rw [if_pos (.inl h32)] at h0; exact absurd (show (80 : Int) = 0 from h0) (by decide)
          · rw [if_neg (by rintro (h5 | h5 | h5); exact h32 h5; rw [hg.2.1] at h5; cases h5; rw [hvis] at h5; cases h5)]
            refine ⟨?_, rfl, hw⟩
            rw [hhd]
            rfl
      · rw [if_neg hg, if_neg hg] at hj
        have hcond : c.contains 32 = true ∨ token a = false ∨ visS b = false := by
          by_cases ht : token a = true
          · by_cases hvi : visS b = true
            · exfalso
              apply hg
              unfold visS at hvi
              simp only [Bool.and_eq_true] at hvi ⊢
              exact ⟨hvi.1, ht, hvi.2⟩
            · exact .inr (.inr (by simpa using hvi))
          · exact .inr (.inl (by simpa using ht))
        rw [if_pos hcond] at hreq
        rw [hreq]
        exact ⟨noHead, hj _ _ rfl rfl, rfl, fun h0 => absurd (show (80 : Int) = 0 from h0) (by decide)⟩
    | false =>
      simp only [Bool.false_eq_true, if_false] at hst
      have hlS : lineS p l = respS p l := by unfold lineS; rw [hst]; rfl
      have hresp : respS p l = if ¬ b.length = 3 ∨ value ([97] ++ c ++ [97]) = false ∨ ¬ (digits 10 b).2 = 0 ∨ (digits 10 b).1 < 100 ∨ 599 < (digits 10 b).1 then (p, 80) else ({ p with hd := ⟨p.hd.f0, p.hd.f1, p.hd.f2, (versionS a).1, (digits 10 b).1, mkB c, p.hd.f6⟩, st := 2 }, (versionS a).2) := by
        unfold respS
        rw [hthree]
      rw [hlS]
      have hver := ev_rversion (mkB a)
      rw [mkB_data] at hver
      have hdig := ev_rDigits 10 (.inl rfl) (mkB b) (by rw [mkB_size]; omega)
      rw [mkB_data] at hdig
      -- where something is wrong, or the version is no version
      have hbad : ∀ x : Bool, x = true → Ev (fun k => P.headraceref08_first.j2 k (mkB c) (versionS a).1 (versionS a).2 (digits 10 b).1 x) (tupF noHead 80) := by
        intro x hx
        refine Ev.step (fun k => rfl) ?_
        simp only [P.headraceref08_first.j2, hx, if_true]
        exact Ev.now _
      have hj0 : ∀ (h : Head) (e : Int), Ev (fun k => if (digits 10 b).2 = 0 then (if ((mkB b).size : Int) = 3 then (if (digits 10 b).1 < 100 then (P.headraceref08_first.j2 k (mkB c) (versionS a).1 (versionS a).2 (digits 10 b).1 true) else (if (digits 10 b).1 > 599 then (P.headraceref08_first.j2 k (mkB c) (versionS a).1 (versionS a).2 (digits 10 b).1 true) else (P.headraceref08_first.j2 k (mkB c) (versionS a).1 (versionS a).2 (digits 10 b).1 ((versionS a).2 == 80)))) else (P.headraceref08_first.j2 k (mkB c) (versionS a).1 (versionS a).2 (digits 10 b).1 true)) else (P.headraceref08_first.j2 k (mkB c) (versionS a).1 (versionS a).2 (digits 10 b).1 true)) (tupF h e) → Ev (fun k => P.headraceref08_first.f k false s) (tupF h e) := by
        intro h e hq
        refine hfun h e ?_
        refine Ev.step (fun k => rfl) ?_
        simp only [P.headraceref08_first.j0, Bool.false_eq_true, if_false]
        refine Ev.bind hver ?_
        exact Ev.bind hdig hq
      by_cases hd0 : (digits 10 b).2 = 0
      · by_cases hb3 : b.length = 3
        · by_cases h100 : (digits 10 b).1 < 100
          · rw [if_pos (.inr (.inr (.inr (.inl h100))))] at hresp
            rw [hresp]
            refine ⟨noHead, hj0 _ _ ?_, rfl, fun h0 => absurd (show (80 : Int) = 0 from h0) (by decide)⟩
            simp only [if_pos hd0, if_pos (show ((mkB b).size : Int) = 3 by rw [mkB_size]; omega), if_pos h100]
            exact hbad true rfl
          · by_cases h599 : (digits 10 b).1 > 599
            · rw [if_pos (.inr (.inr (.inr (.inr h599))))] at hresp
              rw [hresp]
              refine ⟨noHead, hj0 _ _ ?_, rfl, fun h0 => absurd (show (80 : Int) = 0 from h0) (by decide)⟩
              simp only [if_pos hd0, if_pos (show ((mkB b).size : Int) = 3 by rw [mkB_size]; omega), if_neg h100, if_pos h599]
              exact hbad true rfl
            · by_cases hv80 : (versionS a).2 = 80
              · have hE : (respS p l).2 = 80 := by
                  rw [hresp]
                  split
                  · rfl
                  · exact hv80
                rw [hE]
                refine ⟨noHead, hj0 _ _ ?_, rfl, fun h0 => absurd (show (80 : Int) = 0 from h0) (by decide)⟩
                simp only [if_pos hd0, if_pos (show ((mkB b).size : Int) = 3 by rw [mkB_size]; omega), if_neg h100, if_neg h599]
                exact hbad _ (by rw [hv80]; rfl)
              · have hv80' : ((versionS a).2 == 80) = false := by simpa using hv80
                have hval := mid_value c
                have hj1 : ∀ (h : Head) (e : Int), h = (if (mkB c).data.toList.all valOk = true then ⟨false, ⟨#[]⟩, ⟨#[]⟩, (versionS a).1, (digits 10 b).1, mkB c, []⟩ else noHead) → e = (if (mkB c).data.toList.all valOk = true then (versionS a).2 else 80) → Ev (fun k => P.headraceref08_first.f k false s) (tupF h e) := by
                  intro h e hh he
                  refine hj0 _ _ ?_
                  simp only [if_pos hd0, if_pos (show ((mkB b).size : Int) = 3 by rw [mkB_size]; omega), if_neg h100, if_neg h599, hv80']
                  refine Ev.step (fun k => rfl) ?_
                  simp only [P.headraceref08_first.j2, Bool.false_eq_true, if_false]
                  exact ev_first_l1 (mkB c) (by rw [mkB_size]; omega) _ _ _ h e hh he _ 0 rfl rfl
                simp only [mkB_data] at hj1
                by_cases hok : c.all valOk = true
                · rw [if_pos hok, if_pos hok] at hj1
                  rw [if_neg (by rintro (h5 | h5 | h5 | h5 | h5); exact h5 hb3; rw [hval, hok] at h5; cases h5; exact h5 hd0; exact h100 h5; exact h599 h5)] at hresp
                  rw [hresp]
                  refine ⟨⟨false, ⟨#[]⟩, ⟨#[]⟩, (versionS a).1, (digits 10 b).1, mkB c, []⟩, hj1 _ _ rfl rfl, rfl, fun h0 => ⟨?_, rfl, hw⟩⟩
                  rw [hhd]
                  rfl
                · have hok' : c.all valOk = false := by simpa using hok
                  rw [if_neg hok, if_neg hok] at hj1
                  rw [if_pos (.inr (.inl (by rw [hval, hok'])))] at hresp
                  rw [hresp]
                  exact ⟨noHead, hj1 _ _ rfl rfl, rfl, fun h0 => absurd (show (80 : Int) = 0 from h0) (by decide)⟩
        · rw [if_pos (.inl hb3)] at hresp
          rw [hresp]
          refine ⟨noHead, hj0 _ _ ?_, rfl, fun h0 => absurd (show (80 : Int) = 0 from h0) (by decide)⟩
          simp only [if_pos hd0, if_neg (show ¬ ((mkB b).size : Int) = 3 by rw [mkB_size]; omega)]
          exact hbad true rfl
      · rw [if_pos (.inr (.inr (.inl hd0)))] at hresp
        rw [hresp]
        refine ⟨noHead, hj0 _ _ ?_, rfl, fun h0 => absurd (show (80 : Int) = 0 from h0) (by decide)⟩
        simp only [if_neg hd0]
        exact hbad true rfl
  · rw [if_neg hoi] at hthree
    have hb1 : (!(ok && is)) = true := by
      cases ok with
      | false => rfl
      | true => cases is with | false => rfl | true => exact absurd ⟨rfl, rfl⟩ hoi
    have hE : (lineS p l).2 = 80 := by
      unfold lineS
      rw [hst]
      cases rq with
      | true =>
        simp only [if_true]
        unfold reqS
        rw [if_neg (fun h => hno ⟨rfl, h.1, h.2⟩), hthree]
      | false =>
        simp only [Bool.false_eq_true, if_false]
        unfold respS
        rw [hthree]
    rw [hE]
    refine ⟨noHead, hfun _ _ ?_, rfl, fun h0 => absurd (show (80 : Int) = 0 from h0) (by decide)⟩
    rw [hb1]
    refine Ev.step (fun k => rfl) ?_
    simp only [P.headraceref08_first.j0, if_true]
    exact Ev.now _
/-- A field line that is not empty: the parser's. -/
theorem blank_r (c : UInt8) : P.headraceref08_blank.f (c.toNat : Int) = some (isBlank c) := byte_of (fun c => P.headraceref08_blank.f (c.toNat : Int) = some (isBlank c)) (by decide +kernel) c
theorem ev_rfield (s : ByteArray) (hs : s.size ≤ 4611686018427387904) (h0 : ¬ s.data.toList = []) :
    ∃ n v : ByteArray, Ev (fun k => P.headraceref08_field.f k s) (n, v, fieldE s.data.toList) ∧ (fieldE s.data.toList = 0 → (⟨n, v⟩ : Fld) = fieldF s.data.toList) := by
  have hsz : 0 < s.size := by
    rw [sz]
    exact List.length_pos_iff.2 h0
  obtain ⟨l, hl⟩ : ∃ l, l = s.data.toList := ⟨_, rfl⟩
  have hc := ev_rcut 58 (by decide) s hs
  have e58 : UInt8.ofNat 58 = 58 := rfl
  rw [e58, ← hl] at hc
  have hl1 := cut_len l 58
  have hll : l.length = s.size := by rw [hl, sz]
  rw [← hl]
  obtain ⟨⟨a, r, ok⟩, hq⟩ : ∃ q, q = Lib.cut l [58] := ⟨_, rfl⟩
  rw [← hq] at hc hl1
  simp only at hc hl1
  have hb0 : bt s 0 = ((l.getD 0 0).toNat : Int) := by
    have := bt_get s 0 hsz
    rw [← hl] at this
    exact this
  have hfE : fieldE l = if isBlank (l.getD 0 0) = true then 82 else if ok = false then 84 else if lastBlank a = true then 83 else if token a = false then 70 else if value (trim r) = false then 71 else 0 := by
    unfold fieldE
    rw [← hq]
  have hfF : fieldF l = ⟨mkB a, mkB (trim r)⟩ := by unfold fieldF; rw [← hq]
  have hstart : ∀ (n v : ByteArray) (e : Int), (¬ isBlank (l.getD 0 0) = true → Ev (fun k => if ok = true then (if (mkB a).toList = ([] : List UInt8) then (P.headraceref08_field.j0 k (mkB a) (mkB r) false) else (if 0 ≤ (wrap64 (((mkB a).size : Int) - 1)) then (if (wrap64 (((mkB a).size : Int) - 1)) < ((mkB a).size : Int) then ((P.headraceref08_blank.f (bt (mkB a) (wrap64 (((mkB a).size : Int) - 1)))).bind fun t300 => (P.headraceref08_field.j0 k (mkB a) (mkB r) t300)) else (none)) else (none))) else (some ((⟨#[]⟩ : ByteArray), (⟨#[]⟩ : ByteArray), 84))) (n, v, e)) → ¬ isBlank (l.getD 0 0) = true → Ev (fun k => P.headraceref08_field.f k s) (n, v, e) := by
    intro n v e hk hnb
    unfold P.headraceref08_field.f
    simp only [if_pos (show (0 : Int) < (s.size : Int) by omega), hb0, blank_r, Option.bind_some, if_neg hnb]
    exact Ev.bind hc (hk hnb)
  by_cases hnb : isBlank (l.getD 0 0) = true
  · rw [hfE, if_pos hnb]
    refine ⟨⟨#[]⟩, ⟨#[]⟩, ?_, fun h => absurd h (by decide)⟩
    unfold P.headraceref08_field.f
    simp only [if_pos (show (0 : Int) < (s.size : Int) by omega), hb0, blank_r, Option.bind_some, if_pos hnb]
    exact Ev.now _
  · rw [if_neg hnb] at hfE
    cases ok with
    | false =>
      rw [if_pos rfl] at hfE
      rw [hfE]
      exact ⟨⟨#[]⟩, ⟨#[]⟩, hstart _ _ _ (fun _ => by simp only [Bool.false_eq_true, if_false]; exact Ev.now _) hnb, fun h => absurd h (by decide)⟩
    | true =>
      rw [if_neg (by decide)] at hfE
      have hlast : ∀ (n v : ByteArray) (e : Int), Ev (fun k => P.headraceref08_field.j0 k (mkB a) (mkB r) (lastBlank a)) (n, v, e) → Ev (fun k => P.headraceref08_field.f k s) (n, v, e) := by
        intro n v e hj
        refine hstart n v e (fun _ => ?_) hnb
        simp only [if_true, tl, mkB_data, mkB_size]
        by_cases ha : a = ([] : List UInt8)
        · simp only [if_pos ha]
          have : lastBlank a = false := by rw [ha]; rfl
          rw [this] at hj
          exact hj
        · simp only [if_neg ha]
          have hpos : 1 ≤ a.length := List.length_pos_iff.2 ha
          have hwr : wrap64 ((a.length : Int) - 1) = ((a.length - 1 : Nat) : Int) := by unfold wrap64; omega
          rw [hwr]
          simp only [if_pos (show 0 ≤ ((a.length - 1 : Nat) : Int) by omega), if_pos (show ((a.length - 1 : Nat) : Int) < (a.length : Int) by omega)]
          have hbt := bt_get (mkB a) (a.length - 1) (by rw [mkB_size]; omega)
          rw [mkB_data] at hbt
          rw [hbt, blank_r]
          simp only [Option.bind_some]
          have hlb : isBlank (a.getD (a.length - 1) 0) = lastBlank a := by
            unfold lastBlank
            rcases List.eq_nil_or_concat a with h5 | ⟨q, x, rfl⟩
            · exact absurd h5 ha
            · rw [List.concat_eq_append, List.reverse_append]
              simp
          rw [hlb]
          exact hj
      by_cases hlb : lastBlank a = true
      · rw [if_pos hlb] at hfE
        rw [hfE]
        refine ⟨⟨#[]⟩, ⟨#[]⟩, hlast _ _ _ ?_, fun h => absurd h (by decide)⟩
        rw [hlb]
        refine Ev.step (fun k => rfl) ?_
        simp only [P.headraceref08_field.j0, if_true]
        exact Ev.now _
      · have hlb' : lastBlank a = false := by simpa using hlb
        rw [if_neg hlb] at hfE
        rw [hlb'] at hlast
        have htok := ev_rToken (mkB a) (by rw [mkB_size]; omega)
        rw [mkB_data] at htok
        have hj : ∀ (n v : ByteArray) (e : Int), Ev (fun k => if token a = true then ((P.headraceref05_Trim.f k (mkB r)).bind fun t302 => ((P.headraceref05_Value.f k t302).bind fun t303 => (if t303 = true then (some (mkB a, t302, 0)) else (some ((⟨#[]⟩ : ByteArray), (⟨#[]⟩ : ByteArray), 71))))) else (some ((⟨#[]⟩ : ByteArray), (⟨#[]⟩ : ByteArray), 70))) (n, v, e) → Ev (fun k => P.headraceref08_field.f k s) (n, v, e) := by
          intro n v e hk
          refine hlast n v e ?_
          refine Ev.step (fun k => rfl) ?_
          simp only [P.headraceref08_field.j0, Bool.false_eq_true, if_false]
          exact Ev.bind htok hk
        by_cases ht : token a = true
        · rw [if_neg (by rw [ht]; decide)] at hfE
          have htr := ev_rTrim' r (by omega)
          have htl : (trim r).length ≤ r.length := trim_len r
          have hvl := ev_rValue (mkB (trim r)) (by rw [mkB_size]; omega)
          rw [mkB_data] at hvl
          by_cases hv : value (trim r) = true
          · rw [if_neg (by rw [hv]; decide)] at hfE
            rw [hfE]
            refine ⟨mkB a, mkB (trim r), hj _ _ _ ?_, fun _ => hfF.symm⟩
            simp only [if_pos ht]
            refine Ev.bind htr (Ev.bind hvl ?_)
            simp only [hv, if_true]
            exact Ev.now _
          · have hv' : value (trim r) = false := by simpa using hv
            rw [if_pos hv'] at hfE
            rw [hfE]
            refine ⟨⟨#[]⟩, ⟨#[]⟩, hj _ _ _ ?_, fun h => absurd h (by decide)⟩
            simp only [if_pos ht]
            refine Ev.bind htr (Ev.bind hvl ?_)
            simp only [hv', Bool.false_eq_true, if_false]
            exact Ev.now _
        · have ht' : token a = false := by simpa using ht
          rw [if_pos ht'] at hfE
          rw [hfE]
          refine ⟨⟨#[]⟩, ⟨#[]⟩, hj _ _ _ ?_, fun h => absurd h (by decide)⟩
          simp only [if_neg ht]
          exact Ev.now _
end Go.Proofs.YtmlgejgnjfbblaaGreatDoor.Hd
