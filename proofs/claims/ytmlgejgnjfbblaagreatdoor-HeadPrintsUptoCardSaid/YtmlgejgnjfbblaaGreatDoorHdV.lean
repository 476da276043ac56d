/- HeadPrints, plainly: the printed law answers true; own text of this session. -/
import Derived.Test.YtmlgejgnjfbblaaGreatDoorHdT
import Derived.Test.YtmlgejgnjfbblaaGreatDoorU2
import Derived.Test.YtmlgejgnjfbblaaGreatDoorFr1
import Derived.Lib.ItoaLen
namespace Go.Proofs.YtmlgejgnjfbblaaGreatDoor.Hd
open Go.RowKit Go.Proofs.YtmlgejgnjfbblaaGreatDoorW.PrintWords Go.Proofs.YtmlgejgnjfbblaaGreatDoorW.PrintLast Chk Px Hr
set_option linter.unusedVariables false
set_option linter.unusedSimpArgs false
/-- What Parse makes of what Read hands back. -/
def parseR (r : Head × Int × Bool × Int) : Head × Int × Int := if r.2.2.2 = 0 then (if r.2.2.1 = true then (r.1, r.2.1, 0) else (head0 false, 0, 6)) else (head0 false, 0, r.2.2.2)
theorem parseR_eq (rq : Bool) (l : List Int) : parseR (readS rq 65536 l) = parseS rq l := by
  show parseR (outS (feedP (newPar rq 65536) l 0) l.length) = (if ¬ codeOf (feedP (newPar rq 65536) l 0).1.err = 0 then (head0 false, (0 : Int), codeOf (feedP (newPar rq 65536) l 0).1.err) else if (feedP (newPar rq 65536) l 0).1.whole = false then (head0 false, 0, 6) else ((feedP (newPar rq 65536) l 0).1.hd, ((feedP (newPar rq 65536) l 0).2 : Int), 0))
  generalize feedP (newPar rq 65536) l 0 = q
  unfold outS parseR
  by_cases he : codeOf q.1.err = 0
  · by_cases hw : q.1.whole = true
    · simp [he, hw]
    · have hw' : q.1.whole = false := by simpa using hw
      simp [he, hw']
  · simp [he]
theorem uParse (a : Bool) (l : List Int) (hl : l.length ≤ 1073741824) (x : Head) (n e : Int) (hp : parseS a l = (x, n, e)) : U.headraceref08_Parse.f a l = some (x.f0, x.f1, x.f2, x.f3, x.f4, x.f5, x.f6, n, e) := by
  have h := parseR_eq a l
  rw [hp] at h
  unfold U.headraceref08_Parse.f U.headraceref08_Read.f
  rw [if_pos hl]
  simp only [Option.bind_some]
  obtain ⟨⟨y, m, wh, er⟩, hq⟩ : ∃ q, q = readS a 65536 l := ⟨_, rfl⟩
  rw [← hq] at h ⊢
  unfold parseR at h
  simp only at h ⊢
  by_cases he : er = 0
  · rw [if_pos he] at h ⊢
    by_cases hw : wh = true
    · rw [if_pos hw] at h ⊢
      simp only [Prod.mk.injEq] at h
      obtain ⟨rfl, rfl, rfl⟩ := h
      rfl
    · rw [if_neg hw] at h ⊢
      simp only [Prod.mk.injEq] at h
      obtain ⟨rfl, rfl, rfl⟩ := h
      rfl
  · rw [if_neg he] at h ⊢
    simp only [Prod.mk.injEq] at h
    obtain ⟨rfl, rfl, rfl⟩ := h
    rfl
theorem uHead (a : Bool) (l : List Int) (hl : l.length ≤ 4294940000) (x : Head) (n e : Int) (hp : parseS a l = (x, n, e)) : U.head_Parse.f a l = some (x.f0, x.f1, x.f2, x.f3, x.f4, x.f5, x.f6, n, e) := by
  unfold U.head_Parse.f
  rw [if_pos hl, hp]
/-! ### the reference's Same -/
theorem ev_rSame_l0 (a b : Head) (hl : a.f6.length = b.f6.length) (hb : a.f6.length ≤ 4611686018427387904) (ra : List Chk.Fld) : ∀ (rb : List Chk.Fld) (i : Nat), a.f6.drop i = ra → b.f6.drop i = rb →
    Ev (fun k => P.headraceref08_Same.l0 k (a.f6.length : Int) (i : Int) a.f0 a.f1 a.f2 a.f3 a.f4 a.f5 a.f6 b.f0 b.f1 b.f2 b.f3 b.f4 b.f5 b.f6) (fldsB ra rb) := by
  induction ra with
  | nil =>
    intro rb i hi hj
    have h1 := drop_nil hi
    have : rb = [] := by rw [← hj, List.drop_eq_nil_iff]; omega
    subst this
    refine Ev.step (fun k => rfl) ?_
    simp only [P.headraceref08_Same.l0, if_neg (show ¬ (i : Int) < (a.f6.length : Int) by omega), fldsB]
    exact Ev.now _
  | cons x r ih =>
    intro rb i hi hj
    have hlt := drop_lt hi
    cases rb with
    | nil => have := drop_nil hj; omega
    | cons y s =>
      refine Ev.step (fun k => rfl) ?_
      simp only [P.headraceref08_Same.l0, if_pos (show (i : Int) < (a.f6.length : Int) by omega), if_pos (show 0 ≤ (i : Int) by omega), if_pos (show (i : Int) < (b.f6.length : Int) by omega), Chk.rd_fld hi, Chk.rd_fld hj, w64 (show i < 9223372036854775807 by omega), tl]
      unfold fldsB
      by_cases he : eqFld x y = true
      · have hc : ¬ (!(x.f0.data.toList == y.f0.data.toList) || !(x.f1.data.toList == y.f1.data.toList)) = true := by
          unfold eqFld at he
          rw [Bool.and_eq_true] at he
          rw [he.1, he.2]; decide
        simp only [if_neg hc, he, Bool.true_and]
        exact ih s (i + 1) (drop_succ hi) (drop_succ hj)
      · have hf : eqFld x y = false := by simpa using he
        have hc : (!(x.f0.data.toList == y.f0.data.toList) || !(x.f1.data.toList == y.f1.data.toList)) = true := by
          rw [← Bool.not_and]
          show (!eqFld x y) = true
          rw [hf]; rfl
        simp only [if_pos hc, hf, Bool.false_and]
        exact Ev.now _
theorem ev_rSame (a b : Head) (hb : a.f6.length ≤ 4611686018427387904) :
    Ev (fun k => P.headraceref08_Same.f k a.f0 a.f1 a.f2 a.f3 a.f4 a.f5 a.f6 b.f0 b.f1 b.f2 b.f3 b.f4 b.f5 b.f6) (sameB a b) := by
  have hj : ∀ x : Bool, x = true → Ev (fun k => P.headraceref08_Same.j0 k x a.f0 a.f1 a.f2 a.f3 a.f4 a.f5 a.f6 b.f0 b.f1 b.f2 b.f3 b.f4 b.f5 b.f6) false := by
    intro x hx
    refine Ev.step (fun k => rfl) ?_
    simp only [P.headraceref08_Same.j0, if_pos hx]
    exact Ev.now _
  unfold P.headraceref08_Same.f
  have hS : ∀ h : ¬ a = b, sameB a b = false := fun h => by
    cases hs : sameB a b with
    | false => rfl
    | true => exact absurd ((sameB_iff a b).1 hs) h
  simp only [tl]
  by_cases h0 : (a.f0 != b.f0) = true
  · rw [hS (fun e => by rw [e] at h0; simp at h0)]
    simp only [if_pos h0]
    exact hj _ rfl
  · simp only [if_neg h0]
    by_cases h1 : a.f1.data.toList = b.f1.data.toList
    · simp only [if_pos h1]
      by_cases h2 : a.f2.data.toList = b.f2.data.toList
      · simp only [if_pos h2]
        by_cases h3 : a.f3 = b.f3
        · simp only [if_pos h3]
          by_cases h4 : a.f4 = b.f4
          · simp only [if_pos h4]
            by_cases h5 : a.f5.data.toList = b.f5.data.toList
            · simp only [if_pos h5]
              by_cases hl : a.f6.length = b.f6.length
              · have bl : ((a.f6.length : Int) != (b.f6.length : Int)) = false := by rw [hl]; simp
                rw [bl]
                refine Ev.step (fun k => rfl) ?_
                simp only [P.headraceref08_Same.j0, Bool.false_eq_true, if_false]
                have e : sameB a b = fldsB a.f6 b.f6 := by
                  unfold sameB
                  have h0' : (a.f0 == b.f0) = true := by
                    cases hx : (a.f0 == b.f0) with
                    | true => rfl
                    | false => exact absurd (by show (!(a.f0 == b.f0)) = true; rw [hx]; rfl) h0
                  rw [h0', beq_iff_eq.2 h1, beq_iff_eq.2 h2, beq_iff_eq.2 h3, beq_iff_eq.2 h4, beq_iff_eq.2 h5]
                  simp only [Bool.and_true]
                rw [e]
                exact ev_rSame_l0 a b hl hb a.f6 b.f6 0 rfl rfl
              · rw [hS (fun e => hl (by rw [e]))]
                exact hj _ (by simp only [bne_iff_ne, ne_eq]; omega)
            · rw [hS (fun e => h5 (by rw [e]))]
              simp only [if_neg h5]
              exact hj _ rfl
          · rw [hS (fun e => h4 (by rw [e]))]
            simp only [if_neg h4]
            exact hj _ rfl
        · rw [hS (fun e => h3 (by rw [e]))]
          simp only [if_neg h3]
          exact hj _ rfl
      · rw [hS (fun e => h2 (by rw [e]))]
        simp only [if_neg h2]
        exact hj _ rfl
    · rw [hS (fun e => h1 (by rw [e]))]
      simp only [if_neg h1]
      exact hj _ rfl
/-! ### the reference's Print -/
theorem mk_fld (acc : Bs) (f : Chk.Fld) : (((mkB acc ++ f.f0) ++ (⟨#[58, 32]⟩ : ByteArray)) ++ f.f1) ++ (⟨#[13, 10]⟩ : ByteArray) = mkB (acc ++ fldT f) := by
  apply ba_eq
  simp only [ByteArray.data_append, Array.toList_append, mkB_data]
  unfold fldT crlf
  simp only [List.append_assoc]
theorem mk_end (acc : Bs) : mkB acc ++ (⟨#[13, 10]⟩ : ByteArray) = mkB (acc ++ crlf) := by
  apply ba_eq
  simp only [ByteArray.data_append, Array.toList_append, mkB_data]
  rfl
theorem ev_rPrint_l0 (h : Head) (hT : (textS h).length ≤ 1073741824) (hf : ¬ h.f6.length > 100) (rest : List Chk.Fld) : ∀ (i : Nat) (acc : Bs), h.f6.drop i = rest → acc ++ rest.flatMap fldT ++ crlf = textS h →
    Ev (fun k => U.headraceref08_Print.l0 k (mkB acc) h.f6 (h.f6.length : Int) (i : Int) h.f0 h.f1 h.f2 h.f3 h.f4 h.f5 h.f6) (mkB (printS h).1, (printS h).2) := by
  induction rest with
  | nil =>
    intro i acc hi hacc
    have h1 := drop_nil hi
    rw [List.flatMap_nil, List.append_nil] at hacc
    have hz : acc.length + 2 = (textS h).length := by rw [← hacc, List.length_append]; rfl
    refine Ev.step (fun k => rfl) ?_
    obtain ⟨⟨x, n, e⟩, hp⟩ : ∃ q, q = parseS h.f0 (nOf (textS h)) := ⟨_, rfl⟩
    have hup := uParse h.f0 (nOf (textS h)) (by rw [nOf_length]; omega) x n e hp.symm
    simp only [U.headraceref08_Print.l0, if_neg (show ¬ (i : Int) < (h.f6.length : Int) by omega), mk_end, hacc, mkB_size, mkB_data, if_pos (show acc.length + 2 ≤ 9223372036854775807 by omega), if_pos (show (textS h).length ≤ 4611686018427387904 by omega), hup, Option.bind_some]
    unfold printS
    rw [if_neg hf, ← hp]
    simp only
    by_cases he : e = 0
    · simp only [if_pos he]
      by_cases hn : n = ((textS h).length : Int)
      · simp only [if_pos hn]
        have hx6 : x.f6.length ≤ 4611686018427387904 := by
          have := parseS_fields h.f0 (nOf (textS h)) (by rw [nOf_length]; omega)
          rw [← hp] at this
          simp only at this
          omega
        have hsm := ev_rSame x h hx6
        obtain ⟨sb, hsb⟩ : ∃ sb, sb = sameB x h := ⟨_, rfl⟩
        rw [← hsb] at hsm ⊢
        refine Ev.bind hsm ?_
        cases sb with
        | true =>
          have hr : (if ¬ e = 0 ∨ ¬ n = ((textS h).length : Int) ∨ true = false then (([] : Bs), (4 : Int)) else (textS h, 0)) = (textS h, 0) := if_neg (by rintro (h5 | h5 | h5); exact h5 he; exact h5 hn; cases h5)
          rw [hr]
          simp only [if_true]
          exact Ev.now _
        | false =>
          have hr : (if ¬ e = 0 ∨ ¬ n = ((textS h).length : Int) ∨ false = false then (([] : Bs), (4 : Int)) else (textS h, 0)) = ([], 4) := if_pos (.inr (.inr rfl))
          rw [hr]
          simp only [Bool.false_eq_true, if_false]
          exact Ev.now _
      · rw [if_pos (.inr (.inl hn))]
        simp only [if_neg hn]
        exact Ev.now _
    · rw [if_pos (.inl he)]
      simp only [if_neg he]
      exact Ev.now _
  | cons f r ih =>
    intro i acc hi hacc
    have hlt := drop_lt hi
    rw [List.flatMap_cons] at hacc
    have hz : acc.length + (fldT f).length + 2 ≤ (textS h).length := by rw [← hacc, List.length_append, List.length_append, List.length_append]; show _ ≤ _ + 2; omega
    have hft : (fldT f).length = f.f0.size + f.f1.size + 4 := by
      unfold fldT
      rw [List.length_append, List.length_append, List.length_append, ← sz, ← sz]
      show f.f0.size + 2 + f.f1.size + 2 = _
      omega
    have z58 : (⟨#[58, 32]⟩ : ByteArray).size = 2 := rfl
    have hnext := ih (i + 1) (acc ++ fldT f) (drop_succ hi) (by rw [← hacc]; simp only [List.append_assoc])
    have hrd : U.rd_T45 h.f6 (i : Int) = f := Chk.rd_fld hi
    refine Ev.step (fun k => rfl) ?_
    simp only [U.headraceref08_Print.l0, if_pos (show (i : Int) < (h.f6.length : Int) by omega), if_pos (show 0 ≤ (i : Int) by omega), hrd, w64 (show i < 9223372036854775807 by omega), ByteArray.size_append, mkB_size, z58, if_pos (show acc.length + f.f0.size ≤ 9223372036854775807 by omega), if_pos (show acc.length + f.f0.size + 2 ≤ 9223372036854775807 by omega), if_pos (show acc.length + f.f0.size + 2 + f.f1.size ≤ 9223372036854775807 by omega), if_pos (show acc.length + f.f0.size + 2 + f.f1.size + 2 ≤ 9223372036854775807 by omega), mk_fld]
    exact hnext
theorem first_mk_true (h : Head) (h0 : h.f0 = true) : (((h.f1 ++ (⟨#[32]⟩ : ByteArray)) ++ h.f2) ++ (⟨#[32]⟩ : ByteArray)) ++ ((⟨#[72, 84, 84, 80, 47, 49, 46]⟩ : ByteArray) ++ (⟨(Lib.itoa h.f3).toArray⟩ : ByteArray)) ++ (⟨#[13, 10]⟩ : ByteArray) = mkB (firstT h) := by
  apply ba_eq
  simp only [ByteArray.data_append, Array.toList_append, mkB_data]
  unfold firstT
  rw [if_pos h0]
  rfl
theorem first_mk_false (h : Head) (h0 : ¬ h.f0 = true) : ((((((⟨#[72, 84, 84, 80, 47, 49, 46]⟩ : ByteArray) ++ (⟨(Lib.itoa h.f3).toArray⟩ : ByteArray)) ++ (⟨#[32]⟩ : ByteArray)) ++ (⟨(Lib.itoa h.f4).toArray⟩ : ByteArray)) ++ (⟨#[32]⟩ : ByteArray)) ++ h.f5) ++ (⟨#[13, 10]⟩ : ByteArray) = mkB (firstT h) := by
  apply ba_eq
  simp only [ByteArray.data_append, Array.toList_append, mkB_data]
  unfold firstT
  rw [if_neg h0]
  rfl
theorem ev_rPrint_j0 (h : Head) (hT : (textS h).length ≤ 1073741824) (hf : ¬ h.f6.length > 100) (s : ByteArray) (hs : s ++ (⟨#[13, 10]⟩ : ByteArray) = mkB (firstT h)) :
    Ev (fun k => U.headraceref08_Print.j0 k s h.f0 h.f1 h.f2 h.f3 h.f4 h.f5 h.f6) (mkB (printS h).1, (printS h).2) := by
  have hz : s.size + 2 = (firstT h).length := by
    have := congrArg ByteArray.size hs
    rw [ByteArray.size_append, mkB_size] at this
    exact this
  have hle := firstT_le h
  refine Ev.step (fun k => rfl) ?_
  simp only [U.headraceref08_Print.j0, if_pos (show s.size + 2 ≤ 9223372036854775807 by omega), hs]
  exact ev_rPrint_l0 h hT hf h.f6 0 (firstT h) rfl rfl
theorem ev_rPrint (h : Head) (hT : h.f6.length ≤ 100 → (textS h).length ≤ 1073741824) (hs : h.f1.size + h.f2.size + h.f5.size ≤ 1073741824) (h3 : (-9223372036854775808 ≤ h.f3 ∧ h.f3 ≤ 9223372036854775807) ∧ (-9223372036854775808 ≤ h.f4 ∧ h.f4 ≤ 9223372036854775807)) :
    Ev (fun k => U.headraceref08_Print.f k h.f0 h.f1 h.f2 h.f3 h.f4 h.f5 h.f6) (mkB (printS h).1, (printS h).2) := by
  unfold U.headraceref08_Print.f
  by_cases hf : h.f6.length > 100
  · simp only [if_pos (show (h.f6.length : Int) > 100 by omega)]
    unfold printS
    rw [if_pos hf]
    exact Ev.now _
  · have l3 := Lib.itoa_length_le h.f3 h3.1.1 h3.1.2
    have l4 := Lib.itoa_length_le h.f4 h3.2.1 h3.2.2
    have z3 : (⟨(Lib.itoa h.f3).toArray⟩ : ByteArray).size ≤ 21 := by rw [sz]; simpa using l3
    have z4 : (⟨(Lib.itoa h.f4).toArray⟩ : ByteArray).size ≤ 21 := by rw [sz]; simpa using l4
    have zh : (⟨#[72, 84, 84, 80, 47, 49, 46]⟩ : ByteArray).size = 7 := rfl
    have zb : (⟨#[32]⟩ : ByteArray).size = 1 := rfl
    have i3 : U.strconv_Itoa.f h.f3 = some ⟨(Lib.itoa h.f3).toArray⟩ := by unfold U.strconv_Itoa.f; rw [if_pos h3.1]
    have i4 : U.strconv_Itoa.f h.f4 = some ⟨(Lib.itoa h.f4).toArray⟩ := by unfold U.strconv_Itoa.f; rw [if_pos h3.2]
    obtain ⟨s3, hs3⟩ : ∃ s, s = (⟨(Lib.itoa h.f3).toArray⟩ : ByteArray) := ⟨_, rfl⟩
    obtain ⟨s4, hs4⟩ : ∃ s, s = (⟨(Lib.itoa h.f4).toArray⟩ : ByteArray) := ⟨_, rfl⟩
    have ft := first_mk_true h
    have ff := first_mk_false h
    rw [← hs3] at z3 i3 ft ff
    rw [← hs4] at z4 i4 ff
    have hT2 := hT (by omega)
    simp only [if_neg (show ¬ (h.f6.length : Int) > 100 by omega), i3, i4, Option.bind_some, ByteArray.size_append, zh, zb, if_pos (show 7 + s3.size ≤ 9223372036854775807 by omega), if_pos (show 7 + s3.size + 1 ≤ 9223372036854775807 by omega), if_pos (show 7 + s3.size + 1 + s4.size ≤ 9223372036854775807 by omega), if_pos (show 7 + s3.size + 1 + s4.size + 1 ≤ 9223372036854775807 by omega), if_pos (show 7 + s3.size + 1 + s4.size + 1 + h.f5.size ≤ 9223372036854775807 by omega)]
    by_cases h0 : h.f0 = true
    · simp only [if_pos h0, if_pos (show h.f1.size + 1 ≤ 9223372036854775807 by omega), if_pos (show h.f1.size + 1 + h.f2.size ≤ 9223372036854775807 by omega), if_pos (show h.f1.size + 1 + h.f2.size + 1 ≤ 9223372036854775807 by omega), if_pos (show h.f1.size + 1 + h.f2.size + 1 + (7 + s3.size) ≤ 9223372036854775807 by omega)]
      exact ev_rPrint_j0 h hT2 hf _ (ft h0)
    · simp only [if_neg h0]
      exact ev_rPrint_j0 h hT2 hf _ (ff h0)
theorem ev_plainU (a : Head) (hb : a.f6.length ≤ 4611686018427387904) : Ev (fun k => P.headraceplain_Head.f k a.f0 a.f1 a.f2 a.f3 a.f4 a.f5 a.f6 a.f0 a.f1 a.f2 a.f3 a.f4 a.f5 a.f6) true := by
  unfold P.headraceplain_Head.f
  simp only [beq_self_eq_true, if_true]
  refine Ev.bind (r := true) ?_ (Ev.now _)
  unfold P.headraceplain_Fields.f
  simp only [if_true]
  exact ev_plainF_l0 a.f6 hb a.f6 0 rfl
theorem text_fsz (h : Head) (h3 : (-9223372036854775808 ≤ h.f3 ∧ h.f3 ≤ 9223372036854775807) ∧ (-9223372036854775808 ≤ h.f4 ∧ h.f4 ≤ 9223372036854775807)) (hb : h.f6.length ≤ 100) : (textS h).length ≤ h.f1.size + h.f2.size + h.f5.size + Px.fsz h.f6 + 1000 := by
  have l3 := Lib.itoa_length_le h.f3 h3.1.1 h3.1.2
  have l4 := Lib.itoa_length_le h.f4 h3.2.1 h3.2.2
  have key : ∀ l : List Chk.Fld, (l.flatMap fldT).length ≤ Px.fsz l + 3 * l.length := by
    intro l
    induction l with
    | nil => exact Nat.zero_le _
    | cons f r ih =>
      rw [List.flatMap_cons, List.length_append, List.length_cons]
      have hft : (fldT f).length = f.f0.size + f.f1.size + 4 := by
        unfold fldT
        rw [List.length_append, List.length_append, List.length_append, ← sz, ← sz]
        show f.f0.size + 2 + f.f1.size + 2 = _
        omega
      have e : Px.fsz (f :: r) = f.f0.size + f.f1.size + 1 + Px.fsz r := Px.fsz_cons f r
      omega
  have hk := key h.f6
  have hfl : (firstT h).length ≤ h.f1.size + h.f2.size + h.f5.size + 60 := by
    unfold firstT
    split
    · simp only [List.length_append, ← sz, crlf, List.length_cons, List.length_nil]
      omega
    · simp only [List.length_append, ← sz, crlf, List.length_cons, List.length_nil]
      omega
  unfold textS
  rw [List.length_append, List.length_append]
  show _ + _ + 2 ≤ _
  omega
theorem wf_i64 {n : Int} (h : (Go.Lit.int .i64 n).wf = true) : -9223372036854775808 ≤ n ∧ n ≤ 9223372036854775807 := by
  simp only [Go.Lit.wf, Bool.and_eq_true, decide_eq_true_eq] at h
  have h1 : IntKind.i64.min = -9223372036854775808 := by decide
  have h2 : IntKind.i64.max = 9223372036854775807 := by decide
  rw [h1, h2] at h
  exact h
theorem fsz_len (l : List Chk.Fld) : l.length ≤ Px.fsz l := by
  induction l with
  | nil => exact Nat.zero_le _
  | cons f r ih => rw [List.length_cons, Px.fsz_cons]; omega
theorem pure_HeadPrints (b0 : Bool) (b1 b2 : ByteArray) (b3 b4 : Int) (b5 : ByteArray) (l : List Chk.Fld) (hu : Px.fsz l + b1.size + b2.size + b5.size ≤ 1048576) (w3 : (Go.Lit.int .i64 b3).wf = true) (w4 : (Go.Lit.int .i64 b4).wf = true) : ∃ k, U.headracelaw08_HeadPrints.f k b0 b1 b2 b3 b4 b5 l = some true := by
  obtain ⟨h, hh⟩ : ∃ h : Head, h = ⟨b0, b1, b2, b3, b4, b5, l⟩ := ⟨_, rfl⟩
  have h3 : (-9223372036854775808 ≤ h.f3 ∧ h.f3 ≤ 9223372036854775807) ∧ (-9223372036854775808 ≤ h.f4 ∧ h.f4 ≤ 9223372036854775807) := by
    have a3 := wf_i64 w3
    have a4 := wf_i64 w4
    rw [hh]
    exact ⟨a3, a4⟩
  have hu' : Px.fsz h.f6 + h.f1.size + h.f2.size + h.f5.size ≤ 1048576 := by rw [hh]; exact hu
  have hlen := fsz_len h.f6
  have htx := text_fsz h h3
  have hv : Ev (fun k => U.headracelaw08_HeadPrints.f k h.f0 h.f1 h.f2 h.f3 h.f4 h.f5 h.f6) true := by
    unfold U.headracelaw08_HeadPrints.f
    have hpr : U.head_Print.f h.f0 h.f1 h.f2 h.f3 h.f4 h.f5 h.f6 = some (mkB (printS h).1, (printS h).2) := by
      unfold U.head_Print.f
      rw [if_pos ⟨by omega, fun h5 => by have := htx h5; show (textS h).length ≤ _; omega, h3.1, h3.2⟩]
      rfl
    simp only [hpr, Option.bind_some]
    refine Ev.bind (ev_rPrint h (fun h5 => by have := htx h5; omega) (by omega) h3) ?_
    simp only [if_true]
    have hb : ((printS h).2 != (printS h).2) = false := by simp
    rw [hb]
    refine Ev.step (fun k => rfl) ?_
    simp only [U.headracelaw08_HeadPrints.j0, Bool.false_eq_true, if_false]
    by_cases hp : (printS h).2 = 0
    · obtain ⟨p1, p2⟩ := print_same h hp
      have hfew : h.f6.length ≤ 100 := by
        by_cases h5 : h.f6.length > 100
        · unfold printS at hp
          rw [if_pos h5] at hp
          exact absurd (show (4 : Int) = 0 from hp) (by decide)
        · omega
      have ht2 := htx hfew
      simp only [if_pos hp, p1, mkB_size, mkB_data, if_pos (show (textS h).length ≤ 4611686018427387904 by omega), uHead h.f0 (nOf (textS h)) (by rw [nOf_length]; omega) h ((textS h).length : Int) 0 p2, Option.bind_some, if_true]
      refine Ev.bind (r := true) (ev_plainU h (by omega)) ?_
      simp only [if_true, U.headracelaw08_speaks.f, Option.bind_some]
      exact Ev.now _
    · simp only [if_neg hp, U.headracelaw08_speaks.f, Option.bind_some]
      exact Ev.now _
  obtain ⟨k, hk⟩ := hv.rounds
  rw [hh] at hk
  exact ⟨k, hk⟩
end Go.Proofs.YtmlgejgnjfbblaaGreatDoor.Hd
