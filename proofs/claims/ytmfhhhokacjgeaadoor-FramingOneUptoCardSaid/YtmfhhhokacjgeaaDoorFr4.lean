/- The law FramingOne: own text of this session. -/
import Derived.Test.YtmfhhhokacjgeaaDoorFr3
import Derived.Test.YtmfhhhokacjgeaaDoorPx6
import Derived.Test.YtmfhhhokacjgeaaDoorP6
namespace Go.Proofs.YtmfhhhokacjgeaaDoor.Px
open Go.RowKit Go.Proofs.YtmfhhhokacjgeaaDoor.P Go.Proofs.YtmfhhhokacjgeaaDoorW.PrintWords Go.Proofs.YtmfhhhokacjgeaaDoorW.PrintLast Go.Proofs.Hr
set_option linter.unusedVariables false
set_option linter.unusedSimpArgs false
/-! a number's text -/
def digB (d : Nat) : UInt8 := UInt8.ofNat (48 + d)
theorem decCut : ∀ d : Fin 10, (⟨#[48, 49, 50, 51, 52, 53, 54, 55, 56, 57]⟩ : ByteArray).extract d.val (d.val + 1) = mkB [UInt8.ofNat (48 + d.val)] := by
  intro d
  rw [show (⟨#[48, 49, 50, 51, 52, 53, 54, 55, 56, 57]⟩ : ByteArray) = mkB [48, 49, 50, 51, 52, 53, 54, 55, 56, 57] from rfl, mkB_extract]
  congr 1
  revert d
  decide +kernel
theorem ev_text_l0 (k : Nat) : ∀ (m : Nat) (acc : Bs), 1 ≤ m → m < 10 ^ k → k ≤ 17 → m ≤ 9007199254740992 → acc.length + k ≤ 20 → Ev (fun q => headracelaw09_text.l0 q (mkB acc) (m : Int)) (mkB (Lib.decDigits m ++ acc)) := by
  induction k with
  | zero => intro m acc h1 h; simp at h; omega
  | succ k ih =>
    intro m acc h1 h hk hm hl
    have t1 : Int.tmod (m : Int) 10 = ((m % 10 : Nat) : Int) := by rw [Int.tmod_eq_emod_of_nonneg (by omega)]; omega
    have t2 : Int.tdiv (m : Int) 10 = ((m / 10 : Nat) : Int) := by rw [Int.tdiv_eq_ediv_of_nonneg (by omega)]; omega
    have hr : m % 10 < 10 := Nat.mod_lt _ (by decide)
    have w1 : wrap64 (((m % 10 : Nat) : Int) + 1) = ((m % 10 + 1 : Nat) : Int) := by unfold wrap64; omega
    have w2 : wrap64 ((m / 10 : Nat) : Int) = ((m / 10 : Nat) : Int) := by unfold wrap64; omega
    refine Ev.step (fun q => rfl) ?_
    simp only [headracelaw09_text.l0, if_pos (show (m : Int) > 0 by omega), t1, t2, w1, w2, Int.toNat_natCast, decCut ⟨m % 10, hr⟩, if_pos (show 0 ≤ ((m % 10 : Nat) : Int) by omega), if_pos (show ((m % 10 : Nat) : Int) ≤ ((m % 10 + 1 : Nat) : Int) by omega), if_pos (show ((m % 10 + 1 : Nat) : Int) ≤ 10 by omega), mkB_append, List.singleton_append]
    simp only [if_pos (show (mkB [UInt8.ofNat (48 + m % 10)]).size + (mkB acc).size ≤ 9223372036854775807 by rw [mkB_size, mkB_size]; simp only [List.length_singleton]; omega)]
    by_cases h10 : m < 10
    · rw [Nat.mod_eq_of_lt h10, Nat.div_eq_of_lt h10]
      have e : Lib.decDigits m = [UInt8.ofNat (48 + m)] := by unfold Lib.decDigits; rw [dif_pos h10]
      rw [e]
      refine Ev.step (fun q => rfl) ?_
      simp only [headracelaw09_text.l0, if_neg (show ¬ ((0 : Nat) : Int) > 0 by omega), tl, mkB_data, if_neg (show ¬ (UInt8.ofNat (48 + m) :: acc) = ([] : List UInt8) by simp)]
      exact Ev.now _
    · have e : Lib.decDigits m = Lib.decDigits (m / 10) ++ [UInt8.ofNat (48 + m % 10)] := by
        conv => lhs; unfold Lib.decDigits
        rw [dif_neg h10]
      rw [e, List.append_assoc]
      rw [Nat.pow_succ] at h
      exact ih (m / 10) (UInt8.ofNat (48 + m % 10) :: acc) (by omega) (by omega) (by omega) (by omega) (by simp only [List.length_cons]; omega)
theorem ev_text (m : Nat) (hm : m ≤ 9007199254740992) : Ev (fun k => headracelaw09_text.f k (m : Int)) (mkB (Lib.decDigits m)) := by
  unfold headracelaw09_text.f
  rcases Nat.eq_zero_or_pos m with rfl | hp
  · have e : Lib.decDigits 0 = [48] := by unfold Lib.decDigits; rfl
    rw [e]
    exact Ev.of (k := 3) (fun k => headracelaw09_text.mono_l k _ _) (by simp only [headracelaw09_text.l0, tl]; decide +kernel)
  · have := ev_text_l0 17 m [] hp (Nat.lt_of_le_of_lt hm (by decide)) (by decide) hm (by decide)
    rwa [List.append_nil] at this
theorem dec_mem (n : Nat) : ∀ c ∈ Lib.decDigits n, ∃ d : Fin 10, c = UInt8.ofNat (48 + d.val) := by
  induction n using Nat.strongRecOn with
  | ind n ih =>
    intro c hc
    unfold Lib.decDigits at hc
    split at hc
    · rename_i h
      simp only [List.mem_singleton] at hc
      exact ⟨⟨n, h⟩, hc⟩
    · rcases List.mem_append.1 hc with hc | hc
      · exact ih (n / 10) (by omega) c hc
      · simp only [List.mem_singleton] at hc
        exact ⟨⟨n % 10, Nat.mod_lt _ (by decide)⟩, hc⟩
theorem dig_facts : ∀ d : Fin 10, stepQ (UInt8.ofNat (48 + d.val)) false false = some (false, false) ∧ isBlank (UInt8.ofNat (48 + d.val)) = false ∧ lowB (UInt8.ofNat (48 + d.val)) = UInt8.ofNat (48 + d.val) := by decide +kernel
theorem dec_run (w : Bs) (h : ∀ c ∈ w, ∃ d : Fin 10, c = UInt8.ofNat (48 + d.val)) : run w false false = some (false, false) := by
  induction w with
  | nil => rfl
  | cons c w ih =>
    obtain ⟨d, rfl⟩ := h c (by simp)
    rw [run_cons, (dig_facts d).1]
    exact ih (fun x hx => h x (by simp [hx]))
theorem dec_lower (w : Bs) (h : ∀ c ∈ w, ∃ d : Fin 10, c = UInt8.ofNat (48 + d.val)) : lower w = w := by
  unfold lower
  induction w with
  | nil => rfl
  | cons c w ih =>
    obtain ⟨d, rfl⟩ := h c (by simp)
    rw [List.map_cons, (dig_facts d).2.2, ih (fun x hx => h x (by simp [hx]))]
theorem headOk_of (w : Bs) (h : ∀ c ∈ w, ∃ d : Fin 10, c = UInt8.ofNat (48 + d.val)) : headOk w = true := by
  cases w with
  | nil => rfl
  | cons c w =>
    obtain ⟨d, rfl⟩ := h c (by simp)
    show (!isBlank _) = true
    rw [(dig_facts d).2.1]; rfl
theorem dec_trim (w : Bs) (h : ∀ c ∈ w, ∃ d : Fin 10, c = UInt8.ofNat (48 + d.val)) : trim w = w := by
  have := trim_fix w
  rw [headOk_of w h, headOk_of w.reverse (fun c hc => h c (List.mem_reverse.1 hc))] at this
  exact beq_iff_eq.1 this
theorem list_dec (n : Nat) : Hr.list (Lib.decDigits n) = [Lib.decDigits n] := by
  have h := dec_mem n
  rw [list_lg]
  have h1 := lg_run (Lib.decDigits n) [] [] false false false false [] (dec_run _ h)
  rw [List.append_nil, List.nil_append] at h1
  rw [h1]
  unfold lg put
  rw [dec_trim _ h, if_neg (decDigits_ne n)]
  rfl
theorem items_dec (n : Nat) : itemsOf (mkB (Lib.decDigits n)) = [mkB (Lib.decDigits n)] := by
  unfold itemsOf
  rw [mkB_data, list_dec, List.map_singleton, dec_lower _ (dec_mem n)]
theorem digits_dec (n : Nat) (hm : n ≤ 9007199254740992) : digits 10 (Lib.decDigits n) = ((n : Int), 0) := by
  have := digits_itoa n hm
  unfold Lib.itoa at this
  rwa [if_neg (by omega), Int.toNat_natCast] at this
/-! one field more -/
def more (n : Nat) : Fld := ⟨mkB [67, 111, 110, 116, 101, 110, 116, 45, 76, 101, 110, 103, 116, 104], mkB (Lib.decDigits n)⟩
theorem isN_cl (n : Nat) : isN CL (more n) = true := by unfold isN more; rw [mkB_data]; decide +kernel
theorem isN_te (n : Nat) : isN TE (more n) = false := by unfold isN more; rw [mkB_data]; decide +kernel
theorem isN_cn (n : Nat) : isN CN (more n) = false := by unfold isN more; rw [mkB_data]; decide +kernel
theorem allS_append (n : Bs) (a b : List Fld) : allS n (a ++ b) = allS n a ++ allS n b := by unfold allS; rw [List.filter_append, List.map_append]
theorem itemsS_append (n : Bs) (a b : List Fld) : itemsS n (a ++ b) = itemsS n a ++ itemsS n b := by unfold itemsS; rw [allS_append, List.flatMap_append]
theorem allS_more_cl (n : Nat) : allS CL [more n] = [mkB (Lib.decDigits n)] := by rw [allS_cons, if_pos (isN_cl n)]; rfl
theorem allS_more_te (n : Nat) : allS TE [more n] = [] := by rw [allS_cons, if_neg (by rw [isN_te]; decide)]; rfl
theorem itemsS_more (n : Nat) : itemsS CL [more n] = [mkB (Lib.decDigits n)] := by
  unfold itemsS
  rw [allS_more_cl, List.flatMap_cons, items_dec]; rfl
theorem lenS_cons (n : Int) (t : ByteArray) (I : List ByteArray) (hd : digits 10 t.data.toList = (n, 0)) : lenS (t :: I) = if I.any (Frm.unlikeB n) then (0, 90) else (n, 0) := by
  have hn : 0 ≤ n := by have := digits_nonneg 10 t.data.toList; rw [hd] at this; exact this
  rw [← rlen_lenS]
  unfold rlen
  rw [hd]
  simp only [if_true]
  rw [if_neg (by omega), rlen_any I n hn]
theorem lenS_ok {I : List ByteArray} {v : Int} (h : lenS I = (v, 0)) : ∃ x r, I = x :: r ∧ digits 10 x.data.toList = (v, 0) ∧ r.any (Frm.unlikeB v) = false := by
  cases I with
  | nil => cases h
  | cons x r =>
    refine ⟨x, r, rfl, ?_⟩
    have h0 := h
    rw [← rlen_lenS] at h0
    unfold rlen at h0
    by_cases h2 : (digits 10 x.data.toList).2 = 0
    · rw [if_pos h2, if_neg (by omega), rlen_any r _ (digits_nonneg 10 _)] at h0
      split at h0
      · cases h0
      · rename_i ha
        injection h0 with h3 h4
        refine ⟨?_, ?_⟩
        · rw [← h3, ← h2]
        · rw [← h3]; exact Bool.eq_false_iff.mpr ha
    · rw [if_neg h2] at h0
      cases h0
theorem lens_more (front : Bool) (n v : Int) (t : ByteArray) (I : List ByteArray) (hd : digits 10 t.data.toList = (n, 0)) (hI : lenS I = (v, 0)) : lenS (if front = true then [t] ++ I else I ++ [t]) = if n = v then (v, 0) else (0, 90) := by
  obtain ⟨x, r, rfl, hx, hr⟩ := lenS_ok hI
  cases front with
  | true =>
    simp only [if_true, List.singleton_append]
    rw [lenS_cons n t (x :: r) hd, List.any_cons]
    have ux : Frm.unlikeB n x = decide (¬ v = n) := by unfold Frm.unlikeB; rw [hx]; simp
    rw [ux]
    by_cases h : n = v
    · subst h; rw [hr]; simp
    · have hv : ¬ v = n := fun e => h e.symm
      rw [if_neg h, if_pos (by simp [hv])]
  | false =>
    simp only [Bool.false_eq_true, if_false, List.cons_append]
    rw [lenS_cons v x (r ++ [t]) hx, List.any_append, hr, Bool.false_or, List.any_cons, List.any_nil, Bool.or_false]
    have ut : Frm.unlikeB v t = decide (¬ n = v) := by unfold Frm.unlikeB; rw [hd]; simp
    rw [ut]
    by_cases h : n = v
    · rw [if_pos h, if_neg (by simp [h])]
    · rw [if_neg h, if_pos (by simp [h])]
def withMore (front : Bool) (n : Nat) (l : List Fld) : List Fld := if front = true then [more n] ++ l else l ++ [more n]
theorem allS_te (front : Bool) (n : Nat) (l : List Fld) : allS TE (withMore front n l) = allS TE l := by
  unfold withMore
  cases front
  · rw [if_neg (by decide), allS_append, allS_more_te, List.append_nil]
  · rw [if_pos rfl, allS_append, allS_more_te, List.nil_append]
theorem allS_cl (front : Bool) (n : Nat) (l : List Fld) : ¬ allS CL (withMore front n l) = [] := by
  unfold withMore
  cases front
  · rw [if_neg (by decide), allS_append, allS_more_cl]; simp
  · rw [if_pos rfl, allS_append, allS_more_cl]; simp
theorem itemsS_cl (front : Bool) (n : Nat) (l : List Fld) : itemsS CL (withMore front n l) = if front = true then [mkB (Lib.decDigits n)] ++ itemsS CL l else itemsS CL l ++ [mkB (Lib.decDigits n)] := by
  unfold withMore
  cases front
  · rw [if_neg (by decide), if_neg (by decide), itemsS_append, itemsS_more]
  · rw [if_pos rfl, if_pos rfl, itemsS_append, itemsS_more]
theorem fsz_append (a b : List Fld) : fsz (a ++ b) = fsz a + fsz b := by unfold fsz; rw [List.map_append, List.sum_append]
theorem fsz_more (n : Nat) (hn : n ≤ 9007199254740992) : fsz [more n] ≤ 40 := by
  have h := decDigits_length 17 n (Nat.lt_of_le_of_lt hn (by decide)) (by decide)
  unfold fsz more
  simp [mkB_size]
  omega
theorem withMore_fsz (front : Bool) (n : Nat) (hn : n ≤ 9007199254740992) (l : List Fld) : fsz (withMore front n l) ≤ fsz l + 40 := by
  have := fsz_more n hn
  unfold withMore
  cases front <;> simp only [if_true, Bool.false_eq_true, if_false, fsz_append] <;> omega
/-- What the law asks behind one field more. -/
def askS (n : Nat) (a b : Int × Int × Bool × Int) : Bool :=
  if a.1 = 3 then decide (b.2.2.2 = 91) else if a.1 = 2 then (((b.2.2.2 == 0) == (a.2.1 == (n : Int))) && (decide (b.2.2.2 = 0) || decide (b.2.2.2 = 90))) else (decide (b.2.2.2 = 0) && (decide (b.1 = 2) && decide (b.2.1 = (n : Int))))
theorem asks (front : Bool) (minor : Int) (l : List Fld) (n : Nat) (hn : n ≤ 9007199254740992) (h0 : (reqS true minor l).2.2.2 = 0) : askS n (reqS true minor l) (reqS true minor (withMore front n l)) = true := by
  have hd : digits 10 (mkB (Lib.decDigits n)).data.toList = ((n : Int), 0) := by rw [mkB_data]; exact digits_dec n hn
  revert h0
  unfold reqS
  simp only [if_true]
  unfold rtoldS
  have ete := allS_te front n l
  have ecl := allS_cl front n l
  have eit := itemsS_cl front n l
  by_cases h1 : allS TE l = []
  · by_cases h2 : allS CL l = []
    · have e1 : toldS minor l = (4, 0, keepS minor l, 0) := by unfold toldS; rw [if_pos h1, if_pos h2]
      have hI : itemsS CL l = [] := by unfold itemsS; rw [h2]; rfl
      have e2 : toldS minor (withMore front n l) = (2, (n : Int), keepS minor (withMore front n l), 0) := by
        have e3 : itemsS CL (withMore front n l) = [mkB (Lib.decDigits n)] := by rw [eit, hI]; cases front <;> rfl
        have e4 : lenS [mkB (Lib.decDigits n)] = ((n : Int), 0) := by rw [lenS_cons (n : Int) _ [] hd]; rfl
        unfold toldS
        rw [ete, if_pos h1, if_neg ecl, e3, e4]
        rfl
      rw [e1, e2]
      intro _
      simp [askS]
    · generalize hp : lenS (itemsS CL l) = p
      have e1 : toldS minor l = if p.2 = 0 then (2, p.1, keepS minor l, 0) else (0, 0, false, p.2) := by unfold toldS; rw [if_pos h1, if_neg h2, hp]
      by_cases h3 : p.2 = 0
      · obtain ⟨v, e⟩ := p
        simp only at h3
        subst h3
        have em := lens_more front (n : Int) v _ _ hd hp
        rw [← eit] at em
        have e2 : toldS minor (withMore front n l) = if (n : Int) = v then (2, v, keepS minor (withMore front n l), 0) else (0, 0, false, 90) := by
          unfold toldS
          rw [ete, if_pos h1, if_neg ecl, em]
          by_cases h5 : (n : Int) = v
          · simp [h5]
          · simp [h5]
        rw [e1, e2]
        intro _
        by_cases h5 : (n : Int) = v
        · simp [askS, h5]
        · have h6 : ¬ v = (n : Int) := fun e => h5 e.symm
          simp [askS, h5, h6]
      · rw [e1, if_neg h3]
        intro h0
        simp at h0
        exact absurd h0 h3
  · by_cases h2 : allS CL l = []
    · have e2 : toldS minor (withMore front n l) = (0, 0, false, 91) := by unfold toldS; rw [ete, if_neg h1, if_neg ecl]
      rw [e2]
      unfold toldS
      rw [if_neg h1, if_pos h2]
      split
      · intro _; simp [askS]
      · intro h0; simp at h0
    · unfold toldS
      rw [if_neg h1, if_neg h2]
      intro h0; simp at h0
theorem req_bad (minor : Int) (l : List Fld) (h0 : ¬ (reqS true minor l).2.2.2 = 0) : ((reqS true minor l).1 == 0 && ((reqS true minor l).2.1 == 0 && (!(reqS true minor l).2.2.1))) = true := by
  revert h0
  unfold reqS
  simp only [if_true]
  unfold rtoldS
  split
  · intro h0; exact absurd rfl h0
  · unfold toldS
    split
    · split
      · intro h0; exact absurd rfl h0
      · split
        · intro h0; exact absurd rfl h0
        · intro _; rfl
    · split
      · split
        · intro h0; exact absurd rfl h0
        · intro _; rfl
      · intro _; rfl
theorem pure_FramingOne (a : Bool) (b c : ByteArray) (minor d : Int) (e : ByteArray) (l : List Fld) (n0 : Int) (front : Bool) (hb : fsz l + b.size + c.size + e.size ≤ 1048576) (_ : (Lit.int .i64 n0).wf = true) : ∃ k, headracelaw09_FramingOne.f k a b c minor d e l n0 front = some true := by
  have hl : fsz l ≤ 4194304 := by omega
  apply ev_true
  have hs : Ev (fun k => (headracelaw09_speaks.f k).bind fun t => some t) true := Ev.bind speaks09 (Ev.now _)
  have main : ∀ n : Nat, n ≤ 9007199254740992 → Ev (fun k => headracelaw09_FramingOne.j1 k (n : Int) front a b c minor d e l) true := by
    intro n hn
    have hlm := withMore_fsz front n hn l
    have hll := len_fsz l
    have hlm2 := len_fsz (withMore front n l)
    refine Ev.step (fun k => rfl) ?_
    simp only [headracelaw09_FramingOne.j1]
    refine Ev.bind (ev_Request true b c minor d e l hl) ?_
    by_cases h0 : (reqS true minor l).2.2.2 = 0
    · simp only [if_pos h0]
      refine Ev.bind (ev_text n hn) ?_
      have fin : Ev (fun k => headracelaw09_FramingOne.j3 k (n : Int) (withMore front n l) true b c minor d e l (reqS true minor l).1 (reqS true minor l).2.1 (reqS true minor l).2.2.1) true := by
        refine Ev.step (fun k => rfl) ?_
        simp only [headracelaw09_FramingOne.j3]
        refine Ev.bind (ev_Request true b c minor d e (withMore front n l) (by omega)) ?_
        have ha := asks front minor l n hn h0
        revert ha
        generalize reqS true minor (withMore front n l) = B
        generalize reqS true minor l = A'
        intro ha
        unfold askS at ha
        by_cases h3 : A'.1 = 3
        · rw [if_pos h3] at ha
          simp only [if_pos h3, if_pos (of_decide_eq_true ha)]
          exact hs
        · rw [if_neg h3] at ha
          simp only [if_neg h3]
          by_cases h2 : A'.1 = 2
          · rw [if_pos h2] at ha
            simp only [if_pos h2]
            simp only [Bool.and_eq_true, Bool.or_eq_true, decide_eq_true_eq] at ha
            obtain ⟨ha1, ha2⟩ := ha
            simp only [if_pos ha1]
            by_cases h4 : B.2.2.2 = 0
            · simp only [if_pos h4]; exact hs
            · simp only [if_neg h4, if_pos (ha2.resolve_left h4)]; exact hs
          · rw [if_neg h2] at ha
            simp only [if_neg h2]
            simp only [Bool.and_eq_true, decide_eq_true_eq] at ha
            obtain ⟨ha1, ha2, ha3⟩ := ha
            simp only [if_pos ha1, if_pos ha2, if_pos ha3]
            exact hs
      cases front with
      | true =>
        simp only [if_true, List.length_nil, if_pos (show (0 : Nat) < 4398046511104 by decide), List.nil_append]
        refine Ev.step (fun k => rfl) ?_
        simp only [headracelaw09_FramingOne.j2, List.length_singleton, if_pos (show 1 + l.length < 4398046511104 by omega), Option.bind_some, if_true]
        exact fin
      | false =>
        simp only [Bool.false_eq_true, if_false]
        refine Ev.step (fun k => rfl) ?_
        simp only [headracelaw09_FramingOne.j2, List.length_nil, List.nil_append, if_pos (show 0 + l.length < 4398046511104 by omega), Option.bind_some, Bool.false_eq_true, if_false, if_pos (show l.length < 4398046511104 by omega)]
        exact fin
    · simp only [if_neg h0, if_pos (req_bad minor l h0)]
      exact hs
  have m7 : Ev (fun k => headracelaw09_FramingOne.j1 k 7 front a b c minor d e l) true := main 7 (by decide)
  have j0t : Ev (fun k => headracelaw09_FramingOne.j0 k n0 front true a b c minor d e l) true := by
    refine Ev.step (fun k => rfl) ?_
    simp only [headracelaw09_FramingOne.j0, if_true]
    exact m7
  unfold headracelaw09_FramingOne.f
  by_cases h1 : n0 < 0
  · simp only [if_pos h1]; exact j0t
  · simp only [if_neg h1]
    by_cases h2 : n0 > 9007199254740992
    · simp only [decide_eq_true h2]; exact j0t
    · simp only [decide_eq_false h2]
      obtain ⟨n, rfl⟩ : ∃ n : Nat, n0 = (n : Int) := ⟨n0.toNat, by omega⟩
      refine Ev.step (fun k => rfl) ?_
      simp only [headracelaw09_FramingOne.j0, Bool.false_eq_true, if_false]
      exact main n (by omega)
end Go.Proofs.YtmfhhhokacjgeaaDoor.Px
