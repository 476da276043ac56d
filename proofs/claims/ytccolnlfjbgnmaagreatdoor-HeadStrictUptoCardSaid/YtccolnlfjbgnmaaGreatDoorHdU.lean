/- HeadStrict, plainly: the printed law answers true; own text of this session. -/
import Derived.Test.YtccolnlfjbgnmaaGreatDoorHdT
import Derived.Test.YtccolnlfjbgnmaaGreatDoorQ2
namespace Go.Proofs.YtccolnlfjbgnmaaGreatDoor.Hd
open Go.RowKit Go.Proofs.YtccolnlfjbgnmaaGreatDoorW.PrintWords Go.Proofs.YtccolnlfjbgnmaaGreatDoorW.PrintLast Chk Px Hr
set_option linter.unusedVariables false
set_option linter.unusedSimpArgs false
theorem ev_plainH (a : Head) (hb : a.f6.length ≤ 4611686018427387904) : Ev (fun k => P.headraceplain_Head.f k a.f0 a.f1 a.f2 a.f3 a.f4 a.f5 a.f6 a.f0 a.f1 a.f2 a.f3 a.f4 a.f5 a.f6) true := by
  unfold P.headraceplain_Head.f
  simp only [beq_self_eq_true, if_true]
  refine Ev.bind (r := true) ?_ (Ev.now _)
  unfold P.headraceplain_Fields.f
  simp only [if_true]
  exact ev_plainF_l0 a.f6 hb a.f6 0 rfl
theorem qPrint (h : Head) (h1 : h.f6.length ≤ 4294960000) (h2 : (textS h).length ≤ 4294930000) (h3 : (-9223372036854775808 ≤ h.f3 ∧ h.f3 ≤ 9223372036854775807) ∧ (-9223372036854775808 ≤ h.f4 ∧ h.f4 ≤ 9223372036854775807)) : Q.head_Print.f h.f0 h.f1 h.f2 h.f3 h.f4 h.f5 h.f6 = some (mkB (printS h).1, (printS h).2) := by
  unfold Q.head_Print.f
  rw [if_pos ⟨h1, fun _ => h2, h3.1, h3.2⟩]
  rfl
theorem qParse (a : Bool) (l : List Int) (hl : l.length ≤ 4294940000) (x : Head) (n e : Int) (hp : parseS a l = (x, n, e)) : Q.head_Parse.f a l = some (x.f0, x.f1, x.f2, x.f3, x.f4, x.f5, x.f6, n, e) := by
  unfold Q.head_Parse.f
  rw [if_pos hl, hp]
theorem ev_strict2 (a0 : Bool) (h : Head) (ok : HdOk h) (hf0 : h.f0 = a0) (hT : (textS h).length ≤ 4294930000) (al : ByteArray) (hs : al.size ≤ 4611686018427387904) (hgood : ∀ c ∈ al.data.toList, good c) (long : Bool) (hlong : ¬ (printS h).2 = 0 → long = true) (rest : Bs) : ∀ i : Nat, al.data.toList.drop i = rest →
    Ev (fun k => Q.headracelaw08_HeadStrict.l2 k a0 al long (i : Int) h.f0 h.f1 h.f2 h.f3 h.f4 h.f5 h.f6) true := by
  induction rest with
  | nil =>
    intro i hi
    have h1 := drop_nil hi
    rw [← sz] at h1
    refine Ev.step (fun k => rfl) ?_
    simp only [Q.headracelaw08_HeadStrict.l2, if_neg (show ¬ (i : Int) < (al.size : Int) by omega), qPrint h (by have := ok.few; omega) hT (ints_bound ok), Option.bind_some]
    by_cases hp : (printS h).2 = 0
    · obtain ⟨p1, p2⟩ := print_same h hp
      simp only [if_pos hp, p1, mkB_size, mkB_data, if_pos (show (textS h).length ≤ 4611686018427387904 by omega), qParse a0 (nOf (textS h)) (by rw [nOf_length]; omega) h ((textS h).length : Int) 0 (by rw [← hf0]; exact p2), Option.bind_some, if_true]
      refine Ev.bind (r := true) (ev_plainH h (by have := ok.few; omega)) ?_
      simp only [if_true, Q.headracelaw08_speaks.f, Option.bind_some]
      exact Ev.now _
    · simp only [if_neg hp, if_pos (hlong hp), Q.headracelaw08_speaks.f, Option.bind_some]
      exact Ev.now _
  | cons c r ih =>
    intro i hi
    have hlt := drop_lt hi
    have hsz : i < al.size := by rw [sz]; exact hlt
    have hg := hgood c (by rw [← List.take_append_drop i al.data.toList, hi]; simp)
    have hb := bt_nat hi
    have n13 : ¬ (c.toNat : Int) = 13 := fun e => hg.2.1 (UInt8.toNat_inj.1 (by show c.toNat = 13; omega))
    have n10 : ¬ (c.toNat : Int) = 10 := fun e => hg.1 (UInt8.toNat_inj.1 (by show c.toNat = 10; omega))
    have n0 : ¬ (c.toNat : Int) = 0 := fun e => hg.2.2 (UInt8.toNat_inj.1 (by show c.toNat = 0; omega))
    refine Ev.step (fun k => rfl) ?_
    simp only [Q.headracelaw08_HeadStrict.l2, if_pos (show (i : Int) < (al.size : Int) by omega), if_pos (show 0 ≤ (i : Int) by omega), hb, if_neg n13, if_neg n10, if_neg n0, w64 (show i < 9223372036854775807 by omega)]
    exact ih (i + 1) (drop_succ hi)
theorem ev_strict1 (a0 : Bool) (h : Head) (al : ByteArray) (long : Bool) (fs : List P.S37) (ln x55 : Int) (nm vl : ByteArray) (hs : nm.size ≤ 4611686018427387904) (hgood : ∀ c ∈ nm.data.toList, 32 < c.toNat ∧ c ≠ 58)
    (hk : Ev (fun k => Q.headracelaw08_HeadStrict.l0 k a0 al long fs ln (wrap64 (x55 + 1)) h.f0 h.f1 h.f2 h.f3 h.f4 h.f5 h.f6) true) (rest : Bs) : ∀ i : Nat, nm.data.toList.drop i = rest →
    Ev (fun k => Q.headracelaw08_HeadStrict.l1 k a0 al long (i : Int) fs ln x55 h.f0 h.f1 h.f2 h.f3 h.f4 h.f5 h.f6 nm vl) true := by
  induction rest with
  | nil =>
    intro i hi
    have h1 := drop_nil hi
    rw [← sz] at h1
    refine Ev.step (fun k => rfl) ?_
    simp only [Q.headracelaw08_HeadStrict.l1, if_neg (show ¬ (i : Int) < (nm.size : Int) by omega)]
    exact hk
  | cons c r ih =>
    intro i hi
    have hlt := drop_lt hi
    have hsz : i < nm.size := by rw [sz]; exact hlt
    have hg := hgood c (by rw [← List.take_append_drop i nm.data.toList, hi]; simp)
    have hb := bt_nat hi
    have n32 : ¬ (c.toNat : Int) ≤ 32 := by have := hg.1; omega
    have n58 : ¬ (c.toNat : Int) = 58 := fun e => hg.2 (UInt8.toNat_inj.1 (by show c.toNat = 58; omega))
    refine Ev.step (fun k => rfl) ?_
    simp only [Q.headracelaw08_HeadStrict.l1, if_pos (show (i : Int) < (nm.size : Int) by omega), if_pos (show 0 ≤ (i : Int) by omega), hb, if_neg n32, if_neg n58, w64 (show i < 9223372036854775807 by omega)]
    exact ih (i + 1) (drop_succ hi)
def sumF (l : List Chk.Fld) : Nat := (l.map fun f => f.f0.size + f.f1.size).sum
theorem ev_strict0 (a0 : Bool) (h : Head) (ok : HdOk h) (hf0 : h.f0 = a0) (hT : (textS h).length ≤ 4294930000) (r : List Chk.Fld) : ∀ (i : Nat) (al : ByteArray) (long : Bool), h.f6.drop i = r → al.size + sumF r ≤ 4294930000 → (∀ c ∈ al.data.toList, good c) → (¬ (printS h).2 = 0 → long = true ∨ ∃ f ∈ r, 8190 < f.f0.size + f.f1.size) →
    Ev (fun k => Q.headracelaw08_HeadStrict.l0 k a0 al long h.f6 (h.f6.length : Int) (i : Int) h.f0 h.f1 h.f2 h.f3 h.f4 h.f5 h.f6) true := by
  induction r with
  | nil =>
    intro i al long hi hs hgood hlong
    have h1 := drop_nil hi
    refine Ev.step (fun k => rfl) ?_
    simp only [Q.headracelaw08_HeadStrict.l0, if_neg (show ¬ (i : Int) < (h.f6.length : Int) by omega)]
    exact ev_strict2 a0 h ok hf0 hT al (by omega) hgood long (fun hp => (hlong hp).elim id (fun ⟨f, hf, _⟩ => by cases hf)) al.data.toList 0 rfl
  | cons f r ih =>
    intro i al long hi hs hgood hlong
    have hlt := drop_lt hi
    have hmem : f ∈ h.f6 := by rw [← List.take_append_drop i h.f6, hi]; simp
    obtain ⟨g1, g2⟩ := good_flds ok f hmem
    have hss : sumF (f :: r) = f.f0.size + f.f1.size + sumF r := by unfold sumF; rw [List.map_cons, List.sum_cons]
    rw [hss] at hs
    have hrd : Q.rd_T37 h.f6 (i : Int) = f := rd_fld hi
    have hsz : ((al ++ f.f0) ++ f.f1).size = al.size + f.f0.size + f.f1.size := by rw [ByteArray.size_append, ByteArray.size_append]
    have hgood' : ∀ c ∈ ((al ++ f.f0) ++ f.f1).data.toList, good c := by
      intro c hc
      rw [ByteArray.data_append, Array.toList_append, ByteArray.data_append, Array.toList_append] at hc
      rcases List.mem_append.1 hc with hc | hc
      · rcases List.mem_append.1 hc with hc | hc
        · exact hgood c hc
        · exact g1 c (List.mem_append.2 (.inl hc))
      · exact g1 c (List.mem_append.2 (.inr hc))
    have next : ∀ lg : Bool, (¬ (printS h).2 = 0 → lg = true ∨ ∃ f ∈ r, 8190 < f.f0.size + f.f1.size) → Ev (fun k => Q.headracelaw08_HeadStrict.j1 k a0 ((al ++ f.f0) ++ f.f1) lg h.f6 (h.f6.length : Int) (i : Int) h.f0 h.f1 h.f2 h.f3 h.f4 h.f5 h.f6 f.f0 f.f1) true := by
      intro lg hlg
      refine Ev.step (fun k => rfl) ?_
      simp only [Q.headracelaw08_HeadStrict.j1]
      refine ev_strict1 a0 h _ lg h.f6 _ (i : Int) f.f0 f.f1 (by omega) g2 ?_ f.f0.data.toList 0 rfl
      rw [w64 (show i < 9223372036854775807 by have := ok.few; omega)]
      exact ih (i + 1) _ lg (drop_succ hi) (by rw [hsz]; omega) hgood' hlg
    refine Ev.step (fun k => rfl) ?_
    simp only [Q.headracelaw08_HeadStrict.l0, if_pos (show (i : Int) < (h.f6.length : Int) by omega), if_pos (show 0 ≤ (i : Int) by omega), hrd, if_pos (show al.size + f.f0.size ≤ 9223372036854775807 by omega), ByteArray.size_append, if_pos (show al.size + f.f0.size + f.f1.size ≤ 9223372036854775807 by omega)]
    cases long with
    | true =>
      simp only [if_true]
      exact next true (fun _ => .inl rfl)
    | false =>
      simp only [Bool.false_eq_true, if_false]
      refine next _ (fun hp => ?_)
      rcases hlong hp with h5 | ⟨g, hg, h5⟩
      · cases h5
      · rcases List.mem_cons.1 hg with rfl | hg
        · refine .inl (decide_eq_true ?_)
          unfold wrap64
          omega
        · exact .inr ⟨g, hg, h5⟩
theorem sum_text (h : Head) : h.f1.size + h.f2.size + h.f5.size + sumF h.f6 ≤ (textS h).length + h.f1.size + h.f2.size + h.f5.size := by
  rw [textS_length]
  have key : ∀ l : List Chk.Fld, sumF l ≤ wtF l := by
    intro l
    induction l with
    | nil => exact Nat.le_refl _
    | cons f r ih => unfold sumF wtF at *; rw [List.map_cons, List.sum_cons, List.map_cons, List.sum_cons]; omega
  have := key h.f6
  omega
theorem first_sizes (h : Head) (ok : HdOk h) : h.f1.size + h.f2.size + h.f5.size ≤ (firstL h).length := by
  unfold firstL
  rcases ok.first with ⟨e, _, _, _, h5⟩ | ⟨e, h1, h2, _, _, _⟩
  · rw [if_pos e, h5, sz h.f1, sz h.f2]
    simp only [List.length_append, List.length_cons]
    show _ + _ + 0 ≤ _
    omega
  · rw [if_neg (by rw [e]; decide), h1, h2, sz h.f5]
    simp only [List.length_append, List.length_cons]
    show 0 + 0 + _ ≤ _
    omega
theorem pure_strict (a0 : Bool) (l : List Int) (hl : l.length ≤ 1048576) : ∃ k, Q.headracelaw08_HeadStrict.f k a0 l = some true := by
  have hv : Ev (fun k => Q.headracelaw08_HeadStrict.f k a0 l) true := by
    unfold Q.headracelaw08_HeadStrict.f
    obtain ⟨⟨x, n, e⟩, hp⟩ : ∃ p, p = parseS a0 l := ⟨_, rfl⟩
    simp only [qParse a0 l (by omega) x n e hp.symm, Option.bind_some]
    by_cases he : e = 0
    · have he2 : (parseS a0 l).2.2 = 0 := by rw [← hp]; exact he
      obtain ⟨ok, hf0, h1, h2⟩ := parse_holds a0 l he2
      have hT := text_bound a0 l he2 (by omega)
      have hL := print_long a0 l he2
      obtain ⟨k, e1, e2, e3, _⟩ := parseS_cut a0 l he2
      rw [← hp] at ok hf0 h1 h2 hT hL e1
      simp only at ok hf0 h1 h2 hT hL e1
      have hfs := first_sizes x ok
      have hst := sum_text x
      have hfew := ok.few
      have hs3 : (x.f1 ++ x.f2 ++ x.f5).size = x.f1.size + x.f2.size + x.f5.size := by rw [ByteArray.size_append, ByteArray.size_append]
      simp only [if_pos he, if_pos (show x.f1.size + x.f2.size ≤ 9223372036854775807 by omega), ByteArray.size_append, if_pos (show x.f1.size + x.f2.size + x.f5.size ≤ 9223372036854775807 by omega)]
      refine ev_strict0 a0 x ok hf0 hT x.f6 0 (x.f1 ++ x.f2 ++ x.f5) _ rfl (by rw [hs3]; omega) ?_ ?_
      · intro c hc
        rw [ByteArray.data_append, Array.toList_append, ByteArray.data_append, Array.toList_append] at hc
        exact good_first ok c hc
      · intro hpr
        rcases hL hpr with h5 | h5
        · refine .inl (decide_eq_true ?_)
          unfold wrap64
          omega
        · exact .inr h5
    · have he2 : ¬ (parseS a0 l).2.2 = 0 := by rw [← hp]; exact he
      obtain ⟨h1, h2⟩ := parseS_no a0 l he2
      rw [← hp] at h1 h2
      simp only at h1 h2
      subst h1 h2
      simp only [if_neg he, if_true]
      refine Ev.bind (r := true) (ev_plainH (head0 false) (by decide)) ?_
      simp only [if_true, Q.headracelaw08_speaks.f, Option.bind_some]
      exact Ev.now _
  obtain ⟨k, hk⟩ := hv.rounds
  exact ⟨k, hk⟩
theorem pure_HeadStrict (a0 : Bool) (l : List Int) (hl : l.length ≤ 1048576) (_ : ∀ x ∈ l, (Go.Lit.int .u8 x).wf = true) : ∃ k, Q.headracelaw08_HeadStrict.f k a0 l = some true := pure_strict a0 l hl
end Go.Proofs.YtccolnlfjbgnmaaGreatDoor.Hd
