/- headraceref08's lines, plainly: the printed functions say what the parser says; own text of this session. -/
import Derived.Test.YtmlgejgnjfbblaaGreatDoorRh1
namespace Go.Proofs.YtmlgejgnjfbblaaGreatDoor.Hd
open Go.RowKit Go.Proofs.YtmlgejgnjfbblaaGreatDoorW.PrintWords Go.Proofs.YtmlgejgnjfbblaaGreatDoorW.PrintLast Chk Px Hr
set_option linter.unusedVariables false
set_option linter.unusedSimpArgs false
theorem hext_take (s : ByteArray) (i : Nat) : s.extract 0 i = mkB (s.data.toList.take i) := by
  have h := mkB_extract s.data.toList 0 i
  rw [mkB_of] at h
  rw [h, List.drop_zero]
theorem hext_drop (s : ByteArray) (i : Nat) : s.extract i s.size = mkB (s.data.toList.drop i) := by
  have h := mkB_extract s.data.toList i s.size
  rw [mkB_of] at h
  rw [h, List.take_of_length_le (by rw [← sz]; exact Nat.le_refl _)]
theorem eq_byte (c : UInt8) (n : Nat) (hn : n < 256) : ((c.toNat : Int) = (n : Int)) ↔ c = UInt8.ofNat n := by
  constructor
  · intro h
    apply UInt8.toNat_inj.1
    have e : (UInt8.ofNat n).toNat = n % 256 := rfl
    omega
  · intro h
    have e : (UInt8.ofNat n).toNat = n % 256 := rfl
    rw [h]
    omega
/-- A cut, at the first byte of a kind. -/
theorem ev_rcut_l0 (n : Nat) (hn : n < 256) (s : ByteArray) (hs : s.size ≤ 4611686018427387904) (rest : Bs) : ∀ i : Nat, s.data.toList.drop i = rest → UInt8.ofNat n ∉ s.data.toList.take i →
    Ev (fun k => P.headraceref08_cut.l0 k s (n : Int) (i : Int)) (mkB (Lib.cut s.data.toList [UInt8.ofNat n]).1, mkB (Lib.cut s.data.toList [UInt8.ofNat n]).2.1, (Lib.cut s.data.toList [UInt8.ofNat n]).2.2) := by
  induction rest with
  | nil =>
    intro i hi hnot
    have h1 := drop_nil hi
    have e : s.data.toList.take i = s.data.toList := List.take_of_length_le h1
    rw [e] at hnot
    rw [← sz] at h1
    refine Ev.step (fun k => rfl) ?_
    simp only [P.headraceref08_cut.l0, if_neg (show ¬ ((i : Int) < (s.size : Int)) by omega)]
    rw [hcut_none _ _ hnot, mkB_of]
    exact Ev.now _
  | cons c r ih =>
    intro i hi hnot
    have h1 := drop_lt hi
    have h1' := h1
    rw [← sz] at h1
    have hw := w64 (i := i) (by omega)
    have hsn : s.data.toList = s.data.toList.take i ++ c :: r := by rw [← hi, List.take_append_drop]
    refine Ev.step (fun k => rfl) ?_
    simp only [P.headraceref08_cut.l0, if_pos (show (i : Int) < (s.size : Int) by omega), if_pos (show 0 ≤ (i : Int) by omega), bt_nat hi, hw]
    refine ev_ite (fun h2 => ?_) (fun h2 => ?_)
    · have hc : c = UInt8.ofNat n := (eq_byte c n hn).1 h2
      subst hc
      have hcut := hcut_one (s.data.toList.take i) r (UInt8.ofNat n) hnot
      rw [← hsn] at hcut
      have hdr : s.data.toList.drop (i + 1) = r := drop_succ hi
      simp only [if_pos (show (i : Int) ≤ (s.size : Int) by omega), if_pos (show 0 ≤ ((i + 1 : Nat) : Int) by omega), if_pos (show ((i + 1 : Nat) : Int) ≤ (s.size : Int) by omega), Int.toNat_natCast, hext_take, hext_drop, hdr]
      rw [hcut]
      exact Ev.now _
    · refine ih (i + 1) (drop_succ hi) ?_
      rw [List.take_succ_eq_append_getElem h1', List.mem_append]
      rintro (h5 | h5)
      · exact hnot h5
      · have h6 : s.data.toList[i] = c := by
          have h7 := List.drop_eq_getElem_cons h1'
          rw [hi] at h7
          injection h7 with h8 _
          exact h8.symm
        rw [h6] at h5
        exact h2 ((eq_byte c n hn).2 (List.mem_singleton.1 h5).symm)
theorem ev_rcut (n : Nat) (hn : n < 256) (s : ByteArray) (hs : s.size ≤ 4611686018427387904) :
    Ev (fun k => P.headraceref08_cut.f k s (n : Int)) (mkB (Lib.cut s.data.toList [UInt8.ofNat n]).1, mkB (Lib.cut s.data.toList [UInt8.ofNat n]).2.1, (Lib.cut s.data.toList [UInt8.ofNat n]).2.2) := by
  unfold P.headraceref08_cut.f
  exact ev_rcut_l0 n hn s hs _ 0 rfl (by simp)
theorem cut_len (l : Bs) (c : UInt8) : (Lib.cut l [c]).1.length ≤ l.length ∧ (Lib.cut l [c]).2.1.length ≤ l.length := by
  rcases cut_spec l c with ⟨a, b, _, e, h⟩ | ⟨_, h⟩
  · rw [h, e]; simp; omega
  · rw [h]; simp
/-! ### a version -/
theorem take_eq (s : ByteArray) : (s.extract 0 5).toList = s.data.toList.take 5 := by rw [tl, hext_take, mkB_data]
theorem bt_get (s : ByteArray) (i : Nat) (hi : i < s.size) : bt s (i : Int) = ((s.data.toList.getD i 0).toNat : Int) := by
  have hi' : i < s.data.toList.length := by rw [← sz]; exact hi
  rw [bt_nat (List.drop_eq_getElem_cons hi'), List.getD_eq_getElem?_getD, List.getElem?_eq_getElem hi']
  rfl
theorem digB_iff (c : UInt8) : ((c.toNat : Int) ≥ 48 ∧ (c.toNat : Int) ≤ 57) ↔ digB c = true := by
  unfold digB
  simp only [Bool.and_eq_true, decide_eq_true_eq]
  omega
theorem ev_rversion (s : ByteArray) : Ev (fun k => P.headraceref08_version.f k s) (versionS s.data.toList) := by
  unfold P.headraceref08_version.f versionS
  rw [tl]
  by_cases h0 : s.data.toList = http0
  · rw [if_pos h0]
    have h0' : s.data.toList = ([72, 84, 84, 80, 47, 49, 46, 48] : List UInt8) := h0
    simp only [if_pos h0']
    have e : s = mkB http0 := by rw [← h0, mkB_of]
    rw [e]
    exact Ev.of (fun k => P.headraceref08_version.mono_l k _ _) (k := 1) (by decide +kernel)
  · rw [if_neg h0]
    have h0' : ¬ s.data.toList = ([72, 84, 84, 80, 47, 49, 46, 48] : List UInt8) := h0
    simp only [if_neg h0']
    by_cases h1 : s.data.toList = http1
    · rw [if_pos h1]
      have e : s = mkB http1 := by rw [← h1, mkB_of]
      rw [e]
      exact Ev.of (fun k => P.headraceref08_version.mono_l k _ _) (k := 1) (by decide +kernel)
    · rw [if_neg h1]
      have h1' : ¬ s.data.toList = ([72, 84, 84, 80, 47, 49, 46, 49] : List UInt8) := h1
      have b1 : (s.data.toList == ([72, 84, 84, 80, 47, 49, 46, 49] : List UInt8)) = false := by simpa using h1'
      rw [b1]
      refine Ev.step (fun k => rfl) ?_
      simp only [P.headraceref08_version.j0, Bool.false_eq_true, if_false]
      unfold verLike
      by_cases h8 : (s.size : Int) = 8
      · have h8' : s.data.toList.length = 8 := by rw [← sz]; omega
        rw [if_pos h8]
        simp only [if_pos (show (0 : Nat) ≤ 5 by decide), if_pos (show (5 : Int) ≤ (s.size : Int) by omega), if_pos (show (6 : Int) < (s.size : Int) by omega), if_pos (show (5 : Int) < (s.size : Int) by omega), if_pos (show (7 : Int) < (s.size : Int) by omega), take_eq, decide_eq_true h8', Bool.true_and]
        have g5 := bt_get s 5 (by omega)
        have g6 := bt_get s 6 (by omega)
        have g7 := bt_get s 7 (by omega)
        have g5' : bt s 5 = ((s.data.toList.getD 5 0).toNat : Int) := g5
        have g6' : bt s 6 = ((s.data.toList.getD 6 0).toNat : Int) := g6
        have g7' : bt s 7 = ((s.data.toList.getD 7 0).toNat : Int) := g7
        rw [g5', g6', g7']
        have d5 := digB_iff (s.data.toList.getD 5 0)
        have d6 : ((s.data.toList.getD 6 0).toNat : Int) = 46 ↔ s.data.toList.getD 6 0 = 46 := eq_byte (s.data.toList.getD 6 0) 46 (by decide)
        have d7 := digB_iff (s.data.toList.getD 7 0)
        by_cases t5 : s.data.toList.take 5 = ([72, 84, 84, 80, 47] : List UInt8)
        · have bt5 : (s.data.toList.take 5 == ([72, 84, 84, 80, 47] : List UInt8)) = true := by simpa using t5
          rw [if_pos t5, bt5, Bool.true_and]
          by_cases t6 : s.data.toList.getD 6 0 = 46
          · have b6 : (s.data.toList.getD 6 0 == 46) = true := by simpa using t6
            rw [if_pos (d6.2 t6), b6]
            by_cases x5 : digB (s.data.toList.getD 5 0) = true
            · obtain ⟨y1, y2⟩ := d5.2 x5
              rw [if_pos y1, if_pos y2, x5]
              by_cases x7 : digB (s.data.toList.getD 7 0) = true
              · obtain ⟨z1, z2⟩ := d7.2 x7
                rw [if_pos z1, if_pos z2, x7]
                exact Ev.now _
              · have x7' : digB (s.data.toList.getD 7 0) = false := by simpa using x7
                rw [x7']
                by_cases z1 : ((s.data.toList.getD 7 0).toNat : Int) ≥ 48
                · rw [if_pos z1, if_neg (fun z2 => x7 (d7.1 ⟨z1, z2⟩))]; exact Ev.now _
                · rw [if_neg z1]; exact Ev.now _
            · have x5' : digB (s.data.toList.getD 5 0) = false := by simpa using x5
              rw [x5']
              by_cases z1 : ((s.data.toList.getD 5 0).toNat : Int) ≥ 48
              · rw [if_pos z1, if_neg (fun z2 => x5 (d5.1 ⟨z1, z2⟩))]; exact Ev.now _
              · rw [if_neg z1]; exact Ev.now _
          · have b6 : (s.data.toList.getD 6 0 == 46) = false := by simpa using t6
            rw [if_neg (fun h => t6 (d6.1 h)), b6]
            simp only [Bool.and_false, Bool.false_and, Bool.false_eq_true, if_false]
            exact Ev.now _
        · have bt5 : (s.data.toList.take 5 == ([72, 84, 84, 80, 47] : List UInt8)) = false := by simpa using t5
          rw [if_neg t5, bt5]
          exact Ev.now _
      · have h8' : ¬ s.data.toList.length = 8 := by rw [← sz]; omega
        rw [if_neg h8, decide_eq_false h8']
        exact Ev.now _
end Go.Proofs.YtmlgejgnjfbblaaGreatDoor.Hd
