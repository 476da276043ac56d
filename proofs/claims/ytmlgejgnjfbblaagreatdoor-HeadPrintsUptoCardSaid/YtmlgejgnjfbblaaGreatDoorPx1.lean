/- Plain laws of package lexis and its reference, over the printed functions: own text of this session. -/
import Derived.Test.YtmlgejgnjfbblaaGreatDoorP
import Derived.Test.YtmlgejgnjfbblaaGreatDoorSpec
namespace Go.Proofs.YtmlgejgnjfbblaaGreatDoor.Px
open Go.RowKit Go.Proofs.YtmlgejgnjfbblaaGreatDoor.P Go.Proofs.YtmlgejgnjfbblaaGreatDoorW.PrintWords Go.Proofs.YtmlgejgnjfbblaaGreatDoorW.PrintLast Go.Proofs.Hr
set_option linter.unusedVariables false
set_option linter.unusedSimpArgs false
/-! bytes of a text -/
theorem sz (s : ByteArray) : s.size = s.data.toList.length := Array.length_toList.symm
theorem tl (s : ByteArray) : s.toList = s.data.toList := ByteArray.toList_eq s
theorem bt_nat {s : ByteArray} {i : Nat} {c : UInt8} {r : List UInt8} (h : s.data.toList.drop i = c :: r) : bt s (i : Int) = (c.toNat : Int) := by
  have hi : i < s.data.toList.length := by
    rcases Nat.lt_or_ge i s.data.toList.length with h1 | h1
    · exact h1
    · rw [List.drop_eq_nil_of_le h1] at h; cases h
  rw [List.drop_eq_getElem_cons hi] at h
  injection h with h1 h2
  unfold bt
  have hs : (i : Int).toNat < s.size := by rw [sz]; simpa using hi
  rw [dif_pos hs, ← h1]
  simp [ByteArray.getElem_eq_getElem_data]
theorem drop_lt {α : Type} {l r : List α} {c : α} {i : Nat} (h : l.drop i = c :: r) : i < l.length := by
  rcases Nat.lt_or_ge i l.length with h1 | h1
  · exact h1
  · rw [List.drop_eq_nil_of_le h1] at h; cases h
theorem drop_succ {α : Type} {l r : List α} {c : α} {i : Nat} (h : l.drop i = c :: r) : l.drop (i + 1) = r := by
  have hi := drop_lt h
  rw [List.drop_eq_getElem_cons hi] at h
  injection h
theorem drop_nil {α : Type} {l : List α} {i : Nat} (h : l.drop i = []) : l.length ≤ i := by simpa using h
theorem w64 {i : Nat} (h : i < 9223372036854775807) : wrap64 ((i : Int) + 1) = ((i + 1 : Nat) : Int) := by unfold wrap64; omega
theorem byte_of (P : UInt8 → Prop) (h : ∀ n : Fin 256, P (UInt8.ofNat n.val)) (c : UInt8) : P c := by
  have := h ⟨c.toNat, c.toNat_lt⟩
  rwa [UInt8.ofNat_toNat] at this
/-! tchar, Token -/
def tch (c : UInt8) : Bool := (48 ≤ c && c ≤ 57) || (97 ≤ c && c ≤ 122) || (65 ≤ c && c ≤ 90) || [33, 35, 36, 37, 38, 39, 42, 43, 45, 46, 94, 95, 96, 124, 126].contains c
def token (l : Bs) : Bool := l.all tch && l != []
theorem tchar_at : ∀ n : Fin 256, lexis_tchar.f 4 ((UInt8.ofNat n.val).toNat : Int) = some (tch (UInt8.ofNat n.val)) := by decide +kernel
theorem ev_tchar (c : UInt8) : Ev (fun k => lexis_tchar.f k (c.toNat : Int)) (tch c) := Ev.of (lexis_tchar.mono _) (byte_of (fun c => lexis_tchar.f 4 (c.toNat : Int) = some (tch c)) tchar_at c)
theorem ev_Token_l0 (s : ByteArray) (hs : s.size ≤ 4611686018427387904) (rest : Bs) : ∀ i : Nat, s.data.toList.drop i = rest → Ev (fun k => lexis_Token.l0 k s (s.size : Int) (i : Int)) (rest.all tch && (s.toList != ([] : List UInt8))) := by
  induction rest with
  | nil =>
    intro i h
    have h1 := drop_nil h
    rw [← sz] at h1
    refine Ev.step (fun k => rfl) ?_
    simp only [lexis_Token.l0, if_neg (show ¬ ((i : Int) < (s.size : Int)) by omega)]
    exact Ev.now _
  | cons c r ih =>
    intro i h
    have h1 := drop_lt h
    rw [← sz] at h1
    have hw := w64 (i := i) (by omega)
    refine Ev.step (fun k => rfl) ?_
    simp only [lexis_Token.l0, if_pos (show (i : Int) < (s.size : Int) by omega), if_pos (show 0 ≤ (i : Int) by omega), bt_nat h, hw]
    refine Ev.bind (ev_tchar c) ?_
    cases hc : tch c with
    | true =>
      simp only [if_true, List.all_cons, hc, Bool.true_and]
      exact ih (i + 1) (drop_succ h)
    | false =>
      simp only [Bool.false_eq_true, if_false, List.all_cons, hc, Bool.false_and]
      exact Ev.now _
theorem bne_toList (s : ByteArray) : (s.toList != ([] : List UInt8)) = (s.data.toList != []) := by rw [tl]
theorem ev_Token (s : ByteArray) (hs : s.size ≤ 4611686018427387904) : Ev (fun k => lexis_Token.f k s) (token s.data.toList) := by
  unfold lexis_Token.f token
  rw [← bne_toList]
  exact ev_Token_l0 s hs _ 0 rfl
/-! the reference's -/
theorem rtchar_at : ∀ n : Fin 256, headraceref05_tchar.f 20 ((UInt8.ofNat n.val).toNat : Int) = some (tch (UInt8.ofNat n.val)) := by decide +kernel
theorem ev_rtchar (c : UInt8) : Ev (fun k => headraceref05_tchar.f k (c.toNat : Int)) (tch c) := Ev.of (headraceref05_tchar.mono _) (byte_of (fun c => headraceref05_tchar.f 20 (c.toNat : Int) = some (tch c)) rtchar_at c)
theorem ev_rToken_l0 (s : ByteArray) (hs : s.size ≤ 4611686018427387904) (rest : Bs) : ∀ i : Nat, s.data.toList.drop i = rest → Ev (fun k => headraceref05_Token.l0 k s (i : Int)) (rest.all tch && decide ((s.size : Int) > 0)) := by
  induction rest with
  | nil =>
    intro i h
    have h1 := drop_nil h
    rw [← sz] at h1
    refine Ev.step (fun k => rfl) ?_
    simp only [headraceref05_Token.l0, if_neg (show ¬ ((i : Int) < (s.size : Int)) by omega)]
    exact Ev.now _
  | cons c r ih =>
    intro i h
    have h1 := drop_lt h
    rw [← sz] at h1
    have hw := w64 (i := i) (by omega)
    refine Ev.step (fun k => rfl) ?_
    simp only [headraceref05_Token.l0, if_pos (show (i : Int) < (s.size : Int) by omega), if_pos (show 0 ≤ (i : Int) by omega), bt_nat h, hw]
    refine Ev.bind (ev_rtchar c) ?_
    cases hc : tch c with
    | true =>
      simp only [if_true, List.all_cons, hc, Bool.true_and]
      exact ih (i + 1) (drop_succ h)
    | false =>
      simp only [Bool.false_eq_true, if_false, List.all_cons, hc, Bool.false_and]
      exact Ev.now _
theorem size_pos (s : ByteArray) : decide ((s.size : Int) > 0) = (s.data.toList != []) := by
  rw [sz]
  cases s.data.toList <;> simp
theorem ev_rToken (s : ByteArray) (hs : s.size ≤ 4611686018427387904) : Ev (fun k => headraceref05_Token.f k s) (token s.data.toList) := by
  unfold headraceref05_Token.f token
  rw [← size_pos]
  exact ev_rToken_l0 s hs _ 0 rfl
/-! Trim -/
def mkB (l : Bs) : ByteArray := ⟨l.toArray⟩
theorem mkB_data (l : Bs) : (mkB l).data.toList = l := by simp [mkB]
theorem mkB_of (s : ByteArray) : mkB s.data.toList = s := by cases s; simp [mkB]
theorem mkB_size (l : Bs) : (mkB l).size = l.length := by rw [sz, mkB_data]
theorem mkB_extract (l : Bs) (i j : Nat) : (mkB l).extract i j = mkB ((l.take j).drop i) := by
  apply ByteArray.ext
  rw [ByteArray.data_extract]
  unfold mkB
  apply Array.ext'
  simp [List.extract_eq_take_drop, List.drop_take]
def trimL (l : Bs) : Bs := l.dropWhile isBlank
def trimR (l : Bs) : Bs := (l.reverse.dropWhile isBlank).reverse
theorem has_blank (c : UInt8) : ([32, 9] : List UInt8).contains c = isBlank c := by
  unfold isBlank
  simp only [List.contains, List.elem]
  cases (c == 32) <;> cases (c == 9) <;> rfl
theorem trim_eq (l : Bs) : trim l = trimL (trimR l) := by
  unfold trim Lib.trimS Lib.trimLeftS Lib.trimRightS trimL trimR
  simp only [has_blank]
theorem trimR_cons (c : UInt8) (t : Bs) : trimR (c :: t) = if trimR t = [] then (if isBlank c then [] else [c]) else c :: trimR t := by
  unfold trimR
  rw [List.reverse_cons, List.dropWhile_append]
  cases h : (t.reverse.dropWhile isBlank) with
  | nil =>
    simp only [List.isEmpty_nil, if_true, List.reverse_nil, List.dropWhile_cons, List.dropWhile_nil]
    split <;> rfl
  | cons a b => simp
theorem trim_comm (l : Bs) : trimL (trimR l) = trimR (trimL l) := by
  induction l with
  | nil => rfl
  | cons c t ih =>
    cases hc : isBlank c with
    | true =>
      have e1 : trimL (c :: t) = trimL t := by unfold trimL; rw [List.dropWhile_cons, if_pos hc]
      rw [e1, trimR_cons, hc, ← ih]
      simp only [if_true]
      split
      · rename_i h; rw [h]
      · unfold trimL; rw [List.dropWhile_cons, if_pos hc]
    | false =>
      have e1 : trimL (c :: t) = c :: t := by unfold trimL; rw [List.dropWhile_cons, if_neg (by rw [hc]; simp)]
      rw [e1, trimR_cons, hc]
      simp only [Bool.false_eq_true, if_false]
      split <;> (unfold trimL; rw [List.dropWhile_cons, if_neg (by rw [hc]; simp)])
theorem blank_at : ∀ n : Fin 256, headraceref05_blank.f ((UInt8.ofNat n.val).toNat : Int) = some (isBlank (UInt8.ofNat n.val)) := by decide +kernel
theorem blank_f (c : UInt8) : headraceref05_blank.f (c.toNat : Int) = some (isBlank c) := byte_of (fun c => headraceref05_blank.f (c.toNat : Int) = some (isBlank c)) blank_at c
theorem ev_rTrim_l1 (r : Bs) (hr : r.length ≤ 4611686018427387904) : Ev (fun k => headraceref05_Trim.l1 k (mkB r.reverse)) (mkB (r.dropWhile isBlank).reverse) := by
  induction r with
  | nil =>
    refine Ev.step (fun k => rfl) ?_
    simp only [headraceref05_Trim.l1, if_neg (show ¬ (((mkB ([] : Bs).reverse).size : Int) > 0) by rw [mkB_size]; simp)]
    exact Ev.now _
  | cons c r ih =>
    have hl : (mkB (c :: r).reverse).size = r.length + 1 := by rw [mkB_size]; simp
    simp only [List.length_cons] at hr
    have hw : wrap64 (((mkB (c :: r).reverse).size : Int) - 1) = ((r.length : Nat) : Int) := by rw [hl]; unfold wrap64; omega
    have hb : bt (mkB (c :: r).reverse) (r.length : Int) = (c.toNat : Int) := bt_nat (r := []) (by rw [mkB_data, List.reverse_cons, List.drop_append_of_le_length (by simp), List.drop_of_length_le (by simp)]; rfl)
    have he : (mkB (c :: r).reverse).extract 0 ((r.length : Int)).toNat = mkB r.reverse := by
      rw [mkB_extract, List.drop_zero, List.reverse_cons, Int.toNat_natCast, List.take_append_of_le_length (by simp), List.take_of_length_le (by simp)]
    refine Ev.step (fun k => rfl) ?_
    simp only [headraceref05_Trim.l1, hw, if_pos (show ((mkB (c :: r).reverse).size : Int) > 0 by rw [hl]; omega), if_pos (show 0 ≤ (r.length : Int) by omega), if_pos (show (r.length : Int) < ((mkB (c :: r).reverse).size : Int) by rw [hl]; omega), if_pos (show (r.length : Int) ≤ ((mkB (c :: r).reverse).size : Int) by rw [hl]; omega), hb, blank_f, Option.bind_some, he]
    rw [List.dropWhile_cons]
    cases hc : isBlank c with
    | true => simp only [if_true]; exact ih (by omega)
    | false => simp only [Bool.false_eq_true, if_false]; exact Ev.now _
theorem ev_rTrim_l0 (l : Bs) (hl : l.length ≤ 4611686018427387904) : Ev (fun k => headraceref05_Trim.l0 k (mkB l)) (mkB (trimR (trimL l))) := by
  have fin : ∀ m : Bs, m.length ≤ 4611686018427387904 → Ev (fun k => headraceref05_Trim.j1 k (mkB m)) (mkB (trimR m)) := by
    intro m hm
    have h := ev_rTrim_l1 m.reverse (by simpa using hm)
    rw [List.reverse_reverse] at h
    refine Ev.step (fun k => rfl) ?_
    simp only [headraceref05_Trim.j1]
    exact h
  induction l with
  | nil =>
    refine Ev.step (fun k => rfl) ?_
    simp only [headraceref05_Trim.l0, if_neg (show ¬ (((mkB ([] : Bs)).size : Int) > 0) by rw [mkB_size]; simp)]
    exact fin [] (by simp)
  | cons c r ih =>
    simp only [List.length_cons] at hl
    have hsz : (mkB (c :: r)).size = r.length + 1 := by rw [mkB_size]; simp
    have hb : bt (mkB (c :: r)) 0 = (c.toNat : Int) := bt_nat (i := 0) (r := r) (by rw [mkB_data]; rfl)
    have he : (mkB (c :: r)).extract 1 (mkB (c :: r)).size = mkB r := by rw [mkB_extract, hsz, List.take_of_length_le (by simp)]; rfl
    refine Ev.step (fun k => rfl) ?_
    simp only [headraceref05_Trim.l0, if_pos (show ((mkB (c :: r)).size : Int) > 0 by rw [hsz]; omega), if_pos (show 0 < ((mkB (c :: r)).size : Int) by rw [hsz]; omega), if_pos (show 1 ≤ ((mkB (c :: r)).size : Int) by rw [hsz]; omega), hb, blank_f, Option.bind_some, he]
    cases hc : isBlank c with
    | true =>
      simp only [if_true]
      have e1 : trimL (c :: r) = trimL r := by unfold trimL; rw [List.dropWhile_cons, if_pos hc]
      rw [e1]
      exact ih (by omega)
    | false =>
      simp only [Bool.false_eq_true, if_false]
      have e1 : trimL (c :: r) = c :: r := by unfold trimL; rw [List.dropWhile_cons, if_neg (by rw [hc]; simp)]
      rw [e1]
      exact fin _ (by simp; omega)
theorem ev_rTrim (s : ByteArray) (hs : s.size ≤ 4611686018427387904) : Ev (fun k => headraceref05_Trim.f k s) (mkB (trim s.data.toList)) := by
  rw [trim_eq, trim_comm]
  unfold headraceref05_Trim.f
  have h := ev_rTrim_l0 s.data.toList (by rw [← sz]; exact hs)
  rwa [mkB_of] at h
theorem lTrim (s : ByteArray) (hs : s.size ≤ 4611686018427387904) : lexis_Trim.f s = some (mkB (trim s.data.toList)) := by
  unfold lexis_Trim.f strings_Trim.f
  rw [if_pos ⟨hs, rfl⟩]
  rfl
end Go.Proofs.YtmlgejgnjfbblaaGreatDoor.Px
