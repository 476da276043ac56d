/- Plain laws of package lexis and its reference, over the printed functions: own text of this session. -/
import Derived.Test.YtccolnlfjbgnmaaGreatDoorP
import Derived.Test.YtccolnlfjbgnmaaGreatDoorSpec
namespace Go.Proofs.YtccolnlfjbgnmaaGreatDoor.Px
open Go.RowKit Go.Proofs.YtccolnlfjbgnmaaGreatDoor.P Go.Proofs.YtccolnlfjbgnmaaGreatDoorW.PrintWords Go.Proofs.YtccolnlfjbgnmaaGreatDoorW.PrintLast Go.Proofs.Hr
set_option linter.unusedVariables false
set_option linter.unusedSimpArgs false
/-! bytes of a text -/
theorem sz (s : ByteArray) : s.size = s.data.toList.length := Array.length_toList.symm
theorem tl (s : ByteArray) : s.toList = s.data.toList := ByteArray.toList_eq s
theorem bt_nat {s : ByteArray} {i : Nat} {c : UInt8} {r : List UInt8} (h : s.data.toList.drop i = c :: r) : bt s (i : Int) = (c.toNat : Int) := by
  have hi : i < s.data.toList.length := by
    rcases Nat.lt_or_ge i s.data.toList.length with h1 | h1
    · exact h1
    · rw [List.drop_eq_nil_of_le h1] at h; cases h
  rw [List.drop_eq_getElem_cons hi] at h
  injection h with h1 h2
  unfold bt
  have hs : (i : Int).toNat < s.size := by rw [sz]; simpa using hi
  rw [dif_pos hs, ← h1]
  simp [ByteArray.getElem_eq_getElem_data]
theorem drop_lt {α : Type} {l r : List α} {c : α} {i : Nat} (h : l.drop i = c :: r) : i < l.length := by
  rcases Nat.lt_or_ge i l.length with h1 | h1
  · exact h1
  · rw [List.drop_eq_nil_of_le h1] at h; cases h
theorem drop_succ {α : Type} {l r : List α} {c : α} {i : Nat} (h : l.drop i = c :: r) : l.drop (i + 1) = r := by
  have hi := drop_lt h
  rw [List.drop_eq_getElem_cons hi] at h
  injection h
theorem drop_nil {α : Type} {l : List α} {i : Nat} (h : l.drop i = []) : l.length ≤ i := by simpa using h
theorem w64 {i : Nat} (h : i < 9223372036854775807) : wrap64 ((i : Int) + 1) = ((i + 1 : Nat) : Int) := by unfold wrap64; omega
theorem byte_of (P : UInt8 → Prop) (h : ∀ n : Fin 256, P (UInt8.ofNat n.val)) (c : UInt8) : P c := by
  have := h ⟨c.toNat, c.toNat_lt⟩
  rwa [UInt8.ofNat_toNat] at this
/-! tchar, Token -/
def tch (c : UInt8) : Bool := (48 ≤ c && c ≤ 57) || (97 ≤ c && c ≤ 122) || (65 ≤ c && c ≤ 90) || [33, 35, 36, 37, 38, 39, 42, 43, 45, 46, 94, 95, 96, 124, 126].contains c
def token (l : Bs) : Bool := l.all tch && l != []
theorem tchar_at : ∀ n : Fin 256, lexis_tchar.f 4 ((UInt8.ofNat n.val).toNat : Int) = some (tch (UInt8.ofNat n.val)) := by decide +kernel
theorem ev_tchar (c : UInt8) : Ev (fun k => lexis_tchar.f k (c.toNat : Int)) (tch c) := Ev.of (lexis_tchar.mono _) (byte_of (fun c => lexis_tchar.f 4 (c.toNat : Int) = some (tch c)) tchar_at c)
theorem ev_Token_l0 (s : ByteArray) (hs : s.size ≤ 4611686018427387904) (rest : Bs) : ∀ i : Nat, s.data.toList.drop i = rest → Ev (fun k => lexis_Token.l0 k s (s.size : Int) (i : Int)) (rest.all tch && (s.toList != ([] : List UInt8))) := by
  induction rest with
  | nil =>
    intro i h
    have h1 := drop_nil h
    rw [← sz] at h1
    refine Ev.step (fun k => rfl) ?_
    simp only [lexis_Token.l0, if_neg (show ¬ ((i : Int) < (s.size : Int)) by omega)]
    exact Ev.now _
  | cons c r ih =>
    intro i h
    have h1 := drop_lt h
    rw [← sz] at h1
    have hw := w64 (i := i) (by omega)
    refine Ev.step (fun k => rfl) ?_
    simp only [lexis_Token.l0, if_pos (show (i : Int) < (s.size : Int) by omega), if_pos (show 0 ≤ (i : Int) by omega), bt_nat h, hw]
    refine Ev.bind (ev_tchar c) ?_
    cases hc : tch c with
    | true =>
      simp only [if_true, List.all_cons, hc, Bool.true_and]
      exact ih (i + 1) (drop_succ h)
    | false =>
      simp only [Bool.false_eq_true, if_false, List.all_cons, hc, Bool.false_and]
      exact Ev.now _
theorem bne_toList (s : ByteArray) : (s.toList != ([] : List UInt8)) = (s.data.toList != []) := by rw [tl]
theorem ev_Token (s : ByteArray) (hs : s.size ≤ 4611686018427387904) : Ev (fun k => lexis_Token.f k s) (token s.data.toList) := by
  unfold lexis_Token.f token
  rw [← bne_toList]
  exact ev_Token_l0 s hs _ 0 rfl
/-! Trim -/
def mkB (l : Bs) : ByteArray := ⟨l.toArray⟩
theorem mkB_data (l : Bs) : (mkB l).data.toList = l := by simp [mkB]
theorem mkB_of (s : ByteArray) : mkB s.data.toList = s := by cases s; simp [mkB]
theorem mkB_size (l : Bs) : (mkB l).size = l.length := by rw [sz, mkB_data]
theorem mkB_extract (l : Bs) (i j : Nat) : (mkB l).extract i j = mkB ((l.take j).drop i) := by
  apply ByteArray.ext
  rw [ByteArray.data_extract]
  unfold mkB
  apply Array.ext'
  simp [List.extract_eq_take_drop, List.drop_take]
theorem mkB_append (l m : Bs) : mkB l ++ mkB m = mkB (l ++ m) := by
  apply ByteArray.ext
  simp [mkB]
def trimL (l : Bs) : Bs := l.dropWhile isBlank
def trimR (l : Bs) : Bs := (l.reverse.dropWhile isBlank).reverse
theorem has_blank (c : UInt8) : ([32, 9] : List UInt8).contains c = isBlank c := by
  unfold isBlank
  simp only [List.contains, List.elem]
  cases (c == 32) <;> cases (c == 9) <;> rfl
theorem trim_eq (l : Bs) : trim l = trimL (trimR l) := by
  unfold trim Lib.trimS Lib.trimLeftS Lib.trimRightS trimL trimR
  simp only [has_blank]
theorem lTrim (s : ByteArray) (hs : s.size ≤ 4611686018427387904) : lexis_Trim.f s = some (mkB (trim s.data.toList)) := by
  unfold lexis_Trim.f strings_Trim.f
  rw [if_pos ⟨hs, rfl⟩]
  rfl
end Go.Proofs.YtccolnlfjbgnmaaGreatDoor.Px
