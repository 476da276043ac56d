/- Package lexis, by hand: what digits comes to; own text of this session. -/
import Derived.Test.YtnlicpihondmgaaDoorLex2
namespace Go.Proofs.YtnlicpihondmgaaDoor.Lex
open Go.RowKit Go.Proofs.YtnlicpihondmgaaDoorW.PrintWords Go.Proofs.Hr Go.Shelf
set_option linter.unusedVariables false
theorem one_extract (a0 : ByteArray) (l : Bs) (hl : l = a0.data.toList) (k : Nat) (h : k < l.length) : a0.extract k (k + 1) = ⟨#[l[k]'h]⟩ := by
  subst hl
  have h' : k < a0.data.size := by simpa using h
  apply ByteArray.ext
  rw [ByteArray.data_extract]
  apply Array.ext
  · have e1 : a0.data.size = a0.size := rfl
    simp; omega
  · intro i h1 h2
    have : i = 0 := by simp at h2; omega
    subst this
    simp
/-- The numbers so far. -/
def dg (base : Nat) (l : Bs) (r : Int × Int) (n : Nat) (big : Bool) : Prop :=
  (match digitsGo base l n big with
  | none => (0, 50)
  | some (n, big) => if big then (0, 51) else ((n : Int), 0)) = r
theorem dg_start (base : Nat) (s : Bs) (hs : s ≠ []) (r : Int × Int) (h : Hr.digits base s = r) : dg base s r 0 false := by
  unfold Hr.digits at h
  unfold dg
  rw [← h]
  cases digitsGo base s 0 false with
  | none => rfl
  | some x => simp [hs]
theorem dg_none {base : Nat} {c : UInt8} {l : Bs} {r : Int × Int} {n : Nat} {big : Bool} (h : dg base (c :: l) r n big) (hd : digitOf base c = none) : r = (0, 50) := by
  unfold dg at h
  simp only [digitsGo, hd] at h
  exact h.symm
theorem dg_big {base : Nat} {c : UInt8} {l : Bs} {r : Int × Int} {n d : Nat} (h : dg base (c :: l) r n true) (hd : digitOf base c = some d) : dg base l r n true := by
  unfold dg at h ⊢
  simpa only [digitsGo, hd, if_true] using h
theorem dg_some {base : Nat} {c : UInt8} {l : Bs} {r : Int × Int} {n d : Nat} (h : dg base (c :: l) r n false) (hd : digitOf base c = some d) : dg base l r (n * base + d) (decide (9007199254740992 < n * base + d)) := by
  unfold dg at h ⊢
  simpa only [digitsGo, hd, Bool.false_eq_true, if_false] using h
theorem digitOf_lt {base : Nat} {c : UInt8} {d : Nat} (h : digitOf base c = some d) : d < base := by
  unfold digitOf at h
  (repeat' split at h) <;> first | (injection h with h; omega) | (simp at h)
theorem pu_any (c : UInt8) (b : Int) (hb : b = 10 ∨ b = 16) (w : World) (hG : GInv w) : Calls Tryd.prog 67 #[.string ⟨#[c]⟩, .int .i64 b, .int .i64 8] w (PuAns b.toNat c w) := by
  rcases hb with rfl | rfl
  · exact pu_calls10 c w hG
  · exact pu_calls16 c w hG
theorem emptyB {s : ByteArray} (h : s.size = 0) : s.toList.isEmpty = true := by
  have : s = ⟨#[]⟩ := by
    cases s with
    | mk d => have : d = #[] := Array.eq_empty_of_size_eq_zero h
              rw [this]
  rw [this, ByteArray.toList_eq]; rfl
theorem emptyB_no {s : ByteArray} (h : ¬ s.size = 0) : s.toList.isEmpty = false := by
  rw [ByteArray.toList_eq]
  cases hh : s.data.toList with
  | nil => exact absurd (by rw [show s.size = s.data.toList.length from Array.length_toList.symm, hh]; rfl) h
  | cons a b => rfl
set_option maxRecDepth 100000 in
set_option maxHeartbeats 2000000 in
theorem digits_calls10 (a0 : ByteArray) (r1 r2 : Int) (w : World) (hs : a0.size ≤ 281474976710656) (h : Hr.digits 10 a0.data.toList = (r1, r2)) (hG_ : GInv w) :
    Calls Tryd.prog 57 #[.string a0, .int .i64 10] w fun e w' => e = .returned (.tuple #[.int .i64 r1, .int .i64 r2]) ∧ Below w.heap.size w w' := by
  have HG := Aside0.mk hG_
  have HH := Aside0.mk h
  clear h hG_
  obtain ⟨l, hl⟩ : ∃ l, l = a0.data.toList := ⟨_, rfl⟩
  have hn : a0.size = l.length := by rw [hl]; exact Array.length_toList.symm
  by_cases hz : a0.size = 0
  · have hemp : a0.toList.isEmpty = true := emptyB hz
    have hnil : a0.data.toList = [] := by rw [← hl]; exact List.eq_nil_of_length_eq_zero (by omega)
    have hr : (0, 50) = (r1, r2) := by rw [← HH.out, hnil]; rfl
    injection hr with h1 h2
    subst h1; subst h2
    have HZ := Aside0.mk hz
    clear hl hn hnil HH hz
    go_enter Tryd.func57, Tryd.ntmps57
    go_wp2
    refine wp_loop_rounds 1 ?_
    rw [rounds_succ]
    have hz : (a0.size : Int) = 0 := by rw [HZ.out]; rfl
    go_wp2
    go_ret2
    exact ⟨rfl, Below.refl _ _⟩
  have hlne : l ≠ [] := by intro h0; rw [h0] at hn; exact hz hn
  have HD := Aside0.mk (dg_start 10 l hlne (r1, r2) (by rw [hl]; exact HH.out))
  have hemp : a0.toList.isEmpty = false := emptyB_no hz
  have HL := Aside0.mk hl
  have HN := Aside0.mk hn
  clear hl hn hlne HH hz
  go_enter Tryd.func57, Tryd.ntmps57
  go_wp2
  go_loopw [6, 7, 13] (fun n big i wr => ∃ (k m : Nat) (b : Bool), k ≤ a0.size ∧ i = .int .i64 k ∧ n = .int .i64 m ∧ big = .bool b ∧ m ≤ 9007199254740992 * 16 + 16 ∧ (b = false → m ≤ 9007199254740992) ∧ Aside0 (dg 10 (l.drop k) (r1, r2) m b) ∧ Aside0 (Below w.heap.size w wr)) (fun _ _ i _ => a0.size - (intOf i).toNat)
  case atStart => exact ⟨0, 0, false, Nat.zero_le _, rfl, rfl, rfl, by omega, fun _ => by omega, HD, ⟨Below.refl _ _⟩⟩
  case round =>
    obtain ⟨k, m, b, hk, rfl, rfl, rfl, hm, hmb, HDk, HBw⟩ := hrel
    by_cases hlt : k < a0.size
    · have hkl : k < l.length := by rw [← HN.out]; exact hlt
      obtain ⟨c, hc⟩ : ∃ c, c = l[k]'hkl := ⟨_, rfl⟩
      have HE := Aside0.mk (one_extract a0 l HL.out k hkl)
      rw [← hc] at HE
      have HDc : Aside0 (dg 10 (c :: l.drop (k + 1)) (r1, r2) m b) := ⟨by rw [hc, ← List.drop_eq_getElem_cons hkl]; exact HDk.out⟩
      clear hc HDk HD
      go_wp2_with fail
      rw [HE.out]
      refine (pu_any c 10 (by decide) wr (HG.out.below HBw.out)).mono ?_
      intro e w1 hans
      obtain ⟨⟨x, er, rfl, hx⟩, hbl⟩ := hans
      have HB1 := Aside0.mk (below_step HBw.out hbl)
      clear hbl
      cases hd : digitOf 10 c with
      | none =>
        have hd' : digitOf (10 : Int).toNat c = none := hd
        rw [hd'] at hx
        obtain ⟨t, p, rfl⟩ := hx
        have hr := dg_none HDc.out hd
        injection hr with h1 h2
        subst h1; subst h2
        clear hd hd'
        go_wp2
        go_ret2
        exact ⟨rfl, HB1.out⟩
      | some d =>
        have hd' : digitOf (10 : Int).toNat c = some d := hd
        rw [hd'] at hx
        obtain ⟨rfl, rfl⟩ := hx
        have hdl := digitOf_lt hd
        have HDD := Aside0.mk hd
        clear hd hd'
        cases b with
        | true =>
          have HX := Aside0.mk (dg_big HDc.out HDD.out)
          clear hmb
          go_wp2
          go_roundw
          case rel => exact ⟨k + 1, m, true, by omega, by go_num, rfl, rfl, hm, (fun h => by cases h), HX, HB1⟩
          case measure => simp [intOf]; omega
        | false =>
          have HX := Aside0.mk (dg_some HDc.out HDD.out)
          have hmb' : m ≤ 9007199254740992 := hmb rfl
          clear hmb hm
          by_cases hbig : 9007199254740992 < m * 10 + d
          · have hbd : decide ((9007199254740992 : Int) < (m : Int) * 10 + (d : Int)) = true := decide_eq_true (by omega)
            rw [decide_eq_true hbig] at HX
            go_wp2
            go_roundw
            case rel => exact ⟨k + 1, m * 10 + d, true, by omega, by go_num, by go_num, rfl, by omega, (fun h => by cases h), HX, HB1⟩
            case measure => simp [intOf]; omega
          · have hbd : decide ((9007199254740992 : Int) < (m : Int) * 10 + (d : Int)) = false := decide_eq_false (by omega)
            rw [decide_eq_false hbig] at HX
            go_wp2
            go_roundw
            case rel => exact ⟨k + 1, m * 10 + d, false, by omega, by go_num, by go_num, rfl, by omega, fun _ => by omega, HX, HB1⟩
            case measure => simp [intOf]; omega
    · have hdr : l.drop k = [] := by rw [List.drop_eq_nil_iff, ← HN.out]; omega
      have hfin : (if b then ((0 : Int), (51 : Int)) else ((m : Int), 0)) = (r1, r2) := by have h5 := HDk.out; rw [hdr] at h5; exact h5
      clear hdr HDk HD
      cases b with
      | true =>
        injection hfin with h1 h2
        subst h1; subst h2
        go_wp2
        go_ret2
        exact ⟨rfl, HBw.out⟩
      | false =>
        injection hfin with h1 h2
        subst h1; subst h2
        go_wp2
        go_ret2
        exact ⟨rfl, HBw.out⟩
set_option maxRecDepth 100000 in
set_option maxHeartbeats 2000000 in
theorem digits_calls16 (a0 : ByteArray) (r1 r2 : Int) (w : World) (hs : a0.size ≤ 281474976710656) (h : Hr.digits 16 a0.data.toList = (r1, r2)) (hG_ : GInv w) :
    Calls Tryd.prog 57 #[.string a0, .int .i64 16] w fun e w' => e = .returned (.tuple #[.int .i64 r1, .int .i64 r2]) ∧ Below w.heap.size w w' := by
  have HG := Aside0.mk hG_
  have HH := Aside0.mk h
  clear h hG_
  obtain ⟨l, hl⟩ : ∃ l, l = a0.data.toList := ⟨_, rfl⟩
  have hn : a0.size = l.length := by rw [hl]; exact Array.length_toList.symm
  by_cases hz : a0.size = 0
  · have hemp : a0.toList.isEmpty = true := emptyB hz
    have hnil : a0.data.toList = [] := by rw [← hl]; exact List.eq_nil_of_length_eq_zero (by omega)
    have hr : (0, 50) = (r1, r2) := by rw [← HH.out, hnil]; rfl
    injection hr with h1 h2
    subst h1; subst h2
    have HZ := Aside0.mk hz
    clear hl hn hnil HH hz
    go_enter Tryd.func57, Tryd.ntmps57
    go_wp2
    refine wp_loop_rounds 1 ?_
    rw [rounds_succ]
    have hz : (a0.size : Int) = 0 := by rw [HZ.out]; rfl
    go_wp2
    go_ret2
    exact ⟨rfl, Below.refl _ _⟩
  have hlne : l ≠ [] := by intro h0; rw [h0] at hn; exact hz hn
  have HD := Aside0.mk (dg_start 16 l hlne (r1, r2) (by rw [hl]; exact HH.out))
  have hemp : a0.toList.isEmpty = false := emptyB_no hz
  have HL := Aside0.mk hl
  have HN := Aside0.mk hn
  clear hl hn hlne HH hz
  go_enter Tryd.func57, Tryd.ntmps57
  go_wp2
  go_loopw [6, 7, 13] (fun n big i wr => ∃ (k m : Nat) (b : Bool), k ≤ a0.size ∧ i = .int .i64 k ∧ n = .int .i64 m ∧ big = .bool b ∧ m ≤ 9007199254740992 * 16 + 16 ∧ (b = false → m ≤ 9007199254740992) ∧ Aside0 (dg 16 (l.drop k) (r1, r2) m b) ∧ Aside0 (Below w.heap.size w wr)) (fun _ _ i _ => a0.size - (intOf i).toNat)
  case atStart => exact ⟨0, 0, false, Nat.zero_le _, rfl, rfl, rfl, by omega, fun _ => by omega, HD, ⟨Below.refl _ _⟩⟩
  case round =>
    obtain ⟨k, m, b, hk, rfl, rfl, rfl, hm, hmb, HDk, HBw⟩ := hrel
    by_cases hlt : k < a0.size
    · have hkl : k < l.length := by rw [← HN.out]; exact hlt
      obtain ⟨c, hc⟩ : ∃ c, c = l[k]'hkl := ⟨_, rfl⟩
      have HE := Aside0.mk (one_extract a0 l HL.out k hkl)
      rw [← hc] at HE
      have HDc : Aside0 (dg 16 (c :: l.drop (k + 1)) (r1, r2) m b) := ⟨by rw [hc, ← List.drop_eq_getElem_cons hkl]; exact HDk.out⟩
      clear hc HDk HD
      go_wp2_with fail
      rw [HE.out]
      refine (pu_any c 16 (by decide) wr (HG.out.below HBw.out)).mono ?_
      intro e w1 hans
      obtain ⟨⟨x, er, rfl, hx⟩, hbl⟩ := hans
      have HB1 := Aside0.mk (below_step HBw.out hbl)
      clear hbl
      cases hd : digitOf 16 c with
      | none =>
        have hd' : digitOf (16 : Int).toNat c = none := hd
        rw [hd'] at hx
        obtain ⟨t, p, rfl⟩ := hx
        have hr := dg_none HDc.out hd
        injection hr with h1 h2
        subst h1; subst h2
        clear hd hd'
        go_wp2
        go_ret2
        exact ⟨rfl, HB1.out⟩
      | some d =>
        have hd' : digitOf (16 : Int).toNat c = some d := hd
        rw [hd'] at hx
        obtain ⟨rfl, rfl⟩ := hx
        have hdl := digitOf_lt hd
        have HDD := Aside0.mk hd
        clear hd hd'
        cases b with
        | true =>
          have HX := Aside0.mk (dg_big HDc.out HDD.out)
          clear hmb
          go_wp2
          go_roundw
          case rel => exact ⟨k + 1, m, true, by omega, by go_num, rfl, rfl, hm, (fun h => by cases h), HX, HB1⟩
          case measure => simp [intOf]; omega
        | false =>
          have HX := Aside0.mk (dg_some HDc.out HDD.out)
          have hmb' : m ≤ 9007199254740992 := hmb rfl
          clear hmb hm
          by_cases hbig : 9007199254740992 < m * 16 + d
          · have hbd : decide ((9007199254740992 : Int) < (m : Int) * 16 + (d : Int)) = true := decide_eq_true (by omega)
            rw [decide_eq_true hbig] at HX
            go_wp2
            go_roundw
            case rel => exact ⟨k + 1, m * 16 + d, true, by omega, by go_num, by go_num, rfl, by omega, (fun h => by cases h), HX, HB1⟩
            case measure => simp [intOf]; omega
          · have hbd : decide ((9007199254740992 : Int) < (m : Int) * 16 + (d : Int)) = false := decide_eq_false (by omega)
            rw [decide_eq_false hbig] at HX
            go_wp2
            go_roundw
            case rel => exact ⟨k + 1, m * 16 + d, false, by omega, by go_num, by go_num, rfl, by omega, fun _ => by omega, HX, HB1⟩
            case measure => simp [intOf]; omega
    · have hdr : l.drop k = [] := by rw [List.drop_eq_nil_iff, ← HN.out]; omega
      have hfin : (if b then ((0 : Int), (51 : Int)) else ((m : Int), 0)) = (r1, r2) := by have h5 := HDk.out; rw [hdr] at h5; exact h5
      clear hdr HDk HD
      cases b with
      | true =>
        injection hfin with h1 h2
        subst h1; subst h2
        go_wp2
        go_ret2
        exact ⟨rfl, HBw.out⟩
      | false =>
        injection hfin with h1 h2
        subst h1; subst h2
        go_wp2
        go_ret2
        exact ⟨rfl, HBw.out⟩
theorem digits_calls (a0 : ByteArray) (a1 r1 r2 : Int) (w : World) (hs : a0.size ≤ 281474976710656) (hb : a1 = 10 ∨ a1 = 16) (h : Hr.digits a1.toNat a0.data.toList = (r1, r2)) (hG_ : GInv w) :
    Calls Tryd.prog 57 #[.string a0, .int .i64 a1] w fun e w' => e = .returned (.tuple #[.int .i64 r1, .int .i64 r2]) ∧ Below w.heap.size w w' := by
  rcases hb with rfl | rfl
  · exact digits_calls10 a0 r1 r2 w hs h hG_
  · exact digits_calls16 a0 r1 r2 w hs h hG_
end Go.Proofs.YtnlicpihondmgaaDoor.Lex
