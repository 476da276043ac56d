/- Package lexis, by hand: what List comes to; own text of this session. -/
import Derived.Test.YtmfhhhokacjgeaaDoorLex4
namespace Go.Proofs.YtmfhhhokacjgeaaDoor.Lex
open Go.RowKit Go.Proofs.YtmfhhhokacjgeaaDoorW.PrintWords Go.Proofs.Hr Go.Shelf Go.Lib
set_option linter.unusedVariables false
def mkB (l : Bs) : ByteArray := ⟨l.toArray⟩
theorem listGo_nil (part : Bs) (q : Bool) (out : List Bs) : listGo [] part q out = Hr.put part out := by unfold listGo; rfl
theorem listGo_cons (c : UInt8) (rest part : Bs) (q : Bool) (out : List Bs) : listGo (c :: rest) part q out =
    if c == 34 then listGo rest (part ++ [c]) (!q) out
    else if c == 92 && q then (match rest with | [] => Hr.put (part ++ [c]) out | d :: r => listGo r (part ++ [c, d]) q out)
    else if c == 44 && !q then listGo rest [] q (Hr.put part out)
    else listGo rest (part ++ [c]) q out := by
  cases rest with
  | cons d r => rw [listGo]
  | nil =>
    have e0 : listGo [c] part q out = (if c == 44 && !q then Hr.put [] (Hr.put part out) else Hr.put (part ++ [c]) out) := by unfold listGo; rfl
    rw [e0]
    simp only [listGo_nil]
    by_cases h1 : c = 34
    · subst h1; rfl
    · by_cases h2 : c = 92
      · subst h2; cases q <;> rfl
      · by_cases h3 : c = 44
        · subst h3; cases q <;> rfl
        · have e1 : (c == 34) = false := by simpa using h1
          have e2 : (c == 92) = false := by simpa using h2
          have e3 : (c == 44) = false := by simpa using h3
          simp only [e1, e2, e3, Bool.false_and, Bool.false_eq_true, if_false]
/-- What is still to come, at place i. -/
structure LFin (l : Bs) (R : List Bs) (i : Nat) (q : Bool) (fr : Nat) (ys : List Bs) : Prop where
  le : fr ≤ l.length
  cnt : ys.length ≤ fr
  i1 : i ≤ l.length + 1
  go : i ≤ l.length → fr ≤ i ∧ listGo (l.drop i) ((l.take i).drop fr) q ys = R
  fin : l.length ≤ i → Hr.put (l.drop fr) ys = R
theorem put_len (p : Bs) (ys : List Bs) : (Hr.put p ys).length ≤ ys.length + 1 := by unfold Hr.put; split <;> simp
theorem part_succ (l : Bs) (fr i : Nat) (h : i < l.length) (hf : fr ≤ i) : (l.take (i + 1)).drop fr = (l.take i).drop fr ++ [l[i]'h] := by
  rw [List.take_succ_eq_append_getElem h, List.drop_append_of_le_length (by simp; omega)]
theorem LFin.start (l : Bs) : LFin l (Hr.list l) 0 false 0 [] :=
  ⟨Nat.zero_le _, Nat.zero_le _, Nat.zero_le _, fun _ => ⟨Nat.zero_le _, rfl⟩, fun h => by
    have : l = [] := List.eq_nil_of_length_eq_zero (by omega)
    subst this; rfl⟩
section
variable {l : Bs} {R ys : List Bs} {i fr : Nat} {q : Bool}
theorem LFin.mk' (hle : fr ≤ l.length) (hc : ys.length ≤ fr) (hi : i ≤ l.length) (hf : fr ≤ i) (h : listGo (l.drop i) ((l.take i).drop fr) q ys = R) : LFin l R i q fr ys :=
  ⟨hle, hc, by omega, fun _ => ⟨hf, h⟩, fun h2 => by
    have e : i = l.length := by omega
    subst e
    rw [List.drop_length, listGo_nil, List.take_length] at h
    exact h⟩
theorem LFin.at (h : LFin l R i q fr ys) (hi : i < l.length) : fr ≤ i ∧ listGo (l[i]'hi :: l.drop (i + 1)) ((l.take i).drop fr) q ys = R := by
  obtain ⟨h1, h2⟩ := h.go (by omega)
  rw [List.drop_eq_getElem_cons hi] at h2
  exact ⟨h1, h2⟩
theorem LFin.quote (h : LFin l R i q fr ys) (hi : i < l.length) (hc : l[i]'hi = 34) : LFin l R (i + 1) (!q) fr ys := by
  obtain ⟨h1, h2⟩ := h.at hi
  rw [listGo_cons, hc] at h2
  refine LFin.mk' h.le h.cnt (by omega) (by omega) ?_
  rw [part_succ l fr i hi h1, hc]
  exact h2
theorem LFin.plain (h : LFin l R i q fr ys) (hi : i < l.length) (h34 : ¬ l[i]'hi = 34) (h92 : ¬ (l[i]'hi = 92 ∧ q = true)) (h44 : ¬ (l[i]'hi = 44 ∧ q = false)) : LFin l R (i + 1) q fr ys := by
  obtain ⟨h1, h2⟩ := h.at hi
  rw [listGo_cons, if_neg (by simpa using h34), if_neg (by simpa using h92), if_neg (by simpa using h44)] at h2
  refine LFin.mk' h.le h.cnt (by omega) (by omega) ?_
  rw [part_succ l fr i hi h1]
  exact h2
theorem LFin.comma (h : LFin l R i false fr ys) (hi : i < l.length) (hc : l[i]'hi = 44) : LFin l R (i + 1) false (i + 1) (Hr.put ((l.take i).drop fr) ys) := by
  obtain ⟨h1, h2⟩ := h.at hi
  rw [listGo_cons, hc] at h2
  refine LFin.mk' (by omega) (by have := put_len ((l.take i).drop fr) ys; have := h.cnt; omega) (by omega) (by omega) ?_
  have e : (l.take (i + 1)).drop (i + 1) = [] := List.drop_eq_nil_of_le (by rw [List.length_take]; omega)
  rw [e]
  exact h2
theorem LFin.skip (h : LFin l R i true fr ys) (hi : i < l.length) (hc : l[i]'hi = 92) : LFin l R (i + 2) true fr ys := by
  obtain ⟨h1, h2⟩ := h.at hi
  rw [listGo_cons, hc] at h2
  by_cases hi2 : i + 1 < l.length
  · rw [List.drop_eq_getElem_cons hi2] at h2
    refine LFin.mk' h.le h.cnt (by omega) (by omega) ?_
    rw [part_succ l fr (i + 1) hi2 (by omega), part_succ l fr i hi h1, hc, List.append_assoc]
    exact h2
  · have e : l.drop (i + 1) = [] := List.drop_eq_nil_of_le (by omega)
    rw [e] at h2
    refine ⟨h.le, h.cnt, by omega, fun h3 => by omega, fun _ => ?_⟩
    have h4 : Hr.put ((l.take i).drop fr ++ [92]) ys = R := h2
    rw [← hc, ← part_succ l fr i hi h1, List.take_of_length_le (by omega)] at h4
    exact h4
end
theorem put_mk (p : Bs) (ys : List Bs) : (let t := trim p; if t = [] then ys.map mkB else ys.map mkB ++ [(⟨t.toArray⟩ : ByteArray)]) = (Hr.put p ys).map mkB := by
  unfold Hr.put
  dsimp only
  split
  · rfl
  · rw [List.map_append]; rfl
theorem ext_part (a0 : ByteArray) (l : Bs) (hl : l = a0.data.toList) (fr i : Nat) : (a0.extract fr i).data.toList = (l.take i).drop fr := by
  subst hl
  rw [ByteArray.data_extract]
  simp [List.extract_eq_take_drop, List.drop_take]
theorem LInv.start (a0 : ByteArray) (w : World) : LInv w.heap.size a0 0 (.slice none 0 0) [] (((w.alloc (.cells #[.string a0] 9)).alloc (.cells #[.slice none 0 0] 83)).alloc (.cells #[.int .i64 0] 3)) := by
  refine ⟨?_, ?_, ?_, Kd.R_nil _ _ _ _ _⟩
  · show (((w.heap.push _).push _).push _)[_]? = _
    rw [Array.getElem?_push, if_neg (by simp; omega), Array.getElem?_push, if_neg (by simp), Array.getElem?_push, if_pos rfl]
  · show (((w.heap.push _).push _).push _)[_]? = _
    rw [Array.getElem?_push, if_neg (by simp), Array.getElem?_push, if_pos (by simp)]
  · show (((w.heap.push _).push _).push _)[_]? = _
    rw [Array.getElem?_push, if_pos (by simp)]
theorem beqN (c : UInt8) (n : Nat) (hn : n < 256) : (((c.toNat : Int) == (n : Int)) = true → c = UInt8.ofNat n) ∧ (((c.toNat : Int) == (n : Int)) = false → ¬ c = UInt8.ofNat n) := by
  constructor
  · intro h
    have h1 : c.toNat = n := by have := beq_iff_eq.1 h; omega
    rw [← h1, UInt8.ofNat_toNat]
  · intro h e
    have h1 := beq_eq_false_iff_ne.1 h
    apply h1
    rw [e, UInt8.toNat_ofNat']
    have : n % 2 ^ 8 = n := Nat.mod_eq_of_lt hn
    rw [this]
def ListPost (a0 : ByteArray) (R : List ByteArray) (w : World) (e : Ending) (w' : World) : Prop :=
  ∃ v0_ : Value, e = .returned (v0_) ∧ Kd.R Kd.string 9 w' w.heap.size (fun _ => True) v0_ R ∧ Below w.heap.size w w'
set_option maxRecDepth 100000 in
set_option maxHeartbeats 4000000 in
theorem list_calls (a0 : ByteArray) (w : World) (hs : a0.size ≤ 4398046511104) :
    Calls Tryd.prog 68 #[.string a0] w (ListPost a0 ((Hr.list a0.data.toList).map mkB) w) := by
  obtain ⟨l, hl⟩ : ∃ l, l = a0.data.toList := ⟨_, rfl⟩
  have hn : a0.size = l.length := by rw [hl]; exact Array.length_toList.symm
  rw [← hl]
  generalize hR : Hr.list l = R
  have HF := Aside0.mk (hR ▸ LFin.start l)
  have HL := Aside0.mk hl
  have HN := Aside0.mk hn
  clear hl hn hR
  go_enter Tryd.func68, Tryd.ntmps68
  go_wp2
  obtain ⟨B, hB⟩ : ∃ B, B = w.heap.size := ⟨_, rfl⟩
  have HI0 : Aside0 (LInv B a0 0 (.slice none 0 0) (List.map mkB []) (((w.alloc (.cells #[.string a0] 9)).alloc (.cells #[.slice none 0 0] 83)).alloc (.cells #[.int .i64 0] 3))) := ⟨by subst hB; exact LInv.start a0 w⟩
  have HB0 : Aside0 (Below B w (((w.alloc (.cells #[.string a0] 9)).alloc (.cells #[.slice none 0 0] 83)).alloc (.cells #[.int .i64 0] 3))) := ⟨by
    subst hB
    exact (((Below.refl _ _).alloc (Nat.le_refl _) _).alloc (by show _ ≤ (w.heap.push _).size; simp) _).alloc (by show _ ≤ ((w.heap.push _).push _).size; simp; omega) _⟩
  rw [← hB]
  have HBW := Aside0.mk hB
  clear hB
  generalize (((w.alloc (.cells #[.string a0] 9)).alloc (.cells #[.slice none 0 0] 83)).alloc (.cells #[.int .i64 0] 3)) = wx at HI0 HB0 ⊢
  go_loopw [5, 7] (fun qv iv wr => ∃ (i fr : Nat) (q : Bool) (v : Value) (ys : List Bs), iv = .int .i64 i ∧ qv = .bool q ∧ i ≤ a0.size + 1 ∧ Aside0 (LFin l R i q fr ys) ∧ Aside0 (LInv B a0 fr v (ys.map mkB) wr) ∧ Aside0 (Below B w wr)) (fun _ iv _ => a0.size + 1 - (RowKit.intOf iv).toNat)
  case atStart => exact ⟨0, 0, false, _, [], rfl, rfl, by omega, HF, HI0, HB0⟩
  case round =>
    clear HF HI0 HB0
    obtain ⟨i, fr, q, v, ys, rfl, rfl, hi1, HF, HI, HB⟩ := hrel
    have hcS := cell_one HI.out.s
    by_cases hlt : i < a0.size
    · have hil : i < l.length := by rw [← HN.out]; exact hlt
      obtain ⟨c, hc⟩ : ∃ c, c = l[i]'hil := ⟨_, rfl⟩
      have hgi : ∀ h : i < a0.size, (a0[i]'h).toNat = c.toNat := by
        intro h
        rw [hc]
        have : a0[i]'h = a0.data.toList[i]'(by rw [← HL.out]; exact hil) := by simp [ByteArray.getElem_eq_getElem_data]
        rw [this]
        simp only [← HL.out]
      have HC := Aside0.mk hc
      clear hc
      go_wp2_with fail
      · have h34 : ((c.toNat : Int) == 34) = true := by assumption
        have e := (beqN c 34 (by decide)).1 h34
        go_roundw
        case rel => exact ⟨i + 1, fr, !q, v, ys, by go_num, rfl, by omega, ⟨HF.out.quote hil (HC.out ▸ e)⟩, HI, HB⟩
        case measure => simp [RowKit.intOf]; omega
      · have h92 : ((c.toNat : Int) == 92) = true := by assumption
        have hq : q = true := by assumption
        have e := (beqN c 92 (by decide)).1 h92
        subst hq
        go_roundw
        case rel => exact ⟨i + 2, fr, true, v, ys, by go_num, rfl, by omega, ⟨HF.out.skip hil (HC.out ▸ e)⟩, HI, HB⟩
        case measure => simp [RowKit.intOf]; omega
      · have h34 : ((c.toNat : Int) == 34) = false := by assumption
        have h92 : ((c.toNat : Int) == 92) = true := by assumption
        have hq : q = false := by assumption
        have e := (beqN c 92 (by decide)).1 h92
        have e2 := (beqN c 34 (by decide)).2 h34
        subst hq
        go_roundw
        case rel => exact ⟨i + 1, fr, false, v, ys, by go_num, rfl, by omega, ⟨HF.out.plain hil (HC.out ▸ e2) (fun h => by cases h.2) (fun h => by rw [← HC.out, e] at h; cases h.1)⟩, HI, HB⟩
        case measure => simp [RowKit.intOf]; omega
      · have h44 : ((c.toNat : Int) == 44) = true := by assumption
        have hq0 : (!q) = true := by assumption
        have hq : q = false := by simpa using hq0
        have e := (beqN c 44 (by decide)).1 h44
        have hf : fr ≤ i := (HF.out.go (by omega)).1
        have hcnt := HF.out.cnt
        have hlen : (ys.map mkB).length ≤ 4398046511104 := by rw [List.length_map]; omega
        refine (put_calls B a0 fr i v (ys.map mkB) wr HI.out (by omega) (by omega) (by omega) hs hlen).mono ?_
        rintro e w1 ⟨rfl, ⟨v', hI'⟩, hB'⟩
        simp only [Int.toNat_natCast] at hI'
        rw [put_mk, ext_part a0 l HL.out] at hI'
        have HI' := Aside0.mk hI'
        have HB' := Aside0.mk (HB.out.trans hB')
        clear hI' hB' hlen hcnt hf
        subst hq
        go_wp2
        go_roundw
        case rel => exact ⟨i + 1, i + 1, false, v', Hr.put ((l.take i).drop fr) ys, by go_num, rfl, by omega, ⟨HF.out.comma hil (HC.out ▸ e)⟩, ⟨by have := HI'.out; simpa using this⟩, HB'⟩
        case measure => simp [RowKit.intOf]; omega
      · have h34 : ((c.toNat : Int) == 34) = false := by assumption
        have h92 : ((c.toNat : Int) == 92) = false := by assumption
        have hq0 : (!q) = false := by assumption
        have hq : q = true := by simpa using hq0
        have e1 := (beqN c 92 (by decide)).2 h92
        have e2 := (beqN c 34 (by decide)).2 h34
        subst hq
        go_roundw
        case rel => exact ⟨i + 1, fr, true, v, ys, by go_num, rfl, by omega, ⟨HF.out.plain hil (HC.out ▸ e2) (fun h => e1 (HC.out ▸ h.1)) (fun h => by cases h.2)⟩, HI, HB⟩
        case measure => simp [RowKit.intOf]; omega
      · have h34 : ((c.toNat : Int) == 34) = false := by assumption
        have h92 : ((c.toNat : Int) == 92) = false := by assumption
        have h44 : ((c.toNat : Int) == 44) = false := by assumption
        have e1 := (beqN c 92 (by decide)).2 h92
        have e2 := (beqN c 34 (by decide)).2 h34
        have e3 := (beqN c 44 (by decide)).2 h44
        go_roundw
        case rel => exact ⟨i + 1, fr, q, v, ys, by go_num, rfl, by omega, ⟨HF.out.plain hil (HC.out ▸ e2) (fun h => e1 (HC.out ▸ h.1)) (fun h => e3 (HC.out ▸ h.1))⟩, HI, HB⟩
        case measure => simp [RowKit.intOf]; omega
    · have hfr : fr ≤ a0.size := by rw [HN.out]; exact HF.out.le
      have hfd : decide (fr ≤ a0.size) = true := decide_eq_true hfr
      have hcF := cell_one HI.out.f
      have hfin := Aside0.mk (HF.out.fin (by rw [← HN.out]; omega))
      have hcnt := HF.out.cnt
      have hlen : (ys.map mkB).length ≤ 4398046511104 := by rw [List.length_map]; omega
      have HLEN := Aside0.mk hlen
      clear hlen hcnt
      go_wp2_with fail
      refine (put_calls B a0 fr a0.size v (ys.map mkB) wr HI.out (by omega) (by omega) (by omega) hs HLEN.out).mono ?_
      rintro e w1 ⟨rfl, ⟨v', hI'⟩, hB'⟩
      simp only [Int.toNat_natCast] at hI'
      rw [put_mk, ext_part a0 l HL.out, List.take_of_length_le (by rw [HN.out]; exact Nat.le_refl _), hfin.out] at hI'
      have HI' := Aside0.mk hI'
      have HB' := Aside0.mk (HB.out.trans hB')
      clear hI' hB' hcF hcS
      obtain ⟨A1, c1, e1⟩ := Kd.R_slice HI'.out.r
      rw [List.length_map] at e1
      subst e1
      have hcO := cell_one HI'.out.o
      go_wp2
      go_ret
      refine ⟨.slice A1 R.length c1, rfl, Kd.R_mono (Kd.R_lower (base' := w.heap.size) HI'.out.r (by have := HBW.out; omega)) (fun _ _ => trivial), ?_⟩
      rw [← HBW.out]; exact HB'.out
end Go.Proofs.YtmfhhhokacjgeaaDoor.Lex
