/- The reference's lines, plainly: a line is what the decoder makes of its bytes; own text of this session. -/
import Derived.Test.YtcfmihghgecefaaDoorRfX
import Derived.Test.YtcfmihghgecefaaDoorP
namespace Go.Proofs.YtcfmihghgecefaaDoor.Chk
open Go.RowKit Go.Proofs.YtcfmihghgecefaaDoorW.PrintWords Go.Proofs.YtcfmihghgecefaaDoorW.PrintLast
set_option linter.unusedVariables false
set_option linter.unusedSimpArgs false
/-- A line, from some bytes on (l: what was read of it): what it says, what is wrong, how many bytes, what was read where it is not whole. -/
def lineGo : List Int → List Int → Option ByteArray × Int × Nat × List Int
  | l, [] => (none, 0, 0, l)
  | l, c :: r => match lined l c with
    | (l', some s, _) => (some s, 0, 1, l')
    | (l', none, e) => if e = 0 then ((lineGo l' r).1, (lineGo l' r).2.1, (lineGo l' r).2.2.1 + 1, (lineGo l' r).2.2.2) else (none, e, 1, l')
/-- What the reference tells of a line. -/
def lineR (i : Nat) (q : Option ByteArray × Int × Nat × List Int) : ByteArray × Int × Bool × Int := (q.1.getD ⟨#[]⟩, ((i + q.2.2.1 : Nat) : Int), q.1.isSome, q.2.1)
theorem w64m {i : Nat} (h0 : 1 ≤ i) (h : i < 9223372036854775807) : wrap64 ((i : Int) - 1) = ((i - 1 : Nat) : Int) := by unfold wrap64; omega
theorem w64s {i j : Nat} (h0 : j ≤ i) (h : i < 9223372036854775807) : wrap64 ((i : Int) - (j : Int)) = ((i - j : Nat) : Int) := by unfold wrap64; omega
theorem rd_at (b : List Int) (i : Nat) (h : i < b.length) : rd b (i : Int) = b[i] := by simp [rd, h]
theorem take_drop_snoc (b : List Int) (at_ i : Nat) (h : at_ ≤ i) (hi : i < b.length) : (b.take (i + 1)).drop at_ = (b.take i).drop at_ ++ [b[i]] := by
  rw [List.take_succ_eq_append_getElem hi, List.drop_append_of_le_length (by rw [List.length_take]; omega)]
theorem take_drop_cut (b : List Int) (at_ i : Nat) (h : at_ < i) (hi : i ≤ b.length) : ((b.take i).drop at_).take (((b.take i).drop at_).length - 1) = (b.take (i - 1)).drop at_ := by
  rw [List.length_drop, List.length_take, Nat.min_eq_left hi, List.take_drop, List.take_take]
  congr 2
  omega
theorem ev_line (b : List Int) (hb : b.length ≤ 1099511627776) (at_ : Nat) (rest : List Int) : ∀ i : Nat, b.drop i = rest → at_ ≤ i → i ≤ b.length →
    Ev (fun k => P.headraceref10_line.l0 k b (at_ : Int) (i : Int)) (lineR i (lineGo ((b.take i).drop at_) rest)) := by
  induction rest with
  | nil =>
    intro i hi h0 h1
    have h2 := Px.drop_nil hi
    obtain rfl : i = b.length := by omega
    refine Ev.step (fun k => rfl) ?_
    simp only [P.headraceref10_line.l0, if_neg (show ¬ ((b.length : Nat) : Int) < (b.length : Int) by omega)]
    exact Ev.now _
  | cons c r ih =>
    intro i hi h0 h1
    have hlt := Px.drop_lt hi
    have hc : b[i] = c := by
      have h5 := List.drop_eq_getElem_cons hlt
      rw [hi] at h5
      injection h5 with h6 _
      exact h6.symm
    obtain ⟨l, hl⟩ : ∃ l, l = (b.take i).drop at_ := ⟨_, rfl⟩
    have hll : l.length = i - at_ := by rw [hl, List.length_drop, List.length_take]; omega
    have hcut := fun (h : at_ < i) => take_drop_cut b at_ i h h1
    have hsn := take_drop_snoc b at_ i h0 hlt
    rw [← hl] at hcut hsn
    rw [hc] at hsn
    have hih := ih (i + 1) (Px.drop_succ hi) (by omega) hlt
    rw [hsn] at hih
    rw [← hl]
    have hw := Px.w64 (i := i) (by omega)
    -- the byte itself
    have evj : ∀ A : Bool, A = (decide (0 < l.length) && (rd l ((l.length : Int) - 1) == 13)) → Ev (fun k => P.headraceref10_line.j1 k b (at_ : Int) (i : Int) A) (lineR i (lineGo l (c :: r))) := by
      intro A hA
      refine Ev.step (fun k => rfl) ?_
      simp only [P.headraceref10_line.j1, if_pos (show 0 ≤ (i : Int) by omega), if_pos (show (i : Int) < (b.length : Int) by omega), rd_at b i hlt, hc, hw]
      unfold lineGo lined
      rw [← hA]
      by_cases h2 : ((c == 10) != A) = true
      · simp only [if_pos h2]
        rw [if_neg (show ¬ (100 : Int) = 0 by decide)]
        exact Ev.now _
      · simp only [if_neg h2]
        by_cases h3 : c = 10
        · simp only [if_pos h3]
          have hpos : 0 < l.length := by
            rcases Nat.eq_zero_or_pos l.length with h5 | h5
            · exfalso
              apply h2
              rw [hA, h5, h3]
              rfl
            · exact h5
          have hai : at_ < i := by omega
          simp only [w64m (show 1 ≤ i by omega) (by omega), if_pos (show 0 ≤ (at_ : Int) by omega), if_pos (show (at_ : Int) ≤ ((i - 1 : Nat) : Int) by omega), if_pos (show ((i - 1 : Nat) : Int) ≤ (b.length : Int) by omega), Int.toNat_natCast]
          rw [hcut hai]
          exact Ev.now _
        · simp only [if_neg h3]
          by_cases h4 : c = 13
          · simp only [if_pos h4, if_neg (show ¬ (c ≠ 13 ∧ 8192 ≤ l.length) from fun h => h.1 h4), if_true]
            have e : lineR i ((lineGo (l ++ [c]) r).1, (lineGo (l ++ [c]) r).2.1, (lineGo (l ++ [c]) r).2.2.1 + 1, (lineGo (l ++ [c]) r).2.2.2) = lineR (i + 1) (lineGo (l ++ [c]) r) := by
              unfold lineR
              simp only
              rw [show i + ((lineGo (l ++ [c]) r).2.2.1 + 1) = i + 1 + (lineGo (l ++ [c]) r).2.2.1 from by omega]
            rw [e]
            exact hih
          · simp only [if_neg h4, w64s h0 (show i < 9223372036854775807 by omega)]
            by_cases h5 : 8192 ≤ l.length
            · simp only [if_pos (show ((i - at_ : Nat) : Int) ≥ 8192 by omega), if_pos (show c ≠ 13 ∧ 8192 ≤ l.length from ⟨h4, h5⟩)]
              rw [if_neg (show ¬ (100 : Int) = 0 by decide)]
              exact Ev.now _
            · simp only [if_neg (show ¬ ((i - at_ : Nat) : Int) ≥ 8192 by omega), if_neg (show ¬ (c ≠ 13 ∧ 8192 ≤ l.length) from fun h => h5 h.2), if_true]
              have e : lineR i ((lineGo (l ++ [c]) r).1, (lineGo (l ++ [c]) r).2.1, (lineGo (l ++ [c]) r).2.2.1 + 1, (lineGo (l ++ [c]) r).2.2.2) = lineR (i + 1) (lineGo (l ++ [c]) r) := by
                unfold lineR
                simp only
                rw [show i + ((lineGo (l ++ [c]) r).2.2.1 + 1) = i + 1 + (lineGo (l ++ [c]) r).2.2.1 from by omega]
              rw [e]
              exact hih
    refine Ev.step (fun k => rfl) ?_
    simp only [P.headraceref10_line.l0, if_pos (show (i : Int) < (b.length : Int) by omega)]
    by_cases h2 : at_ < i
    · simp only [if_pos (show (i : Int) > (at_ : Int) by omega), w64m (show 1 ≤ i by omega) (show i < 9223372036854775807 by omega), if_pos (show 0 ≤ ((i - 1 : Nat) : Int) by omega), if_pos (show ((i - 1 : Nat) : Int) < (b.length : Int) by omega)]
      refine evj _ ?_
      have h5 : 0 < l.length := by omega
      rw [decide_eq_true h5, Bool.true_and]
      have e1 : rd l ((l.length : Int) - 1) = rd b ((i - 1 : Nat) : Int) := by
        rw [show ((l.length : Int) - 1) = ((l.length - 1 : Nat) : Int) by omega, rd_at l (l.length - 1) (by omega), rd_at b (i - 1) (by omega)]
        simp only [hl, List.getElem_drop, List.getElem_take]
        congr 1
        rw [List.length_drop, List.length_take]
        omega
      rw [e1]
    · simp only [if_neg (show ¬ (i : Int) > (at_ : Int) by omega)]
      refine evj _ ?_
      have h5 : ¬ 0 < l.length := by omega
      rw [decide_eq_false h5, Bool.false_and]
theorem line_calls (b : List Int) (hb : b.length ≤ 1099511627776) (at_ : Nat) (hat : at_ ≤ b.length) (A : Option Addr) (c : Nat) (w : World) (hr : (Kd.int .u8).C w A b.length b) (hc : b.length ≤ c) :
    Calls Tryd.prog 17 #[.slice A b.length c, .int .i64 (at_ : Int)] w fun e w' => e = .returned (.tuple #[.string ((lineGo [] (b.drop at_)).1.getD ⟨#[]⟩), .int .i64 ((at_ + (lineGo [] (b.drop at_)).2.2.1 : Nat) : Int), .bool (lineGo [] (b.drop at_)).1.isSome, .int .i64 (lineGo [] (b.drop at_)).2.1]) ∧ Drawn0 w w' := by
  have h := ev_line b hb at_ _ at_ rfl (Nat.le_refl _) hat
  rw [List.drop_eq_nil_of_le (show (b.take at_).length ≤ at_ by rw [List.length_take]; omega)] at h
  obtain ⟨k, hk⟩ := h.rounds
  exact P.headraceref10_line.calls k A c b (at_ : Int) _ _ _ _ w hr hc hk
/-- How far a line goes. -/
theorem line_len (r : List Int) : ∀ l : List Int, (lineGo l r).2.2.1 ≤ r.length := by
  induction r with
  | nil => intro l; exact Nat.le_refl _
  | cons c r ih =>
    intro l
    unfold lineGo
    split
    · simp
    · split
      · have := ih ‹_›
        simp only [List.length_cons]
        omega
      · simp
end Go.Proofs.YtcfmihghgecefaaDoor.Chk
/- The reference's size lines and trailers, plainly; own text of this session. -/
namespace Go.Proofs.YtcfmihghgecefaaDoor.Chk
open Go.RowKit Go.Proofs.YtcfmihghgecefaaDoorW.PrintWords Go.Proofs.YtcfmihghgecefaaDoorW.PrintLast Px
set_option linter.unusedVariables false
set_option linter.unusedSimpArgs false
theorem self_mkB (s : ByteArray) : Px.mkB s.data.toList = s := by
  apply ByteArray.ext
  apply Array.ext'
  rw [Px.mkB_data]
theorem ext_take (s : ByteArray) (i : Nat) : s.extract 0 i = Px.mkB (s.data.toList.take i) := by
  have h := Px.mkB_extract s.data.toList 0 i
  rw [self_mkB, List.drop_zero] at h
  exact h
theorem ext_drop (s : ByteArray) (i : Nat) : s.extract i s.size = Px.mkB (s.data.toList.drop i) := by
  have h := Px.mkB_extract s.data.toList i s.size
  rw [self_mkB, Px.sz s, List.take_of_length_le (Nat.le_refl _)] at h
  rw [Px.sz s]
  exact h
theorem val_a (m : List UInt8) : Px.value ([97] ++ m ++ [97]) = m.all Px.valOk := by
  unfold Px.value
  have h97 : Px.valOk 97 = true := by decide
  have h1 : ∀ r : List UInt8, Px.headOk (97 :: r) = true := fun r => by simp [Px.headOk]; decide
  rw [Px.trim_fix]
  have e1 : ([97] ++ m ++ [97] : List UInt8) = 97 :: (m ++ [97]) := by simp
  have e2 : ([97] ++ m ++ [97] : List UInt8).reverse = 97 :: (m.reverse ++ [97]) := by simp
  rw [e2, h1, e1, h1]
  simp [h97]
theorem ok_at : ∀ n : Fin 256, Px.valOk (UInt8.ofNat n.val) = !((decide (((UInt8.ofNat n.val).toNat : Int) < 32) && !decide (((UInt8.ofNat n.val).toNat : Int) = 9)) || decide (((UInt8.ofNat n.val).toNat : Int) = 127)) := by decide +kernel
theorem ok_int (c : UInt8) : Px.valOk c = !((decide ((c.toNat : Int) < 32) && !decide ((c.toNat : Int) = 9)) || decide ((c.toNat : Int) = 127)) := Px.byte_of (fun c => Px.valOk c = !((decide ((c.toNat : Int) < 32) && !decide ((c.toNat : Int) = 9)) || decide ((c.toNat : Int) = 127))) ok_at c
theorem eq_int (a : UInt8) (n : Nat) (hn : n < 256) : ((a.toNat : Int) = (n : Int)) ↔ a = UInt8.ofNat n := by
  constructor
  · intro h
    have h2 : a.toNat = n := by omega
    rw [← h2, UInt8.ofNat_toNat]
  · intro h
    rw [h, UInt8.toNat_ofNat', Nat.mod_eq_of_lt hn]
def sizeE (d : List UInt8) : Int := if (Hr.digits 16 d).2 = 0 then (Hr.digits 16 d).1 else -1
theorem ev_size_l1 (s x3 : ByteArray) (hs : s.size ≤ 4611686018427387904) (hx : x3.size ≤ 4611686018427387904) (rest : List UInt8) : ∀ i : Nat, s.data.toList.drop i = rest →
    Ev (fun k => P.headraceref10_size.l1 k s x3 (i : Int)) (if rest.all Px.valOk = true then sizeE x3.data.toList else -1) := by
  induction rest with
  | nil =>
    intro i hi
    have h1 := Px.drop_nil hi
    rw [← Px.sz] at h1
    refine Ev.step (fun k => rfl) ?_
    simp only [P.headraceref10_size.l1, if_neg (show ¬ ((i : Int) < (s.size : Int)) by omega), List.all_nil, if_true]
    refine Ev.bind (Px.ev_rDigits 16 (.inr rfl) x3 hx) ?_
    unfold sizeE
    refine Px.ev_ite (fun h => ?_) (fun h => ?_)
    · rw [if_pos h]; exact Ev.now _
    · rw [if_neg h]; exact Ev.now _
  | cons c r ih =>
    intro i hi
    have h1 := Px.drop_lt hi
    rw [← Px.sz] at h1
    have hw := Px.w64 (i := i) (by omega)
    have hih := ih (i + 1) (Px.drop_succ hi)
    refine Ev.step (fun k => rfl) ?_
    simp only [P.headraceref10_size.l1, if_pos (show (i : Int) < (s.size : Int) by omega), if_pos (show 0 ≤ (i : Int) by omega), Px.bt_nat hi, hw, List.all_cons, ok_int c]
    refine Px.ev_ite (fun h2 => ?_) (fun h2 => ?_)
    · refine Px.ev_ite (fun h3 => ?_) (fun h3 => ?_)
      · refine Px.ev_ite (fun h4 => ?_) (fun h4 => ?_)
        · exfalso; omega
        · rw [decide_eq_true h2, decide_eq_true h3, decide_eq_false h4]
          simpa using hih
      · rw [decide_eq_true h2, decide_eq_false h3]
        simpa using Ev.now _
    · refine Px.ev_ite (fun h4 => ?_) (fun h4 => ?_)
      · rw [decide_eq_true h4]
        simpa using Ev.now _
      · rw [decide_eq_false h2, decide_eq_false h4]
        simpa using hih
/-- What the reference makes of a size line. -/
def sizeR (s : ByteArray) : Int := match sizeLine s with
  | some n => n
  | none => -1
theorem size_one_ (a m : List UInt8) (h : (59 : UInt8) ∉ a) (s : ByteArray) (hs : s.data.toList = a ++ 59 :: m) : sizeR s = if m.all Px.valOk = true then sizeE a else -1 := by
  unfold sizeR sizeLine
  rw [hs, cut_one a m 59 h, val_a]
  unfold sizeE
  by_cases h1 : m.all Px.valOk = true
  · by_cases h2 : (Hr.digits 16 a).2 = 0
    · rw [if_pos ⟨h2, h1⟩, if_pos h1, if_pos h2]
    · rw [if_neg (fun h => h2 h.1), if_pos h1, if_neg h2]
  · rw [if_neg (fun h => h1 h.2), if_neg h1]
theorem size_none_ (s : ByteArray) (h : (59 : UInt8) ∉ s.data.toList) : sizeR s = sizeE s.data.toList := by
  unfold sizeR sizeLine
  rw [cut_none _ 59 h, val_a]
  unfold sizeE
  by_cases h2 : (Hr.digits 16 s.data.toList).2 = 0
  · rw [if_pos ⟨h2, rfl⟩, if_pos h2]
  · rw [if_neg (fun h => h2 h.1), if_neg h2]
theorem ev_size_l0 (s : ByteArray) (hs : s.size ≤ 4611686018427387904) (rest : List UInt8) : ∀ i : Nat, s.data.toList.drop i = rest → (59 : UInt8) ∉ s.data.toList.take i → i ≤ s.size → Ev (fun k => P.headraceref10_size.l0 k s s (i : Int)) (sizeR s) := by
  induction rest with
  | nil =>
    intro i hi hn hle
    have h1 := Px.drop_nil hi
    rw [← Px.sz] at h1
    have e : s.data.toList.take i = s.data.toList := List.take_of_length_le (by rw [← Px.sz]; exact h1)
    rw [e] at hn
    refine Ev.step (fun k => rfl) ?_
    simp only [P.headraceref10_size.l0, if_neg (show ¬ ((i : Int) < (s.size : Int)) by omega)]
    refine Ev.step (fun k => rfl) ?_
    simp only [P.headraceref10_size.j1]
    have h5 := ev_size_l1 s s hs hs [] s.size (List.drop_eq_nil_of_le (by rw [← Px.sz]; exact Nat.le_refl _))
    rw [size_none_ s hn]
    exact h5
  | cons c r ih =>
    intro i hi hn hle
    have h1 := Px.drop_lt hi
    have h1' := h1
    rw [← Px.sz] at h1
    have hw := Px.w64 (i := i) (by omega)
    have hsn : s.data.toList = s.data.toList.take i ++ c :: r := by rw [← hi, List.take_append_drop]
    refine Ev.step (fun k => rfl) ?_
    simp only [P.headraceref10_size.l0, if_pos (show (i : Int) < (s.size : Int) by omega), if_pos (show 0 ≤ (i : Int) by omega), Px.bt_nat hi, hw]
    refine Px.ev_ite (fun h2 => ?_) (fun h2 => ?_)
    · have hc : c = 59 := (eq_int c 59 (by decide)).1 h2
      subst hc
      simp only [if_pos (show (i : Int) ≤ (s.size : Int) by omega), Int.toNat_natCast, ext_take]
      refine Ev.step (fun k => rfl) ?_
      simp only [P.headraceref10_size.j1]
      have hsz : (Px.mkB (s.data.toList.take i)).size = i := by rw [Px.mkB_size, List.length_take, ← Px.sz]; omega
      have h5 := ev_size_l1 s (Px.mkB (s.data.toList.take i)) hs (by omega) (59 :: r) i hi
      rw [hsz, size_one_ (s.data.toList.take i) r hn s hsn]
      rw [Px.mkB_data, List.all_cons, show Px.valOk 59 = true from by decide, Bool.true_and] at h5
      exact h5
    · refine ih (i + 1) (Px.drop_succ hi) ?_ (by omega)
      rw [List.take_succ_eq_append_getElem h1', List.mem_append]
      rintro (h5 | h5)
      · exact hn h5
      · have h6 : s.data.toList[i] = c := by
          have h7 := List.drop_eq_getElem_cons h1'
          rw [hi] at h7
          injection h7 with h8 _
          exact h8.symm
        rw [h6] at h5
        exact h2 ((eq_int c 59 (by decide)).2 (List.mem_singleton.1 h5).symm)
theorem rsize_calls (s : ByteArray) (hs : s.size ≤ 4611686018427387904) (w : World) : Calls Tryd.prog 18 #[.string s] w fun e w' => e = .returned (.int .i64 (sizeR s)) ∧ Drawn0 w w' := by
  obtain ⟨k, hk⟩ := (ev_size_l0 s hs _ 0 rfl (by simp) (Nat.zero_le _)).rounds
  exact P.headraceref10_size.calls k s _ w hk
/-- What the reference makes of a trailer's line. -/
def trailerR (s : ByteArray) : ByteArray × ByteArray × Bool := if (Lib.cut s.data.toList [58]).2.2 = true then ((trailerF s).f0, (trailerF s).f1, fldE (trailerF s) == 0) else (⟨#[]⟩, ⟨#[]⟩, false)
theorem chk_one (f : Fld) : chkS [f] = fldE f := by
  unfold chkS chkGo chkGo
  rw [if_neg (by simp)]
  split
  · rename_i h; rw [h]
  · rfl
end Go.Proofs.YtcfmihghgecefaaDoor.Chk
/- The decoder, line by line, plainly; own text of this session. -/
namespace Go.Proofs.YtcfmihghgecefaaDoor.Chk
open Go.RowKit Go.Proofs.YtcfmihghgecefaaDoorW.PrintWords Go.Proofs.YtcfmihghgecefaaDoorW.PrintLast
set_option linter.unusedVariables false
set_option linter.unusedSimpArgs false
def DW (left need : Int) (line : List Int) (st : Nat) (out : List Int) (tr : List Fld) (e : Int) : Dec := ⟨left, need, line, st, out, tr, false, e⟩
theorem step_none {left need : Int} {line l' : List Int} {st : Nat} {out : List Int} {tr : List Fld} {c e : Int} (hst : st = 0 ∨ st = 3) (h : lined line c = (l', none, e)) :
    stepE (D left need line st out tr) c = (D left need l' st out tr, e) := by
  rcases hst with rfl | rfl
  · show sizeS _ c = _
    unfold sizeS
    have hl : (D left need line 0 out tr).line = line := rfl
    rw [hl, h]
  · show trailerS _ c = _
    unfold trailerS
    have hl : (D left need line 3 out tr).line = line := rfl
    rw [hl, h]
theorem D_live {left need : Int} {line : List Int} {st : Nat} {out : List Int} {tr : List Fld} : ¬ ((D left need line st out tr).whole = true ∨ ¬ (D left need line st out tr).wrong = 0) := by
  rintro (h | h)
  · cases h
  · exact h rfl
theorem feed_one {left need : Int} {line : List Int} {st : Nat} {out : List Int} {tr : List Fld} (c : Int) (r : List Int) (n : Nat) :
    feedGo (D left need line st out tr) (c :: r) n = feedGo { (stepE (D left need line st out tr) c).1 with wrong := (stepE (D left need line st out tr) c).2 } r (n + 1) := feed_go _ c r n D_live
/-- A line that is not whole, or wrong. -/
theorem feed_none {left need : Int} {st : Nat} {out : List Int} {tr : List Fld} (hst : st = 0 ∨ st = 3) (r : List Int) : ∀ (l : List Int) (n : Nat), (lineGo l r).1 = none →
    feedGo (D left need l st out tr) r n = (DW left need (lineGo l r).2.2.2 st out tr (lineGo l r).2.1, n + (lineGo l r).2.2.1) := by
  induction r with
  | nil => intro l n _; rfl
  | cons c r ih =>
    intro l n h
    rw [feed_one]
    unfold lineGo at h ⊢
    match hl : lined l c with
    | (l', some s, e) => rw [hl] at h; cases h
    | (l', none, e) =>
      rw [hl] at h
      simp only at h ⊢
      rw [step_none hst hl]
      by_cases he : e = 0
      · rw [if_pos he] at h ⊢
        subst he
        show feedGo (D left need l' st out tr) r (n + 1) = _
        rw [ih l' (n + 1) h]
        simp only [Prod.mk.injEq, true_and]
        omega
      · rw [if_neg he]
        exact feed_stop _ _ _ (.inr (.inr he))
/-- A line that is whole. -/
theorem feed_some {left need : Int} {st : Nat} {out : List Int} {tr : List Fld} (hst : st = 0 ∨ st = 3) (r : List Int) : ∀ (l : List Int) (n : Nat) (s : ByteArray), (lineGo l r).1 = some s →
    ∃ l0 c, lined l0 c = ([], some s, 0) ∧ (lineGo l r).2.1 = 0 ∧ feedGo (D left need l st out tr) r n = feedGo { (stepE (D left need l0 st out tr) c).1 with wrong := (stepE (D left need l0 st out tr) c).2 } (r.drop (lineGo l r).2.2.1) (n + (lineGo l r).2.2.1) := by
  induction r with
  | nil => intro l n s h; cases h
  | cons c r ih =>
    intro l n s h
    rw [feed_one]
    unfold lineGo at h ⊢
    match hl : lined l c with
    | (l', some s', e) =>
      rw [hl] at h
      simp only [Option.some.injEq] at h
      subst h
      have h2 := lined_size l c l' s' e hl
      obtain rfl := h2.2
      have he : e = 0 := by
        unfold lined at hl
        split at hl
        · simp at hl
        · split at hl
          · simp only [Prod.mk.injEq] at hl; exact hl.2.2.symm
          · split at hl <;> simp at hl
      subst he
      exact ⟨l, c, hl, rfl, rfl⟩
    | (l', none, e) =>
      rw [hl] at h
      simp only at h ⊢
      by_cases he : e = 0
      · rw [if_pos he] at h ⊢
        subst he
        rw [step_none hst hl]
        obtain ⟨l0, c0, h1, h2, h3⟩ := ih l' (n + 1) s h
        refine ⟨l0, c0, h1, h2, ?_⟩
        show feedGo (D left need l' st out tr) r (n + 1) = _
        rw [h3]
        simp only [List.drop_succ_cons]
        rw [show n + 1 + (lineGo l' r).2.2.1 = n + ((lineGo l' r).2.2.1 + 1) from by omega]
      · rw [if_neg he] at h
        cases h
/-- A size line that is whole. -/
theorem feed_size {left need : Int} {out : List Int} {tr : List Fld} (r : List Int) (n : Nat) (s : ByteArray) (h : (lineGo [] r).1 = some s) :
    feedGo (D left need [] 0 out tr) r n = if sizeR s < 0 then (DW left need [] 0 out tr 100, n + (lineGo [] r).2.2.1)
      else if left < sizeR s then (DW left need [] 0 out tr 2, n + (lineGo [] r).2.2.1)
      else if sizeR s = 0 then feedGo (D left need [] 3 out tr) (r.drop (lineGo [] r).2.2.1) (n + (lineGo [] r).2.2.1)
      else feedGo (D (left - sizeR s) (sizeR s) [] 1 out tr) (r.drop (lineGo [] r).2.2.1) (n + (lineGo [] r).2.2.1) := by
  obtain ⟨l0, c, h1, _, h3⟩ := feed_some (.inl rfl) r [] n s h
  rw [h3]
  have e : stepE (D left need l0 0 out tr) c = sizeS (D left need l0 0 out tr) c := rfl
  rw [e]
  unfold sizeS
  have hl : (D left need l0 0 out tr).line = l0 := rfl
  rw [hl, h1]
  unfold sizeR
  simp only
  cases hs : sizeLine s with
  | none =>
    simp only
    rw [if_pos (show (-1 : Int) < 0 by decide)]
    exact feed_stop _ _ _ (.inr (.inr (by show ¬ (100 : Int) = 0; decide)))
  | some k =>
    have hk : 0 ≤ k := by
      unfold sizeLine at hs
      split at hs
      · injection hs with hs
        rw [← hs]
        exact digits_nonneg _ _
      · cases hs
    simp only
    rw [if_neg (show ¬ k < 0 by omega)]
    unfold sizeN
    have hle : (D left need l0 0 out tr).left = left := rfl
    rw [hle]
    by_cases h5 : k > left
    · rw [if_pos h5, if_pos (show left < k by omega)]
      exact feed_stop _ _ _ (.inr (.inr (by show ¬ (2 : Int) = 0; decide)))
    · rw [if_neg h5, if_neg (show ¬ left < k by omega)]
      by_cases h6 : k = 0
      · rw [if_pos h6, if_pos h6]
      · rw [if_neg h6, if_neg h6]
/-- A trailer's line that is whole. -/
theorem feed_trailer {left need : Int} {out : List Int} {tr : List Fld} (r : List Int) (n : Nat) (s : ByteArray) (h : (lineGo [] r).1 = some s) :
    feedGo (D left need [] 3 out tr) r n = if s.size = 0 then (⟨left, need, [], 3, out, tr, true, 0⟩, n + (lineGo [] r).2.2.1)
      else if (Lib.cut s.data.toList [58]).2.2 = false ∨ tr.length = 100 ∨ ¬ fldE (trailerF s) = 0 then (DW left need [] 3 out tr 100, n + (lineGo [] r).2.2.1)
      else feedGo (D left need [] 3 out (tr ++ [trailerF s])) (r.drop (lineGo [] r).2.2.1) (n + (lineGo [] r).2.2.1) := by
  obtain ⟨l0, c, h1, _, h3⟩ := feed_some (.inr rfl) r [] n s h
  rw [h3]
  have e : stepE (D left need l0 3 out tr) c = trailerS (D left need l0 3 out tr) c := rfl
  rw [e]
  unfold trailerS
  have hl : (D left need l0 3 out tr).line = l0 := rfl
  have ht : (D left need l0 3 out tr).tr = tr := rfl
  rw [hl, h1, ht]
  simp only
  by_cases h5 : s.size = 0
  · rw [if_pos h5, if_pos h5]
    exact feed_stop _ _ _ (.inr (.inl rfl))
  · rw [if_neg h5, if_neg h5]
    by_cases h6 : (Lib.cut s.data.toList [58]).2.2 = false ∨ tr.length = 100 ∨ ¬ fldE (trailerF s) = 0
    · rw [if_pos h6, if_pos h6]
      exact feed_stop _ _ _ (.inr (.inr (by show ¬ (100 : Int) = 0; decide)))
    · rw [if_neg h6, if_neg h6]
/-- A byte of a chunk. -/
theorem feed_byte {left need : Int} {out : List Int} {tr : List Fld} (c : Int) (r : List Int) (n : Nat) :
    feedGo (D left need [] 1 out tr) (c :: r) n = feedGo (if need - 1 = 0 then D left 0 [] 2 (out ++ [c]) tr else D left (need - 1) [] 1 (out ++ [c]) tr) r (n + 1) := by
  rw [feed_one]
  have e : stepE (D left need [] 1 out tr) c = dataS (D left need [] 1 out tr) c := rfl
  rw [e]
  unfold dataS
  by_cases h : need - 1 = 0
  · rw [if_pos h]
    simp [D, h]
  · rw [if_neg h]
    simp [D, h]
end Go.Proofs.YtcfmihghgecefaaDoor.Chk
