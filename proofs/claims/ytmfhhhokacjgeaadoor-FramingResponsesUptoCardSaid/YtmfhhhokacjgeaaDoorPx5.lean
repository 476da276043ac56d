/- Lists: the laws LexisLists and LexisJoined: own text of this session. -/
import Derived.Test.YtmfhhhokacjgeaaDoorPx4
namespace Go.Proofs.YtmfhhhokacjgeaaDoor.Px
open Go.RowKit Go.Proofs.YtmfhhhokacjgeaaDoor.P Go.Proofs.YtmfhhhokacjgeaaDoorW.PrintWords Go.Proofs.YtmfhhhokacjgeaaDoorW.PrintLast Go.Proofs.Hr
set_option linter.unusedVariables false
set_option linter.unusedSimpArgs false
/-! a list, letter by letter: whether it stands in quotes, whether a letter is to be passed -/
def lg : Bs → Bs → Bool → Bool → List Bs → List Bs
  | [], part, _, _, out => put part out
  | c :: r, part, q, sk, out =>
    if c == 44 && !q then lg r [] q sk (put part out)
    else if sk then lg r (part ++ [c]) q false out
    else if c == 92 && q then lg r (part ++ [c]) q true out
    else if c == 34 then lg r (part ++ [c]) (!q) sk out
    else lg r (part ++ [c]) q sk out
theorem put_nil (out : List Bs) : put [] out = out := by unfold put; rw [if_pos (by decide)]
theorem listGo_lg (n : Nat) : ∀ (r part : Bs) (q : Bool) (out : List Bs), r.length ≤ n → listGo r part q out = lg r part q false out := by
  induction n with
  | zero => intro r part q out h; cases r with
    | nil => unfold listGo lg; rfl
    | cons c r => simp at h
  | succ n ih =>
    intro r part q out h
    cases r with
    | nil => unfold listGo lg; rfl
    | cons c r =>
      simp only [List.length_cons] at h
      cases r with
      | nil =>
        unfold listGo lg
        by_cases h44 : c = 44
        · subst h44
          cases q
          · simp [lg, put_nil]
          · simp [lg]
        · have e44 : (c == 44) = false := by simpa using h44
          simp only [e44, Bool.false_and, Bool.false_eq_true, if_false]
          unfold lg
          split
          · rfl
          · split <;> rfl
      | cons d r =>
        rw [listGo]
        unfold lg
        simp only [List.length_cons] at h
        by_cases h34 : c = 34
        · subst h34
          simp only [beq_self_eq_true, if_true, show ((34 : UInt8) == 44) = false from rfl, show ((34 : UInt8) == 92) = false from rfl, Bool.false_and, Bool.false_eq_true, if_false]
          exact ih _ _ _ _ (by simp only [List.length_cons]; omega)
        · have e34 : (c == 34) = false := by simpa using h34
          by_cases h92 : c = 92
          · subst h92
            cases q with
            | true =>
              simp only [beq_self_eq_true, if_true, show ((92 : UInt8) == 44) = false from rfl, show ((92 : UInt8) == 34) = false from rfl, Bool.false_and, Bool.true_and, Bool.false_eq_true, if_false]
              rw [ih r (part ++ [92, d]) true out (by omega)]
              conv => rhs; unfold lg
              simp only [Bool.not_true, Bool.and_false, Bool.false_eq_true, if_false, if_true, List.append_assoc]
              rfl
            | false =>
              simp only [Bool.and_false, show ((92 : UInt8) == 44) = false from rfl, show ((92 : UInt8) == 34) = false from rfl, Bool.false_and, Bool.false_eq_true, if_false]
              exact ih _ _ _ _ (by simp only [List.length_cons]; omega)
          · have e92 : (c == 92) = false := by simpa using h92
            simp only [e34, e92, Bool.false_and, Bool.false_eq_true, if_false]
            split
            · exact ih _ _ _ _ (by simp only [List.length_cons]; omega)
            · exact ih _ _ _ _ (by simp only [List.length_cons]; omega)
theorem list_lg (s : Bs) : Hr.list s = lg s [] false false [] := listGo_lg s.length s [] false [] (Nat.le_refl _)
theorem put_length (p : Bs) (out : List Bs) : (put p out).length ≤ out.length + 1 := by unfold put; split <;> simp
theorem extract_one {l r : Bs} {c : UInt8} {i : Nat} (h : l.drop i = c :: r) : (mkB l).extract i (i + 1) = mkB [c] := by
  rw [mkB_extract, List.drop_take, h]
  simp
theorem ev_rTrim' (l : Bs) (hl : l.length ≤ 4611686018427387904) : Ev (fun k => headraceref05_Trim.f k (mkB l)) (mkB (trim l)) := by
  have h := ev_rTrim (mkB l) (by rw [mkB_size]; exact hl)
  rwa [mkB_data] at h
theorem ev_rput (s : ByteArray) (out : List Bs) (part : Bs) (q sk : Bool) (i : Nat) (R : List ByteArray) (hi : i < 9223372036854775807) (hp : part.length ≤ 4611686018427387904) (ho : out.length < 8796093022208)
    (h : Ev (fun k => headraceref05_List.l0 k s ((put part out).map mkB) (mkB []) q sk ((i + 1 : Nat) : Int)) R) :
    Ev (fun k => headraceref05_List.j1 k s (out.map mkB) (mkB part) q sk (i : Int) true) R := by
  refine Ev.step (fun k => rfl) ?_
  simp only [headraceref05_List.j1, if_true, w64 hi]
  refine Ev.bind (ev_rTrim' part hp) ?_
  simp only [tl, mkB_data]
  unfold put at h
  by_cases ht : trim part = []
  · rw [if_pos ht] at h
    simp only [if_pos ht]
    exact h
  · rw [if_neg ht] at h
    simp only [if_neg ht]
    refine Ev.bind (ev_rTrim' part hp) ?_
    simp only [List.length_map, if_pos ho]
    rw [List.map_append] at h
    exact h
theorem ev_rList_l0 (l : Bs) (hl : l.length ≤ 4194304) (rest : Bs) : ∀ (i : Nat) (part : Bs) (q sk : Bool) (out : List Bs), l.drop i = rest → i ≤ l.length → part.length ≤ i → out.length ≤ i →
    Ev (fun k => headraceref05_List.l0 k (mkB l) (out.map mkB) (mkB part) q sk (i : Int)) ((lg rest part q sk out).map mkB) := by
  have hsz : ((mkB l).size : Int) = (l.length : Int) := by rw [mkB_size]
  induction rest with
  | nil =>
    intro i part q sk out h hi hp ho
    have h1 := drop_nil h
    have e : i = l.length := by omega
    refine Ev.step (fun k => rfl) ?_
    simp only [headraceref05_List.l0, hsz, if_pos (show (i : Int) ≤ (l.length : Int) by omega), if_pos (show (i : Int) = (l.length : Int) by omega)]
    refine ev_rput (mkB l) out part q sk i _ (by omega) (by omega) (by omega) ?_
    refine Ev.step (fun k => rfl) ?_
    simp only [headraceref05_List.l0, hsz, if_neg (show ¬ ((i + 1 : Nat) : Int) ≤ (l.length : Int) by omega)]
    exact Ev.now _
  | cons c r ih =>
    intro i part q sk out h hi hp ho
    have h1 := drop_lt h
    have hb : bt (mkB l) (i : Int) = (c.toNat : Int) := bt_nat (r := r) (by rw [mkB_data]; exact h)
    have hw := w64 (i := i) (by omega)
    have hd := drop_succ h
    have hsz2 : ((mkB l).size) = l.length := mkB_size l
    have key : ¬ (c = 44 ∧ q = false) → Ev (fun k => headraceref05_List.j1 k (mkB l) (out.map mkB) (mkB part) q sk (i : Int) false) ((lg (c :: r) part q sk out).map mkB) := by
      intro hn
      have hex : (mkB l).extract ((i : Int)).toNat (((i + 1 : Nat) : Int)).toNat = mkB [c] := by
        rw [Int.toNat_natCast, Int.toNat_natCast]; exact extract_one h
      refine Ev.step (fun k => rfl) ?_
      simp only [headraceref05_List.j1, Bool.false_eq_true, if_false, hw, hex, hsz, if_pos (show 0 ≤ (i : Int) by omega), if_pos (show (i : Int) ≤ ((i + 1 : Nat) : Int) by omega), if_pos (show ((i + 1 : Nat) : Int) ≤ (l.length : Int) by omega), if_pos (show (i : Int) < (l.length : Int) by omega), hb, mkB_append]
      simp only [if_pos (show (mkB part).size + (mkB [c]).size ≤ 9223372036854775807 by rw [mkB_size, mkB_size]; simp only [List.length_singleton]; omega)]
      have hpl : (part ++ [c]).length ≤ i + 1 := by rw [List.length_append]; simp only [List.length_singleton]; omega
      have e44 : (c == 44 && !q) = false := by
        cases q with
        | true => simp
        | false => simp at hn; simp [hn]
      unfold lg
      rw [e44]
      simp only [Bool.false_eq_true, if_false]
      cases sk with
      | true =>
        simp only [if_true]
        exact ih (i + 1) (part ++ [c]) q false out hd (by omega) hpl (by omega)
      | false =>
        simp only [Bool.false_eq_true, if_false]
        by_cases h92 : c = 92
        · subst h92
          simp only [show ((92 : UInt8).toNat : Int) = 92 from rfl, if_true, beq_self_eq_true, Bool.true_and]
          refine Ev.step (fun k => rfl) ?_
          cases q with
          | true =>
            simp only [headraceref05_List.j2, if_true, hw]
            exact ih (i + 1) (part ++ [92]) true true out hd (by omega) hpl (by omega)
          | false =>
            simp only [headraceref05_List.j2, Bool.false_eq_true, if_false, hw, hsz, if_pos (show 0 ≤ (i : Int) by omega), if_pos (show (i : Int) < (l.length : Int) by omega), hb, show ((92 : UInt8).toNat : Int) = 92 from rfl, if_neg (show ¬ (92 : Int) = 34 by decide), show ((92 : UInt8) == 34) = false from rfl]
            exact ih (i + 1) (part ++ [92]) false false out hd (by omega) hpl (by omega)
        · have e92 : (c == 92) = false := by simpa using h92
          have n92 : ¬ (c.toNat : Int) = 92 := by
            intro hh
            apply h92
            have : c.toNat = (92 : UInt8).toNat := by show c.toNat = 92; omega
            exact UInt8.toNat_inj.1 this
          simp only [if_neg n92, e92, Bool.false_and, Bool.false_eq_true, if_false]
          refine Ev.step (fun k => rfl) ?_
          simp only [headraceref05_List.j2, Bool.false_eq_true, if_false, hw, hsz, if_pos (show 0 ≤ (i : Int) by omega), if_pos (show (i : Int) < (l.length : Int) by omega), hb]
          by_cases h34 : c = 34
          · subst h34
            simp only [show ((34 : UInt8).toNat : Int) = 34 from rfl, if_true, beq_self_eq_true]
            exact ih (i + 1) (part ++ [34]) (!q) false out hd (by omega) hpl (by omega)
          · have e34 : (c == 34) = false := by simpa using h34
            have n34 : ¬ (c.toNat : Int) = 34 := by
              intro hh
              apply h34
              have : c.toNat = (34 : UInt8).toNat := by show c.toNat = 34; omega
              exact UInt8.toNat_inj.1 this
            simp only [if_neg n34, e34, Bool.false_eq_true, if_false]
            exact ih (i + 1) (part ++ [c]) q false out hd (by omega) hpl (by omega)
    refine Ev.step (fun k => rfl) ?_
    simp only [headraceref05_List.l0, hsz, if_pos (show (i : Int) ≤ (l.length : Int) by omega), if_neg (show ¬ (i : Int) = (l.length : Int) by omega), if_pos (show 0 ≤ (i : Int) by omega), if_pos (show (i : Int) < (l.length : Int) by omega), hb]
    by_cases h44 : c = 44
    · subst h44
      simp only [show ((44 : UInt8).toNat : Int) = 44 from rfl, if_true]
      cases q with
      | true => exact key (by simp)
      | false =>
        simp only [Bool.not_false]
        refine ev_rput (mkB l) out part false sk i _ (by omega) (by omega) (by omega) ?_
        have := ih (i + 1) [] false sk (put part out) hd (by omega) (by simp) (by have := put_length part out; omega)
        unfold lg
        exact this
    · have n44 : ¬ (c.toNat : Int) = 44 := by
        intro hh
        apply h44
        have : c.toNat = (44 : UInt8).toNat := by show c.toNat = 44; omega
        exact UInt8.toNat_inj.1 this
      simp only [if_neg n44]
      exact key (by simp [h44])
theorem ev_rList (s : ByteArray) (hs : s.size ≤ 4194304) : Ev (fun k => headraceref05_List.f k s) ((Hr.list s.data.toList).map mkB) := by
  rw [list_lg]
  unfold headraceref05_List.f
  have h := ev_rList_l0 s.data.toList (by rw [← sz]; exact hs) s.data.toList 0 [] false false [] rfl (by omega) (by simp) (by simp)
  rw [mkB_of] at h
  exact h
theorem trim_length (l : Bs) : (trim l).length ≤ l.length := by
  rw [trim_eq]
  unfold trimL trimR
  refine Nat.le_trans (List.dropWhile_sublist _).length_le ?_
  rw [List.length_reverse]
  exact Nat.le_trans (List.dropWhile_sublist _).length_le (by simp)
/-- All letters of a list's elements, one more for each. -/
def total (out : List Bs) : Nat := (out.map fun x => x.length + 1).sum
theorem total_append (a b : List Bs) : total (a ++ b) = total a + total b := by unfold total; rw [List.map_append, List.sum_append]
theorem total_put (p : Bs) (out : List Bs) : total (put p out) ≤ total out + p.length + 1 := by
  unfold put
  split
  · omega
  · rw [total_append]
    have := trim_length p
    simp [total]
    omega
theorem total_lg (r : Bs) : ∀ (part : Bs) (q sk : Bool) (out : List Bs), total (lg r part q sk out) ≤ total out + part.length + r.length + 1 := by
  induction r with
  | nil => intro part q sk out; unfold lg; have := total_put part out; simp only [List.length_nil]; omega
  | cons c r ih =>
    intro part q sk out
    unfold lg
    have hp := total_put part out
    simp only [List.length_cons]
    repeat' split
    · have := ih [] q sk (put part out); simp only [List.length_nil] at this; omega
    all_goals (first | (have := ih (part ++ [c]) q false out; simp only [List.length_append, List.length_singleton] at this; omega) | (have := ih (part ++ [c]) q true out; simp only [List.length_append, List.length_singleton] at this; omega) | (have := ih (part ++ [c]) (!q) sk out; simp only [List.length_append, List.length_singleton] at this; omega) | (have := ih (part ++ [c]) q sk out; simp only [List.length_append, List.length_singleton] at this; omega))
theorem length_total (out : List Bs) : out.length ≤ total out := by
  induction out with
  | nil => simp [total]
  | cons x r ih =>
    have e : total (x :: r) = (x.length + 1) + total r := by simp [total]
    rw [e]; simp only [List.length_cons]; omega
theorem total_list (s : Bs) : total (Hr.list s) ≤ s.length + 1 := by
  rw [list_lg]
  have := total_lg s [] false false []
  simp [total] at this ⊢
  exact this
theorem lList (s : ByteArray) (hs : s.size ≤ 4398046511104) : lexis_List.f s = some ((Hr.list s.data.toList).map mkB) := by
  unfold lexis_List.f
  rw [if_pos hs]
  rfl
end Go.Proofs.YtmfhhhokacjgeaaDoor.Px
