/- A decoder, plainly: chunks and the last one are read as they were written; own text of this session. -/
import Derived.Test.YtnlicpihondmgaaDoorChkB
import Derived.Test.YtnlicpihondmgaaDoorChk13
namespace Go.Proofs.YtnlicpihondmgaaDoor.Chk
open Go.RowKit Go.Proofs.YtnlicpihondmgaaDoorW.PrintWords Go.Proofs.YtnlicpihondmgaaDoorW.PrintLast
set_option linter.unusedVariables false
set_option linter.unusedSimpArgs false
/-- A decoder that is neither whole nor wrong. -/
abbrev D (left need : Int) (line : List Int) (st : Nat) (out : List Int) (tr : List Fld) : Dec := ⟨left, need, line, st, out, tr, false, 0⟩
/-- Some bytes lead from one decoder to another. -/
def Runs (d : Dec) (a : List Int) (d' : Dec) : Prop := ∀ (b : List Int) (n : Nat), feedGo d (a ++ b) n = feedGo d' b (n + a.length)
theorem Runs.nil (d : Dec) : Runs d [] d := fun b n => rfl
theorem Runs.trans {d d' d'' : Dec} {a a' : List Int} (h : Runs d a d') (k : Runs d' a' d'') : Runs d (a ++ a') d'' := fun b n => by
  rw [List.append_assoc, h, k, List.length_append, Nat.add_assoc]
theorem Runs.one {left need left' need' : Int} {line line' : List Int} {st st' : Nat} {out out' : List Int} {tr tr' : List Fld} {c : Int} (hs : stepE (D left need line st out tr) c = (D left' need' line' st' out' tr', 0)) :
    Runs (D left need line st out tr) [c] (D left' need' line' st' out' tr') := fun b n => by
  rw [List.singleton_append, feed_next _ _ _ _ rfl rfl, hs]
  rfl
theorem rd_last (l : List Int) (c : Int) : rd (l ++ [c]) (((l ++ [c]).length : Int) - 1) = c := by
  unfold rd
  have : ((((l ++ [c]).length : Nat) : Int) - 1).toNat = l.length := by rw [List.length_append]; simp
  rw [this]
  simp
theorem not_after (l : List Int) (hl : ∀ x ∈ l, x ≠ 13) : (decide (0 < l.length) && (rd l ((l.length : Int) - 1) == 13)) = false := by
  rcases List.eq_nil_or_concat l with rfl | ⟨a, x, rfl⟩
  · rfl
  · rw [List.concat_eq_append] at hl ⊢
    rw [rd_last]
    have := hl x (by simp)
    simp [this]
theorem lined_push (l : List Int) (c : Int) (hl : ∀ x ∈ l, x ≠ 13) (h10 : c ≠ 10) (h13 : c ≠ 13) (hn : l.length < 8192) : lined l c = (l ++ [c], none, 0) := by
  unfold lined
  have hb : (c == 10) = false := by simpa using h10
  rw [not_after l hl, hb, if_neg (by simp), if_neg h10, if_neg (by omega)]
theorem lined_cr (l : List Int) (hl : ∀ x ∈ l, x ≠ 13) : lined l 13 = (l ++ [13], none, 0) := by
  unfold lined
  rw [not_after l hl]
  rfl
theorem lined_lf (l : List Int) : lined (l ++ [13]) 10 = ([], some (strOfNums l), 0) := by
  unfold lined
  rw [rd_last]
  have h1 : decide (0 < (l ++ [13]).length) = true := by simp
  rw [h1]
  have h2 : (l ++ [13]).take ((l ++ [13]).length - 1) = l := by simp
  rw [h2]
  rfl
/-- A byte of a line that goes on. -/
theorem step_line {left need : Int} {line l' : List Int} {st : Nat} {out : List Int} {tr : List Fld} {c : Int} (hst : st = 0 ∨ st = 3) (h : lined line c = (l', none, 0)) :
    stepE (D left need line st out tr) c = (D left need l' st out tr, 0) := by
  rcases hst with rfl | rfl
  · show sizeS (D left need line 0 out tr) c = _
    unfold sizeS
    show (match (lined line c).2.1 with | none => _ | some s => _) = _
    rw [h]
  · show trailerS (D left need line 3 out tr) c = _
    unfold trailerS
    show (match (lined line c).2.1 with | none => _ | some s => _) = _
    rw [h]
theorem run_chars {left need : Int} {st : Nat} {out : List Int} {tr : List Fld} (hst : st = 0 ∨ st = 3) (a : List Int) : ∀ line : List Int, (∀ x ∈ line, x ≠ 13) → (∀ c ∈ a, c ≠ 10 ∧ c ≠ 13) → line.length + a.length ≤ 8192 →
    Runs (D left need line st out tr) a (D left need (line ++ a) st out tr) := by
  induction a with
  | nil => intro line _ _ _; rw [List.append_nil]; exact Runs.nil _
  | cons c r ih =>
    intro line hl ha hn
    have hc := ha c (by simp)
    simp only [List.length_cons] at hn
    have h1 := Runs.one (step_line (left := left) (need := need) (out := out) (tr := tr) hst (lined_push line c hl hc.1 hc.2 (by omega)))
    have h2 := ih (line ++ [c]) (fun x hx => by rcases List.mem_append.1 hx with hx | hx; exact hl x hx; rw [List.mem_singleton.1 hx]; exact hc.2) (fun x hx => ha x (by simp [hx])) (by rw [List.length_append, List.length_singleton]; omega)
    rw [List.append_assoc] at h2
    exact h1.trans h2
theorem run_cr {left need : Int} {line : List Int} {st : Nat} {out : List Int} {tr : List Fld} (hst : st = 0 ∨ st = 3) (hl : ∀ x ∈ line, x ≠ 13) : Runs (D left need line st out tr) [13] (D left need (line ++ [13]) st out tr) :=
  Runs.one (step_line hst (lined_cr line hl))
/-- The end of a size line. -/
theorem run_size {left need : Int} {line : List Int} {out : List Int} {tr : List Fld} {n : Int} (hs : sizeLine (strOfNums line) = some n) (hn : 0 < n) (hle : n ≤ left) :
    Runs (D left need (line ++ [13]) 0 out tr) [10] (D (left - n) n [] 1 out tr) := by
  refine Runs.one ?_
  show sizeS (D left need (line ++ [13]) 0 out tr) 10 = _
  unfold sizeS
  show (match (lined (line ++ [13]) 10).2.1 with | none => _ | some s => _) = _
  rw [lined_lf]
  show (match sizeLine (strOfNums line) with | none => _ | some n => _) = _
  rw [hs]
  show sizeN _ _ n = _
  unfold sizeN
  rw [if_neg (by show ¬ n > left; omega), if_neg (by omega)]
theorem run_zero {left need : Int} {line : List Int} {out : List Int} {tr : List Fld} (hs : sizeLine (strOfNums line) = some 0) (hle : 0 ≤ left) :
    Runs (D left need (line ++ [13]) 0 out tr) [10] (D left need [] 3 out tr) := by
  refine Runs.one ?_
  show sizeS (D left need (line ++ [13]) 0 out tr) 10 = _
  unfold sizeS
  show (match (lined (line ++ [13]) 10).2.1 with | none => _ | some s => _) = _
  rw [lined_lf]
  show (match sizeLine (strOfNums line) with | none => _ | some n => _) = _
  rw [hs]
  show sizeN _ _ 0 = _
  unfold sizeN
  rw [if_neg (by show ¬ (0 : Int) > left; omega), if_pos rfl]
/-- A chunk's bytes. -/
theorem run_data {left : Int} {tr : List Fld} (b : List Int) : ∀ (out : List Int), b ≠ [] → Runs (D left (b.length : Int) [] 1 out tr) b (D left 0 [] 2 (out ++ b) tr) := by
  induction b with
  | nil => intro out h; exact absurd rfl h
  | cons c r ih =>
    intro out _
    cases r with
    | nil =>
      refine Runs.one ?_
      show dataS _ c = _
      unfold dataS
      simp
    | cons c' r' =>
      have h1 : Runs (D left ((c :: c' :: r').length : Int) [] 1 out tr) [c] (D left (((c' :: r').length : Nat) : Int) [] 1 (out ++ [c]) tr) := by
        refine Runs.one ?_
        show dataS _ c = _
        unfold dataS
        have h2 : ((c :: c' :: r').length : Int) - 1 = (((c' :: r').length : Nat) : Int) := by simp only [List.length_cons]; omega
        have h3 : ¬ (((c' :: r').length : Nat) : Int) = 0 := by simp only [List.length_cons]; omega
        simp only [h2, if_neg h3]
      have h4 := ih (out ++ [c]) (by simp)
      rw [List.append_assoc] at h4
      exact h1.trans h4
theorem run_end {left : Int} {out : List Int} {tr : List Fld} : Runs (D left 0 [] 2 out tr) [13, 10] (D left 0 [] 0 out tr) :=
  Runs.trans (a := [13]) (a' := [10]) (Runs.one (line' := [13]) (by rfl)) (Runs.one (by rfl))
/-- A trailer's line. -/
theorem run_trailer {left need : Int} {line : List Int} {out : List Int} {tr : List Fld} (hs : ¬ (strOfNums line).size = 0) (hok : (Lib.cut (strOfNums line).data.toList [58]).2.2 = true) (hm : ¬ tr.length = 100) (he : fldE (trailerF (strOfNums line)) = 0) :
    Runs (D left need (line ++ [13]) 3 out tr) [10] (D left need [] 3 out (tr ++ [trailerF (strOfNums line)])) := by
  refine Runs.one ?_
  show trailerS (D left need (line ++ [13]) 3 out tr) 10 = _
  unfold trailerS
  show (match (lined (line ++ [13]) 10).2.1 with | none => _ | some s => _) = _
  rw [lined_lf]
  show (if (strOfNums line).size = 0 then _ else if (Lib.cut (strOfNums line).data.toList [58]).2.2 = false ∨ tr.length = 100 ∨ ¬ fldE (trailerF (strOfNums line)) = 0 then _ else _) = _
  rw [if_neg hs, if_neg (by rw [hok, he]; simp [hm])]
/-- The empty line: the body is whole. -/
theorem end_whole {left need : Int} {out : List Int} {tr : List Fld} (rest : List Int) (n : Nat) : feedGo (D left need [] 3 out tr) ([13, 10] ++ rest) n = (⟨left, need, [], 3, out, tr, true, 0⟩, n + 2) := by
  have h1 := run_cr (left := left) (need := need) (out := out) (tr := tr) (st := 3) (line := []) (.inr rfl) (by simp)
  show feedGo _ ([13] ++ (10 :: rest)) n = _
  rw [h1, feed_next _ _ _ _ rfl rfl]
  have h2 : stepE (D left need ([] ++ [13]) 3 out tr) 10 = (⟨left, need, [], 3, out, tr, true, 0⟩, 0) := by
    rfl
  rw [h2]
  exact feed_stop _ _ _ (.inr (.inl rfl))
/-! ### texts -/
theorem str_bytes (s : ByteArray) : strOfNums (bytesOf s) = s := by
  have h := Px.str_nums s.data.toList
  rw [Px.mkB_of] at h
  exact h
theorem bytes_append (a b : ByteArray) : bytesOf (a ++ b) = bytesOf a ++ bytesOf b := by
  unfold bytesOf
  rw [ByteArray.data_append, Array.toList_append, List.map_append]
theorem index_one (a b : List UInt8) (c : UInt8) (h : c ∉ a) : Lib.index (a ++ c :: b) [c] = (a.length : Int) := by
  induction a with
  | nil => simp [Lib.index]
  | cons x r ih =>
    have hx : ¬ c = x := fun e => h (by simp [e])
    have hr := ih (fun e => h (by simp [e]))
    show (if [c].isPrefixOf (x :: (r ++ c :: b)) then 0 else if Lib.index (r ++ c :: b) [c] == -1 then -1 else Lib.index (r ++ c :: b) [c] + 1) = _
    rw [hr]
    have hp : [c].isPrefixOf (x :: (r ++ c :: b)) = false := by simp [List.isPrefixOf, hx]
    rw [hp]
    have hn : ((r.length : Int) == -1) = false := by simp
    rw [hn]
    simp
theorem index_none (a : List UInt8) (c : UInt8) (h : c ∉ a) : Lib.index a [c] = -1 := by
  induction a with
  | nil => simp [Lib.index]
  | cons x r ih =>
    have hx : ¬ c = x := fun e => h (by simp [e])
    have hr := ih (fun e => h (by simp [e]))
    show (if [c].isPrefixOf (x :: r) then 0 else if Lib.index r [c] == -1 then -1 else Lib.index r [c] + 1) = _
    rw [hr]
    have hp : [c].isPrefixOf (x :: r) = false := by simp [List.isPrefixOf, hx]
    rw [hp]
    rfl
theorem cut_one (a b : List UInt8) (c : UInt8) (h : c ∉ a) : Lib.cut (a ++ c :: b) [c] = (a, b, true) := by
  unfold Lib.cut
  rw [index_one a b c h, if_pos (by omega)]
  simp
theorem cut_none (a : List UInt8) (c : UInt8) (h : c ∉ a) : Lib.cut a [c] = (a, [], false) := by
  unfold Lib.cut
  rw [index_none a c h]
  rfl
end Go.Proofs.YtnlicpihondmgaaDoor.Chk
