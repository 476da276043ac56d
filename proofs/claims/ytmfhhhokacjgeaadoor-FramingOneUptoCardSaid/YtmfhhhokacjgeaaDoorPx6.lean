/- The law LexisJoined: own text of this session. -/
import Derived.Test.YtmfhhhokacjgeaaDoorPx5
namespace Go.Proofs.YtmfhhhokacjgeaaDoor.Px
open Go.RowKit Go.Proofs.YtmfhhhokacjgeaaDoor.P Go.Proofs.YtmfhhhokacjgeaaDoorW.PrintWords Go.Proofs.YtmfhhhokacjgeaaDoorW.PrintLast Go.Proofs.Hr
set_option linter.unusedVariables false
set_option linter.unusedSimpArgs false
/-! how the letters of one part move the two marks: whether in quotes, whether to pass -/
def stepQ (c : UInt8) (q sk : Bool) : Option (Bool × Bool) :=
  if c == 44 && !q then none else if sk then some (q, false) else if c == 92 && q then some (q, true) else if c == 34 then some (!q, sk) else some (q, sk)
def run : Bs → Bool → Bool → Option (Bool × Bool)
  | [], q, sk => some (q, sk)
  | c :: r, q, sk => (stepQ c q sk).bind fun p => run r p.1 p.2
theorem run_cons (c : UInt8) (r : Bs) (q sk : Bool) : run (c :: r) q sk = (stepQ c q sk).bind fun p => run r p.1 p.2 := rfl
theorem run_append (a b : Bs) : ∀ (q sk : Bool), run (a ++ b) q sk = (run a q sk).bind fun p => run b p.1 p.2 := by
  induction a with
  | nil => intro q sk; rfl
  | cons c r ih =>
    intro q sk
    rw [List.cons_append, run_cons, run_cons]
    cases stepQ c q sk with
    | none => rfl
    | some p => exact ih p.1 p.2
theorem lg_step (c : UInt8) (r part : Bs) (q sk q' sk' : Bool) (out : List Bs) (h : stepQ c q sk = some (q', sk')) : lg (c :: r) part q sk out = lg r (part ++ [c]) q' sk' out := by
  unfold stepQ at h
  conv => lhs; unfold lg
  split at h
  · cases h
  · rename_i h1
    rw [if_neg h1]
    split at h
    · rename_i h2
      rw [if_pos h2]
      simp only [Option.some.injEq, Prod.mk.injEq] at h
      obtain ⟨rfl, rfl⟩ := h; rfl
    · rename_i h2
      rw [if_neg h2]
      split at h
      · rename_i h3
        rw [if_pos h3]
        simp only [Option.some.injEq, Prod.mk.injEq] at h
        obtain ⟨rfl, rfl⟩ := h; rfl
      · rename_i h3
        rw [if_neg h3]
        split at h
        · rename_i h4
          rw [if_pos h4]
          simp only [Option.some.injEq, Prod.mk.injEq] at h
          obtain ⟨rfl, rfl⟩ := h; rfl
        · rename_i h4
          rw [if_neg h4]
          simp only [Option.some.injEq, Prod.mk.injEq] at h
          obtain ⟨rfl, rfl⟩ := h; rfl
theorem lg_run (w r : Bs) : ∀ (part : Bs) (q sk q' sk' : Bool) (out : List Bs), run w q sk = some (q', sk') → lg (w ++ r) part q sk out = lg r (part ++ w) q' sk' out := by
  induction w with
  | nil =>
    intro part q sk q' sk' out h
    simp only [run, Option.some.injEq, Prod.mk.injEq] at h
    obtain ⟨rfl, rfl⟩ := h
    simp
  | cons c w ih =>
    intro part q sk q' sk' out h
    unfold run at h
    cases hs : stepQ c q sk with
    | none => rw [hs] at h; cases h
    | some p =>
      rw [hs] at h
      rw [List.cons_append, lg_step c (w ++ r) part q sk p.1 p.2 out hs, ih (part ++ [c]) p.1 p.2 q' sk' out h, List.append_assoc]
      rfl
/-- To pass a letter is a mark of quotes alone. -/
theorem step_pass {c : UInt8} {q sk q' sk' : Bool} (h : stepQ c q sk = some (q', sk')) (hp : sk = true → q = true) : sk' = true → q' = true := by
  unfold stepQ at h
  cases hc1 : (c == 44) <;> cases hc2 : (c == 92) <;> cases hc3 : (c == 34) <;> cases q <;> cases sk <;> simp_all <;> (try (obtain ⟨rfl, rfl⟩ := h; simp))
theorem run_pass (w : Bs) : ∀ (q sk q' sk' : Bool), run w q sk = some (q', sk') → (sk = true → q = true) → sk' = true → q' = true := by
  induction w with
  | nil =>
    intro q sk q' sk' h hp
    simp only [run, Option.some.injEq, Prod.mk.injEq] at h
    obtain ⟨rfl, rfl⟩ := h
    exact hp
  | cons c w ih =>
    intro q sk q' sk' h hp
    unfold run at h
    cases hs : stepQ c q sk with
    | none => rw [hs] at h; cases h
    | some p =>
      rw [hs] at h
      exact ih p.1 p.2 q' sk' h (step_pass hs hp)
theorem blank_out (c : UInt8) (h : isBlank c = true) (q sk : Bool) (hp : sk = true → q = true) : ∃ sk', stepQ c q sk = some (q, sk') ∧ (sk' = true → q = true) ∧ (q = false → sk' = sk) := by
  have h2 : (c == 44) = false ∧ (c == 92) = false ∧ (c == 34) = false := byte_of (fun c => isBlank c = true → (c == 44) = false ∧ (c == 92) = false ∧ (c == 34) = false) (by decide +kernel) c h
  obtain ⟨h44, h92, h34⟩ := h2
  unfold stepQ
  simp only [h44, h92, h34, Bool.false_and, Bool.false_eq_true, if_false]
  cases sk with
  | true => exact ⟨false, rfl, by simp, by intro hq; have := hp rfl; rw [hq] at this; cases this⟩
  | false => exact ⟨false, rfl, by simp, by simp⟩
theorem run_blanks (w : Bs) (hw : ∀ c ∈ w, isBlank c = true) : ∀ (q sk : Bool), (sk = true → q = true) → ∃ sk', run w q sk = some (q, sk') ∧ (sk' = true → q = true) ∧ (q = false → sk' = sk) := by
  induction w with
  | nil => intro q sk hp; exact ⟨sk, rfl, hp, fun _ => rfl⟩
  | cons c w ih =>
    intro q sk hp
    obtain ⟨s1, h1, h2, h3⟩ := blank_out c (hw c (by simp)) q sk hp
    obtain ⟨s2, g1, g2, g3⟩ := ih (fun d hd => hw d (by simp [hd])) q s1 h2
    refine ⟨s2, ?_, g2, fun hq => (g3 hq).trans (h3 hq)⟩
    unfold run
    rw [h1]
    exact g1
theorem trim_parts (p : Bs) : ∃ a b : Bs, p = a ++ trim p ++ b ∧ (∀ c ∈ a, isBlank c = true) ∧ (∀ c ∈ b, isBlank c = true) := by
  have hsplit : ∀ m : Bs, m = m.takeWhile isBlank ++ m.dropWhile isBlank := fun m => (List.takeWhile_append_dropWhile).symm
  have htw : ∀ m : Bs, ∀ c ∈ m.takeWhile isBlank, isBlank c = true := fun m => by
    induction m with
    | nil => intro c hc; cases hc
    | cons d m ih =>
      intro c hc
      rw [List.takeWhile_cons] at hc
      split at hc
      · rename_i hd
        rcases List.mem_cons.1 hc with rfl | hc
        · exact hd
        · exact ih c hc
      · cases hc
  have hr : p = trimR p ++ (p.reverse.takeWhile isBlank).reverse := by
    unfold trimR
    have := congrArg List.reverse (hsplit p.reverse)
    rw [List.reverse_reverse, List.reverse_append] at this
    exact this
  have hl := hsplit (trimR p)
  refine ⟨(trimR p).takeWhile isBlank, (p.reverse.takeWhile isBlank).reverse, ?_, htw _, fun c hc => htw _ c (List.mem_reverse.1 hc)⟩
  rw [trim_eq]
  unfold trimL
  rw [← hl]
  exact hr
theorem run_trim (p : Bs) (q sk : Bool) (h : run p false false = some (q, sk)) : ∃ sk', run (trim p) false false = some (q, sk') ∧ (q = false → sk' = false) := by
  obtain ⟨a, b, he, ha, hb⟩ := trim_parts p
  obtain ⟨s1, h1, _, g1⟩ := run_blanks a ha false false (by simp)
  have e1 : s1 = false := g1 rfl
  subst e1
  rw [he, run_append, run_append, h1] at h
  simp only [Option.bind_some] at h
  cases ht : run (trim p) false false with
  | none => rw [ht] at h; cases h
  | some st =>
    rw [ht] at h
    simp only [Option.bind_some] at h
    have hp := run_pass (trim p) false false st.1 st.2 ht (by simp)
    obtain ⟨s2, h2, _, g2⟩ := run_blanks b hb st.1 st.2 hp
    rw [h2] at h
    simp only [Option.some.injEq, Prod.mk.injEq] at h
    refine ⟨st.2, ?_, ?_⟩
    · rw [← h.1]
    · intro hq
      have : st.1 = false := by rw [h.1]; exact hq
      cases hs : st.2 with
      | false => rfl
      | true => exact absurd ((hp hs).symm.trans this) (by decide)
def Elem (x : Bs) : Prop := x ≠ [] ∧ trim x = x
def Shut (x : Bs) : Prop := Elem x ∧ run x false false = some (false, false)
def Fine (R : List Bs) : Prop := ∃ out, (∀ x ∈ out, Shut x) ∧ (R = out ∨ ∃ x, R = out ++ [x] ∧ Elem x ∧ ∃ q sk, run x false false = some (q, sk))
theorem dw_dw (m : Bs) : (m.dropWhile isBlank).dropWhile isBlank = m.dropWhile isBlank := by
  induction m with
  | nil => rfl
  | cons c r ih =>
    rw [List.dropWhile_cons]
    split
    · exact ih
    · rename_i hc
      rw [List.dropWhile_cons, if_neg hc]
theorem trim_trim (p : Bs) : trim (trim p) = trim p := by
  have hR : trimR (trimR p) = trimR p := by unfold trimR; rw [List.reverse_reverse, dw_dw]
  rw [trim_eq (trim p), trim_eq p, ← trim_comm (trimR p), hR]
  exact dw_dw _
theorem fine_lg (r : Bs) : ∀ (part : Bs) (q sk : Bool) (out : List Bs), run part false false = some (q, sk) → (∀ x ∈ out, Shut x) → Fine (lg r part q sk out) := by
  induction r with
  | nil =>
    intro part q sk out hr ho
    unfold lg put
    split
    · exact ⟨out, ho, Or.inl rfl⟩
    · rename_i hne
      obtain ⟨s1, h1, _⟩ := run_trim part q sk hr
      exact ⟨out, ho, Or.inr ⟨_, rfl, ⟨hne, trim_trim part⟩, _, _, h1⟩⟩
  | cons c r ih =>
    intro part q sk out hr ho
    cases hs : stepQ c q sk with
    | some p =>
      rw [lg_step c r part q sk p.1 p.2 out hs]
      refine ih (part ++ [c]) p.1 p.2 out ?_ ho
      rw [run_append, hr]
      simp only [Option.bind_some]
      unfold run
      rw [hs]
      rfl
    | none =>
      have hc : (c == 44 && !q) = true := by
        unfold stepQ at hs
        split at hs
        · assumption
        · repeat' (split at hs)
          all_goals cases hs
      unfold lg
      rw [if_pos hc]
      simp only [Bool.and_eq_true, Bool.not_eq_true'] at hc
      obtain ⟨_, hq⟩ := hc
      subst hq
      have hsk : sk = false := by
        cases sk with
        | false => rfl
        | true => have := run_pass part false false false true hr (by simp) rfl; cases this
      subst hsk
      refine ih [] false false (put part out) rfl ?_
      unfold put
      split
      · exact ho
      · rename_i hne
        intro x hx
        rcases List.mem_append.1 hx with hx | hx
        · exact ho x hx
        · simp only [List.mem_singleton] at hx
          subst hx
          obtain ⟨s1, h1, g1⟩ := run_trim part false false hr
          rw [g1 rfl] at h1
          exact ⟨⟨hne, trim_trim part⟩, h1⟩
theorem fine_list (s : Bs) : Fine (Hr.list s) := by
  rw [list_lg]
  exact fine_lg s [] false false [] rfl (by simp)
/-! joined again -/
def jn : Bool → List Bs → Bs
  | _, [] => []
  | true, x :: r => x ++ jn false r
  | false, x :: r => 44 :: 32 :: (x ++ jn false r)
theorem put_elem (pre x : Bs) (out : List Bs) (hpre : pre = [] ∨ pre = [32]) (hx : Elem x) : put (pre ++ x) out = out ++ [x] := by
  have e : trim (pre ++ x) = x := by
    rcases hpre with rfl | rfl
    · exact hx.2
    · have h1 : trim ((32 : UInt8) :: x) = trim x := by
        rw [trim_eq, trim_eq, trim_comm, trim_comm]
        congr 1
      exact h1.trans hx.2
  unfold put
  rw [e, if_neg hx.1]
theorem lg_shut (out : List Bs) : ∀ (pre r : Bs) (acc : List Bs), (∀ x ∈ out, Shut x) → (pre = [] ∨ pre = [32]) → ∀ (x : Bs), Shut x → lg (x ++ jn false out ++ r) pre false false acc = (match out.reverse with | [] => lg r (pre ++ x) false false acc | y :: t => lg r (32 :: y) false false (acc ++ (x :: t.reverse))) := by
  induction out with
  | nil =>
    intro pre r acc _ hpre x hx
    simp only [jn, List.append_nil, List.reverse_nil]
    exact lg_run x r pre false false false false acc hx.2
  | cons y out ih =>
    intro pre r acc ho hpre x hx
    have hy := ho y (by simp)
    have e : x ++ jn false (y :: out) ++ r = x ++ (44 :: (32 :: (y ++ jn false out ++ r))) := by simp [jn]
    rw [e, lg_run x _ pre false false false false acc hx.2]
    have e2 : lg (44 :: (32 :: (y ++ jn false out ++ r))) (pre ++ x) false false acc = lg (y ++ jn false out ++ r) [32] false false (acc ++ [x]) := by
      conv => lhs; unfold lg
      simp only [beq_self_eq_true, Bool.not_false, Bool.and_self, if_true]
      rw [put_elem pre x acc hpre hx.1]
      rw [lg_step 32 _ [] false false false false _ rfl]
      rfl
    rw [e2, ih [32] r (acc ++ [x]) (fun z hz => ho z (by simp [hz])) (Or.inr rfl) y hy]
    rw [List.reverse_cons]
    cases hrv : out.reverse with
    | nil => simp
    | cons z t => simp
theorem list_jn (l : List Bs) (h : Fine l) : Hr.list (jn true l) = l := by
  obtain ⟨out, ho, hR⟩ := h
  rw [list_lg]
  have fin : ∀ (o : List Bs), (∀ x ∈ o, Shut x) → lg (jn true o) [] false false [] = o := by
    intro o ho
    cases o with
    | nil => rfl
    | cons x o =>
      have := lg_shut o [] [] [] (fun z hz => ho z (by simp [hz])) (Or.inl rfl) x (ho x (by simp))
      rw [List.append_nil] at this
      show lg (x ++ jn false o) [] false false [] = x :: o
      rw [this]
      cases hrv : o.reverse with
      | nil =>
        have eo : o = [] := by simpa using congrArg List.reverse hrv
        subst eo
        simp only [List.nil_append]
        unfold lg
        exact put_elem [] x [] (Or.inl rfl) (ho x (by simp)).1
      | cons y t =>
        have eo : o = t.reverse ++ [y] := by have := congrArg List.reverse hrv; simpa using this
        simp only [List.nil_append]
        unfold lg
        have hy : Shut y := ho y (by rw [eo]; simp)
        have := put_elem [32] y (x :: t.reverse) (Or.inr rfl) hy.1
        rw [eo]
        exact this
  rcases hR with rfl | ⟨x, rfl, hx, q, sk, hr⟩
  · exact fin _ ho
  · have last : ∀ (pre : Bs) (acc : List Bs), (pre = [] ∨ pre = [32]) → lg x pre false false acc = acc ++ [x] := by
      intro pre acc hpre
      have := lg_run x [] pre false false q sk acc hr
      rw [List.append_nil] at this
      rw [this]
      unfold lg
      exact put_elem pre x acc hpre hx
    cases out with
    | nil =>
      show lg (x ++ []) [] false false [] = [x]
      rw [List.append_nil]
      exact last [] [] (Or.inl rfl)
    | cons y out =>
      have hj : ∀ (o : List Bs) (b : Bool), (o ≠ [] ∨ b = false) → jn b (o ++ [x]) = jn b o ++ (44 :: 32 :: x) := by
        intro o
        induction o with
        | nil => intro b hb; cases b with
          | false => simp [jn]
          | true => simp at hb
        | cons z o ih =>
          intro b hb
          cases b <;> (simp only [List.cons_append, jn]; rw [ih false (Or.inr rfl)]; simp)
      rw [hj (y :: out) true (Or.inl (by simp))]
      show lg (y ++ jn false out ++ (44 :: 32 :: x)) [] false false [] = _
      rw [lg_shut out [] (44 :: 32 :: x) [] (fun z hz => ho z (by simp [hz])) (Or.inl rfl) y (ho y (by simp))]
      have cut : ∀ (pre p : Bs) (acc : List Bs), (pre = [] ∨ pre = [32]) → Elem p → lg (44 :: 32 :: x) (pre ++ p) false false acc = acc ++ [p] ++ [x] := by
        intro pre p acc hpre hp
        conv => lhs; unfold lg
        simp only [beq_self_eq_true, Bool.not_false, Bool.and_self, if_true]
        rw [put_elem pre p acc hpre hp, lg_step 32 _ [] false false false false _ rfl]
        exact last [32] _ (Or.inr rfl)
      cases hrv : out.reverse with
      | nil =>
        have eo : out = [] := by simpa using congrArg List.reverse hrv
        subst eo
        exact cut [] y [] (Or.inl rfl) (ho y (by simp)).1
      | cons z t =>
        have eo : out = t.reverse ++ [z] := by have := congrArg List.reverse hrv; simpa using this
        have hz : Shut z := ho z (by rw [eo]; simp)
        have := cut [32] z ([] ++ (y :: t.reverse)) (Or.inr rfl) hz.1
        rw [eo]
        simpa using this
theorem jn_length (l : List Bs) : ∀ b, (jn b l).length ≤ 2 * total l := by
  induction l with
  | nil => intro b; simp [jn]
  | cons x r ih =>
    intro b
    have e : total (x :: r) = (x.length + 1) + total r := by simp [total]
    have := ih false
    cases b <;> (simp only [jn, List.length_cons, List.length_append]; omega)
theorem jn_false (l : List Bs) (x : Bs) (r : List Bs) : jn false (x :: r) = 44 :: 32 :: (x ++ jn false r) := rfl
theorem Fine.elem {l : List Bs} (h : Fine l) : ∀ x ∈ l, Elem x := by
  obtain ⟨out, ho, hR⟩ := h
  rcases hR with rfl | ⟨x, rfl, hx, _⟩
  · exact fun x hx => (ho x hx).1
  · intro y hy
    rcases List.mem_append.1 hy with hy | hy
    · exact (ho y hy).1
    · simp only [List.mem_singleton] at hy; subst hy; exact hx
end Go.Proofs.YtmfhhhokacjgeaaDoor.Px
