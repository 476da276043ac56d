/- A decoder, plainly: there and back; own text of this session. -/
import Derived.Test.YtnlicpihondmgaaDoorChkE
namespace Go.Proofs.YtnlicpihondmgaaDoor.Chk
open Go.RowKit Go.Proofs.YtnlicpihondmgaaDoorW.PrintWords Go.Proofs.YtnlicpihondmgaaDoorW.PrintLast Go.Proofs.Hr
set_option linter.unusedVariables false
set_option linter.unusedSimpArgs false
theorem hexDigit_ch : ∀ d : Fin 16, Hr.hexDigit d.val ≠ 10 ∧ Hr.hexDigit d.val ≠ 13 ∧ Hr.hexDigit d.val ≠ 59 := by decide +kernel
theorem hexGo_ch (k : Nat) : ∀ (n : Nat) (acc : Bs), (∀ c ∈ acc, c ≠ 10 ∧ c ≠ 13 ∧ c ≠ 59) → ∀ c ∈ hexGo k n acc, c ≠ 10 ∧ c ≠ 13 ∧ c ≠ 59 := by
  induction k with
  | zero => intro n acc h; exact h
  | succ k ih =>
    intro n acc h
    unfold hexGo
    split
    · rename_i hn
      intro c hc
      rcases List.mem_cons.1 hc with rfl | hc
      · exact hexDigit_ch ⟨n, hn⟩
      · exact h c hc
    · refine ih _ _ (fun c hc => ?_)
      rcases List.mem_cons.1 hc with rfl | hc
      · exact hexDigit_ch ⟨n % 16, Nat.mod_lt _ (by decide)⟩
      · exact h c hc
theorem hex_ch (n : Nat) : ∀ c ∈ hex n, c ≠ 10 ∧ c ≠ 13 ∧ c ≠ 59 := hexGo_ch 17 n [] (fun c hc => by cases hc)
theorem nOf_ch (l : Bs) (h : ∀ c ∈ l, c ≠ 10 ∧ c ≠ 13) : ∀ c ∈ nOf l, c ≠ 10 ∧ c ≠ 13 := by
  intro c hc
  obtain ⟨x, hx, rfl⟩ := List.mem_map.1 hc
  obtain ⟨h1, h2⟩ := h x hx
  refine ⟨fun e => h1 ?_, fun e => h2 ?_⟩
  · exact UInt8.toNat_inj.1 (by show x.toNat = 10; omega)
  · exact UInt8.toNat_inj.1 (by show x.toNat = 13; omega)
theorem size_hex (n : Nat) (hn : n ≤ 9007199254740992) : sizeLine (strOfNums (nOf (hex n))) = some (n : Int) := by
  rw [strOfNums_nOf]
  have e : ((⟨(hex n).toArray⟩ : ByteArray).data.toList) = hex n := by simp
  unfold sizeLine
  rw [e, cut_none (hex n) 59 (fun h => (hex_ch n 59 h).2.2 rfl)]
  show (if (Hr.digits 16 (hex n)).2 = 0 ∧ Px.value ([97] ++ [] ++ [97]) = true then some (Hr.digits 16 (hex n)).1 else none) = _
  rw [Px.digits_hex n hn, if_pos ⟨rfl, by decide +kernel⟩]
def chunkB (b : List Int) : List Int := if b = [] then [] else nOf (hex b.length) ++ [13, 10] ++ b ++ [13, 10]
theorem run_chunk {left need : Int} {out : List Int} {tr : List Fld} (b : List Int) (hb : b ≠ []) (hle : (b.length : Int) ≤ left) (hmax : b.length ≤ 9007199254740992) :
    Runs (D left need [] 0 out tr) (nOf (hex b.length) ++ [13, 10] ++ b ++ [13, 10]) (D (left - b.length) 0 [] 0 (out ++ b) tr) := by
  have hlen : (nOf (hex b.length)).length ≤ 8192 := by
    rw [nOf_length]
    have := Px.hexGo_length 17 b.length []
    simp only [List.length_nil] at this
    show (hexGo 17 b.length []).length ≤ _
    omega
  have hch := nOf_ch (hex b.length) (fun c hc => ⟨(hex_ch b.length c hc).1, (hex_ch b.length c hc).2.1⟩)
  have h1 := run_chars (left := left) (need := need) (out := out) (tr := tr) (st := 0) (.inl rfl) (nOf (hex b.length)) [] (fun x hx => by cases hx) hch (by simpa using hlen)
  rw [List.nil_append] at h1
  have h2 := run_cr (left := left) (need := need) (out := out) (tr := tr) (st := 0) (line := nOf (hex b.length)) (.inl rfl) (fun x hx => (hch x hx).2)
  have hpos : 0 < (b.length : Int) := by have := List.length_pos_iff.2 hb; omega
  have h3 := run_size (left := left) (need := need) (out := out) (tr := tr) (size_hex b.length hmax) hpos hle
  have h4 := run_data (left := left - b.length) (tr := tr) b out hb
  have h5 := run_end (left := left - b.length) (out := out ++ b) (tr := tr)
  have h6 := (((h1.trans h2).trans h3).trans h4).trans h5
  rw [List.append_assoc (nOf (hex b.length)) [13] [10]] at h6
  exact h6
theorem run_chunks {tr : List Fld} (ps : List (List Int)) : ∀ (left need : Int) (out : List Int), (ps.flatten.length : Int) ≤ left → left ≤ 9007199254740992 → ∃ need', Runs (D left need [] 0 out tr) (ps.flatMap chunkB) (D (left - ps.flatten.length) need' [] 0 (out ++ ps.flatten) tr) := by
  induction ps with
  | nil => intro left need out _ _; exact ⟨need, by simp; exact Runs.nil _⟩
  | cons b r ih =>
    intro left need out h1 h2
    simp only [List.flatten_cons, List.length_append] at h1
    by_cases hb : b = []
    · subst hb
      obtain ⟨need', h3⟩ := ih left need out (by omega) h2
      exact ⟨need', by simpa [List.flatMap_cons, chunkB] using h3⟩
    · have h4 := run_chunk (left := left) (need := need) (out := out) (tr := tr) b hb (by omega) (by omega)
      obtain ⟨need', h3⟩ := ih (left - b.length) 0 (out ++ b) (by omega) (by omega)
      refine ⟨need', ?_⟩
      have h5 := h4.trans h3
      rw [List.flatMap_cons, List.flatten_cons, List.length_append, ← List.append_assoc]
      have e1 : chunkB b = nOf (hex b.length) ++ [13, 10] ++ b ++ [13, 10] := by unfold chunkB; rw [if_neg hb]
      rw [e1]
      have e2 : left - ((b.length + r.flatten.length : Nat) : Int) = left - b.length - r.flatten.length := by omega
      rw [e2]
      exact h5
theorem tch_ch (c : UInt8) : Px.tch c = true → c ≠ 10 ∧ c ≠ 13 ∧ c ≠ 58 := Px.byte_of (fun c => Px.tch c = true → c ≠ 10 ∧ c ≠ 13 ∧ c ≠ 58) (by decide +kernel) c
theorem val_ch (c : UInt8) : Px.valOk c = true → c ≠ 10 ∧ c ≠ 13 := Px.byte_of (fun c => Px.valOk c = true → c ≠ 10 ∧ c ≠ 13) (by decide +kernel) c
theorem fld_ok {f : Fld} (h : fldE f = 0) : (∀ c ∈ f.f0.data.toList, c ≠ 10 ∧ c ≠ 13 ∧ c ≠ 58) ∧ (∀ c ∈ f.f1.data.toList, c ≠ 10 ∧ c ≠ 13) ∧ Hr.trim f.f1.data.toList = f.f1.data.toList := by
  unfold fldE at h
  split at h
  · rename_i ht
    split at h
    · rename_i hv
      unfold Px.token at ht
      unfold Px.value at hv
      rw [Bool.and_eq_true] at ht hv
      exact ⟨fun c hc => tch_ch c (List.all_eq_true.1 ht.1 c hc), fun c hc => val_ch c (List.all_eq_true.1 hv.1 c hc), by simpa using hv.2⟩
    · cases h
  · cases h
theorem trim_blank (v : Bs) : Hr.trim (32 :: v) = Hr.trim v := by
  rw [Px.trim_eq, Px.trim_comm, Px.trim_eq v, Px.trim_comm v]
  rfl
theorem run_field {left need : Int} {out : List Int} {tr : List Fld} (f : Fld) (h : fldE f = 0) (hs : f.f0.size + f.f1.size ≤ 8190) (ht : tr.length < 100) : Runs (D left need [] 3 out tr) (fldB f) (D left need [] 3 out (tr ++ [f])) := by
  obtain ⟨h0, h1, h2⟩ := fld_ok h
  obtain ⟨s, hse⟩ : ∃ s : ByteArray, s = f.f0 ++ (⟨#[58, 32]⟩ : ByteArray) ++ f.f1 := ⟨_, rfl⟩
  have e : fldB f = bytesOf s ++ [13] ++ [10] := by
    unfold fldB
    rw [← hse, bytes_append, List.append_assoc]
    rfl
  have hl : s.data.toList = f.f0.data.toList ++ 58 :: (32 :: f.f1.data.toList) := by
    rw [hse, ByteArray.data_append, ByteArray.data_append, Array.toList_append, Array.toList_append, List.append_assoc]
    rfl
  have hsz : s.size = f.f0.size + f.f1.size + 2 := by
    rw [hse]
    simp only [ByteArray.size_append]
    show f.f0.size + 2 + f.f1.size = _
    omega
  have hch : ∀ c ∈ bytesOf s, c ≠ 10 ∧ c ≠ 13 := by
    refine nOf_ch s.data.toList (fun c hc => ?_)
    rw [hl] at hc
    rcases List.mem_append.1 hc with hc | hc
    · exact ⟨(h0 c hc).1, (h0 c hc).2.1⟩
    · rcases List.mem_cons.1 hc with rfl | hc
      · decide
      · rcases List.mem_cons.1 hc with rfl | hc
        · decide
        · exact h1 c hc
  have hc58 : Lib.cut s.data.toList [58] = (f.f0.data.toList, 32 :: f.f1.data.toList, true) := by
    rw [hl]
    exact cut_one _ _ 58 (fun hc => (h0 58 hc).2.2 rfl)
  have htf : trailerF (strOfNums (bytesOf s)) = f := by
    rw [str_bytes]
    unfold trailerF
    rw [hc58]
    show (⟨Px.mkB f.f0.data.toList, Px.mkB (Hr.trim (32 :: f.f1.data.toList))⟩ : Fld) = f
    rw [trim_blank, h2, Px.mkB_of, Px.mkB_of]
  have r1 := run_chars (left := left) (need := need) (out := out) (tr := tr) (st := 3) (.inr rfl) (bytesOf s) [] (fun x hx => by cases hx) hch (by rw [bytesOf_length]; simp only [List.length_nil]; omega)
  rw [List.nil_append] at r1
  have r2 := run_cr (left := left) (need := need) (out := out) (tr := tr) (st := 3) (line := bytesOf s) (.inr rfl) (fun x hx => (hch x hx).2)
  have r3 := run_trailer (left := left) (need := need) (line := bytesOf s) (out := out) (tr := tr) (by rw [str_bytes, hsz]; omega) (by rw [str_bytes, hc58]) (by omega) (by rw [htf]; exact h)
  rw [htf] at r3
  rw [e]
  exact (r1.trans r2).trans r3
theorem run_fields {left need : Int} {out : List Int} (l : List Fld) : ∀ tr : List Fld, (∀ f ∈ l, fldE f = 0 ∧ f.f0.size + f.f1.size ≤ 8190) → tr.length + l.length ≤ 100 → Runs (D left need [] 3 out tr) (l.flatMap fldB) (D left need [] 3 out (tr ++ l)) := by
  induction l with
  | nil => intro tr _ _; rw [List.append_nil]; exact Runs.nil _
  | cons f r ih =>
    intro tr h ht
    simp only [List.length_cons] at ht
    have h1 := run_field (left := left) (need := need) (out := out) (tr := tr) f (h f (by simp)).1 (h f (by simp)).2 (by omega)
    have h2 := ih (tr ++ [f]) (fun g hg => h g (by simp [hg])) (by rw [List.length_append, List.length_singleton]; omega)
    rw [List.append_assoc] at h2
    exact h1.trans h2
theorem chkGo_all (l : List Fld) (h : chkGo l = 0) : ∀ f ∈ l, fldE f = 0 := by
  induction l with
  | nil => intro f hf; cases hf
  | cons g r ih =>
    unfold chkGo at h
    split at h
    · rename_i hg
      intro f hf
      rcases List.mem_cons.1 hf with rfl | hf
      · exact hg
      · exact ih h f hf
    · rename_i hg; exact absurd h hg
theorem chk_ok (l : List Fld) (h : chkS l = 0) : l.length ≤ 100 ∧ ∀ f ∈ l, fldE f = 0 := by
  unfold chkS at h
  split at h
  · cases h
  · exact ⟨by omega, chkGo_all l h⟩
/-- There and back. -/
theorem back (ps : List (List Int)) (l : List Fld) (rest : List Int) (hp : ps.flatten.length ≤ 9007199254740992) (hl : chkS l = 0) (hs : ∀ f ∈ l, f.f0.size + f.f1.size ≤ 8190) :
    ∃ need left, feedGo (newDec (ps.flatten.length : Int)) (ps.flatMap chunkB ++ lastS l ++ rest) 0 = (⟨left, need, [], 3, ps.flatten, l, true, 0⟩, (ps.flatMap chunkB ++ lastS l).length) := by
  obtain ⟨hl1, hl2⟩ := chk_ok l hl
  obtain ⟨need, h1⟩ := run_chunks (tr := []) ps (ps.flatten.length : Int) 0 [] (Int.le_refl _) (by omega)
  rw [List.nil_append] at h1
  have z1 := run_chars (left := (ps.flatten.length : Int) - ps.flatten.length) (need := need) (out := ps.flatten) (tr := []) (st := 0) (.inl rfl) [48] [] (fun x hx => by cases hx) (fun c hc => by rw [List.mem_singleton.1 hc]; decide) (by simp)
  rw [List.nil_append] at z1
  have z2 := run_cr (left := (ps.flatten.length : Int) - ps.flatten.length) (need := need) (out := ps.flatten) (tr := []) (st := 0) (line := [48]) (.inl rfl) (fun x hx => by rw [List.mem_singleton.1 hx]; decide)
  have z3 := run_zero (left := (ps.flatten.length : Int) - ps.flatten.length) (need := need) (line := [48]) (out := ps.flatten) (tr := []) (by decide +kernel) (by omega)
  have z4 := run_fields (left := (ps.flatten.length : Int) - ps.flatten.length) (need := need) (out := ps.flatten) l [] (fun f hf => ⟨hl2 f hf, hs f hf⟩) (by simpa using hl1)
  rw [List.nil_append] at z4
  have z := (((h1.trans z1).trans z2).trans z3).trans z4
  refine ⟨need, (ps.flatten.length : Int) - ps.flatten.length, ?_⟩
  have e : ps.flatMap chunkB ++ lastS l ++ rest = (ps.flatMap chunkB ++ [48] ++ [13] ++ [10] ++ l.flatMap fldB) ++ ([13, 10] ++ rest) := by
    unfold lastS
    simp [List.append_assoc]
  rw [e]
  show feedGo (D (ps.flatten.length : Int) 0 [] 0 [] []) _ 0 = _
  rw [z, end_whole]
  congr 1
  unfold lastS
  simp [List.length_append]
  omega
end Go.Proofs.YtnlicpihondmgaaDoor.Chk
