/- A row's argument of type []byte: what is known of it; own text of this session. -/
import Derived.Test.YtccolnlfjbgnmaaGreatDoorBytes
import Derived.Test.YtccolnlfjbgnmaaGreatDoorRows
import Derived.ChangeSlices
import Derived.WideShapes
import Derived.Deep.Slices
import Derived.Lib.SmallJoins
import Derived.ChangeArms
namespace Go.Proofs.YtccolnlfjbgnmaaGreatDoor.SlOpen
open Go.ChangeShapes Go.WideShapes Go.ChangeMaps Go.RowKit Go.Proofs.YtccolnlfjbgnmaaGreatDoorW.PrintWords
set_option linter.unusedVariables false
set_option linter.unusedSimpArgs false
variable {H : Type} {enc : TypeId × Value → H} {W : World} {base : Nat} {spare : Nat → Bool} {held : Bool}
theorem bulk_lits (k : IntKind) (xs : List Int) : Rows.uptoBulkAll (lits (H := H) k xs) = xs.length := by
  induction xs with
  | nil => rfl
  | cons x r ih =>
    show Rows.uptoBulkAll (.lit (.int k x) :: lits k r) = _
    simp only [Rows.uptoBulkAll, Rows.uptoBulk, ih, List.length_cons]
    omega
set_option maxRecDepth 100000 in
theorem bytes_trod {fuel : Nat} {v : Value} {y : DataW H × List MemPlace} (hf' : DataW.trod enc Tryz.prog W base spare held fuel 33 [v] = some y) :
    ∃ (A : Option Addr) (l : List Int) (c : Nat), v = .slice A l.length c ∧ l.length ≤ c ∧ (Kd.int .u8).C W A l.length l ∧ l.length + 1 ≤ Rows.uptoBulk y.1 ∧ (∀ x ∈ l, (Lit.int .u8 x).wf = true) := by
  rcases open_ints Tryz.underlying33 Tryz.underlying5 (by kernel_rfl) hf' with ⟨h1, h2⟩ | ⟨a, len, cap, zs, h1, hb, hl, hm, hz, h2, hcell, hwf⟩
  · injection h1 with h1
    subst h1
    subst h2
    exact ⟨none, [], 0, rfl, Nat.le_refl _, ⟨rfl, by decide, fun h => absurd h (by decide)⟩, by simp [Rows.uptoBulk], fun x hx => by cases hx⟩
  · injection h1 with h1
    subst h1
    subst h2
    have hle : len ≤ zs.length := by rw [hz]; split <;> omega
    have hll : (zs.take len).length = len := by rw [List.length_take]; omega
    refine ⟨some a, zs.take len, cap, by rw [hll], by rw [hll]; exact hl, ?_, ?_, fun x hx => hwf x (List.mem_of_mem_take hx)⟩
    · refine Kd.C_of_reads (d := (0 : Int)) (h1 := fun _ => rfl) ⟨rfl, by rw [hll]; exact Nat.le_trans (Nat.le_trans hl hm) (by decide), fun _ => ⟨a, rfl, fun j hj => ?_⟩⟩
      rw [hll] at hj
      rw [hcell j (by omega)]
      simp [List.getD_eq_getElem?_getD, hj]
    · simp only [Rows.uptoBulk, bulk_lits, hll]
      omega
set_option maxRecDepth 100000 in
theorem open_bytes {r : Reach} {b0 : Nat} {v : Value} {d : DataW H} {p : List MemPlace} (hv : Value.okWide Tryz.prog W r b0 33 v) (h : DataW.Trod enc Tryz.prog W base spare held 33 v d p) :
    ∃ (A : Option Addr) (l : List Int) (c : Nat), v = .slice A l.length c ∧ l.length ≤ c ∧ (Kd.int .u8).C W A l.length l ∧ l.length + 1 ≤ Rows.uptoBulk d ∧ (∀ x ∈ l, (Lit.int .u8 x).wf = true) := by
  obtain ⟨a, len, cap, rfl⟩ := okWide_slice Tryz.underlying33 hv
  obtain ⟨fuel, hf⟩ := h
  have hf' : DataW.trod enc Tryz.prog W base spare held fuel 33 [.slice a len cap] = some (d, p) := by simpa [Value.cells] using hf
  exact bytes_trod hf'
theorem bulk_map (f : Nat → DataW H) (g : Nat → Nat) (n : Nat) (h : ∀ i, i < n → g i ≤ Rows.uptoBulk (f i)) : ((List.range n).map g).sum ≤ Rows.uptoBulkAll ((List.range n).map f) := by
  have gen : ∀ l : List Nat, (∀ i ∈ l, i < n) → (l.map g).sum ≤ Rows.uptoBulkAll (l.map f) := by
    intro l
    induction l with
    | nil => intro _; simp [Rows.uptoBulkAll]
    | cons a r ih =>
      intro hl
      have h1 := h a (hl a (by simp))
      have h2 := ih (fun i hi => hl i (by simp [hi]))
      simp only [List.map_cons, List.sum_cons, Rows.uptoBulkAll]
      omega
  exact gen _ (fun i hi => List.mem_range.1 hi)
set_option maxRecDepth 100000 in
/-- A slice of rows of bytes. -/
theorem open_rows {r : Reach} {b0 : Nat} {v : Value} {d : DataW H} {p : List MemPlace} (hv : Value.okWide Tryz.prog W r b0 66 v) (h : DataW.Trod enc Tryz.prog W base spare held 66 v d p) :
    ∃ (A : Option Addr) (l : List (List Int)) (c : Nat), v = .slice A l.length c ∧ l.length ≤ c ∧ (Kd.slice 5 (Kd.int .u8)).C W A l.length l ∧ l.flatten.length + l.length ≤ Rows.uptoBulk d ∧ (∀ b ∈ l, ∀ x ∈ b, (Lit.int .u8 x).wf = true) := by
  obtain ⟨a, len, cap, rfl⟩ := okWide_slice Tryz.underlying66 hv
  obtain ⟨fuel, hf⟩ := h
  have hf' : DataW.trod enc Tryz.prog W base spare held fuel 66 [.slice a len cap] = some (d, p) := by simpa [Value.cells] using hf
  rcases Go.Deep.open_slice1 Tryz.underlying66 (by kernel_rfl) hf' with ⟨h1, h2⟩ | ⟨a, len, cap, m, n, V, D, Pl, h1, hb, hl, hm, hmm, h2, hx⟩
  · injection h1 with h1
    rw [h1]
    injection h2 with h2 _
    subst h2
    exact ⟨none, [], 0, rfl, Nat.le_refl _, ⟨rfl, by decide, fun h => absurd h (by decide)⟩, by simp [Rows.uptoBulk], fun x hx => by cases hx⟩
  · injection h1 with h1
    rw [h1]
    have hlm : len ≤ m := by rw [hmm]; split <;> omega
    have each : ∀ i, i < len → ∃ q : List Int, (∃ (A : Option Addr) (c : Nat), V i = .slice A q.length c ∧ q.length ≤ c ∧ (Kd.int .u8).C W A q.length q) ∧ q.length + 1 ≤ Rows.uptoBulk (D i) ∧ (∀ x ∈ q, (Lit.int .u8 x).wf = true) := by
      intro i hi
      obtain ⟨_, g⟩ := hx i (by omega)
      obtain ⟨A, l, c, e1, e2, e3, e4, e5⟩ := bytes_trod g
      exact ⟨l, ⟨A, c, e1, e2, e3⟩, e4, e5⟩
    obtain ⟨q, hq⟩ := Go.Deep.choose_lt each
    have hll : ((List.range len).map q).length = len := by simp
    injection h2 with h2 _
    subst h2
    refine ⟨some a, (List.range len).map q, cap, by rw [hll], by rw [hll]; exact hl, ?_, ?_, ?_⟩
    · rw [hll]
      refine ⟨hll, Nat.le_trans (Nat.le_trans hl hm) (by decide), fun _ => ⟨a, rfl, fun j p hj => ?_⟩⟩
      have hji : j < len := by
        have := (List.getElem?_eq_some_iff.1 hj).1
        rwa [hll] at this
      have hp : p = q j := by
        rw [List.getElem?_map, List.getElem?_range hji] at hj
        simpa using hj.symm
      subst hp
      obtain ⟨⟨A, c, e1, e2, e3⟩, _, _⟩ := hq j hji
      obtain ⟨c0, _⟩ := hx j (by omega)
      refine ⟨[.slice A (q j).length c], rfl, ⟨A, c, rfl, e2, e3⟩, fun i u hu => ?_⟩
      match i, hu with
      | 0, hu =>
        simp at hu
        subst hu
        rw [← e1]
        have h5 : (j * (Kd.slice 5 (Kd.int .u8)).sz + 0) = j := by show j * 1 + 0 = j; omega
        rw [h5]
        exact c0
      | i + 1, hu => simp at hu
    · have hb1 := bulk_map D (fun i => (q i).length + 1) len (fun i hi => (hq i hi).2.1)
      have e : ((List.range len).map q).flatten.length + ((List.range len).map q).length = ((List.range len).map fun i => (q i).length + 1).sum := by
        have gen : ∀ l : List Nat, (l.map q).flatten.length + (l.map q).length = (l.map fun i => (q i).length + 1).sum := by
          intro l
          induction l with
          | nil => rfl
          | cons x r ih => simp only [List.map_cons, List.flatten_cons, List.length_append, List.length_cons, List.sum_cons] at *; omega
        exact gen _
      rw [e]
      simp only [Rows.uptoBulk]
      omega
    · intro b hb2 x hx2
      obtain ⟨i, hi, rfl⟩ := List.mem_map.1 hb2
      exact (hq i (List.mem_range.1 hi)).2.2 x hx2
end Go.Proofs.YtccolnlfjbgnmaaGreatDoor.SlOpen
