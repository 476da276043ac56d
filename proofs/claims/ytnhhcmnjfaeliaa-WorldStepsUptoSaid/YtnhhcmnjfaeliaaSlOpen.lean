/- A row's argument of type []byte: what is known of it; own text of this session. -/
import Derived.Test.YtnhhcmnjfaeliaaBytes
import Derived.Test.YtnhhcmnjfaeliaaRows
import Derived.ChangeSlices
import Derived.WideShapes
import Derived.Deep.Slices
import Derived.Lib.SmallJoins
import Derived.ChangeArms
namespace Go.Proofs.Ytnhhcmnjfaeliaa.SlOpen
open Go.ChangeShapes Go.WideShapes Go.ChangeMaps Go.RowKit Go.Proofs.YtnhhcmnjfaeliaaW.PrintWords
set_option linter.unusedVariables false
set_option linter.unusedSimpArgs false
variable {H : Type} {enc : TypeId × Value → H} {W : World} {base : Nat} {spare : Nat → Bool} {held : Bool}
theorem bulk_lits (k : IntKind) (xs : List Int) : Rows.uptoBulkAll (lits (H := H) k xs) = xs.length := by
  induction xs with
  | nil => rfl
  | cons x r ih =>
    show Rows.uptoBulkAll (.lit (.int k x) :: lits k r) = _
    simp only [Rows.uptoBulkAll, Rows.uptoBulk, ih, List.length_cons]
    omega
set_option maxRecDepth 100000 in
theorem bytes_trod {fuel : Nat} {v : Value} {y : DataW H × List MemPlace} (hf' : DataW.trod enc Try.prog W base spare held fuel 30 [v] = some y) :
    ∃ (A : Option Addr) (l : List Int) (c : Nat), v = .slice A l.length c ∧ l.length ≤ c ∧ (Kd.int .u8).C W A l.length l ∧ l.length + 1 ≤ Rows.uptoBulk y.1 ∧ (∀ x ∈ l, (Lit.int .u8 x).wf = true) := by
  rcases open_ints Try.underlying30 Try.underlying5 (by kernel_rfl) hf' with ⟨h1, h2⟩ | ⟨a, len, cap, zs, h1, hb, hl, hm, hz, h2, hcell, hwf⟩
  · injection h1 with h1
    subst h1
    subst h2
    exact ⟨none, [], 0, rfl, Nat.le_refl _, ⟨rfl, by decide, fun h => absurd h (by decide)⟩, by simp [Rows.uptoBulk], fun x hx => by cases hx⟩
  · injection h1 with h1
    subst h1
    subst h2
    have hle : len ≤ zs.length := by rw [hz]; split <;> omega
    have hll : (zs.take len).length = len := by rw [List.length_take]; omega
    refine ⟨some a, zs.take len, cap, by rw [hll], by rw [hll]; exact hl, ?_, ?_, fun x hx => hwf x (List.mem_of_mem_take hx)⟩
    · refine Kd.C_of_reads (d := (0 : Int)) (h1 := fun _ => rfl) ⟨rfl, by rw [hll]; exact Nat.le_trans (Nat.le_trans hl hm) (by decide), fun _ => ⟨a, rfl, fun j hj => ?_⟩⟩
      rw [hll] at hj
      rw [hcell j (by omega)]
      simp [List.getD_eq_getElem?_getD, hj]
    · simp only [Rows.uptoBulk, bulk_lits, hll]
      omega
set_option maxRecDepth 100000 in
theorem open_bytes {r : Reach} {b0 : Nat} {v : Value} {d : DataW H} {p : List MemPlace} (hv : Value.okWide Try.prog W r b0 30 v) (h : DataW.Trod enc Try.prog W base spare held 30 v d p) :
    ∃ (A : Option Addr) (l : List Int) (c : Nat), v = .slice A l.length c ∧ l.length ≤ c ∧ (Kd.int .u8).C W A l.length l ∧ l.length + 1 ≤ Rows.uptoBulk d ∧ (∀ x ∈ l, (Lit.int .u8 x).wf = true) := by
  obtain ⟨a, len, cap, rfl⟩ := okWide_slice Try.underlying30 hv
  obtain ⟨fuel, hf⟩ := h
  have hf' : DataW.trod enc Try.prog W base spare held fuel 30 [.slice a len cap] = some (d, p) := by simpa [Value.cells] using hf
  exact bytes_trod hf'
end Go.Proofs.Ytnhhcmnjfaeliaa.SlOpen
