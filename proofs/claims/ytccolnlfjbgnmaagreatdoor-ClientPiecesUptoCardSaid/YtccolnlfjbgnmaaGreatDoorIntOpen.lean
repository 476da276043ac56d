/- A row's argument of type []int: what is known of it; own text of this session. -/
import Derived.Test.YtccolnlfjbgnmaaGreatDoorSlOpen
namespace Go.Proofs.YtccolnlfjbgnmaaGreatDoor.IntOpen
open Go.ChangeShapes Go.WideShapes Go.ChangeMaps Go.RowKit Go.Proofs.YtccolnlfjbgnmaaGreatDoorW.PrintWords
set_option linter.unusedVariables false
set_option linter.unusedSimpArgs false
variable {H : Type} {enc : TypeId × Value → H} {W : World} {base : Nat} {spare : Nat → Bool} {held : Bool}
set_option maxRecDepth 100000 in
theorem ints_trod {fuel : Nat} {v : Value} {y : DataW H × List MemPlace} (hf' : DataW.trod enc Tryz.prog W base spare held fuel 75 [v] = some y) :
    ∃ (A : Option Addr) (l : List Int) (c : Nat), v = .slice A l.length c ∧ l.length ≤ c ∧ (Kd.int .i64).C W A l.length l ∧ l.length + 1 ≤ Rows.uptoBulk y.1 ∧ (∀ x ∈ l, (Lit.int .i64 x).wf = true) := by
  rcases open_ints Tryz.underlying75 Tryz.underlying3 (by kernel_rfl) hf' with ⟨h1, h2⟩ | ⟨a, len, cap, zs, h1, hb, hl, hm, hz, h2, hcell, hwf⟩
  · injection h1 with h1
    subst h1
    subst h2
    exact ⟨none, [], 0, rfl, Nat.le_refl _, ⟨rfl, by decide, fun h => absurd h (by decide)⟩, by simp [Rows.uptoBulk], fun x hx => by cases hx⟩
  · injection h1 with h1
    subst h1
    subst h2
    have hle : len ≤ zs.length := by rw [hz]; split <;> omega
    have hll : (zs.take len).length = len := by rw [List.length_take]; omega
    refine ⟨some a, zs.take len, cap, by rw [hll], by rw [hll]; exact hl, ?_, ?_, fun x hx => hwf x (List.mem_of_mem_take hx)⟩
    · refine Kd.C_of_reads (d := (0 : Int)) (h1 := fun _ => rfl) ⟨rfl, by rw [hll]; exact Nat.le_trans (Nat.le_trans hl hm) (by decide), fun _ => ⟨a, rfl, fun j hj => ?_⟩⟩
      rw [hll] at hj
      rw [hcell j (by omega)]
      simp [List.getD_eq_getElem?_getD, hj]
    · simp only [Rows.uptoBulk, SlOpen.bulk_lits, hll]
      omega
set_option maxRecDepth 100000 in
theorem open_nums {r : Reach} {b0 : Nat} {v : Value} {d : DataW H} {p : List MemPlace} (hv : Value.okWide Tryz.prog W r b0 75 v) (h : DataW.Trod enc Tryz.prog W base spare held 75 v d p) :
    ∃ (A : Option Addr) (l : List Int) (c : Nat), v = .slice A l.length c ∧ l.length ≤ c ∧ (Kd.int .i64).C W A l.length l ∧ l.length + 1 ≤ Rows.uptoBulk d ∧ (∀ x ∈ l, (Lit.int .i64 x).wf = true) := by
  obtain ⟨a, len, cap, rfl⟩ := okWide_slice Tryz.underlying75 hv
  obtain ⟨fuel, hf⟩ := h
  have hf' : DataW.trod enc Tryz.prog W base spare held fuel 75 [.slice a len cap] = some (d, p) := by simpa [Value.cells] using hf
  exact ints_trod hf'
end Go.Proofs.YtccolnlfjbgnmaaGreatDoor.IntOpen
