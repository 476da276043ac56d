/- A row's argument of type []api.Field: what is known of it; own text of this session. -/
import Derived.Test.YtnlicpihondmgaaDoorChk13
import Derived.Test.YtnlicpihondmgaaDoorSlOpen
import Derived.Deep.SlicePairs
import Derived.Deep.Fields
namespace Go.Proofs.YtnlicpihondmgaaDoor.FldOpen
open Go.ChangeShapes Go.WideShapes Go.ChangeMaps Go.RowKit Go.Deep Go.Proofs.YtnlicpihondmgaaDoorW.PrintWords Go.Proofs.YtnlicpihondmgaaDoorW.PrintLast
set_option linter.unusedVariables false
set_option linter.unusedSimpArgs false
variable {H : Type} {enc : TypeId × Value → H} {W : World} {base : Nat} {spare : Nat → Bool} {held : Bool}
theorem bulk_map (f : Nat → DataW H) (g : Nat → Nat) (n : Nat) (h : ∀ i, i < n → g i ≤ Rows.uptoBulk (f i)) : ((List.range n).map g).sum ≤ Rows.uptoBulkAll ((List.range n).map f) := by
  have gen : ∀ l : List Nat, (∀ i ∈ l, i < n) → (l.map g).sum ≤ Rows.uptoBulkAll (l.map f) := by
    intro l
    induction l with
    | nil => intro _; simp [Rows.uptoBulkAll]
    | cons a r ih =>
      intro hl
      have h1 := h a (hl a (by simp))
      have h2 := ih (fun i hi => hl i (by simp [hi]))
      simp only [List.map_cons, List.sum_cons, Rows.uptoBulkAll]
      omega
  exact gen _ (fun i hi => List.mem_range.1 hi)
def fsz (l : List Chk.Fld) : Nat := (l.map fun f => f.f0.size + f.f1.size + 1).sum
theorem fbz_le (l : List Chk.Fld) : Chk.fbz l ≤ 4 * fsz l := by
  unfold Chk.fbz fsz
  induction l with
  | nil => simp
  | cons f r ih => simp only [List.map_cons, List.sum_cons]; omega
/-- A slice of fields. -/
theorem fields_trod {n : Nat} {v : Value} {y : DataW H × List MemPlace} (h : DataW.trod enc Tryd.prog W base spare held n 32 [v] = some y) :
    ∃ (A : Option Addr) (l : List Chk.Fld) (c : Nat), v = .slice A l.length c ∧ l.length ≤ c ∧ Kd.C P.k49 W A l.length l ∧ fsz l ≤ Rows.uptoBulk y.1 := by
  rcases open_slice_pairs Tryd.underlying32 Tryd.underlying49 (by kernel_rfl) rfl rfl (by kernel_rfl) (by kernel_rfl) h with ⟨hv, rfl⟩ | ⟨a, len, cap, m, n', V0, V1, D0, D1, P0, P1, hv, hb, hl, hm, hmm, rfl, hx⟩
  · injection hv with hv
    subst hv
    exact ⟨none, [], 0, rfl, Nat.le_refl _, ⟨rfl, by decide, fun h => absurd h (by decide)⟩, by simp [fsz]⟩
  · injection hv with hv
    subst hv
    have hlm : len ≤ m := by rw [hmm]; split <;> omega
    have each : ∀ i, i < len → ∃ q : Chk.Fld, V0 i = .string q.f0 ∧ V1 i = .string q.f1 ∧ D0 i = .lit (.string q.f0.data.toList) ∧ D1 i = .lit (.string q.f1.data.toList) := by
      intro i hi
      obtain ⟨_, _, g0, g1⟩ := hx i (by omega)
      obtain ⟨s0, e0, x0, _⟩ := DataW.trod_string Tryd.underlying9 g0
      obtain ⟨s1, e1, x1, _⟩ := DataW.trod_string Tryd.underlying9 g1
      simp only [List.cons.injEq, and_true] at e0 e1
      simp only [Prod.mk.injEq] at x0 x1
      exact ⟨⟨s0, s1⟩, e0, e1, x0.1, x1.1⟩
    have : Inhabited Chk.Fld := ⟨P.z49⟩
    obtain ⟨q, hq⟩ := choose_lt each
    have hll : ((List.range len).map q).length = len := by simp
    refine ⟨some a, (List.range len).map q, cap, by rw [hll], by rw [hll]; exact hl, ?_, ?_⟩
    · rw [hll]
      refine ⟨hll, Nat.le_trans (Nat.le_trans hl hm) (by decide), fun _ => ⟨a, rfl, fun j p hj => ?_⟩⟩
      rw [List.getElem?_map] at hj
      cases hr : (List.range len)[j]? with
      | none => rw [hr] at hj; cases hj
      | some i =>
        rw [hr] at hj
        have hji : j < len := by
          rcases Nat.lt_or_ge j len with h1 | h1
          · exact h1
          · rw [List.getElem?_eq_none (by simpa using h1)] at hr; cases hr
        rw [List.getElem?_range hji] at hr
        injection hr with hr
        subst hr
        simp only [Option.map_some, Option.some.injEq] at hj
        subst hj
        obtain ⟨c0, c1, _, _⟩ := hx j (by omega)
        obtain ⟨e0, e1, _, _⟩ := hq j hji
        rw [e0] at c0
        rw [e1] at c1
        refine ⟨[.string (q j).f0, .string (q j).f1], rfl, P.k49_mk W (q j), fun i u hu => ?_⟩
        match i, hu with
        | 0, hu => simp at hu; subst hu; exact c0
        | 1, hu => simp at hu; subst hu; exact c1
        | i + 2, hu => simp at hu
    · have hb1 := bulk_map (fun i => (.agg [D0 i, D1 i] : DataW H)) (fun i => (q i).f0.size + (q i).f1.size + 1) len (fun i hi => by
        obtain ⟨_, _, d0, d1⟩ := hq i hi
        simp only [d0, d1, Rows.uptoBulk, Rows.uptoBulkAll, Array.length_toList]
        have s0 : (q i).f0.size = (q i).f0.data.size := rfl
        have s1 : (q i).f1.size = (q i).f1.data.size := rfl
        omega)
      have e : fsz ((List.range len).map q) = ((List.range len).map fun i => (q i).f0.size + (q i).f1.size + 1).sum := by unfold fsz; rw [List.map_map]; rfl
      rw [e]
      simp only [Rows.uptoBulk]
      omega
set_option maxRecDepth 100000 in
theorem open_flds {r : Reach} {b0 : Nat} {v : Value} {d : DataW H} {p : List MemPlace} (hv : Value.okWide Tryd.prog W r b0 32 v) (h : DataW.Trod enc Tryd.prog W base spare held 32 v d p) :
    ∃ (A : Option Addr) (l : List Chk.Fld) (c : Nat), v = .slice A l.length c ∧ l.length ≤ c ∧ Kd.C P.k49 W A l.length l ∧ Chk.fbz l ≤ 4 * Rows.uptoBulk d := by
  obtain ⟨a, len, cap, rfl⟩ := okWide_slice Tryd.underlying32 hv
  obtain ⟨fuel, hf⟩ := h
  have hf' : DataW.trod enc Tryd.prog W base spare held fuel 32 [.slice a len cap] = some (d, p) := by simpa [Value.cells] using hf
  obtain ⟨A, l, c, h1, h2, h3, h4⟩ := fields_trod hf'
  have h5 : fsz l ≤ Rows.uptoBulk d := h4
  exact ⟨A, l, c, h1, h2, h3, by have := fbz_le l; omega⟩
end Go.Proofs.YtnlicpihondmgaaDoor.FldOpen
