/- What a row's argument of type api.Head gives: its parts, its fields as a list of pairs of texts, and a bound: own text of this session. -/
import Derived.Test.YtmlgejgnjfbblaaGreatDoorFr1
import Derived.Test.YtmlgejgnjfbblaaGreatDoorRows
import Derived.Deep.SlicePairs
import Derived.Deep.Fields
import Derived.Lib.SmallJoins
import Derived.ChangeArms
import Derived.Carry
namespace Go.Proofs.YtmlgejgnjfbblaaGreatDoor.HeadOpen
open Go.ChangeShapes Go.WideShapes Go.RowKit Go.Deep Go.Proofs.YtmlgejgnjfbblaaGreatDoor.P Go.Proofs.YtmlgejgnjfbblaaGreatDoorW.PrintWords Go.Proofs.YtmlgejgnjfbblaaGreatDoorW.PrintLast
set_option linter.unusedVariables false
variable {H : Type} {enc : TypeId × Value → H} {W : World} {base : Nat} {spare : Nat → Bool} {held : Bool}
theorem bulk_map (f : Nat → DataW H) (g : Nat → Nat) (n : Nat) (h : ∀ i, i < n → g i ≤ Rows.uptoBulk (f i)) : ((List.range n).map g).sum ≤ Rows.uptoBulkAll ((List.range n).map f) := by
  have gen : ∀ (l : List Nat), (∀ i ∈ l, i < n) → (l.map g).sum ≤ Rows.uptoBulkAll (l.map f) := by
    intro l
    induction l with
    | nil => intro _; simp [Rows.uptoBulkAll]
    | cons a r ih =>
      intro hl
      have h1 := h a (hl a (by simp))
      have h2 := ih (fun i hi => hl i (by simp [hi]))
      simp only [List.map_cons, List.sum_cons, Rows.uptoBulkAll]
      omega
  exact gen _ (fun i hi => List.mem_range.1 hi)
/-- A slice of fields. -/
theorem open_fields {n : Nat} {v : Value} {y : DataW H × List MemPlace} (h : DataW.trod enc Tryz.prog W base spare held n 22 [v] = some y) :
    ∃ (A : Option Addr) (l : List Px.Fld) (c : Nat), v = .slice A l.length c ∧ l.length ≤ c ∧ Kd.C k45 W A l.length l ∧ Px.fsz l ≤ Rows.uptoBulk y.1 := by
  rcases open_slice_pairs Tryz.underlying22 Tryz.underlying45 (by kernel_rfl) rfl rfl (by kernel_rfl) (by kernel_rfl) h with ⟨hv, rfl⟩ | ⟨a, len, cap, m, n', V0, V1, D0, D1, P0, P1, hv, hb, hl, hm, hmm, rfl, hx⟩
  · injection hv with hv
    subst hv
    exact ⟨none, [], 0, rfl, Nat.le_refl _, ⟨rfl, by decide, fun h => absurd h (by decide)⟩, by simp [Px.fsz]⟩
  · injection hv with hv
    subst hv
    have hlm : len ≤ m := by rw [hmm]; split <;> omega
    have each : ∀ i, i < len → ∃ q : Px.Fld, V0 i = .string q.f0 ∧ V1 i = .string q.f1 ∧ D0 i = .lit (.string q.f0.data.toList) ∧ D1 i = .lit (.string q.f1.data.toList) := by
      intro i hi
      obtain ⟨_, _, g0, g1⟩ := hx i (by omega)
      obtain ⟨s0, e0, x0, _⟩ := DataW.trod_string Tryz.underlying9 g0
      obtain ⟨s1, e1, x1, _⟩ := DataW.trod_string Tryz.underlying9 g1
      simp only [List.cons.injEq, and_true] at e0 e1
      simp only [Prod.mk.injEq] at x0 x1
      exact ⟨⟨s0, s1⟩, e0, e1, x0.1, x1.1⟩
    have : Inhabited Px.Fld := ⟨z45⟩
    obtain ⟨q, hq⟩ := choose_lt each
    have hll : ((List.range len).map q).length = len := by simp
    refine ⟨some a, (List.range len).map q, cap, by rw [hll], by rw [hll]; exact hl, ?_, ?_⟩
    · rw [hll]
      refine ⟨hll, Nat.le_trans (Nat.le_trans hl hm) (by decide), fun _ => ⟨a, rfl, fun j p hj => ?_⟩⟩
      rw [List.getElem?_map] at hj
      cases hr : (List.range len)[j]? with
      | none => rw [hr] at hj; cases hj
      | some i =>
        rw [hr] at hj
        have hji : j < len := by
          rcases Nat.lt_or_ge j len with h1 | h1
          · exact h1
          · rw [List.getElem?_eq_none (by simpa using h1)] at hr; cases hr
        rw [List.getElem?_range hji] at hr
        injection hr with hr
        subst hr
        simp only [Option.map_some, Option.some.injEq] at hj
        subst hj
        obtain ⟨c0, c1, _, _⟩ := hx j (by omega)
        obtain ⟨e0, e1, _, _⟩ := hq j hji
        rw [e0] at c0
        rw [e1] at c1
        refine ⟨[.string (q j).f0, .string (q j).f1], rfl, k45_mk W (q j), fun i u hu => ?_⟩
        match i, hu with
        | 0, hu => simp at hu; subst hu; exact c0
        | 1, hu => simp at hu; subst hu; exact c1
        | i + 2, hu => simp at hu
    · have hb1 := bulk_map (fun i => (.agg [D0 i, D1 i] : DataW H)) (fun i => (q i).f0.size + (q i).f1.size + 1) len (fun i hi => by
        obtain ⟨_, _, d0, d1⟩ := hq i hi
        simp only [d0, d1, Rows.uptoBulk, Rows.uptoBulkAll, Array.length_toList]
        have s0 : (q i).f0.size = (q i).f0.data.size := rfl
        have s1 : (q i).f1.size = (q i).f1.data.size := rfl
        omega)
      have e : Px.fsz ((List.range len).map q) = ((List.range len).map fun i => (q i).f0.size + (q i).f1.size + 1).sum := by unfold Px.fsz; rw [List.map_map]; rfl
      rw [e]
      simp only [Rows.uptoBulk]
      omega
theorem array7 {α : Type} {cs : Array α} (h : cs.size = 7) : ∃ c0 c1 c2 c3 c4 c5 c6, cs = #[c0, c1, c2, c3, c4, c5, c6] := by
  obtain ⟨l⟩ := cs
  match l, h with
  | [c0, c1, c2, c3, c4, c5, c6], _ => exact ⟨c0, c1, c2, c3, c4, c5, c6, rfl⟩
set_option maxRecDepth 100000 in
/-- A head. -/
theorem open_head {r : Reach} {b0 : Nat} {v : Value} {d : DataW H} {p : List MemPlace} (hv : Value.okWide Tryz.prog W r b0 24 v) (h : DataW.Trod enc Tryz.prog W base spare held 24 v d p) :
    ∃ (a0 : Bool) (a1 a2 : ByteArray) (a3 a4 : Int) (a5 : ByteArray) (A : Option Addr) (c : Nat) (l : List Px.Fld), v = .agg #[.bool a0, .string a1, .string a2, .int .i64 a3, .int .i64 a4, .string a5, .slice A l.length c] ∧
      l.length ≤ c ∧ Kd.C k45 W A l.length l ∧ Px.fsz l + a1.size + a2.size + a5.size ≤ Rows.uptoBulk d ∧ (Lit.int .i64 a3).wf = true ∧ (Lit.int .i64 a4).wf = true := by
  have hs := Tryz.underlying24
  obtain ⟨cs, rfl, hsz⟩ := okWide_struct hs hv
  obtain ⟨c0, c1, c2, c3, c4, c5, c6, rfl⟩ := array7 (hsz.trans (by kernel_rfl))
  obtain ⟨fuel, hf⟩ := h
  obtain ⟨xs, n, _, hxy, hl, hlen, hfs⟩ := DataW.trod_struct hs hf
  match xs, hlen with
  | [y0, y1, y2, y3, y4, y5, y6], _ =>
    have g0 := hfs 0 _ rfl
    have g1 := hfs 1 _ rfl
    have g2 := hfs 2 _ rfl
    have g3 := hfs 3 _ rfl
    have g4 := hfs 4 _ rfl
    have g5 := hfs 5 _ rfl
    have g6 := hfs 6 _ rfl
    have cB : Tryz.prog.cellsOf 4 = 1 := by kernel_rfl
    have cS : Tryz.prog.cellsOf 9 = 1 := by kernel_rfl
    have cI : Tryz.prog.cellsOf 3 = 1 := by kernel_rfl
    have cF : Tryz.prog.cellsOf 22 = 1 := by kernel_rfl
    simp [cB, cS, cI, cF, Value.cells] at g0 g1 g2 g3 g4 g5 g6
    obtain ⟨s0, e0, x0⟩ := DataW.trod_bool Tryz.underlying4 g0
    obtain ⟨s1, e1, x1, _⟩ := DataW.trod_string Tryz.underlying9 g1
    obtain ⟨s2, e2, x2, _⟩ := DataW.trod_string Tryz.underlying9 g2
    obtain ⟨s3, e3, x3, w3⟩ := DataW.trod_int Tryz.underlying3 g3
    obtain ⟨s4, e4, x4, w4⟩ := DataW.trod_int Tryz.underlying3 g4
    obtain ⟨s5, e5, x5, _⟩ := DataW.trod_string Tryz.underlying9 g5
    obtain ⟨A, l, c, e6, hc, hC, hb⟩ := open_fields g6
    simp only [List.cons.injEq, and_true] at e0 e1 e2 e3 e4 e5
    subst e0 e1 e2 e3 e4 e5 e6
    refine ⟨s0, s1, s2, s3, s4, s5, A, c, l, rfl, hc, hC, ?_, w3, w4⟩
    simp only [Prod.mk.injEq] at hxy
    obtain ⟨rfl, _⟩ := hxy
    subst x0 x1 x2 x3 x4 x5
    simp only [Rows.uptoBulk, Rows.uptoBulkAll, List.map_cons, List.map_nil, Array.length_toList]
    have z1 : s1.size = s1.data.size := rfl
    have z2 : s2.size = s2.data.size := rfl
    have z5 : s5.size = s5.data.size := rfl
    omega
end Go.Proofs.YtmlgejgnjfbblaaGreatDoor.HeadOpen
