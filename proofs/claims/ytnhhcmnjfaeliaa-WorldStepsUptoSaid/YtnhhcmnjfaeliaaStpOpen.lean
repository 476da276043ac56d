/- A row's argument of type []Step: what is known of it; own text of this session. -/
import Derived.Test.YtnhhcmnjfaeliaaSlOpen
import Derived.Test.YtnhhcmnjfaeliaaVm20
namespace Go.Proofs.Ytnhhcmnjfaeliaa.StpOpen
open Go.ChangeShapes Go.WideShapes Go.ChangeMaps Go.RowKit Go.Deep Go.Proofs.YtnhhcmnjfaeliaaW.PrintWords Go.Proofs.YtnhhcmnjfaeliaaW.PrintLast
set_option linter.unusedVariables false
set_option linter.unusedSimpArgs false
variable {H : Type} {enc : TypeId × Value → H} {W : World} {base : Nat} {spare : Nat → Bool} {held : Bool}
theorem bulk_map (f : Nat → DataW H) (g : Nat → Nat) (n : Nat) (h : ∀ i, i < n → g i ≤ Rows.uptoBulk (f i)) : ((List.range n).map g).sum ≤ Rows.uptoBulkAll ((List.range n).map f) := by
  have gen : ∀ l : List Nat, (∀ i ∈ l, i < n) → (l.map g).sum ≤ Rows.uptoBulkAll (l.map f) := by
    intro l
    induction l with
    | nil => intro _; simp [Rows.uptoBulkAll]
    | cons a r ih =>
      intro hl
      have h1 := h a (hl a (by simp))
      have h2 := ih (fun i hi => hl i (by simp [hi]))
      simp only [List.map_cons, List.sum_cons, Rows.uptoBulkAll]
      omega
  exact gen _ (fun i hi => List.mem_range.1 hi)
def bsz (l : List Vm.Stp) : Nat := (l.map fun y => y.b.length + 1).sum
theorem len_le (l : List Vm.Stp) : l.length ≤ bsz l := by
  unfold bsz
  induction l with
  | nil => simp
  | cons f r ih => simp only [List.map_cons, List.sum_cons, List.length_cons]; omega
theorem mem_le {l : List Vm.Stp} {y : Vm.Stp} (h : y ∈ l) : y.b.length ≤ bsz l := by
  unfold bsz
  induction l with
  | nil => cases h
  | cons f r ih =>
    simp only [List.map_cons, List.sum_cons]
    rcases List.mem_cons.1 h with rfl | h
    · omega
    · have := ih h; omega
/-- A slice of steps. -/
theorem stps_trod {n : Nat} {v : Value} {y : DataW H × List MemPlace} (h : DataW.trod enc Try.prog W base spare held n 22 [v] = some y) :
    ∃ (A : Option Addr) (l : List Vm.Stp) (c : Nat), v = .slice A l.length c ∧ l.length ≤ c ∧ Kd.C Vm.stpK W A l.length l ∧ bsz l ≤ Rows.uptoBulk y.1 ∧ (∀ y ∈ l, (Lit.int .i64 y.c).wf = true ∧ (Lit.int .i64 y.n).wf = true ∧ ∀ x ∈ y.b, (Lit.int .u8 x).wf = true) := by
  rcases Go.Deep.open_slice Try.underlying22 h with ⟨hv, rfl⟩ | ⟨a, len, cap, m, n', D, Pl, hv, hb, hl, hm, hmm, rfl, hx⟩
  · injection hv with hv
    subst hv
    exact ⟨none, [], 0, rfl, Nat.le_refl _, ⟨rfl, by decide, fun h => absurd h (by decide)⟩, by simp [bsz], fun y hy => by cases hy⟩
  · injection hv with hv
    subst hv
    have ce : Try.prog.cellsOf 32 = 4 := by kernel_rfl
    have hlm : len ≤ m := by rw [hmm]; split <;> omega
    have cI : Try.prog.cellsOf 3 = 1 := by kernel_rfl
    have cB : Try.prog.cellsOf 30 = 1 := by kernel_rfl
    have hs := Try.underlying32
    have each : ∀ i, i < len → ∃ q : Vm.Stp, (∃ A3 c3, (W.cell? (a.add (i * 4 + 0)) = some (.int .i64 q.k) ∧ W.cell? (a.add (i * 4 + 1)) = some (.int .i64 q.c) ∧ W.cell? (a.add (i * 4 + 2)) = some (.int .i64 q.n) ∧ W.cell? (a.add (i * 4 + 3)) = some (.slice A3 q.b.length c3)) ∧ q.b.length ≤ c3 ∧ (Kd.int .u8).C W A3 q.b.length q.b) ∧ q.b.length + 1 ≤ Rows.uptoBulk (D i) ∧ ((Lit.int .i64 q.c).wf = true ∧ (Lit.int .i64 q.n).wf = true ∧ ∀ x ∈ q.b, (Lit.int .u8 x).wf = true) := by
      intro i hi
      obtain ⟨cs', h1, h2⟩ := hx i (by omega)
      rw [ce] at h1
      obtain ⟨_, hlen, hcell⟩ := World.cells?_some h1
      obtain ⟨xs, k, hk, hxy, hwl, hxl, hf⟩ := DataW.trod_struct hs h2
      match xs, hxl, cs', hlen with
      | [y0, y1, y2, y3], _, [v0, v1, v2, v3], _ =>
        have g0 := hf 0 _ rfl
        have g1 := hf 1 _ rfl
        have g2 := hf 2 _ rfl
        have g3 := hf 3 _ rfl
        simp [cI, cB, Value.cells] at g0 g1 g2 g3
        have e0 := hcell 0 (by omega)
        have e1 := hcell 1 (by omega)
        have e2 := hcell 2 (by omega)
        have e3 := hcell 3 (by omega)
        rw [Go.Deep.add_add] at e0 e1 e2 e3
        simp at e0 e1 e2 e3
        obtain ⟨s0, d0, x0, w0⟩ := DataW.trod_int Try.underlying3 g0
        obtain ⟨s1, d1, x1, w1⟩ := DataW.trod_int Try.underlying3 g1
        obtain ⟨s2, d2, x2, w2⟩ := DataW.trod_int Try.underlying3 g2
        obtain ⟨A3, l3, c3, d3, x3, p3, u3, w3⟩ := SlOpen.bytes_trod g3
        simp only [List.cons.injEq, and_true] at d0 d1 d2
        subst d0 d1 d2 d3
        refine ⟨⟨s0, s1, s2, l3⟩, ⟨A3, c3, ⟨e0, e1, e2, e3⟩, x3, p3⟩, ?_, w1, w2, w3⟩
        simp only [Prod.mk.injEq] at hxy
        rw [hxy.1]
        subst x0 x1 x2
        simp only [Rows.uptoBulk, Rows.uptoBulkAll, List.map_cons, List.map_nil]
        omega
    have : Inhabited Vm.Stp := ⟨Vm.zStp⟩
    obtain ⟨q, hq⟩ := Go.Deep.choose_lt each
    have hll : ((List.range len).map q).length = len := by simp
    refine ⟨some a, (List.range len).map q, cap, by rw [hll], by rw [hll]; exact hl, ?_, ?_, ?_⟩
    · rw [hll]
      refine ⟨hll, Nat.le_trans (Nat.le_trans hl hm) (by decide), fun _ => ⟨a, rfl, fun j p hj => ?_⟩⟩
      have hji : j < len := by
        have := (List.getElem?_eq_some_iff.1 hj).1
        rwa [hll] at this
      have hp : p = q j := by
        rw [List.getElem?_map, List.getElem?_range hji] at hj
        simpa using hj.symm
      subst hp
      obtain ⟨⟨A3, c3, ⟨z0, z1, z2, z3⟩, l3, g3⟩, _, _⟩ := hq j hji
      refine ⟨[.int .i64 (q j).k, .int .i64 (q j).c, .int .i64 (q j).n, .slice A3 (q j).b.length c3], rfl, ⟨_, _, rfl, rfl, ⟨_, _, rfl, rfl, ⟨_, _, rfl, rfl, ⟨A3, c3, rfl, l3, g3⟩⟩⟩⟩, fun i u hu => ?_⟩
      match i, hu with
      | 0, hu => simp at hu; subst hu; exact z0
      | 1, hu => simp at hu; subst hu; exact z1
      | 2, hu => simp at hu; subst hu; exact z2
      | 3, hu => simp at hu; subst hu; exact z3
      | i + 4, hu => simp at hu
    · have hb1 := bulk_map D (fun i => (q i).b.length + 1) len (fun i hi => (hq i hi).2.1)
      have e : bsz ((List.range len).map q) = ((List.range len).map fun i => (q i).b.length + 1).sum := by unfold bsz; rw [List.map_map]; rfl
      rw [e]
      simp only [Rows.uptoBulk]
      omega
    · intro y hy
      obtain ⟨i, hi, rfl⟩ := List.mem_map.1 hy
      exact (hq i (List.mem_range.1 hi)).2.2
set_option maxRecDepth 100000 in
theorem open_stps {r : Reach} {b0 : Nat} {v : Value} {d : DataW H} {p : List MemPlace} (hv : Value.okWide Try.prog W r b0 22 v) (h : DataW.Trod enc Try.prog W base spare held 22 v d p) :
    ∃ (A : Option Addr) (l : List Vm.Stp) (c : Nat), v = .slice A l.length c ∧ l.length ≤ c ∧ Kd.C Vm.stpK W A l.length l ∧ bsz l ≤ Rows.uptoBulk d ∧ (∀ y ∈ l, (Lit.int .i64 y.c).wf = true ∧ (Lit.int .i64 y.n).wf = true ∧ ∀ x ∈ y.b, (Lit.int .u8 x).wf = true) := by
  obtain ⟨a, len, cap, rfl⟩ := okWide_slice Try.underlying22 hv
  obtain ⟨fuel, hf⟩ := h
  have hf' : DataW.trod enc Try.prog W base spare held fuel 22 [.slice a len cap] = some (d, p) := by simpa [Value.cells] using hf
  exact stps_trod hf'
end Go.Proofs.Ytnhhcmnjfaeliaa.StpOpen
