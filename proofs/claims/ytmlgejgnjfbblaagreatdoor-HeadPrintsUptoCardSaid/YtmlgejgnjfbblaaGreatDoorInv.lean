/- What the package-level variables of the library hold when a call of this seat begins, and that it stays so; own text of this session. -/
import Derived.Test.YtmlgejgnjfbblaaGreatDoorProg
import Derived.Below
import Derived.WalkSmall
import Derived.KernelRfl
import Derived.Lib.LaidTab
import Derived.Shelf.Strconv.Itoa1
import Derived.Test.YtmlgejgnjfbblaaGreatDoorWWords
namespace Go.Proofs.YtmlgejgnjfbblaaGreatDoor
open Go.RowKit
theorem bneNil (l : List UInt8) : (l != []) = !l.isEmpty := by cases l <;> rfl
theorem beqNil (l : List UInt8) : (l == []) = l.isEmpty := by cases l <;> rfl
/-- The library's variables that the walks read. -/
structure GInv (w : World) : Prop where
  syn : ∃ tp p, w.var? Tryz.prog "strconv.ErrSyntax" = some #[.iface tp p]
  rng : ∃ tp p, w.var? Tryz.prog "strconv.ErrRange" = some #[.iface tp p]
  tab : Lib.TabIs Tryz.prog w "internal/strconv.uint64pow10" .u64 Lib.pow10Tab
  db : w.cell? ⟨3, 15, none⟩ = some (.int .u8 4)
  ml : ∃ n, w.cell? ⟨4, 0, none⟩ = some (.int .i64 n)
  et : w.cell? ⟨0, 0, none⟩ = some (.iface 129 (.agg #[.pointer (some ⟨9, 41, none⟩)]))
theorem lt_of_var {w : World} {n : String} {g : Nat} {cs : Array Value} (hg : Tryz.prog.globalNamed n = some g) (h : w.var? Tryz.prog n = some cs) : g < w.heap.size := by
  unfold World.var? at h
  simp only [hg, Option.bind_some] at h
  cases hh : w.heap[g]? with
  | none => rw [hh] at h; simp at h
  | some o => exact (Array.getElem?_eq_some_iff.1 hh).1
theorem cell_of_var {w : World} {n : String} {g : Nat} {v : Value} (hg : Tryz.prog.globalNamed n = some g) (h : w.var? Tryz.prog n = some #[v]) : w.cell? ⟨g, 0, none⟩ = some v := by
  unfold World.var? at h
  simp only [hg, Option.bind_some] at h
  unfold World.cell?
  cases hh : w.heap[g]? with
  | none => rw [hh] at h; simp at h
  | some o =>
    rw [hh] at h
    cases o with
    | cells cs t fr => simp at h; subst h; simp
    | _ => simp at h
theorem var_below {w w' : World} {n : String} {g : Nat} {cs : Array Value} (hg : Tryz.prog.globalNamed n = some g) (h : w.var? Tryz.prog n = some cs) (hb : Below w.heap.size w w') : w'.var? Tryz.prog n = some cs :=
  var?_below hb hg (lt_of_var hg h) h
theorem GInv.below {w w' : World} (h : GInv w) (hb : Below w.heap.size w w') : GInv w' where
  syn := let ⟨t1, p1, h1⟩ := h.syn; ⟨t1, p1, var_below (g := 7) (by kernel_rfl) h1 hb⟩
  rng := let ⟨t2, p2, h2⟩ := h.rng; ⟨t2, p2, var_below (g := 8) (by kernel_rfl) h2 hb⟩
  tab := var_below (g := 1) (by kernel_rfl) h.tab hb
  db := (hb.cell (World.block_lt_of_cell? w ⟨3, 15, none⟩ h.db)).trans h.db
  ml := let ⟨n4, h4⟩ := h.ml; ⟨n4, (hb.cell (World.block_lt_of_cell? w ⟨4, 0, none⟩ h4)).trans h4⟩
  et := (hb.cell (World.block_lt_of_cell? w ⟨0, 0, none⟩ h.et)).trans h.et
theorem GInv.below' {w w' : World} (h : Go.Proofs.YtmlgejgnjfbblaaGreatDoorW.PrintWords.Aside0 (GInv w)) (hb : Below w.heap.size w w') : GInv w' := h.out.below hb
end Go.Proofs.YtmlgejgnjfbblaaGreatDoor
