/- Package chunked, by hand: a decoder and its memory; what lined comes to; own text of this session. -/
import Derived.Test.YtmlgejgnjfbblaaGreatDoorInv
import Derived.Test.YtmlgejgnjfbblaaGreatDoorBytes
import Derived.Test.YtmlgejgnjfbblaaGreatDoorPZ
import Derived.OwnWalk
import Derived.Laws.EntriesVeiled
namespace Go.Proofs.YtmlgejgnjfbblaaGreatDoor.Chk
open Go.RowKit Go.Proofs.YtmlgejgnjfbblaaGreatDoorW.PrintWords Go.Proofs.YtmlgejgnjfbblaaGreatDoorW.PrintLast
set_option linter.unusedVariables false
/-- Blocks outside of F stay. -/
structure Stay (F : Nat → Prop) (w w' : World) : Prop where
  os : w'.os = w.os
  tape : w'.tape = w.tape
  output : w'.output = w.output
  size : w.heap.size ≤ w'.heap.size
  block : ∀ k, k < w.heap.size → ¬ F k → w'.heap[k]? = w.heap[k]?
theorem Stay.refl (F : Nat → Prop) (w : World) : Stay F w w := ⟨rfl, rfl, rfl, Nat.le_refl _, fun _ _ _ => rfl⟩
theorem Stay.trans {F G : Nat → Prop} {a b c : World} (h : Stay F a b) (k : Stay G b c) (hG : ∀ i, G i → F i ∨ a.heap.size ≤ i) : Stay F a c :=
  ⟨k.os.trans h.os, k.tape.trans h.tape, k.output.trans h.output, Nat.le_trans h.size k.size, fun i hi hF => (k.block i (Nat.lt_of_lt_of_le hi h.size) (fun hg => (hG i hg).elim hF (fun h2 => by omega))).trans (h.block i hi hF)⟩
theorem Stay.mono {F G : Nat → Prop} {a b : World} (h : Stay F a b) (hF : ∀ i, F i → G i) : Stay G a b := ⟨h.os, h.tape, h.output, h.size, fun i hi hG => h.block i hi (fun hf => hG (hF i hf))⟩
theorem Stay.grown {F : Nat → Prop} {a b : World} {row : Option Nat} (h : a.grownBy b row) (hr : ∀ k, row = some k → F k) : Stay F a b :=
  ⟨h.os, h.tape, h.output, h.size, fun i hi hF => h.block i hi (fun e => hF (hr i e.symm))⟩
theorem Stay.below {F : Nat → Prop} {a b : World} (h : Below a.heap.size a b) : Stay F a b := ⟨h.os, h.tape, h.output, h.size, fun i hi _ => h.block i hi⟩
theorem Stay.set {F : Nat → Prop} {a b : World} (h : Stay F a b) {p : Addr} (hp : F p.block) (u : Value) : Stay F a (b.setCell p u) := by
  have hs : (b.setCell p u).heap.size = b.heap.size := by unfold World.setCell; split <;> simp
  refine ⟨h.os, h.tape, h.output, by rw [hs]; exact h.size, fun i hi hF => ?_⟩
  exact (Below.heap_setCell b p u i (fun e => hF (by rw [e]; exact hp))).trans (h.block i hi hF)
theorem Stay.out {F : Nat → Prop} {B : Nat} {w a b : World} (h : Stay F a b) (hb : Below B w a) (hF : ∀ i, F i → B ≤ i) (hB : B ≤ a.heap.size) : Below B w b :=
  ⟨h.os.trans hb.os, h.tape.trans hb.tape, h.output.trans hb.output, Nat.le_trans hb.size h.size, fun i hi => (h.block i (Nat.lt_of_lt_of_le hi hB) (fun hf => by have := hF i hf; omega)).trans (hb.block i hi)⟩
abbrev Fld := P.S45
/-- What a decoder holds: how much may come, how much of the chunk at hand, the line, the state (0: a size line, 1: bytes, 2: behind them, 3: trailers), what was read. -/
structure Dec where
  left : Int
  need : Int
  line : List Int
  st : Nat
  out : List Int
  tr : List Fld
  whole : Bool
  wrong : Int
def fldK : Kd Fld := P.k45
section
variable {w w1 : World} {F : Nat → Prop} {p : Nat} {vl vo vt : Value} {d : Dec}
theorem R_neT {α : Type} {K : Kd α} {e base t g : Nat} {ok : Nat → Prop} {v : Value} {xs : List α} {C : Array Value} (h : K.R e w base ok v xs) (hb : w.heap[g]? = some (.cells C t (0, 0))) (ht : e ≠ t) : some g ≠ v.ownBlock := Kd.R_ne h hb ht
end
/-- The walks' premise on the library's variables: they lie below a world's size, the decoder's blocks do not. -/
structure Held (w0 w : World) (F : Nat → Prop) : Prop where
  inv : GInv w0
  below : Below w0.heap.size w0 w
  over : ∀ k, F k → w0.heap.size ≤ k
theorem Held.g {w0 w : World} {F : Nat → Prop} (h : Held w0 w F) : GInv w := h.inv.below h.below
theorem Held.step {w0 w w1 : World} {F : Nat → Prop} (h : Held w0 w F) (hs : Stay F w w1) : Held w0 w1 (fun k => F k ∨ w.heap.size ≤ k) :=
  ⟨h.inv, hs.out h.below h.over h.below.size, fun k hk => hk.elim (h.over k) (fun h2 => Nat.le_trans h.below.size h2)⟩
theorem Held.next {w0 w w1 : World} {F : Nat → Prop} (h : Held w0 w F) (hs : Stay F w w1) : Held w0 w1 F :=
  ⟨h.inv, hs.out h.below h.over h.below.size, h.over⟩
theorem info_u8 : (Tryz.prog.info? 5).map (fun i => (i.zero, i.size, i.bytes)) = some (some (.int .u8 0), 1, 1) := by kernel_rfl
end Go.Proofs.YtmlgejgnjfbblaaGreatDoor.Chk
/- Package chunked, by hand: what lined comes to; own text of this session. -/
namespace Go.Proofs.YtmlgejgnjfbblaaGreatDoor.Chk
open Go.RowKit Go.Proofs.YtmlgejgnjfbblaaGreatDoorW.PrintWords Go.Proofs.YtmlgejgnjfbblaaGreatDoorW.PrintLast
set_option linter.unusedVariables false
end Go.Proofs.YtmlgejgnjfbblaaGreatDoor.Chk
/- Package chunked, by hand: what a byte does in a decoder: in a chunk's bytes, and behind them; own text of this session. -/
namespace Go.Proofs.YtmlgejgnjfbblaaGreatDoor.Chk
open Go.RowKit Go.Proofs.YtmlgejgnjfbblaaGreatDoorW.PrintWords Go.Proofs.YtmlgejgnjfbblaaGreatDoorW.PrintLast
set_option linter.unusedVariables false
end Go.Proofs.YtmlgejgnjfbblaaGreatDoor.Chk
/- Package chunked, by hand: what a byte behind a chunk's bytes does; own text of this session. -/
namespace Go.Proofs.YtmlgejgnjfbblaaGreatDoor.Chk
open Go.RowKit Go.Proofs.YtmlgejgnjfbblaaGreatDoorW.PrintWords Go.Proofs.YtmlgejgnjfbblaaGreatDoorW.PrintLast
set_option linter.unusedVariables false
end Go.Proofs.YtmlgejgnjfbblaaGreatDoor.Chk
