/- Package chunked, by hand: a decoder and its memory; what lined comes to; own text of this session. -/
import Derived.Test.YtnlicpihondmgaaDoorInv
import Derived.Test.YtnlicpihondmgaaDoorBytes
import Derived.Test.YtnlicpihondmgaaDoorP0
namespace Go.Proofs.YtnlicpihondmgaaDoor.Chk
open Go.RowKit Go.Proofs.YtnlicpihondmgaaDoorW.PrintWords Go.Proofs.YtnlicpihondmgaaDoorW.PrintLast
set_option linter.unusedVariables false
/-- Blocks outside of F stay. -/
structure Stay (F : Nat → Prop) (w w' : World) : Prop where
  os : w'.os = w.os
  tape : w'.tape = w.tape
  output : w'.output = w.output
  size : w.heap.size ≤ w'.heap.size
  block : ∀ k, k < w.heap.size → ¬ F k → w'.heap[k]? = w.heap[k]?
theorem Stay.refl (F : Nat → Prop) (w : World) : Stay F w w := ⟨rfl, rfl, rfl, Nat.le_refl _, fun _ _ _ => rfl⟩
theorem Stay.trans {F G : Nat → Prop} {a b c : World} (h : Stay F a b) (k : Stay G b c) (hG : ∀ i, G i → F i ∨ a.heap.size ≤ i) : Stay F a c :=
  ⟨k.os.trans h.os, k.tape.trans h.tape, k.output.trans h.output, Nat.le_trans h.size k.size, fun i hi hF => (k.block i (Nat.lt_of_lt_of_le hi h.size) (fun hg => (hG i hg).elim hF (fun h2 => by omega))).trans (h.block i hi hF)⟩
theorem Stay.mono {F G : Nat → Prop} {a b : World} (h : Stay F a b) (hF : ∀ i, F i → G i) : Stay G a b := ⟨h.os, h.tape, h.output, h.size, fun i hi hG => h.block i hi (fun hf => hG (hF i hf))⟩
theorem Stay.grown {F : Nat → Prop} {a b : World} {row : Option Nat} (h : a.grownBy b row) (hr : ∀ k, row = some k → F k) : Stay F a b :=
  ⟨h.os, h.tape, h.output, h.size, fun i hi hF => h.block i hi (fun e => hF (hr i e.symm))⟩
theorem Stay.below {F : Nat → Prop} {a b : World} (h : Below a.heap.size a b) : Stay F a b := ⟨h.os, h.tape, h.output, h.size, fun i hi _ => h.block i hi⟩
theorem Stay.set {F : Nat → Prop} {a b : World} (h : Stay F a b) {p : Addr} (hp : F p.block) (u : Value) : Stay F a (b.setCell p u) := by
  have hs : (b.setCell p u).heap.size = b.heap.size := by unfold World.setCell; split <;> simp
  refine ⟨h.os, h.tape, h.output, by rw [hs]; exact h.size, fun i hi hF => ?_⟩
  exact (Below.heap_setCell b p u i (fun e => hF (by rw [e]; exact hp))).trans (h.block i hi hF)
theorem Stay.out {F : Nat → Prop} {B : Nat} {w a b : World} (h : Stay F a b) (hb : Below B w a) (hF : ∀ i, F i → B ≤ i) (hB : B ≤ a.heap.size) : Below B w b :=
  ⟨h.os.trans hb.os, h.tape.trans hb.tape, h.output.trans hb.output, Nat.le_trans hb.size h.size, fun i hi => (h.block i (Nat.lt_of_lt_of_le hi hB) (fun hf => by have := hF i hf; omega)).trans (hb.block i hi)⟩
abbrev Fld := P.S49
/-- What a decoder holds: how much may come, how much of the chunk at hand, the line, the state (0: a size line, 1: bytes, 2: behind them, 3: trailers), what was read. -/
structure Dec where
  left : Int
  need : Int
  line : List Int
  st : Nat
  out : List Int
  tr : List Fld
  whole : Bool
  wrong : Int
def stF : Nat → Nat
  | 0 => 32
  | 1 => 48
  | 2 => 59
  | _ => 47
def fldK : Kd Fld := P.k49
def cellsOf (p : Nat) (d : Dec) (vl vo vt : Value) : Array Value := #[.int .i64 d.left, .int .i64 d.need, vl, .func (.func (stF d.st)) #[.pointer (some ⟨p, 0, none⟩)] #[], vo, vt, .bool d.whole, .int .i64 d.wrong]
/-- A decoder's memory: the struct's block p, and three rows. -/
structure Rep (w : World) (F : Nat → Prop) (p : Nat) (vl vo vt : Value) (d : Dec) : Prop where
  blk : w.heap[p]? = some (.cells (cellsOf p d vl vo vt) 65 (0, 0))
  inF : F p
  line : (Kd.int .u8).R 5 w 0 (fun k => F k ∧ some k ≠ vo.ownBlock) vl d.line
  out : (Kd.int .u8).R 5 w 0 (fun k => F k ∧ some k ≠ vl.ownBlock) vo d.out
  tr : fldK.R 49 w 0 F vt d.tr
/-- What a byte of a line does: the line then, the line that is whole, what is wrong. -/
def lined (l : List Int) (c : Int) : List Int × Option ByteArray × Int :=
  if (c == 10) != (decide (0 < l.length) && (rd l ((l.length : Int) - 1) == 13)) then (l, none, 100)
  else if c = 10 then ([], some (strOfNums (l.take (l.length - 1))), 0)
  else if c ≠ 13 ∧ 8192 ≤ l.length then (l, none, 100)
  else (l ++ [c], none, 0)
def lineRes (r : List Int × Option ByteArray × Int) : Value := .tuple #[.string (r.2.1.getD ⟨#[]⟩), .bool r.2.1.isSome, .int .i64 r.2.2]
section
variable {w w1 : World} {F : Nat → Prop} {p : Nat} {vl vo vt : Value} {d : Dec}
theorem Rep.lt (h : Rep w F p vl vo vt d) : p < w.heap.size := blk_lt h.blk
theorem Rep.mono {G : Nat → Prop} (h : Rep w F p vl vo vt d) (hG : ∀ k, F k → G k) : Rep w G p vl vo vt d :=
  ⟨h.blk, hG _ h.inF, Kd.R_mono h.line (fun k hk => ⟨hG k hk.1, hk.2⟩), Kd.R_mono h.out (fun k hk => ⟨hG k hk.1, hk.2⟩), Kd.R_mono h.tr hG⟩
/-- Where the decoder's blocks are as they were. -/
theorem Rep.move (h : Rep w F p vl vo vt d) (hm : ∀ k, F k → k < w.heap.size → w1.heap[k]? = w.heap[k]?) : Rep w1 F p vl vo vt d :=
  ⟨(hm p h.inF h.lt).trans h.blk, h.inF, Kd.R_step h.line (fun k hk hl => hm k hk.1 hl), Kd.R_step h.out (fun k hk hl => hm k hk.1 hl), Kd.R_step h.tr hm⟩
theorem Rep.below (h : Rep w F p vl vo vt d) (hb : Below w.heap.size w w1) : Rep w1 F p vl vo vt d := h.move (fun k _ hk => hb.block k hk)
theorem ne_dec : (5 : Nat) ≠ 65 ∧ (49 : Nat) ≠ 65 ∧ (9 : Nat) ≠ 65 ∧ (5 : Nat) ≠ 49 := by decide
theorem row_u8 {base : Nat} {ok : Nat → Prop} {v : Value} {xs : List Int} {C : Array Value} (h : (Kd.int .u8).R 5 w base ok v xs) (hb : w.heap[p]? = some (.cells C 65 (0, 0))) (i : Nat) (u : Value) : (Kd.int .u8).R 5 (w.setCell ⟨p, i, none⟩ u) base ok v xs :=
  Kd.R_set h hb (fun q hq => by rcases List.mem_cons.1 hq with rfl | h2; exact ne_dec.1; cases h2) i u
theorem row_fld {base : Nat} {ok : Nat → Prop} {v : Value} {xs : List Fld} {C : Array Value} (h : fldK.R 49 w base ok v xs) (hb : w.heap[p]? = some (.cells C 65 (0, 0))) (i : Nat) (u : Value) : fldK.R 49 (w.setCell ⟨p, i, none⟩ u) base ok v xs :=
  Kd.R_set h hb (fun q hq => by rcases List.mem_cons.1 hq with rfl | h2; exact ne_dec.2.1; exact absurd h2 (by simp [fldK, P.k49, Kd.iso, Kd.pair, Kd.string, Kd.scalar])) i u
/-- A store into the struct's block. -/
theorem Rep.store {C : Array Value} {i : Nat} {v : Value} (hb : w.heap[p]? = some (.cells C 65 (0, 0))) (hi : C.setIfInBounds i v = cellsOf p d vl vo vt) (hF : F p)
    (hl : (Kd.int .u8).R 5 w 0 (fun k => F k ∧ some k ≠ vo.ownBlock) vl d.line) (ho : (Kd.int .u8).R 5 w 0 (fun k => F k ∧ some k ≠ vl.ownBlock) vo d.out) (ht : fldK.R 49 w 0 F vt d.tr) : Rep (w.setCell ⟨p, i, none⟩ v) F p vl vo vt d :=
  ⟨by rw [blk_set hb, hi], hF, row_u8 hl hb i v, row_u8 ho hb i v, row_fld ht hb i v⟩
theorem Rep.scal {i : Nat} {v : Value} {d' : Dec} (h : Rep w F p vl vo vt d) (hi : (cellsOf p d vl vo vt).setIfInBounds i v = cellsOf p d' vl vo vt) (e1 : d'.line = d.line) (e2 : d'.out = d.out) (e3 : d'.tr = d.tr) : Rep (w.setCell ⟨p, i, none⟩ v) F p vl vo vt d' :=
  Rep.store h.blk hi h.inF (by rw [e1]; exact h.line) (by rw [e2]; exact h.out) (by rw [e3]; exact h.tr)
theorem own_nilS : (Value.slice none 0 0).ownBlock = none := by simp [Value.ownBlock]
theorem R_fresh {α : Type} {K : Kd α} {e base : Nat} {ok : Nat → Prop} {v : Value} {xs : List α} (h : K.R e w base ok v xs) (k : Nat) (hk : w.heap.size ≤ k) : some k ≠ v.ownBlock := by
  intro he
  obtain ⟨inner, ho⟩ := Kd.R_own h
  have := own_lt ho k he.symm
  omega
theorem R_neT {α : Type} {K : Kd α} {e base t g : Nat} {ok : Nat → Prop} {v : Value} {xs : List α} {C : Array Value} (h : K.R e w base ok v xs) (hb : w.heap[g]? = some (.cells C t (0, 0))) (ht : e ≠ t) : some g ≠ v.ownBlock := Kd.R_ne h hb ht
/-- The line was appended to (v1 in w1), and the struct's cell bears it. -/
theorem Rep.lineTo {v1 : Value} {l1 : List Int} (h : Rep w F p vl vo vt d) (hg : w.grownBy w1 vl.ownBlock) (hat : v1.ownBlock = vl.ownBlock ∨ ∃ b, v1.ownBlock = some b ∧ w.heap.size ≤ b)
    (hR : (Kd.int .u8).R 5 w1 0 (fun k => (F k ∨ w.heap.size ≤ k) ∧ some k ≠ vo.ownBlock) v1 l1) : w1.heap[p]? = some (.cells (cellsOf p d vl vo vt) 65 (0, 0)) ∧ Rep (w1.setCell ⟨p, 2, none⟩ v1) (fun k => F k ∨ w.heap.size ≤ k) p v1 vo vt { d with line := l1 } ∧ Stay F w (w1.setCell ⟨p, 2, none⟩ v1) := by
  have hp := R_neT h.line h.blk ne_dec.1
  have hb : w1.heap[p]? = some (.cells (cellsOf p d vl vo vt) 65 (0, 0)) := (hg.block p h.lt hp).trans h.blk
  refine ⟨hb, Rep.store hb rfl (.inl h.inF) hR (Kd.R_mono (Kd.R_after h.out hg hat) (fun k hk => ⟨.inl hk.1, hk.2⟩)) ?_, ?_⟩
  · refine Kd.R_mono (Kd.R_grown (row := vl.ownBlock) (Kd.R_bound h.tr) hg ?_) (fun k hk => .inl hk.1)
    rintro k ⟨_, _, _, q, hq, cells, hc⟩ he
    rcases List.mem_cons.1 hq with rfl | h2
    · exact R_neT h.line hc ne_dec.2.2.2 he
    · exact absurd h2 (by simp [fldK, P.k49, Kd.iso, Kd.pair, Kd.string, Kd.scalar])
  · exact (Stay.grown hg (fun k hk => (h.line.1 k hk).1)).set h.inF _
theorem Rep.lineNil (h : Rep w F p vl vo vt d) : Rep (w.setCell ⟨p, 2, none⟩ (.slice none 0 0)) F p (.slice none 0 0) vo vt { d with line := [] } :=
  Rep.store h.blk rfl h.inF (Kd.R_nil _ _ _ _ _) (Kd.R_mono h.out (fun k hk => ⟨hk.1, by rw [own_nilS]; simp⟩)) h.tr
theorem Rep.trim (h : Rep w F p vl vo vt d) : Rep w (fun k => F k ∧ k < w.heap.size) p vl vo vt d :=
  ⟨h.blk, ⟨h.inF, h.lt⟩, Kd.R_mono (Kd.R_bound h.line) (fun k hk => ⟨⟨hk.1.1, hk.2.2.1⟩, hk.1.2⟩), Kd.R_mono (Kd.R_bound h.out) (fun k hk => ⟨⟨hk.1.1, hk.2.2.1⟩, hk.1.2⟩), Kd.R_mono (Kd.R_bound h.tr) (fun k hk => ⟨hk.1, hk.2.2.1⟩)⟩
end
/-- The walks' premise on the library's variables: they lie below a world's size, the decoder's blocks do not. -/
structure Held (w0 w : World) (F : Nat → Prop) : Prop where
  inv : GInv w0
  below : Below w0.heap.size w0 w
  over : ∀ k, F k → w0.heap.size ≤ k
theorem Held.g {w0 w : World} {F : Nat → Prop} (h : Held w0 w F) : GInv w := h.inv.below h.below
theorem Held.step {w0 w w1 : World} {F : Nat → Prop} (h : Held w0 w F) (hs : Stay F w w1) : Held w0 w1 (fun k => F k ∨ w.heap.size ≤ k) :=
  ⟨h.inv, hs.out h.below h.over h.below.size, fun k hk => hk.elim (h.over k) (fun h2 => Nat.le_trans h.below.size h2)⟩
theorem Held.next {w0 w w1 : World} {F : Nat → Prop} (h : Held w0 w F) (hs : Stay F w w1) : Held w0 w1 F :=
  ⟨h.inv, hs.out h.below h.over h.below.size, h.over⟩
theorem info_u8 : (Tryd.prog.info? 5).map (fun i => (i.zero, i.size, i.bytes)) = some (some (.int .u8 0), 1, 1) := by kernel_rfl
end Go.Proofs.YtnlicpihondmgaaDoor.Chk
