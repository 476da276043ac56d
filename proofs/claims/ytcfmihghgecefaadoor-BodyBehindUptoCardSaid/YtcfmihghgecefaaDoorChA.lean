/- Package chunked, by hand: a decoder and its memory; what lined comes to; own text of this session. -/
import Derived.Test.YtcfmihghgecefaaDoorInv
import Derived.Test.YtcfmihghgecefaaDoorBytes
import Derived.Test.YtcfmihghgecefaaDoorPZ
import Derived.OwnWalk
import Derived.Laws.EntriesVeiled
namespace Go.Proofs.YtcfmihghgecefaaDoor.Chk
open Go.RowKit Go.Proofs.YtcfmihghgecefaaDoorW.PrintWords Go.Proofs.YtcfmihghgecefaaDoorW.PrintLast
set_option linter.unusedVariables false
/-- Blocks outside of F stay. -/
structure Stay (F : Nat → Prop) (w w' : World) : Prop where
  os : w'.os = w.os
  tape : w'.tape = w.tape
  output : w'.output = w.output
  size : w.heap.size ≤ w'.heap.size
  block : ∀ k, k < w.heap.size → ¬ F k → w'.heap[k]? = w.heap[k]?
theorem Stay.refl (F : Nat → Prop) (w : World) : Stay F w w := ⟨rfl, rfl, rfl, Nat.le_refl _, fun _ _ _ => rfl⟩
theorem Stay.trans {F G : Nat → Prop} {a b c : World} (h : Stay F a b) (k : Stay G b c) (hG : ∀ i, G i → F i ∨ a.heap.size ≤ i) : Stay F a c :=
  ⟨k.os.trans h.os, k.tape.trans h.tape, k.output.trans h.output, Nat.le_trans h.size k.size, fun i hi hF => (k.block i (Nat.lt_of_lt_of_le hi h.size) (fun hg => (hG i hg).elim hF (fun h2 => by omega))).trans (h.block i hi hF)⟩
theorem Stay.mono {F G : Nat → Prop} {a b : World} (h : Stay F a b) (hF : ∀ i, F i → G i) : Stay G a b := ⟨h.os, h.tape, h.output, h.size, fun i hi hG => h.block i hi (fun hf => hG (hF i hf))⟩
theorem Stay.grown {F : Nat → Prop} {a b : World} {row : Option Nat} (h : a.grownBy b row) (hr : ∀ k, row = some k → F k) : Stay F a b :=
  ⟨h.os, h.tape, h.output, h.size, fun i hi hF => h.block i hi (fun e => hF (hr i e.symm))⟩
theorem Stay.below {F : Nat → Prop} {a b : World} (h : Below a.heap.size a b) : Stay F a b := ⟨h.os, h.tape, h.output, h.size, fun i hi _ => h.block i hi⟩
theorem Stay.set {F : Nat → Prop} {a b : World} (h : Stay F a b) {p : Addr} (hp : F p.block) (u : Value) : Stay F a (b.setCell p u) := by
  have hs : (b.setCell p u).heap.size = b.heap.size := by unfold World.setCell; split <;> simp
  refine ⟨h.os, h.tape, h.output, by rw [hs]; exact h.size, fun i hi hF => ?_⟩
  exact (Below.heap_setCell b p u i (fun e => hF (by rw [e]; exact hp))).trans (h.block i hi hF)
theorem Stay.out {F : Nat → Prop} {B : Nat} {w a b : World} (h : Stay F a b) (hb : Below B w a) (hF : ∀ i, F i → B ≤ i) (hB : B ≤ a.heap.size) : Below B w b :=
  ⟨h.os.trans hb.os, h.tape.trans hb.tape, h.output.trans hb.output, Nat.le_trans hb.size h.size, fun i hi => (h.block i (Nat.lt_of_lt_of_le hi hB) (fun hf => by have := hF i hf; omega)).trans (hb.block i hi)⟩
abbrev Fld := P.S62
/-- What a decoder holds: how much may come, how much of the chunk at hand, the line, the state (0: a size line, 1: bytes, 2: behind them, 3: trailers), what was read. -/
structure Dec where
  left : Int
  need : Int
  line : List Int
  st : Nat
  out : List Int
  tr : List Fld
  whole : Bool
  wrong : Int
def stF : Nat → Nat
  | 0 => 20
  | 1 => 29
  | 2 => 37
  | _ => 28
def fldK : Kd Fld := P.k62
def cellsOf (p : Nat) (d : Dec) (vl vo vt : Value) : Array Value := #[.int .i64 d.left, .int .i64 d.need, vl, .func (.func (stF d.st)) #[.pointer (some ⟨p, 0, none⟩)] #[], vo, vt, .bool d.whole, .int .i64 d.wrong]
/-- A decoder's memory: the struct's block p, and three rows. -/
structure Rep (w : World) (F : Nat → Prop) (p : Nat) (vl vo vt : Value) (d : Dec) : Prop where
  blk : w.heap[p]? = some (.cells (cellsOf p d vl vo vt) 57 (0, 0))
  inF : F p
  line : (Kd.int .u8).R 5 w 0 (fun k => F k ∧ some k ≠ vo.ownBlock) vl d.line
  out : (Kd.int .u8).R 5 w 0 (fun k => F k ∧ some k ≠ vl.ownBlock) vo d.out
  tr : fldK.R 62 w 0 F vt d.tr
/-- What a byte of a line does: the line then, the line that is whole, what is wrong. -/
def lined (l : List Int) (c : Int) : List Int × Option ByteArray × Int :=
  if (c == 10) != (decide (0 < l.length) && (rd l ((l.length : Int) - 1) == 13)) then (l, none, 100)
  else if c = 10 then ([], some (strOfNums (l.take (l.length - 1))), 0)
  else if c ≠ 13 ∧ 8192 ≤ l.length then (l, none, 100)
  else (l ++ [c], none, 0)
def lineRes (r : List Int × Option ByteArray × Int) : Value := .tuple #[.string (r.2.1.getD ⟨#[]⟩), .bool r.2.1.isSome, .int .i64 r.2.2]
section
variable {w w1 : World} {F : Nat → Prop} {p : Nat} {vl vo vt : Value} {d : Dec}
theorem Rep.lt (h : Rep w F p vl vo vt d) : p < w.heap.size := blk_lt h.blk
theorem Rep.mono {G : Nat → Prop} (h : Rep w F p vl vo vt d) (hG : ∀ k, F k → G k) : Rep w G p vl vo vt d :=
  ⟨h.blk, hG _ h.inF, Kd.R_mono h.line (fun k hk => ⟨hG k hk.1, hk.2⟩), Kd.R_mono h.out (fun k hk => ⟨hG k hk.1, hk.2⟩), Kd.R_mono h.tr hG⟩
/-- Where the decoder's blocks are as they were. -/
theorem Rep.move (h : Rep w F p vl vo vt d) (hm : ∀ k, F k → k < w.heap.size → w1.heap[k]? = w.heap[k]?) : Rep w1 F p vl vo vt d :=
  ⟨(hm p h.inF h.lt).trans h.blk, h.inF, Kd.R_step h.line (fun k hk hl => hm k hk.1 hl), Kd.R_step h.out (fun k hk hl => hm k hk.1 hl), Kd.R_step h.tr hm⟩
theorem Rep.below (h : Rep w F p vl vo vt d) (hb : Below w.heap.size w w1) : Rep w1 F p vl vo vt d := h.move (fun k _ hk => hb.block k hk)
theorem ne_dec : (5 : Nat) ≠ 57 ∧ (62 : Nat) ≠ 57 ∧ (9 : Nat) ≠ 57 ∧ (5 : Nat) ≠ 62 := by decide
theorem row_u8 {base : Nat} {ok : Nat → Prop} {v : Value} {xs : List Int} {C : Array Value} (h : (Kd.int .u8).R 5 w base ok v xs) (hb : w.heap[p]? = some (.cells C 57 (0, 0))) (i : Nat) (u : Value) : (Kd.int .u8).R 5 (w.setCell ⟨p, i, none⟩ u) base ok v xs :=
  Kd.R_set h hb (fun q hq => by rcases List.mem_cons.1 hq with rfl | h2; exact ne_dec.1; cases h2) i u
theorem row_fld {base : Nat} {ok : Nat → Prop} {v : Value} {xs : List Fld} {C : Array Value} (h : fldK.R 62 w base ok v xs) (hb : w.heap[p]? = some (.cells C 57 (0, 0))) (i : Nat) (u : Value) : fldK.R 62 (w.setCell ⟨p, i, none⟩ u) base ok v xs :=
  Kd.R_set h hb (fun q hq => by rcases List.mem_cons.1 hq with rfl | h2; exact ne_dec.2.1; exact absurd h2 (by simp [fldK, P.k62, Kd.iso, Kd.pair, Kd.string, Kd.scalar])) i u
/-- A store into the struct's block. -/
theorem Rep.store {C : Array Value} {i : Nat} {v : Value} (hb : w.heap[p]? = some (.cells C 57 (0, 0))) (hi : C.setIfInBounds i v = cellsOf p d vl vo vt) (hF : F p)
    (hl : (Kd.int .u8).R 5 w 0 (fun k => F k ∧ some k ≠ vo.ownBlock) vl d.line) (ho : (Kd.int .u8).R 5 w 0 (fun k => F k ∧ some k ≠ vl.ownBlock) vo d.out) (ht : fldK.R 62 w 0 F vt d.tr) : Rep (w.setCell ⟨p, i, none⟩ v) F p vl vo vt d :=
  ⟨by rw [blk_set hb, hi], hF, row_u8 hl hb i v, row_u8 ho hb i v, row_fld ht hb i v⟩
theorem Rep.scal {i : Nat} {v : Value} {d' : Dec} (h : Rep w F p vl vo vt d) (hi : (cellsOf p d vl vo vt).setIfInBounds i v = cellsOf p d' vl vo vt) (e1 : d'.line = d.line) (e2 : d'.out = d.out) (e3 : d'.tr = d.tr) : Rep (w.setCell ⟨p, i, none⟩ v) F p vl vo vt d' :=
  Rep.store h.blk hi h.inF (by rw [e1]; exact h.line) (by rw [e2]; exact h.out) (by rw [e3]; exact h.tr)
theorem own_nilS : (Value.slice none 0 0).ownBlock = none := by simp [Value.ownBlock]
theorem R_fresh {α : Type} {K : Kd α} {e base : Nat} {ok : Nat → Prop} {v : Value} {xs : List α} (h : K.R e w base ok v xs) (k : Nat) (hk : w.heap.size ≤ k) : some k ≠ v.ownBlock := by
  intro he
  obtain ⟨inner, ho⟩ := Kd.R_own h
  have := own_lt ho k he.symm
  omega
theorem R_neT {α : Type} {K : Kd α} {e base t g : Nat} {ok : Nat → Prop} {v : Value} {xs : List α} {C : Array Value} (h : K.R e w base ok v xs) (hb : w.heap[g]? = some (.cells C t (0, 0))) (ht : e ≠ t) : some g ≠ v.ownBlock := Kd.R_ne h hb ht
/-- The line was appended to (v1 in w1), and the struct's cell bears it. -/
theorem Rep.lineTo {v1 : Value} {l1 : List Int} (h : Rep w F p vl vo vt d) (hg : w.grownBy w1 vl.ownBlock) (hat : v1.ownBlock = vl.ownBlock ∨ ∃ b, v1.ownBlock = some b ∧ w.heap.size ≤ b)
    (hR : (Kd.int .u8).R 5 w1 0 (fun k => (F k ∨ w.heap.size ≤ k) ∧ some k ≠ vo.ownBlock) v1 l1) : w1.heap[p]? = some (.cells (cellsOf p d vl vo vt) 57 (0, 0)) ∧ Rep (w1.setCell ⟨p, 2, none⟩ v1) (fun k => F k ∨ w.heap.size ≤ k) p v1 vo vt { d with line := l1 } ∧ Stay F w (w1.setCell ⟨p, 2, none⟩ v1) := by
  have hp := R_neT h.line h.blk ne_dec.1
  have hb : w1.heap[p]? = some (.cells (cellsOf p d vl vo vt) 57 (0, 0)) := (hg.block p h.lt hp).trans h.blk
  refine ⟨hb, Rep.store hb rfl (.inl h.inF) hR (Kd.R_mono (Kd.R_after h.out hg hat) (fun k hk => ⟨.inl hk.1, hk.2⟩)) ?_, ?_⟩
  · refine Kd.R_mono (Kd.R_grown (row := vl.ownBlock) (Kd.R_bound h.tr) hg ?_) (fun k hk => .inl hk.1)
    rintro k ⟨_, _, _, q, hq, cells, hc⟩ he
    rcases List.mem_cons.1 hq with rfl | h2
    · exact R_neT h.line hc ne_dec.2.2.2 he
    · exact absurd h2 (by simp [fldK, P.k62, Kd.iso, Kd.pair, Kd.string, Kd.scalar])
  · exact (Stay.grown hg (fun k hk => (h.line.1 k hk).1)).set h.inF _
theorem Rep.lineNil (h : Rep w F p vl vo vt d) : Rep (w.setCell ⟨p, 2, none⟩ (.slice none 0 0)) F p (.slice none 0 0) vo vt { d with line := [] } :=
  Rep.store h.blk rfl h.inF (Kd.R_nil _ _ _ _ _) (Kd.R_mono h.out (fun k hk => ⟨hk.1, by rw [own_nilS]; simp⟩)) h.tr
theorem Rep.trim (h : Rep w F p vl vo vt d) : Rep w (fun k => F k ∧ k < w.heap.size) p vl vo vt d :=
  ⟨h.blk, ⟨h.inF, h.lt⟩, Kd.R_mono (Kd.R_bound h.line) (fun k hk => ⟨⟨hk.1.1, hk.2.2.1⟩, hk.1.2⟩), Kd.R_mono (Kd.R_bound h.out) (fun k hk => ⟨⟨hk.1.1, hk.2.2.1⟩, hk.1.2⟩), Kd.R_mono (Kd.R_bound h.tr) (fun k hk => ⟨hk.1, hk.2.2.1⟩)⟩
end
/-- The walks' premise on the library's variables: they lie below a world's size, the decoder's blocks do not. -/
structure Held (w0 w : World) (F : Nat → Prop) : Prop where
  inv : GInv w0
  below : Below w0.heap.size w0 w
  over : ∀ k, F k → w0.heap.size ≤ k
theorem Held.g {w0 w : World} {F : Nat → Prop} (h : Held w0 w F) : GInv w := h.inv.below h.below
theorem Held.step {w0 w w1 : World} {F : Nat → Prop} (h : Held w0 w F) (hs : Stay F w w1) : Held w0 w1 (fun k => F k ∨ w.heap.size ≤ k) :=
  ⟨h.inv, hs.out h.below h.over h.below.size, fun k hk => hk.elim (h.over k) (fun h2 => Nat.le_trans h.below.size h2)⟩
theorem Held.next {w0 w w1 : World} {F : Nat → Prop} (h : Held w0 w F) (hs : Stay F w w1) : Held w0 w1 F :=
  ⟨h.inv, hs.out h.below h.over h.below.size, h.over⟩
theorem info_u8 : (Tryd.prog.info? 5).map (fun i => (i.zero, i.size, i.bytes)) = some (some (.int .u8 0), 1, 1) := by kernel_rfl
end Go.Proofs.YtcfmihghgecefaaDoor.Chk
/- Package chunked, by hand: what lined comes to; own text of this session. -/
namespace Go.Proofs.YtcfmihghgecefaaDoor.Chk
open Go.RowKit Go.Proofs.YtcfmihghgecefaaDoorW.PrintWords Go.Proofs.YtcfmihghgecefaaDoorW.PrintLast
set_option linter.unusedVariables false
def LinedPost (w : World) (F : Nat → Prop) (p : Nat) (vo vt : Value) (d : Dec) (r : List Int × Option ByteArray × Int) (e : Ending) (w' : World) : Prop :=
  e = .returned (lineRes r) ∧ (∃ vl', Rep w' (fun k => F k ∨ w.heap.size ≤ k) p vl' vo vt { d with line := r.1 }) ∧ Stay F w w'
theorem ret3 {s t : ByteArray} (h : s = t) (b : Bool) (n : Int) : Ending.returned (.tuple #[.string s, .bool b, .int .i64 n]) = .returned (.tuple #[.string t, .bool b, .int .i64 n]) := by rw [h]
set_option maxHeartbeats 4000000 in
set_option maxRecDepth 100000 in
theorem lined_e10 (w : World) (F : Nat → Prop) (p : Nat) (vl vo vt : Value) (d : Dec) (c : Int) (h : Rep w F p vl vo vt d) (hl : d.line.length ≤ 1099511627776) (hn : d.line.length = 0) (hc : c = 10) :
    Calls Tryd.prog 24 #[.pointer (some ⟨p, 0, none⟩), .int .u8 c] w (LinedPost w F p vo vt d (d.line, none, 100)) := by
  have hz2 : w.cell? ⟨p, 2, none⟩ = some vl := (blk_cell h.blk 2).trans rfl
  have hf2 := blk_frozen h.blk 2
  obtain ⟨A, n, hv, hcap, hC⟩ := Kd.R_reads h.line
  have HR := Aside0.mk h
  have HL := Aside0.mk hl
  have HN := Aside0.mk hn
  obtain ⟨N, hN⟩ : ∃ N, N = d.line.length := ⟨_, rfl⟩
  rw [← hN] at hv hC hcap hn
  have HNN := Aside0.mk hN
  clear h hl hN
  subst hv
  subst hn
  have hcast : ((0 : Nat) : Int) = 0 := rfl
  subst hc
  go_enter Tryd.func24, Tryd.ntmps24
  go_wp2
  go_ret3
  exact ⟨rfl, ⟨_, HR.out.mono (fun _ hk => .inl hk)⟩, Stay.refl _ _⟩
set_option maxHeartbeats 4000000 in
set_option maxRecDepth 100000 in
theorem lined_e13 (w : World) (F : Nat → Prop) (p : Nat) (vl vo vt : Value) (d : Dec) (c : Int) (h : Rep w F p vl vo vt d) (hl : d.line.length ≤ 1099511627776) (hn : d.line.length = 0) (hc : c = 13) :
    Calls Tryd.prog 24 #[.pointer (some ⟨p, 0, none⟩), .int .u8 c] w (LinedPost w F p vo vt d (d.line ++ [13], none, 0)) := by
  have hz2 : w.cell? ⟨p, 2, none⟩ = some vl := (blk_cell h.blk 2).trans rfl
  have hf2 := blk_frozen h.blk 2
  obtain ⟨A, n, hv, hcap, hC⟩ := Kd.R_reads h.line
  have HR := Aside0.mk h
  have HL := Aside0.mk hl
  have HN := Aside0.mk hn
  obtain ⟨N, hN⟩ : ∃ N, N = d.line.length := ⟨_, rfl⟩
  rw [← hN] at hv hC hcap hn
  have HNN := Aside0.mk hN
  clear h hl hN
  subst hv
  subst hn
  have hcast : ((0 : Nat) : Int) = 0 := rfl
  subst hc
  go_enter Tryd.func24, Tryd.ntmps24
  go_wp2_with (at_builtin; refine Kd.R_append (Kd.int .u8) (w0 := w) 0 rfl (.tmp 59) (.tmp 61) 24 5 (.int .u8 0) 1 rfl Tryd.underlying24 info_u8 rfl (by decide) (by omega) _ d.line 13 [.int .u8 13] (fun k => (F k ∨ w.heap.size ≤ k) ∧ some k ≠ vo.ownBlock) (fun _ => False) rfl rfl ?aP (fun _ hk => hk.elim) ?aF ?aO ?aB ?aS ?aL ?_)
  case aP => rfl
  case aF => exact fun k hk => ⟨.inr hk, R_fresh HR.out.out k hk⟩
  case aO => exact Kd.R_mono HR.out.line (fun k hk => ⟨.inl hk.1, hk.2⟩)
  case aB => exact Below.refl _ _
  try (case aS => omega)
  case aL => have := HL.out; omega
  intro v1 w1 hR hb hg hat
  obtain ⟨hb1, hrep, hst⟩ := HR.out.lineTo hg hat hR
  obtain ⟨A1, c1, e1⟩ := Kd.R_slice hR
  rw [List.length_append, List.length_singleton] at e1
  have hz2 : w1.cell? ⟨p, 2, none⟩ = some (.slice A 0 n) := (blk_cell hb1 2).trans rfl
  have hf2 := blk_frozen hb1 2
  have HP := Aside0.mk hrep
  have HS := Aside0.mk hst
  have HE := Aside0.mk e1
  clear hR hb hg hat hb1 hrep hst
  subst e1
  go_wp2
  go_ret3
  exact ⟨rfl, ⟨_, HP.out⟩, HS.out⟩
set_option maxHeartbeats 4000000 in
set_option maxRecDepth 100000 in
theorem lined_e (w : World) (F : Nat → Prop) (p : Nat) (vl vo vt : Value) (d : Dec) (c : Int) (h : Rep w F p vl vo vt d) (hl : d.line.length ≤ 1099511627776) (hn : d.line.length = 0) (hc : ¬ c = 10) (hc3 : ¬ c = 13) :
    Calls Tryd.prog 24 #[.pointer (some ⟨p, 0, none⟩), .int .u8 c] w (LinedPost w F p vo vt d (d.line ++ [c], none, 0)) := by
  have hz2 : w.cell? ⟨p, 2, none⟩ = some vl := (blk_cell h.blk 2).trans rfl
  have hf2 := blk_frozen h.blk 2
  obtain ⟨A, n, hv, hcap, hC⟩ := Kd.R_reads h.line
  have HR := Aside0.mk h
  have HL := Aside0.mk hl
  have HN := Aside0.mk hn
  obtain ⟨N, hN⟩ : ∃ N, N = d.line.length := ⟨_, rfl⟩
  rw [← hN] at hv hC hcap hn
  have HNN := Aside0.mk hN
  clear h hl hN
  subst hv
  subst hn
  have hcast : ((0 : Nat) : Int) = 0 := rfl
  have bc : (c == 10) = false := by simpa using hc
  have bc3 : (c != 13) = true := by simpa using hc3
  go_enter Tryd.func24, Tryd.ntmps24
  go_wp2_with (at_builtin; refine Kd.R_append (Kd.int .u8) (w0 := w) 0 rfl (.tmp 59) (.tmp 61) 24 5 (.int .u8 0) 1 rfl Tryd.underlying24 info_u8 rfl (by decide) (by omega) _ d.line c [.int .u8 c] (fun k => (F k ∨ w.heap.size ≤ k) ∧ some k ≠ vo.ownBlock) (fun _ => False) rfl rfl ?aP (fun _ hk => hk.elim) ?aF ?aO ?aB ?aS ?aL ?_)
  case aP => rfl
  case aF => exact fun k hk => ⟨.inr hk, R_fresh HR.out.out k hk⟩
  case aO => exact Kd.R_mono HR.out.line (fun k hk => ⟨.inl hk.1, hk.2⟩)
  case aB => exact Below.refl _ _
  try (case aS => omega)
  case aL => have := HL.out; omega
  intro v1 w1 hR hb hg hat
  obtain ⟨hb1, hrep, hst⟩ := HR.out.lineTo hg hat hR
  obtain ⟨A1, c1, e1⟩ := Kd.R_slice hR
  rw [List.length_append, List.length_singleton] at e1
  have hz2 : w1.cell? ⟨p, 2, none⟩ = some (.slice A 0 n) := (blk_cell hb1 2).trans rfl
  have hf2 := blk_frozen hb1 2
  have HP := Aside0.mk hrep
  have HS := Aside0.mk hst
  have HE := Aside0.mk e1
  clear hR hb hg hat hb1 hrep hst
  subst e1
  go_wp2
  go_ret3
  exact ⟨rfl, ⟨_, HP.out⟩, HS.out⟩
set_option maxHeartbeats 4000000 in
set_option maxRecDepth 100000 in
theorem lined_10 (w : World) (F : Nat → Prop) (p : Nat) (vl vo vt : Value) (d : Dec) (c : Int) (h : Rep w F p vl vo vt d) (hl : d.line.length ≤ 1099511627776) (X : Int) (hn : 0 < d.line.length) (hX : rd d.line ((d.line.length : Int) - 1) = X) (hx13 : ¬ X = 13) (hc : c = 10) :
    Calls Tryd.prog 24 #[.pointer (some ⟨p, 0, none⟩), .int .u8 c] w (LinedPost w F p vo vt d (d.line, none, 100)) := by
  have hz2 : w.cell? ⟨p, 2, none⟩ = some vl := (blk_cell h.blk 2).trans rfl
  have hf2 := blk_frozen h.blk 2
  obtain ⟨A, n, hv, hcap, hC⟩ := Kd.R_reads h.line
  have HR := Aside0.mk h
  have HL := Aside0.mk hl
  have HN := Aside0.mk hn
  obtain ⟨N, hN⟩ : ∃ N, N = d.line.length := ⟨_, rfl⟩
  rw [← hN] at hv hC hcap hn
  have HNN := Aside0.mk hN
  clear h hl hN
  subst hv
  have hpos : (0 : Int) < (N : Int) := by omega
  have hNle : (N : Int) ≤ 1099511627776 := by have := HL.out; have := HNN.out; omega
  have hi0 : (0 : Int) ≤ (N : Int) - 1 := by omega
  have hi1 : (N : Int) - 1 < (N : Int) := by omega
  obtain ⟨ad, eA, hx⟩ := Kd.at_int hC ((N : Int) - 1) (by omega) (by omega)
  cases eA
  have hxr : rd d.line ((N : Int) - 1) = X := by rw [HNN.out]; exact hX
  rw [hxr, show ((N : Int) - 1).toNat = N - 1 from by omega] at hx
  clear hxr
  have HX := Aside0.mk hX
  clear hX
  subst hc
  have b13 : (X == 13) = false := by simpa using hx13
  go_enter Tryd.func24, Tryd.ntmps24
  go_wp2
  go_ret3
  exact ⟨rfl, ⟨_, HR.out.mono (fun _ hk => .inl hk)⟩, Stay.refl _ _⟩
set_option maxHeartbeats 4000000 in
set_option maxRecDepth 100000 in
theorem lined_13 (w : World) (F : Nat → Prop) (p : Nat) (vl vo vt : Value) (d : Dec) (c : Int) (h : Rep w F p vl vo vt d) (hl : d.line.length ≤ 1099511627776) (hn : 0 < d.line.length) (hX : rd d.line ((d.line.length : Int) - 1) = 13) (hc : ¬ c = 10) :
    Calls Tryd.prog 24 #[.pointer (some ⟨p, 0, none⟩), .int .u8 c] w (LinedPost w F p vo vt d (d.line, none, 100)) := by
  have hz2 : w.cell? ⟨p, 2, none⟩ = some vl := (blk_cell h.blk 2).trans rfl
  have hf2 := blk_frozen h.blk 2
  obtain ⟨A, n, hv, hcap, hC⟩ := Kd.R_reads h.line
  have HR := Aside0.mk h
  have HL := Aside0.mk hl
  have HN := Aside0.mk hn
  obtain ⟨N, hN⟩ : ∃ N, N = d.line.length := ⟨_, rfl⟩
  rw [← hN] at hv hC hcap hn
  have HNN := Aside0.mk hN
  clear h hl hN
  subst hv
  have hpos : (0 : Int) < (N : Int) := by omega
  have hNle : (N : Int) ≤ 1099511627776 := by have := HL.out; have := HNN.out; omega
  have hi0 : (0 : Int) ≤ (N : Int) - 1 := by omega
  have hi1 : (N : Int) - 1 < (N : Int) := by omega
  obtain ⟨ad, eA, hx⟩ := Kd.at_int hC ((N : Int) - 1) (by omega) (by omega)
  cases eA
  have hxr : rd d.line ((N : Int) - 1) = 13 := by rw [HNN.out]; exact hX
  rw [hxr, show ((N : Int) - 1).toNat = N - 1 from by omega] at hx
  clear hxr
  have HX := Aside0.mk hX
  clear hX
  have bc : (c == 10) = false := by simpa using hc
  go_enter Tryd.func24, Tryd.ntmps24
  go_wp2
  go_ret3
  exact ⟨rfl, ⟨_, HR.out.mono (fun _ hk => .inl hk)⟩, Stay.refl _ _⟩
set_option maxHeartbeats 4000000 in
set_option maxRecDepth 100000 in
theorem lined_n13 (w : World) (F : Nat → Prop) (p : Nat) (vl vo vt : Value) (d : Dec) (c : Int) (h : Rep w F p vl vo vt d) (hl : d.line.length ≤ 1099511627776) (X : Int) (hn : 0 < d.line.length) (hX : rd d.line ((d.line.length : Int) - 1) = X) (hx13 : ¬ X = 13) (hc : c = 13) :
    Calls Tryd.prog 24 #[.pointer (some ⟨p, 0, none⟩), .int .u8 c] w (LinedPost w F p vo vt d (d.line ++ [13], none, 0)) := by
  have hz2 : w.cell? ⟨p, 2, none⟩ = some vl := (blk_cell h.blk 2).trans rfl
  have hf2 := blk_frozen h.blk 2
  obtain ⟨A, n, hv, hcap, hC⟩ := Kd.R_reads h.line
  have HR := Aside0.mk h
  have HL := Aside0.mk hl
  have HN := Aside0.mk hn
  obtain ⟨N, hN⟩ : ∃ N, N = d.line.length := ⟨_, rfl⟩
  rw [← hN] at hv hC hcap hn
  have HNN := Aside0.mk hN
  clear h hl hN
  subst hv
  have hpos : (0 : Int) < (N : Int) := by omega
  have hNle : (N : Int) ≤ 1099511627776 := by have := HL.out; have := HNN.out; omega
  have hi0 : (0 : Int) ≤ (N : Int) - 1 := by omega
  have hi1 : (N : Int) - 1 < (N : Int) := by omega
  obtain ⟨ad, eA, hx⟩ := Kd.at_int hC ((N : Int) - 1) (by omega) (by omega)
  cases eA
  have hxr : rd d.line ((N : Int) - 1) = X := by rw [HNN.out]; exact hX
  rw [hxr, show ((N : Int) - 1).toNat = N - 1 from by omega] at hx
  clear hxr
  have HX := Aside0.mk hX
  clear hX
  subst hc
  have b13 : (X == 13) = false := by simpa using hx13
  go_enter Tryd.func24, Tryd.ntmps24
  go_wp2_with (at_builtin; refine Kd.R_append (Kd.int .u8) (w0 := w) 0 rfl (.tmp 59) (.tmp 61) 24 5 (.int .u8 0) 1 rfl Tryd.underlying24 info_u8 rfl (by decide) (by omega) _ d.line 13 [.int .u8 13] (fun k => (F k ∨ w.heap.size ≤ k) ∧ some k ≠ vo.ownBlock) (fun _ => False) rfl rfl ?aP (fun _ hk => hk.elim) ?aF ?aO ?aB ?aS ?aL ?_)
  case aP => rfl
  case aF => exact fun k hk => ⟨.inr hk, R_fresh HR.out.out k hk⟩
  case aO => exact Kd.R_mono HR.out.line (fun k hk => ⟨.inl hk.1, hk.2⟩)
  case aB => exact Below.refl _ _
  try (case aS => omega)
  case aL => have := HL.out; omega
  intro v1 w1 hR hb hg hat
  obtain ⟨hb1, hrep, hst⟩ := HR.out.lineTo hg hat hR
  obtain ⟨A1, c1, e1⟩ := Kd.R_slice hR
  rw [List.length_append, List.length_singleton] at e1
  have hz2 : w1.cell? ⟨p, 2, none⟩ = some (.slice (some ad) N n) := (blk_cell hb1 2).trans rfl
  have hf2 := blk_frozen hb1 2
  have HP := Aside0.mk hrep
  have HS := Aside0.mk hst
  have HE := Aside0.mk e1
  clear hR hb hg hat hb1 hrep hst
  subst e1
  go_wp2
  go_ret3
  exact ⟨rfl, ⟨_, HP.out⟩, HS.out⟩
set_option maxHeartbeats 4000000 in
set_option maxRecDepth 100000 in
theorem lined_n (w : World) (F : Nat → Prop) (p : Nat) (vl vo vt : Value) (d : Dec) (c : Int) (h : Rep w F p vl vo vt d) (hl : d.line.length ≤ 1099511627776) (X : Int) (hn : 0 < d.line.length) (hX : rd d.line ((d.line.length : Int) - 1) = X) (hx13 : ¬ X = 13) (hc : ¬ c = 10) (hc3 : ¬ c = 13) (hs : d.line.length < 8192) :
    Calls Tryd.prog 24 #[.pointer (some ⟨p, 0, none⟩), .int .u8 c] w (LinedPost w F p vo vt d (d.line ++ [c], none, 0)) := by
  have hz2 : w.cell? ⟨p, 2, none⟩ = some vl := (blk_cell h.blk 2).trans rfl
  have hf2 := blk_frozen h.blk 2
  obtain ⟨A, n, hv, hcap, hC⟩ := Kd.R_reads h.line
  have HR := Aside0.mk h
  have HL := Aside0.mk hl
  have HN := Aside0.mk hn
  obtain ⟨N, hN⟩ : ∃ N, N = d.line.length := ⟨_, rfl⟩
  rw [← hN] at hv hC hcap hn
  have HNN := Aside0.mk hN
  clear h hl hN
  subst hv
  have hpos : (0 : Int) < (N : Int) := by omega
  have hNle : (N : Int) ≤ 1099511627776 := by have := HL.out; have := HNN.out; omega
  have hi0 : (0 : Int) ≤ (N : Int) - 1 := by omega
  have hi1 : (N : Int) - 1 < (N : Int) := by omega
  obtain ⟨ad, eA, hx⟩ := Kd.at_int hC ((N : Int) - 1) (by omega) (by omega)
  cases eA
  have hxr : rd d.line ((N : Int) - 1) = X := by rw [HNN.out]; exact hX
  rw [hxr, show ((N : Int) - 1).toNat = N - 1 from by omega] at hx
  clear hxr
  have HX := Aside0.mk hX
  clear hX
  have hs' : ¬ (8192 : Int) ≤ (N : Int) := by have := HNN.out; omega
  have bc : (c == 10) = false := by simpa using hc
  have bc3 : (c != 13) = true := by simpa using hc3
  have b13 : (X == 13) = false := by simpa using hx13
  go_enter Tryd.func24, Tryd.ntmps24
  go_wp2_with (at_builtin; refine Kd.R_append (Kd.int .u8) (w0 := w) 0 rfl (.tmp 59) (.tmp 61) 24 5 (.int .u8 0) 1 rfl Tryd.underlying24 info_u8 rfl (by decide) (by omega) _ d.line c [.int .u8 c] (fun k => (F k ∨ w.heap.size ≤ k) ∧ some k ≠ vo.ownBlock) (fun _ => False) rfl rfl ?aP (fun _ hk => hk.elim) ?aF ?aO ?aB ?aS ?aL ?_)
  case aP => rfl
  case aF => exact fun k hk => ⟨.inr hk, R_fresh HR.out.out k hk⟩
  case aO => exact Kd.R_mono HR.out.line (fun k hk => ⟨.inl hk.1, hk.2⟩)
  case aB => exact Below.refl _ _
  try (case aS => omega)
  case aL => have := HL.out; omega
  intro v1 w1 hR hb hg hat
  obtain ⟨hb1, hrep, hst⟩ := HR.out.lineTo hg hat hR
  obtain ⟨A1, c1, e1⟩ := Kd.R_slice hR
  rw [List.length_append, List.length_singleton] at e1
  have hz2 : w1.cell? ⟨p, 2, none⟩ = some (.slice (some ad) N n) := (blk_cell hb1 2).trans rfl
  have hf2 := blk_frozen hb1 2
  have HP := Aside0.mk hrep
  have HS := Aside0.mk hst
  have HE := Aside0.mk e1
  clear hR hb hg hat hb1 hrep hst
  subst e1
  go_wp2
  go_ret3
  exact ⟨rfl, ⟨_, HP.out⟩, HS.out⟩
set_option maxHeartbeats 4000000 in
set_option maxRecDepth 100000 in
theorem lined_long (w : World) (F : Nat → Prop) (p : Nat) (vl vo vt : Value) (d : Dec) (c : Int) (h : Rep w F p vl vo vt d) (hl : d.line.length ≤ 1099511627776) (X : Int) (hn : 0 < d.line.length) (hX : rd d.line ((d.line.length : Int) - 1) = X) (hx13 : ¬ X = 13) (hc : ¬ c = 10) (hc3 : ¬ c = 13) (hs : 8192 ≤ d.line.length) :
    Calls Tryd.prog 24 #[.pointer (some ⟨p, 0, none⟩), .int .u8 c] w (LinedPost w F p vo vt d (d.line, none, 100)) := by
  have hz2 : w.cell? ⟨p, 2, none⟩ = some vl := (blk_cell h.blk 2).trans rfl
  have hf2 := blk_frozen h.blk 2
  obtain ⟨A, n, hv, hcap, hC⟩ := Kd.R_reads h.line
  have HR := Aside0.mk h
  have HL := Aside0.mk hl
  have HN := Aside0.mk hn
  obtain ⟨N, hN⟩ : ∃ N, N = d.line.length := ⟨_, rfl⟩
  rw [← hN] at hv hC hcap hn
  have HNN := Aside0.mk hN
  clear h hl hN
  subst hv
  have hpos : (0 : Int) < (N : Int) := by omega
  have hNle : (N : Int) ≤ 1099511627776 := by have := HL.out; have := HNN.out; omega
  have hi0 : (0 : Int) ≤ (N : Int) - 1 := by omega
  have hi1 : (N : Int) - 1 < (N : Int) := by omega
  obtain ⟨ad, eA, hx⟩ := Kd.at_int hC ((N : Int) - 1) (by omega) (by omega)
  cases eA
  have hxr : rd d.line ((N : Int) - 1) = X := by rw [HNN.out]; exact hX
  rw [hxr, show ((N : Int) - 1).toNat = N - 1 from by omega] at hx
  clear hxr
  have HX := Aside0.mk hX
  clear hX
  have hs' : (8192 : Int) ≤ (N : Int) := by have := HNN.out; omega
  have bc : (c == 10) = false := by simpa using hc
  have bc3 : (c != 13) = true := by simpa using hc3
  have b13 : (X == 13) = false := by simpa using hx13
  go_enter Tryd.func24, Tryd.ntmps24
  go_wp2
  go_ret3
  exact ⟨rfl, ⟨_, HR.out.mono (fun _ hk => .inl hk)⟩, Stay.refl _ _⟩
set_option maxHeartbeats 4000000 in
set_option maxRecDepth 100000 in
theorem lined_whole (w : World) (F : Nat → Prop) (p : Nat) (vl vo vt : Value) (d : Dec) (c : Int) (h : Rep w F p vl vo vt d) (hl : d.line.length ≤ 1099511627776) (hn : 0 < d.line.length) (hX : rd d.line ((d.line.length : Int) - 1) = 13) (hc : c = 10) :
    Calls Tryd.prog 24 #[.pointer (some ⟨p, 0, none⟩), .int .u8 c] w (LinedPost w F p vo vt d ([], some (strOfNums (d.line.take (d.line.length - 1))), 0)) := by
  have hz2 : w.cell? ⟨p, 2, none⟩ = some vl := (blk_cell h.blk 2).trans rfl
  have hf2 := blk_frozen h.blk 2
  obtain ⟨A, n, hv, hcap, hC⟩ := Kd.R_reads h.line
  have HR := Aside0.mk h
  have HL := Aside0.mk hl
  have HN := Aside0.mk hn
  obtain ⟨N, hN⟩ : ∃ N, N = d.line.length := ⟨_, rfl⟩
  rw [← hN] at hv hC hcap hn
  have HNN := Aside0.mk hN
  clear h hl hN
  subst hv
  have hpos : (0 : Int) < (N : Int) := by omega
  have hNle : (N : Int) ≤ 1099511627776 := by have := HL.out; have := HNN.out; omega
  have hi0 : (0 : Int) ≤ (N : Int) - 1 := by omega
  have hi1 : (N : Int) - 1 < (N : Int) := by omega
  obtain ⟨ad, eA, hx⟩ := Kd.at_int hC ((N : Int) - 1) (by omega) (by omega)
  cases eA
  have hxr : rd d.line ((N : Int) - 1) = 13 := by rw [HNN.out]; exact hX
  rw [hxr, show ((N : Int) - 1).toNat = N - 1 from by omega] at hx
  clear hxr
  have HX := Aside0.mk hX
  clear hX
  subst hc
  obtain ⟨A2, c2, e2, hc2, hC2⟩ := Kd.R_reads (Kd.R_take HR.out.line (m := N - 1) (by have := HNN.out; omega))
  have hlt : (d.line.take (N - 1)).length = N - 1 := by rw [List.length_take]; have := HNN.out; omega
  rw [hlt] at e2 hC2
  injection e2 with e3 _ e4; subst e3; subst e4
  have hcv := Kd.C_string (P := Tryd.prog) (c := n) Tryd.underlying24 Tryd.underlying5 Tryd.underlying9 hC2
  have hW := Aside0.mk HR.out.lineNil
  have hS : Aside0 (Stay F w (w.setCell ⟨p, 2, none⟩ (.slice none 0 0))) := ⟨(Stay.refl F w).set HR.out.inF _⟩
  clear hc2 hC2 hlt
  go_enter Tryd.func24, Tryd.ntmps24
  go_wp2
  go_ret3
  exact ⟨ret3 (by rw [HNN.out]; rfl) _ _, ⟨_, hW.out.mono (fun _ hk => .inl hk)⟩, hS.out⟩
end Go.Proofs.YtcfmihghgecefaaDoor.Chk
/- Package chunked, by hand: what a byte does in a decoder: in a chunk's bytes, and behind them; own text of this session. -/
namespace Go.Proofs.YtcfmihghgecefaaDoor.Chk
open Go.RowKit Go.Proofs.YtcfmihghgecefaaDoorW.PrintWords Go.Proofs.YtcfmihghgecefaaDoorW.PrintLast
set_option linter.unusedVariables false
theorem lined_calls (w : World) (F : Nat → Prop) (p : Nat) (vl vo vt : Value) (d : Dec) (c : Int) (h : Rep w F p vl vo vt d) (hl : d.line.length ≤ 1099511627776) :
    Calls Tryd.prog 24 #[.pointer (some ⟨p, 0, none⟩), .int .u8 c] w (LinedPost w F p vo vt d (lined d.line c)) := by
  by_cases hn : d.line.length = 0
  · have hd : decide (0 < d.line.length) = false := decide_eq_false (by omega)
    by_cases hc : c = 10
    · rw [show lined d.line c = (d.line, none, 100) from by unfold lined; rw [hd, hc]; rfl]
      exact lined_e10 w F p vl vo vt d c h hl hn hc
    · have hb : (c == 10) = false := by simpa using hc
      have e : lined d.line c = (d.line ++ [c], none, 0) := by
        unfold lined
        rw [hd, hb, if_neg (by simp), if_neg hc, if_neg (by omega)]
      rw [e]
      by_cases hc3 : c = 13
      · subst hc3; exact lined_e13 w F p vl vo vt d 13 h hl hn rfl
      · exact lined_e w F p vl vo vt d c h hl hn hc hc3
  · have hp : 0 < d.line.length := by omega
    have hd : decide (0 < d.line.length) = true := decide_eq_true hp
    by_cases hx : rd d.line ((d.line.length : Int) - 1) = 13
    · by_cases hc : c = 10
      · have e : lined d.line c = ([], some (strOfNums (d.line.take (d.line.length - 1))), 0) := by
          unfold lined
          rw [hd, hx, hc]; rfl
        rw [e]
        exact lined_whole w F p vl vo vt d c h hl hp hx hc
      · have hb : (c == 10) = false := by simpa using hc
        have e : lined d.line c = (d.line, none, 100) := by
          unfold lined
          rw [hd, hx, hb]; rfl
        rw [e]
        exact lined_13 w F p vl vo vt d c h hl hp hx hc
    · have hxb : (rd d.line ((d.line.length : Int) - 1) == 13) = false := by simpa using hx
      by_cases hc : c = 10
      · have e : lined d.line c = (d.line, none, 100) := by
          unfold lined
          rw [hd, hxb, hc]; rfl
        rw [e]
        exact lined_10 w F p vl vo vt d c h hl _ hp rfl hx hc
      · have hb : (c == 10) = false := by simpa using hc
        by_cases hc3 : c = 13
        · have e : lined d.line c = (d.line ++ [13], none, 0) := by
            unfold lined
            rw [hd, hxb, hb, if_neg (by simp), if_neg hc, if_neg (by omega), hc3]
          rw [e]
          exact lined_n13 w F p vl vo vt d c h hl _ hp rfl hx hc3
        · by_cases hs : d.line.length < 8192
          · have e : lined d.line c = (d.line ++ [c], none, 0) := by
              unfold lined
              rw [hd, hxb, hb, if_neg (by simp), if_neg hc, if_neg (by omega)]
            rw [e]
            exact lined_n w F p vl vo vt d c h hl _ hp rfl hx hc hc3 hs
          · have e : lined d.line c = (d.line, none, 100) := by
              unfold lined
              rw [hd, hxb, hb, if_neg (by simp), if_neg hc, if_pos ⟨hc3, by omega⟩]
            rw [e]
            exact lined_long w F p vl vo vt d c h hl _ hp rfl hx hc hc3 (by omega)
/-- What a step leaves: what it tells, and the decoder. -/
def StepPost (w : World) (F : Nat → Prop) (p : Nat) (r : Dec × Int) (e : Ending) (w' : World) : Prop :=
  e = .returned (.int .i64 r.2) ∧ (∃ vl vo vt, Rep w' (fun k => F k ∨ w.heap.size ≤ k) p vl vo vt r.1) ∧ Stay F w w'
/-- The bytes of a chunk. -/
def dataS (d : Dec) (c : Int) : Dec × Int := ({ d with out := d.out ++ [c], need := d.need - 1, st := if d.need - 1 = 0 then 2 else d.st }, 0)
theorem Rep.outTo {w w1 : World} {F : Nat → Prop} {p : Nat} {vl vo vt : Value} {d : Dec} {v1 : Value} {l1 : List Int} (h : Rep w F p vl vo vt d) (hg : w.grownBy w1 vo.ownBlock) (hat : v1.ownBlock = vo.ownBlock ∨ ∃ b, v1.ownBlock = some b ∧ w.heap.size ≤ b)
    (hR : (Kd.int .u8).R 5 w1 0 (fun k => (F k ∨ w.heap.size ≤ k) ∧ some k ≠ vl.ownBlock) v1 l1) : w1.heap[p]? = some (.cells (cellsOf p d vl vo vt) 57 (0, 0)) ∧ Rep (w1.setCell ⟨p, 4, none⟩ v1) (fun k => F k ∨ w.heap.size ≤ k) p vl v1 vt { d with out := l1 } ∧ Stay F w (w1.setCell ⟨p, 4, none⟩ v1) := by
  have hp := R_neT h.out h.blk ne_dec.1
  have hb : w1.heap[p]? = some (.cells (cellsOf p d vl vo vt) 57 (0, 0)) := (hg.block p h.lt hp).trans h.blk
  refine ⟨hb, Rep.store hb rfl (.inl h.inF) (Kd.R_mono (Kd.R_after h.line hg hat) (fun k hk => ⟨.inl hk.1, hk.2⟩)) hR ?_, ?_⟩
  · refine Kd.R_mono (Kd.R_grown (row := vo.ownBlock) (Kd.R_bound h.tr) hg ?_) (fun k hk => .inl hk.1)
    rintro k ⟨_, _, _, q, hq, cells, hc⟩ he
    rcases List.mem_cons.1 hq with rfl | h2
    · exact R_neT h.out hc ne_dec.2.2.2 he
    · exact absurd h2 (by simp [fldK, P.k62, Kd.iso, Kd.pair, Kd.string, Kd.scalar])
  · exact (Stay.grown hg (fun k hk => (h.out.1 k hk).1)).set h.inF _
set_option maxHeartbeats 4000000 in
set_option maxRecDepth 100000 in
theorem data_calls (w : World) (F : Nat → Prop) (p : Nat) (vl vo vt : Value) (d : Dec) (c : Int) (h : Rep w F p vl vo vt d) (hl : d.out.length ≤ 1099511627776) (hn1 : 1 ≤ d.need) (hn2 : d.need ≤ 9007199254740992) :
    Calls Tryd.prog 29 #[.pointer (some ⟨p, 0, none⟩), .int .u8 c] w (StepPost w F p (dataS d c)) := by
  have hz4 : w.cell? ⟨p, 4, none⟩ = some vo := (blk_cell h.blk 4).trans rfl
  have hf4 := blk_frozen h.blk 4
  obtain ⟨A, n, hv, hcap, hC⟩ := Kd.R_reads h.out
  have HR := Aside0.mk h
  have HL := Aside0.mk hl
  obtain ⟨N, hN⟩ : ∃ N, N = d.out.length := ⟨_, rfl⟩
  rw [← hN] at hv hC hcap
  have HNN := Aside0.mk hN
  obtain ⟨M, hM⟩ : ∃ M, M = d.need := ⟨_, rfl⟩
  rw [← hM] at hn1 hn2
  have HM := Aside0.mk hM
  obtain ⟨r, hr⟩ : ∃ r, r = dataS d c := ⟨_, rfl⟩
  rw [← hr]
  have HQ := Aside0.mk hr
  clear h hl hN hM hr
  subst hv
  go_enter Tryd.func29, Tryd.ntmps29
  go_wp2_with (at_builtin; refine Kd.R_append (Kd.int .u8) (w0 := w) 0 rfl (.tmp 9) (.tmp 11) 24 5 (.int .u8 0) 1 rfl Tryd.underlying24 info_u8 rfl (by decide) (by omega) _ d.out c [.int .u8 c] (fun k => (F k ∨ w.heap.size ≤ k) ∧ some k ≠ vl.ownBlock) (fun _ => False) rfl rfl ?aP (fun _ hk => hk.elim) ?aF ?aO ?aB ?aS ?aL ?_)
  case aP => rfl
  case aF => exact fun k hk => ⟨.inr hk, R_fresh HR.out.line k hk⟩
  case aO => exact Kd.R_mono HR.out.out (fun k hk => ⟨.inl hk.1, hk.2⟩)
  case aB => exact Below.refl _ _
  try (case aS => omega)
  case aL => have := HL.out; omega
  intro v1 w1 hR hb hg hat
  obtain ⟨hb1, hrep, hst⟩ := HR.out.outTo hg hat hR
  obtain ⟨A1, c1, e1⟩ := Kd.R_slice hR
  rw [List.length_append, List.length_singleton] at e1
  have hz4 : w1.cell? ⟨p, 4, none⟩ = some (.slice A N n) := (blk_cell hb1 4).trans rfl
  have hf4 := blk_frozen hb1 4
  have hz3 : w1.cell? ⟨p, 3, none⟩ = some (.func (.func (stF d.st)) #[.pointer (some ⟨p, 0, none⟩)] #[]) := (blk_cell hb1 3).trans rfl
  have hf3 := blk_frozen hb1 3
  have hz1 : w1.cell? ⟨p, 1, none⟩ = some (.int .i64 M) := by rw [HM.out]; exact (blk_cell hb1 1).trans rfl
  have hf1 := blk_frozen hb1 1
  have HP := Aside0.mk hrep
  have HS := Aside0.mk hst
  clear hR hb hg hat hb1 hrep hst
  subst e1
  by_cases hM0 : M - 1 = 0
  · have bM : (M - 1 == 0) = true := by simpa using hM0
    have e : dataS d c = ({ d with out := d.out ++ [c], need := 0, st := 2 }, 0) := by unfold dataS; rw [← HM.out, if_pos hM0, hM0]
    have HE := Aside0.mk e
    have HP1 := Aside0.mk (HP.out.scal (i := 1) (v := .int .i64 0) (d' := { d with out := d.out ++ [c], need := 0 }) rfl rfl rfl rfl)
    have HP2 := Aside0.mk (HP1.out.scal (i := 3) (v := .func (.func (stF 2)) #[.pointer (some ⟨p, 0, none⟩)] #[]) (d' := { d with out := d.out ++ [c], need := 0, st := 2 }) rfl rfl rfl rfl)
    have HS2 := Aside0.mk ((HS.out.set (p := ⟨p, 1, none⟩) HR.out.inF (.int .i64 0)).set (p := ⟨p, 3, none⟩) HR.out.inF (.func (.func (stF 2)) #[.pointer (some ⟨p, 0, none⟩)] #[]))
    clear e
    go_wp2
    go_ret
    rw [HQ.out, HE.out]
    exact ⟨rfl, ⟨_, _, _, HP2.out⟩, HS2.out⟩
  · have bM : (M - 1 == 0) = false := by simpa using hM0
    have e : dataS d c = ({ d with out := d.out ++ [c], need := M - 1 }, 0) := by unfold dataS; rw [← HM.out, if_neg hM0]
    have HE := Aside0.mk e
    have HP1 := Aside0.mk (HP.out.scal (i := 1) (v := .int .i64 (M - 1)) (d' := { d with out := d.out ++ [c], need := M - 1 }) rfl rfl rfl rfl)
    have HS2 := Aside0.mk (HS.out.set (p := ⟨p, 1, none⟩) HR.out.inF (.int .i64 (M - 1)))
    clear e
    go_wp2
    go_ret
    rw [HQ.out, HE.out]
    exact ⟨rfl, ⟨_, _, _, HP1.out⟩, HS2.out⟩
end Go.Proofs.YtcfmihghgecefaaDoor.Chk
/- Package chunked, by hand: what a byte behind a chunk's bytes does; own text of this session. -/
namespace Go.Proofs.YtcfmihghgecefaaDoor.Chk
open Go.RowKit Go.Proofs.YtcfmihghgecefaaDoorW.PrintWords Go.Proofs.YtcfmihghgecefaaDoorW.PrintLast
set_option linter.unusedVariables false
/-- Behind a chunk's bytes. -/
def endS (d : Dec) (c : Int) : Dec × Int :=
  if c ≠ (if d.line.length = 1 then 10 else 13) then (d, 100)
  else if c = 10 then ({ d with line := [], st := 0 }, 0)
  else ({ d with line := d.line ++ [c] }, 0)
set_option maxHeartbeats 4000000 in
set_option maxRecDepth 100000 in
theorem end_1x (w : World) (F : Nat → Prop) (p : Nat) (vl vo vt : Value) (d : Dec) (c : Int) (h : Rep w F p vl vo vt d) (hl : d.line.length ≤ 1099511627776) (hn : d.line.length = 1) (hc : ¬ c = 10) :
    Calls Tryd.prog 37 #[.pointer (some ⟨p, 0, none⟩), .int .u8 c] w (StepPost w F p (d, 100)) := by
  have hz2 : w.cell? ⟨p, 2, none⟩ = some vl := (blk_cell h.blk 2).trans rfl
  have hf2 := blk_frozen h.blk 2
  obtain ⟨A, n, hv, hcap, hC⟩ := Kd.R_reads h.line
  have HR := Aside0.mk h
  have HL := Aside0.mk hl
  obtain ⟨N, hN⟩ : ∃ N, N = d.line.length := ⟨_, rfl⟩
  rw [← hN] at hv hC hcap hn
  have HNN := Aside0.mk hN
  clear h hl hN
  subst hv
  subst hn
  have bc : (c != 10) = true := by simpa using hc
  go_enter Tryd.func37, Tryd.ntmps37
  go_wp2
  go_ret
  exact ⟨rfl, ⟨_, _, _, HR.out.mono (fun _ hk => .inl hk)⟩, Stay.refl _ _⟩
set_option maxHeartbeats 4000000 in
set_option maxRecDepth 100000 in
theorem end_x (w : World) (F : Nat → Prop) (p : Nat) (vl vo vt : Value) (d : Dec) (c : Int) (h : Rep w F p vl vo vt d) (hl : d.line.length ≤ 1099511627776) (hn : ¬ d.line.length = 1) (hc : ¬ c = 13) :
    Calls Tryd.prog 37 #[.pointer (some ⟨p, 0, none⟩), .int .u8 c] w (StepPost w F p (d, 100)) := by
  have hz2 : w.cell? ⟨p, 2, none⟩ = some vl := (blk_cell h.blk 2).trans rfl
  have hf2 := blk_frozen h.blk 2
  obtain ⟨A, n, hv, hcap, hC⟩ := Kd.R_reads h.line
  have HR := Aside0.mk h
  have HL := Aside0.mk hl
  obtain ⟨N, hN⟩ : ∃ N, N = d.line.length := ⟨_, rfl⟩
  rw [← hN] at hv hC hcap hn
  have HNN := Aside0.mk hN
  clear h hl hN
  subst hv
  have bn : ((N : Int) == 1) = false := by simpa using (show ¬ (N : Int) = 1 from by omega)
  have bc : (c != 13) = true := by simpa using hc
  go_enter Tryd.func37, Tryd.ntmps37
  go_wp2
  go_ret
  exact ⟨rfl, ⟨_, _, _, HR.out.mono (fun _ hk => .inl hk)⟩, Stay.refl _ _⟩
set_option maxHeartbeats 4000000 in
set_option maxRecDepth 100000 in
theorem end_13 (w : World) (F : Nat → Prop) (p : Nat) (vl vo vt : Value) (d : Dec) (c : Int) (h : Rep w F p vl vo vt d) (hl : d.line.length ≤ 1099511627776) (hn : ¬ d.line.length = 1) (hc : c = 13) :
    Calls Tryd.prog 37 #[.pointer (some ⟨p, 0, none⟩), .int .u8 c] w (StepPost w F p ({ d with line := d.line ++ [13] }, 0)) := by
  have hz2 : w.cell? ⟨p, 2, none⟩ = some vl := (blk_cell h.blk 2).trans rfl
  have hf2 := blk_frozen h.blk 2
  obtain ⟨A, n, hv, hcap, hC⟩ := Kd.R_reads h.line
  have HR := Aside0.mk h
  have HL := Aside0.mk hl
  obtain ⟨N, hN⟩ : ∃ N, N = d.line.length := ⟨_, rfl⟩
  rw [← hN] at hv hC hcap hn
  have HNN := Aside0.mk hN
  clear h hl hN
  subst hv
  subst hc
  have bn : ((N : Int) == 1) = false := by simpa using (show ¬ (N : Int) = 1 from by omega)
  go_enter Tryd.func37, Tryd.ntmps37
  go_wp2_with (at_builtin; refine Kd.R_append (Kd.int .u8) (w0 := w) 0 rfl (.tmp 19) (.tmp 21) 24 5 (.int .u8 0) 1 rfl Tryd.underlying24 info_u8 rfl (by decide) (by omega) _ d.line 13 [.int .u8 13] (fun k => (F k ∨ w.heap.size ≤ k) ∧ some k ≠ vo.ownBlock) (fun _ => False) rfl rfl ?aP (fun _ hk => hk.elim) ?aF ?aO ?aB ?aS ?aL ?_)
  case aP => rfl
  case aF => exact fun k hk => ⟨.inr hk, R_fresh HR.out.out k hk⟩
  case aO => exact Kd.R_mono HR.out.line (fun k hk => ⟨.inl hk.1, hk.2⟩)
  case aB => exact Below.refl _ _
  try (case aS => omega)
  case aL => have := HL.out; omega
  intro v1 w1 hR hb hg hat
  obtain ⟨hb1, hrep, hst⟩ := HR.out.lineTo hg hat hR
  obtain ⟨A1, c1, e1⟩ := Kd.R_slice hR
  rw [List.length_append, List.length_singleton] at e1
  have hz2 : w1.cell? ⟨p, 2, none⟩ = some (.slice A N n) := (blk_cell hb1 2).trans rfl
  have hf2 := blk_frozen hb1 2
  have hz3 : w1.cell? ⟨p, 3, none⟩ = some (.func (.func (stF d.st)) #[.pointer (some ⟨p, 0, none⟩)] #[]) := (blk_cell hb1 3).trans rfl
  have hf3 := blk_frozen hb1 3
  have HP := Aside0.mk hrep
  have HS := Aside0.mk hst
  clear hR hb hg hat hb1 hrep hst
  subst e1
  go_wp2
  go_ret
  exact ⟨rfl, ⟨_, _, _, HP.out⟩, HS.out⟩
set_option maxHeartbeats 4000000 in
set_option maxRecDepth 100000 in
theorem end_10 (w : World) (F : Nat → Prop) (p : Nat) (vl vo vt : Value) (d : Dec) (c : Int) (h : Rep w F p vl vo vt d) (hl : d.line.length ≤ 1099511627776) (hn : d.line.length = 1) (hc : c = 10) :
    Calls Tryd.prog 37 #[.pointer (some ⟨p, 0, none⟩), .int .u8 c] w (StepPost w F p ({ d with line := [], st := 0 }, 0)) := by
  have hz2 : w.cell? ⟨p, 2, none⟩ = some vl := (blk_cell h.blk 2).trans rfl
  have hf2 := blk_frozen h.blk 2
  obtain ⟨A, n, hv, hcap, hC⟩ := Kd.R_reads h.line
  have HR := Aside0.mk h
  have HL := Aside0.mk hl
  obtain ⟨N, hN⟩ : ∃ N, N = d.line.length := ⟨_, rfl⟩
  rw [← hN] at hv hC hcap hn
  have HNN := Aside0.mk hN
  clear h hl hN
  subst hv
  subst hc
  subst hn
  go_enter Tryd.func37, Tryd.ntmps37
  go_wp2_with (at_builtin; refine Kd.R_append (Kd.int .u8) (w0 := w) 0 rfl (.tmp 19) (.tmp 21) 24 5 (.int .u8 0) 1 rfl Tryd.underlying24 info_u8 rfl (by decide) (by omega) _ d.line 10 [.int .u8 10] (fun k => (F k ∨ w.heap.size ≤ k) ∧ some k ≠ vo.ownBlock) (fun _ => False) rfl rfl ?aP (fun _ hk => hk.elim) ?aF ?aO ?aB ?aS ?aL ?_)
  case aP => rfl
  case aF => exact fun k hk => ⟨.inr hk, R_fresh HR.out.out k hk⟩
  case aO => exact Kd.R_mono HR.out.line (fun k hk => ⟨.inl hk.1, hk.2⟩)
  case aB => exact Below.refl _ _
  try (case aS => omega)
  case aL => have := HL.out; omega
  intro v1 w1 hR hb hg hat
  obtain ⟨hb1, hrep, hst⟩ := HR.out.lineTo hg hat hR
  obtain ⟨A1, c1, e1⟩ := Kd.R_slice hR
  rw [List.length_append, List.length_singleton] at e1
  have hz2 : w1.cell? ⟨p, 2, none⟩ = some (.slice A 1 n) := (blk_cell hb1 2).trans rfl
  have hf2 := blk_frozen hb1 2
  have hz3 : w1.cell? ⟨p, 3, none⟩ = some (.func (.func (stF d.st)) #[.pointer (some ⟨p, 0, none⟩)] #[]) := (blk_cell hb1 3).trans rfl
  have hf3 := blk_frozen hb1 3
  have HP := Aside0.mk hrep
  have HS := Aside0.mk hst
  clear hR hb hg hat hb1 hrep hst
  subst e1
  have HP1 := Aside0.mk HP.out.lineNil
  have HP2 := Aside0.mk (HP1.out.scal (i := 3) (v := .func (.func (stF 0)) #[.pointer (some ⟨p, 0, none⟩)] #[]) (d' := { d with line := [], st := 0 }) rfl rfl rfl rfl)
  have HS2 := Aside0.mk ((HS.out.set (p := ⟨p, 2, none⟩) HR.out.inF (.slice none 0 0)).set (p := ⟨p, 3, none⟩) HR.out.inF (.func (.func (stF 0)) #[.pointer (some ⟨p, 0, none⟩)] #[]))
  go_wp2
  go_ret
  exact ⟨rfl, ⟨_, _, _, HP2.out⟩, HS2.out⟩
theorem end_calls (w : World) (F : Nat → Prop) (p : Nat) (vl vo vt : Value) (d : Dec) (c : Int) (h : Rep w F p vl vo vt d) (hl : d.line.length ≤ 1099511627776) :
    Calls Tryd.prog 37 #[.pointer (some ⟨p, 0, none⟩), .int .u8 c] w (StepPost w F p (endS d c)) := by
  unfold endS
  by_cases hn : d.line.length = 1
  · rw [if_pos hn]
    by_cases hc : c = 10
    · rw [if_neg (by simpa using hc), if_pos hc]
      exact end_10 w F p vl vo vt d c h hl hn hc
    · rw [if_pos hc]
      exact end_1x w F p vl vo vt d c h hl hn hc
  · rw [if_neg hn]
    by_cases hc : c = 13
    · rw [if_neg (by simpa using hc), if_neg (by omega), hc]
      exact end_13 w F p vl vo vt d 13 h hl hn rfl
    · rw [if_pos hc]
      exact end_x w F p vl vo vt d c h hl hn hc
end Go.Proofs.YtcfmihghgecefaaDoor.Chk
