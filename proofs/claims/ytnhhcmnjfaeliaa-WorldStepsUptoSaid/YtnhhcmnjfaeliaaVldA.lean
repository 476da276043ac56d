/- Package world, by hand: rows of numbers that may begin inside their block, and append onto them; own text of this session. -/
import Derived.Test.YtnhhcmnjfaeliaaProg
import Derived.Test.YtnhhcmnjfaeliaaWWords
import Derived.Test.YtnhhcmnjfaeliaaWLast
import Derived.Test.YtnhhcmnjfaeliaaWMore
import Derived.Deep.AppendSrc
import Derived.Deep.RegionLaw
import Derived.Lib.SliceRun
import Derived.Maps.Own
import Derived.Maps.OwnOps
import Derived.Maps.OwnSet
import Derived.Maps.Views
import Derived.Maps.RangeWalk
import Derived.Test.YtnhhcmnjfaeliaaShelf
import Derived.Handy
import Derived.Deep.RegionWith
namespace Go.Proofs.Ytnhhcmnjfaeliaa.Wld
open Go.RowKit Go.Proofs.YtnhhcmnjfaeliaaW.PrintWords Go.Proofs.YtnhhcmnjfaeliaaW.PrintLast
set_option linter.unusedVariables false
set_option linter.unusedSimpArgs false
/-- Blocks outside of F stay. -/
structure Stay (F : Nat → Prop) (w w' : World) : Prop where
  os : w'.os = w.os
  tape : w'.tape = w.tape
  output : w'.output = w.output
  size : w.heap.size ≤ w'.heap.size
  block : ∀ k, k < w.heap.size → ¬ F k → w'.heap[k]? = w.heap[k]?
theorem Stay.refl (F : Nat → Prop) (w : World) : Stay F w w := ⟨rfl, rfl, rfl, Nat.le_refl _, fun _ _ _ => rfl⟩
theorem Stay.trans {F G : Nat → Prop} {a b c : World} (h : Stay F a b) (k : Stay G b c) (hG : ∀ i, G i → F i ∨ a.heap.size ≤ i) : Stay F a c :=
  ⟨k.os.trans h.os, k.tape.trans h.tape, k.output.trans h.output, Nat.le_trans h.size k.size, fun i hi hF => (k.block i (Nat.lt_of_lt_of_le hi h.size) (fun hg => (hG i hg).elim hF (fun h2 => by omega))).trans (h.block i hi hF)⟩
theorem Stay.mono {F G : Nat → Prop} {a b : World} (h : Stay F a b) (hF : ∀ i, F i → G i) : Stay G a b := ⟨h.os, h.tape, h.output, h.size, fun i hi hG => h.block i hi (fun hf => hG (hF i hf))⟩
theorem Stay.grown {F : Nat → Prop} {a b : World} {row : Option Nat} (h : a.grownBy b row) (hr : ∀ k, row = some k → F k) : Stay F a b :=
  ⟨h.os, h.tape, h.output, h.size, fun i hi hF => h.block i hi (fun e => hF (hr i e.symm))⟩
theorem Stay.below {F : Nat → Prop} {a b : World} (h : Below a.heap.size a b) : Stay F a b := ⟨h.os, h.tape, h.output, h.size, fun i hi _ => h.block i hi⟩
theorem set_size (w : World) (p : Addr) (u : Value) : (w.setCell p u).heap.size = w.heap.size := by unfold World.setCell; split <;> simp
theorem Stay.set {F : Nat → Prop} {a b : World} (h : Stay F a b) {p : Addr} (hp : F p.block) (u : Value) : Stay F a (b.setCell p u) := by
  refine ⟨h.os, h.tape, h.output, by rw [set_size]; exact h.size, fun i hi hF => ?_⟩
  exact (Below.heap_setCell b p u i (fun e => hF (by rw [e]; exact hp))).trans (h.block i hi hF)
theorem Stay.out {F : Nat → Prop} {B : Nat} {w a b : World} (h : Stay F a b) (hb : Below B w a) (hF : ∀ i, F i → B ≤ i) (hB : B ≤ a.heap.size) : Below B w b :=
  ⟨h.os.trans hb.os, h.tape.trans hb.tape, h.output.trans hb.output, Nat.le_trans hb.size h.size, fun i hi => (h.block i (Nat.lt_of_lt_of_le hi hB) (fun hf => by have := hF i hf; omega)).trans (hb.block i hi)⟩
theorem stay_low {F : Nat → Prop} {w w1 w2 : World} (h : Stay F w w1) (hb : Below w1.heap.size w1 w2) : Stay F w w2 := h.trans (Stay.below (F := fun _ => False) hb) (fun i hi => hi.elim)
def Row (k : IntKind) (e : TypeId) (w : World) (v : Value) (xs : List Int) : Prop := QRow w 0 e 1 v xs.length (nums k xs)
section
variable {k : IntKind} {e : TypeId} {w w' : World} {v : Value} {xs : List Int}
theorem Row.nil (k : IntKind) (e : TypeId) (w : World) : Row k e w (.slice none 0 0) [] := ⟨rfl, .inl ⟨rfl, none, rfl, fun a ha => by cases ha⟩⟩
theorem Row.keep (h : Row k e w v xs) (hk : ∀ i, v.ownBlock = some i → i < w.heap.size → w'.heap[i]? = w.heap[i]?) : Row k e w' v xs := q_move h (fun i hi => hk i hi (q_lt h i hi))
theorem Row.below (h : Row k e w v xs) (hb : Below w.heap.size w w') : Row k e w' v xs := h.keep (fun i _ hi => hb.block i hi)
theorem Row.slice (h : Row k e w v xs) : ∃ A c, v = .slice A xs.length c ∧ xs.length ≤ c := q_slice h
theorem Row.lt (h : Row k e w v xs) (i : Nat) (hi : v.ownBlock = some i) : i < w.heap.size := q_lt h i hi
theorem Row.typed (h : Row k e w v xs) (i : Nat) (hi : v.ownBlock = some i) : ∃ cells, w.heap[i]? = some (.cells cells e (0, 0)) := (q_typed h i hi).2
theorem Row.Q (h : Row k e w v xs) : (Kd.int k).Q e w 0 (fun _ => True) v xs := ⟨fun _ _ => trivial, nums k xs, h, Kd.reps_scalar xs⟩
theorem Row.C {A : Option Addr} {n c : Nat} (h : Row k e w (.slice A n c) xs) : n = xs.length ∧ n ≤ c ∧ (Kd.int k).C w A xs.length xs := Kd.Q_reads' h.Q
theorem nums_drop (k : IntKind) (xs : List Int) (m : Nat) : (nums k xs).drop (m * 1) = nums k (xs.drop m) := by
  unfold nums
  rw [Nat.mul_one, List.map_drop]
theorem Row.drop {A : Option Addr} {m n c : Nat} (h : Row k e w (.slice A n c) xs) (hm : m ≤ n) : Row k e w (.slice (if c = m then A else A.map (·.add m)) (n - m) (c - m)) (xs.drop m) := by
  have hn := h.C.1
  subst hn
  have h2 := q_drop (k := m) h hm
  rw [nums_drop] at h2
  unfold Row
  rw [List.length_drop]
  simpa using h2
end
section
variable {P : Program}
theorem run_append_none (w : World) (t tx ty e : TypeId) (i : TypeInfo) (ht : P.underlying t = some (.slice e)) (hi : P.info? e = some i) (base : Option Addr) (sLen sCap : Nat) (x : Value) (hs : Src P i.size tx x 0 [] w) (hroom : sLen ≤ sCap) :
    (Builtin.append_ #[t, tx] ty #[.slice base sLen sCap, x]).run P w = .ok (.slice base sLen sCap) w := by
  cases base with
  | none => rcases hs.kind with ⟨e', hk⟩ | hk <;> simp [Builtin.append_, run_underlying ht, run_underlying hk, sizeOf, typeInfo, hi, hs.len, hroom, hs.cells]
  | some a =>
    rcases hs.kind with ⟨e', hk⟩ | hk <;> simp [Builtin.append_, run_underlying ht, run_underlying hk, sizeOf, typeInfo, hi, hs.len, hroom, hs.cells, storeCells]
theorem row_append {k : IntKind} {t e : TypeId} {bytes : Nat} (ht : P.underlying t = some (.slice e)) (hinfo : (P.info? e).map (fun i => (i.zero, i.size, i.bytes)) = some (some (.int k 0), 1, bytes)) (hb0 : 0 < bytes)
    (W : World) {v : Value} {xs : List Int} (h : Row k e W v xs) {A : Option Addr} {n c : Nat} {b : List Int} (hC : (Kd.int k).C W A b.length b) (hn : n = b.length) (hl : (xs.length + b.length) * bytes ≤ 140737488355328) (ty : TypeId) :
    ∃ v1 w1, (Builtin.append_ #[t, t] ty #[v, .slice A n c]).run P W = .ok v1 w1 ∧ Row k e w1 v1 (xs ++ b) ∧ W.grownBy w1 v.ownBlock ∧ (v1.ownBlock = v.ownBlock ∨ ∃ i, v1.ownBlock = some i ∧ W.heap.size ≤ i) := by
  subst hn
  obtain ⟨i0, hi, hzz⟩ := Option.map_eq_some_iff.1 hinfo
  simp only [Prod.mk.injEq] at hzz
  obtain ⟨hz0, hz1, hz2⟩ := hzz
  have hrd := Kd.reads_of_C (enc := Value.int k) (d := (0 : Int)) (h1 := fun _ => rfl) hC
  by_cases hb : b = []
  · subst hb
    obtain ⟨A0, c0, rfl, hc0⟩ := h.slice
    refine ⟨_, W, ?_, by rw [List.append_nil]; exact h, ⟨rfl, rfl, rfl, Nat.le_refl _, fun _ _ _ => rfl⟩, .inl rfl⟩
    have hsrc : Src P i0.size t (.slice A 0 c) 0 [] W := by
      cases A with
      | none => exact Src.ofNil W ht c
      | some a => exact Src.ofSlice W ht a 0 c [] (by simp) (fun j u hu => by simp at hu) (fun u hu => by cases hu)
    exact run_append_none W t t ty e i0 ht hi A0 xs.length c0 _ hsrc hc0
  · have hpos := List.length_pos_iff.2 hb
    obtain ⟨ad, rfl, hcell⟩ := hrd.2.2 hpos
    have hlen : ∀ ys : List Int, (nums k ys).length = ys.length := fun ys => nums_length _ _
    have hle : xs.length + b.length ≤ 140737488355328 := Nat.le_trans (Nat.le_mul_of_pos_right _ hb0) hl
    obtain ⟨v1, w1, hr, hq, hg, hat⟩ := q_append W 0 t ty e i0 (.int k 0) 1 bytes ht hi hz0 hz1 hz2 rfl (by decide) v xs.length (nums k xs) h ad b.length c (nums k b) (by rw [hlen, Nat.mul_one])
      (fun j u hu => by
        have hj : j < b.length := by have := (List.getElem?_eq_some_iff.1 hu).1; rw [hlen] at this; exact this
        rw [hcell j hj, ← hu]
        simp [nums, hj, List.getD_eq_getElem?_getD])
      (fun u hu => by obtain ⟨x, _, rfl⟩ := List.mem_map.1 hu; rfl) hpos (by simp only [maxLen]; omega) hl (Nat.zero_le _)
    refine ⟨v1, w1, hr, ?_, hg, hat⟩
    unfold Row
    rw [List.length_append, nums_append]
    exact hq
variable {ops : Array Oper} {o : Oper} {a : Act} {Q : Exit → Act → World → Prop} {Kc : Act → World → Prop}
/-- append, as one step of a region that draws its order. -/
theorem step_append_row {k : IntKind} {t e : TypeId} {bytes : Nat} {W : World} (hw : Region.wanted o (yielded ops a.tmps) = true) (s x : Operand)
    (ho : o.op = .call { callee := .builtin .append, args := #[s, x], argTypes := #[t, t] })
    (ht : P.underlying t = some (.slice e)) (hinfo : (P.info? e).map (fun i => (i.zero, i.size, i.bytes)) = some (some (.int k 0), 1, bytes)) (hb0 : 0 < bytes)
    (v : Value) (xs : List Int) (A : Option Addr) (n c : Nat) (b : List Int) (hs : a.eval s = v) (hx : a.eval x = .slice A n c)
    (h : Row k e W v xs) (hC : (Kd.int k).C W A b.length b) (hn : n = b.length) (hl : (xs.length + b.length) * bytes ≤ 140737488355328)
    (hK : ∀ v1 w1, Row k e w1 v1 (xs ++ b) → W.grownBy w1 v.ownBlock → (v1.ownBlock = v.ownBlock ∨ ∃ i, v1.ownBlock = some i ∧ W.heap.size ≤ i) → Kc (a.put o.dst v1) w1) :
    if Region.wanted o (yielded ops a.tmps) = true then Oper.wp P o a W Kc Q else Kc (a.put o.dst undef) W := by
  rw [if_pos hw]
  obtain ⟨v1, w1, hr, h1, h2, h3⟩ := row_append ht hinfo hb0 W h (c := c) hC hn hl o.type
  unfold Oper.wp execOp
  simp only [ho, resolve, invoke, builtin, Sem.run_bind, Sem.run_pure, Result.andThen_ok, List.map_toArray, List.map_cons, List.map_nil, hs, hx, hr]
  exact hK v1 w1 h1 h2 h3
/-- append, as one step of a walk. -/
theorem append_row {k : IntKind} {t e : TypeId} {bytes : Nat} {W : World} {rest : List Oper} (hgd : o.guard = none) (s x : Operand)
    (ho : o.op = .call { callee := .builtin .append, args := #[s, x], argTypes := #[t, t] })
    (ht : P.underlying t = some (.slice e)) (hinfo : (P.info? e).map (fun i => (i.zero, i.size, i.bytes)) = some (some (.int k 0), 1, bytes)) (hb0 : 0 < bytes)
    (v : Value) (xs : List Int) (A : Option Addr) (n c : Nat) (b : List Int) (hs : a.eval s = v) (hx : a.eval x = .slice A n c)
    (h : Row k e W v xs) (hC : (Kd.int k).C W A b.length b) (hn : n = b.length) (hl : (xs.length + b.length) * bytes ≤ 140737488355328)
    (hK : ∀ v1 w1, Row k e w1 v1 (xs ++ b) → W.grownBy w1 v.ownBlock → (v1.ownBlock = v.ownBlock ∨ ∃ i, v1.ownBlock = some i ∧ W.heap.size ≤ i) → wpList P ops Q rest (a.put o.dst v1) w1) :
    wpList P ops Q (o :: rest) a W := by
  obtain ⟨v1, w1, hr, h1, h2, h3⟩ := row_append ht hinfo hb0 W h (c := c) hC hn hl o.type
  refine wpList_plain hgd fun K hK' => ?_
  unfold Oper.wp execOp
  simp only [ho, resolve, invoke, builtin, Sem.run_bind, Sem.run_pure, Result.andThen_ok, List.map_toArray, List.map_cons, List.map_nil, hs, hx, hr]
  exact hK' _ _ (hK v1 w1 h1 h2 h3)
end
end Go.Proofs.Ytnhhcmnjfaeliaa.Wld
/- Package world, by hand: what a world with one connection holds; own text of this session. -/
namespace Go.Proofs.Ytnhhcmnjfaeliaa.Wld
open Go.RowKit Go.Proofs.YtnhhcmnjfaeliaaW.PrintWords Go.Proofs.YtnhhcmnjfaeliaaW.PrintLast Go.Maps
set_option linter.unusedVariables false
set_option linter.unusedSimpArgs false
theorem info_u8 : (Try.prog.info? 5).map (fun i => (i.zero, i.size, i.bytes)) = some (some (.int .u8 0), 1, 1) := by kernel_rfl
theorem info_int : (Try.prog.info? 3).map (fun i => (i.zero, i.size, i.bytes)) = some (some (.int .i64 0), 1, 8) := by kernel_rfl
/-- How a map's element, a pointer to a block's front, reads. -/
def ptrE : Value → Option (DataW Unit × List MemPlace)
  | .pointer none => some (.nil, [])
  | .pointer (some ⟨b, 0, none⟩) => some (.lit (.int .i64 (b : Int)), [])
  | _ => none
theorem ptrE_none {v : Value} {ps : List MemPlace} (h : ptrE v = some (.nil, ps)) : v = .pointer none := by
  unfold ptrE at h
  split at h
  · rfl
  · simp at h
  · cases h
theorem ptrE_some {v : Value} {q : Nat} {ps : List MemPlace} (h : ptrE v = some (.lit (.int .i64 (q : Int)), ps)) : v = .pointer (some ⟨q, 0, none⟩) := by
  unfold ptrE at h
  split at h
  · simp at h
  · simp only [Option.some.injEq, Prod.mk.injEq, DataW.lit.injEq, Lit.int.injEq, true_and] at h
    have := h.1
    have h2 := Int.ofNat.inj this
    rw [h2]
  · cases h
theorem law : Keyed Try.prog 3 := int_keyed Try.underlying3
theorem zeroP (w : World) : (zeroValue 64).run Try.prog w = .ok (.pointer none) w := by kernel_rfl
abbrev Key (c : Int) : Lit := .int .i64 c
theorem key_of {c : Int} (hc : (Key c).wf = true) : keyOf Try.prog 3 (.int .i64 c) = some (Key c) := keyOf_int_mk Try.underlying3 hc
/-- The connections: one, at the block q. -/
def D1 (c : Int) (q : Nat) : DataW Unit := (DataW.map []).put (Key c) (.lit (.int .i64 (q : Int)))
theorem look_one {w : World} {bm n q : Nat} {c : Int} (h : w.ownsMap Try.prog 3 ptrE bm n (D1 c q)) (hc : (Key c).wf = true) :
    (Instr.lookup 53 (.map (some bm)) (.int .i64 c) false).run Try.prog w = .ok (.pointer (some ⟨q, 0, none⟩)) w := by
  obtain ⟨v, ps, hrun, hv⟩ := h.lookup law Try.underlying53 (zeroP w) (zd := .nil) (zp := []) rfl (key_of hc)
  unfold D1 at hv
  rw [atKey_put_same isMap_empty (law.key (key_of hc))] at hv
  rw [ptrE_some hv] at hrun
  exact hrun
theorem look_none {w : World} {bm n : Nat} {c : Int} (h : w.ownsMap Try.prog 3 ptrE bm n (.map [])) (hc : (Key c).wf = true) :
    (Instr.lookup 53 (.map (some bm)) (.int .i64 c) false).run Try.prog w = .ok (.pointer none) w := by
  obtain ⟨v, ps, hrun, hv⟩ := h.lookup law Try.underlying53 (zeroP w) (zd := .nil) (zp := []) rfl (key_of hc)
  rw [ptrE_none hv] at hrun
  exact hrun
def cellsP (bm : Nat) (vd : Value) : Array Value := #[.map (some bm), vd]
def cellsQ (en : Bool) (vw vs : Value) (room : Int) : Array Value := #[.bool true, .bool en, vw, vs, .int .i64 room]
/-- A world with one connection c, open, whose block is q: what waits (ws), what was sent (ss), the room, the numbers that were given (ds). -/
structure St (w : World) (p bm q : Nat) (vw vs vd : Value) (c : Int) (en : Bool) (ws ss : List Int) (room : Int) (ds : List Int) : Prop where
  blkP : w.heap[p]? = some (.cells (cellsP bm vd) 55 (0, 0))
  own : w.ownsMap Try.prog 3 ptrE bm 1 (D1 c q)
  blkQ : w.heap[q]? = some (.cells (cellsQ en vw vs room) 67 (0, 0))
  rw : Row .u8 5 w vw ws
  rs : Row .u8 5 w vs ss
  rd : Row .i64 3 w vd ds
  apart : ∀ i, vw.ownBlock = some i → vs.ownBlock = some i → False
/-- The blocks that it lives in. -/
def Ft (p bm q : Nat) (vw vs vd : Value) (k : Nat) : Prop := k = p ∨ k = bm ∨ k = q ∨ vw.ownBlock = some k ∨ vs.ownBlock = some k ∨ vd.ownBlock = some k
theorem ne_t : (5 : Nat) ≠ 55 ∧ (5 : Nat) ≠ 67 ∧ (3 : Nat) ≠ 55 ∧ (3 : Nat) ≠ 67 ∧ (3 : Nat) ≠ 5 ∧ (55 : Nat) ≠ 67 := by decide
theorem ne_blk {w : World} {i j : Nat} {C C' : Array Value} {t t' : TypeId} {f f' : Nat × Nat} (h : w.heap[i]? = some (.cells C t f)) (h' : w.heap[j]? = some (.cells C' t' f')) (ht : t ≠ t') : i ≠ j := by
  intro e
  rw [e, h'] at h
  injection h with h
  injection h with _ h2 _
  exact ht h2.symm
theorem ne_map {w : World} {i j n : Nat} {C : Array Value} {t : TypeId} {f : Nat × Nat} {D : DataW Unit} (h : w.heap[i]? = some (.cells C t f)) (h' : w.ownsMap Try.prog 3 ptrE j n D) : i ≠ j := by
  intro e
  obtain ⟨es, clock, hb, _⟩ := h'
  rw [e, hb] at h
  cases h
section
variable {w w1 w' : World} {p bm q : Nat} {vw vs vd : Value} {c : Int} {en : Bool} {ws ss : List Int} {room : Int} {ds : List Int}
theorem grown_below (hb : Below w.heap.size w w') (r : Option Nat) : w.grownBy w' r := ⟨hb.os, hb.tape, hb.output, hb.size, fun k hk _ => hb.block k hk⟩
theorem St.below (h : St w p bm q vw vs vd c en ws ss room ds) (hb : Below w.heap.size w w') : St w' p bm q vw vs vd c en ws ss room ds :=
  ⟨(hb.block p (blk_lt h.blkP)).trans h.blkP, h.own.kept (grown_below hb none) (by simp), (hb.block q (blk_lt h.blkQ)).trans h.blkQ, h.rw.below hb, h.rs.below hb, h.rd.below hb, h.apart⟩
theorem St.drew (h : St w p bm q vw vs vd c en ws ss room ds) : St w.drew p bm q vw vs vd c en ws ss room ds := h.below (below_drew (Below.refl _ _))
theorem St.lt (h : St w p bm q vw vs vd c en ws ss room ds) (k : Nat) (hk : Ft p bm q vw vs vd k) : k < w.heap.size := by
  rcases hk with rfl | rfl | rfl | hk | hk | hk
  · exact blk_lt h.blkP
  · exact h.own.lt
  · exact blk_lt h.blkQ
  · exact h.rw.lt k hk
  · exact h.rs.lt k hk
  · exact h.rd.lt k hk
theorem St.neW (h : St w p bm q vw vs vd c en ws ss room ds) (i : Nat) (hi : vw.ownBlock = some i) : i ≠ p ∧ i ≠ bm ∧ i ≠ q ∧ vd.ownBlock ≠ some i := by
  obtain ⟨C, hC⟩ := h.rw.typed i hi
  refine ⟨ne_blk hC h.blkP ne_t.1, ne_map hC h.own, ne_blk hC h.blkQ ne_t.2.1, fun hd => ?_⟩
  obtain ⟨C', hC'⟩ := h.rd.typed i hd
  exact ne_blk hC' hC ne_t.2.2.2.2.1 rfl
theorem St.neS (h : St w p bm q vw vs vd c en ws ss room ds) (i : Nat) (hi : vs.ownBlock = some i) : i ≠ p ∧ i ≠ bm ∧ i ≠ q ∧ vd.ownBlock ≠ some i := by
  obtain ⟨C, hC⟩ := h.rs.typed i hi
  refine ⟨ne_blk hC h.blkP ne_t.1, ne_map hC h.own, ne_blk hC h.blkQ ne_t.2.1, fun hd => ?_⟩
  obtain ⟨C', hC'⟩ := h.rd.typed i hd
  exact ne_blk hC' hC ne_t.2.2.2.2.1 rfl
theorem St.neD (h : St w p bm q vw vs vd c en ws ss room ds) (i : Nat) (hi : vd.ownBlock = some i) : i ≠ p ∧ i ≠ bm ∧ i ≠ q := by
  obtain ⟨C, hC⟩ := h.rd.typed i hi
  exact ⟨ne_blk hC h.blkP ne_t.2.2.1, ne_map hC h.own, ne_blk hC h.blkQ ne_t.2.2.2.1⟩
theorem St.nePQ (h : St w p bm q vw vs vd c en ws ss room ds) : p ≠ q ∧ p ≠ bm ∧ q ≠ bm := ⟨ne_blk h.blkP h.blkQ ne_t.2.2.2.2.2, ne_map h.blkP h.own, ne_map h.blkQ h.own⟩
/-- A store into the connection's block. -/
theorem St.setQ {j : Nat} {u : Value} {en' : Bool} {room' : Int} (h : St w p bm q vw vs vd c en ws ss room ds) (hC : (cellsQ en vw vs room).setIfInBounds j u = cellsQ en' vw vs room') : St (w.setCell ⟨q, j, none⟩ u) p bm q vw vs vd c en' ws ss room' ds :=
  ⟨(Below.heap_setCell _ _ _ _ h.nePQ.1).trans h.blkP, h.own.setCell (Ne.symm h.nePQ.2.2) u, by rw [blk_set h.blkQ, hC], h.rw.keep (fun i hi _ => Below.heap_setCell _ _ _ _ (h.neW i hi).2.2.1), h.rs.keep (fun i hi _ => Below.heap_setCell _ _ _ _ (h.neS i hi).2.2.1), h.rd.keep (fun i hi _ => Below.heap_setCell _ _ _ _ (h.neD i hi).2.2), h.apart⟩
theorem St.stayQ (h : St w p bm q vw vs vd c en ws ss room ds) (j : Nat) (u : Value) : Stay (Ft p bm q vw vs vd) w (w.setCell ⟨q, j, none⟩ u) := (Stay.refl _ _).set (.inr (.inr (.inl rfl))) u
/-- What waits turned. -/
theorem St.toW {vw1 : Value} {ws1 : List Int} (h : St w p bm q vw vs vd c en ws ss room ds) (hg : w.grownBy w1 vw.ownBlock) (hR : Row .u8 5 w1 vw1 ws1) (hat : ∀ i, vw1.ownBlock = some i → vw.ownBlock = some i ∨ w.heap.size ≤ i) :
    w1.heap[q]? = some (.cells (cellsQ en vw vs room) 67 (0, 0)) ∧ St (w1.setCell ⟨q, 2, none⟩ vw1) p bm q vw1 vs vd c en ws1 ss room ds ∧ (∀ k, Ft p bm q vw1 vs vd k → Ft p bm q vw vs vd k ∨ w.heap.size ≤ k) ∧ Stay (Ft p bm q vw vs vd) w (w1.setCell ⟨q, 2, none⟩ vw1) := by
  have nq : some q ≠ vw.ownBlock := fun e => (h.neW q e.symm).2.2.1 rfl
  have np : some p ≠ vw.ownBlock := fun e => (h.neW p e.symm).1 rfl
  have nm : some bm ≠ vw.ownBlock := fun e => (h.neW bm e.symm).2.1 rfl
  have hq : w1.heap[q]? = some (.cells (cellsQ en vw vs room) 67 (0, 0)) := (hg.block q (blk_lt h.blkQ) nq).trans h.blkQ
  have hp : w1.heap[p]? = some (.cells (cellsP bm vd) 55 (0, 0)) := (hg.block p (blk_lt h.blkP) np).trans h.blkP
  have hm := h.own.kept hg nm
  refine ⟨hq, ⟨(Below.heap_setCell _ _ _ _ h.nePQ.1).trans hp, hm.setCell (Ne.symm h.nePQ.2.2) _, blk_put hq 2 _ rfl, ?_, ?_, ?_, ?_⟩, ?_, (Stay.grown hg (fun k hk => .inr (.inr (.inr (.inl hk))))).set (.inr (.inr (.inl rfl))) _⟩
  · exact hR.keep (fun i hi _ => Below.heap_setCell _ _ _ _ (by
      obtain ⟨C, hC⟩ := hR.typed i hi
      exact ne_blk hC hq ne_t.2.1))
  · exact h.rs.keep (fun i hi hl => (Below.heap_setCell _ _ _ _ (h.neS i hi).2.2.1).trans (hg.block i hl (fun e => h.apart i e.symm hi)))
  · exact h.rd.keep (fun i hi hl => (Below.heap_setCell _ _ _ _ (h.neD i hi).2.2).trans (hg.block i hl (fun e => (h.neW i e.symm).2.2.2 hi)))
  · intro i hi hs
    rcases hat i hi with h2 | h2
    · exact h.apart i h2 hs
    · have := h.rs.lt i hs; omega
  · rintro k (hk | hk | hk | hk | hk | hk)
    · exact .inl (.inl hk)
    · exact .inl (.inr (.inl hk))
    · exact .inl (.inr (.inr (.inl hk)))
    · rcases hat k hk with h2 | h2
      · exact .inl (.inr (.inr (.inr (.inl h2))))
      · exact .inr h2
    · exact .inl (.inr (.inr (.inr (.inr (.inl hk)))))
    · exact .inl (.inr (.inr (.inr (.inr (.inr hk)))))
/-- What was sent turned. -/
theorem St.toS {vs1 : Value} {ss1 : List Int} (h : St w p bm q vw vs vd c en ws ss room ds) (hg : w.grownBy w1 vs.ownBlock) (hR : Row .u8 5 w1 vs1 ss1) (hat : ∀ i, vs1.ownBlock = some i → vs.ownBlock = some i ∨ w.heap.size ≤ i) :
    w1.heap[q]? = some (.cells (cellsQ en vw vs room) 67 (0, 0)) ∧ St (w1.setCell ⟨q, 3, none⟩ vs1) p bm q vw vs1 vd c en ws ss1 room ds ∧ (∀ k, Ft p bm q vw vs1 vd k → Ft p bm q vw vs vd k ∨ w.heap.size ≤ k) ∧ Stay (Ft p bm q vw vs vd) w (w1.setCell ⟨q, 3, none⟩ vs1) := by
  have nq : some q ≠ vs.ownBlock := fun e => (h.neS q e.symm).2.2.1 rfl
  have np : some p ≠ vs.ownBlock := fun e => (h.neS p e.symm).1 rfl
  have nm : some bm ≠ vs.ownBlock := fun e => (h.neS bm e.symm).2.1 rfl
  have hq : w1.heap[q]? = some (.cells (cellsQ en vw vs room) 67 (0, 0)) := (hg.block q (blk_lt h.blkQ) nq).trans h.blkQ
  have hp : w1.heap[p]? = some (.cells (cellsP bm vd) 55 (0, 0)) := (hg.block p (blk_lt h.blkP) np).trans h.blkP
  have hm := h.own.kept hg nm
  refine ⟨hq, ⟨(Below.heap_setCell _ _ _ _ h.nePQ.1).trans hp, hm.setCell (Ne.symm h.nePQ.2.2) _, blk_put hq 3 _ rfl, ?_, ?_, ?_, ?_⟩, ?_, (Stay.grown hg (fun k hk => .inr (.inr (.inr (.inr (.inl hk)))))).set (.inr (.inr (.inl rfl))) _⟩
  · exact h.rw.keep (fun i hi hl => (Below.heap_setCell _ _ _ _ (h.neW i hi).2.2.1).trans (hg.block i hl (fun e => h.apart i hi e.symm)))
  · exact hR.keep (fun i hi _ => Below.heap_setCell _ _ _ _ (by
      obtain ⟨C, hC⟩ := hR.typed i hi
      exact ne_blk hC hq ne_t.2.1))
  · exact h.rd.keep (fun i hi hl => (Below.heap_setCell _ _ _ _ (h.neD i hi).2.2).trans (hg.block i hl (fun e => (h.neS i e.symm).2.2.2 hi)))
  · intro i hi hs
    rcases hat i hs with h2 | h2
    · exact h.apart i hi h2
    · have := h.rw.lt i hi; omega
  · rintro k (hk | hk | hk | hk | hk | hk)
    · exact .inl (.inl hk)
    · exact .inl (.inr (.inl hk))
    · exact .inl (.inr (.inr (.inl hk)))
    · exact .inl (.inr (.inr (.inr (.inl hk))))
    · rcases hat k hk with h2 | h2
      · exact .inl (.inr (.inr (.inr (.inr (.inl h2)))))
      · exact .inr h2
    · exact .inl (.inr (.inr (.inr (.inr (.inr hk)))))
/-- The numbers turned. -/
theorem St.toD {vd1 : Value} {ds1 : List Int} (h : St w p bm q vw vs vd c en ws ss room ds) (hg : w.grownBy w1 vd.ownBlock) (hR : Row .i64 3 w1 vd1 ds1) (hat : ∀ i, vd1.ownBlock = some i → vd.ownBlock = some i ∨ w.heap.size ≤ i) :
    w1.heap[p]? = some (.cells (cellsP bm vd) 55 (0, 0)) ∧ St (w1.setCell ⟨p, 1, none⟩ vd1) p bm q vw vs vd1 c en ws ss room ds1 ∧ (∀ k, Ft p bm q vw vs vd1 k → Ft p bm q vw vs vd k ∨ w.heap.size ≤ k) ∧ Stay (Ft p bm q vw vs vd) w (w1.setCell ⟨p, 1, none⟩ vd1) := by
  have nq : some q ≠ vd.ownBlock := fun e => (h.neD q e.symm).2.2 rfl
  have np : some p ≠ vd.ownBlock := fun e => (h.neD p e.symm).1 rfl
  have nm : some bm ≠ vd.ownBlock := fun e => (h.neD bm e.symm).2.1 rfl
  have hq : w1.heap[q]? = some (.cells (cellsQ en vw vs room) 67 (0, 0)) := (hg.block q (blk_lt h.blkQ) nq).trans h.blkQ
  have hp : w1.heap[p]? = some (.cells (cellsP bm vd) 55 (0, 0)) := (hg.block p (blk_lt h.blkP) np).trans h.blkP
  have hm := h.own.kept hg nm
  refine ⟨hp, ⟨blk_put hp 1 _ rfl, hm.setCell (Ne.symm h.nePQ.2.1) _, (Below.heap_setCell _ _ _ _ (Ne.symm h.nePQ.1)).trans hq, ?_, ?_, ?_, h.apart⟩, ?_, (Stay.grown hg (fun k hk => .inr (.inr (.inr (.inr (.inr hk)))))).set (.inl rfl) _⟩
  · exact h.rw.keep (fun i hi hl => (Below.heap_setCell _ _ _ _ (h.neW i hi).1).trans (hg.block i hl (fun e => (h.neW i hi).2.2.2 e.symm)))
  · exact h.rs.keep (fun i hi hl => (Below.heap_setCell _ _ _ _ (h.neS i hi).1).trans (hg.block i hl (fun e => (h.neS i hi).2.2.2 e.symm)))
  · exact hR.keep (fun i hi _ => Below.heap_setCell _ _ _ _ (by
      obtain ⟨C, hC⟩ := hR.typed i hi
      exact ne_blk hC hp ne_t.2.2.1))
  · rintro k (hk | hk | hk | hk | hk | hk)
    · exact .inl (.inl hk)
    · exact .inl (.inr (.inl hk))
    · exact .inl (.inr (.inr (.inl hk)))
    · exact .inl (.inr (.inr (.inr (.inl hk))))
    · exact .inl (.inr (.inr (.inr (.inr (.inl hk)))))
    · rcases hat k hk with h2 | h2
      · exact .inl (.inr (.inr (.inr (.inr (.inr h2)))))
      · exact .inr h2
end
/-- What a call leaves: the state, whose blocks are those that were, or new; all else as it was. -/
def Next (w : World) (p bm q : Nat) (vw vs vd : Value) (c : Int) (en : Bool) (ws ss : List Int) (room : Int) (ds : List Int) (w' : World) : Prop :=
  ∃ vw' vs' vd', St w' p bm q vw' vs' vd' c en ws ss room ds ∧ (∀ k, Ft p bm q vw' vs' vd' k → Ft p bm q vw vs vd k ∨ w.heap.size ≤ k) ∧ Stay (Ft p bm q vw vs vd) w w'
set_option maxRecDepth 100000 in
theorem at_calls {w : World} {p bm q n : Nat} {vw vs vd : Value} {c : Int} {en : Bool} {room : Int} (hP : w.heap[p]? = some (.cells (cellsP bm vd) 55 (0, 0))) (hO : w.ownsMap Try.prog 3 ptrE bm n (D1 c q))
    (hQ : w.heap[q]? = some (.cells (cellsQ en vw vs room) 67 (0, 0))) (hc : (Key c).wf = true) :
    Calls Try.prog 33 #[.pointer (some ⟨p, 0, none⟩), .int .i64 c] w fun e w' => e = .returned (.pointer (some ⟨q, 0, none⟩)) ∧ w' = w := by
  have hz0 : w.cell? ⟨p, 0, none⟩ = some (.map (some bm)) := (blk_cell hP 0).trans rfl
  have hy0 : w.cell? ⟨q, 0, none⟩ = some (.bool true) := (blk_cell hQ 0).trans rfl
  have hlk := look_one hO hc
  clear hP hO hQ hc
  go_enter Try.func33, Try.ntmps33
  go_wp2
  go_ret
  exact ⟨rfl, rfl⟩
end Go.Proofs.Ytnhhcmnjfaeliaa.Wld
/- Package world, by hand: slices.Sort of one number at most; slices.Clone; what End, Waits, Arrive, Read come to; own text of this session. -/
namespace Go.Proofs.Ytnhhcmnjfaeliaa.Wld
open Go.RowKit Go.Proofs.YtnhhcmnjfaeliaaW.PrintWords Go.Proofs.YtnhhcmnjfaeliaaW.PrintLast Go.Maps
set_option linter.unusedVariables false
set_option linter.unusedSimpArgs false
set_option maxRecDepth 100000 in
theorem insertion_small (A : Option Addr) (n cap : Nat) (w : World) (hn : n ≤ 1) :
    Calls Try.prog 39 #[.slice A n cap, .int .i64 0, .int .i64 (n : Int)] w fun e w' => e = .returned (.tuple #[]) ∧ w' = w := by
  have h1 : ¬ (1 : Int) < (n : Int) := by omega
  go_enter Try.func39, Try.ntmps39
  go_wp2
  go_loopw [6] (fun v6 wr => v6 = .int .i64 1 ∧ wr = w) (fun _ _ => 0)
  case atStart => exact ⟨rfl, rfl⟩
  case round =>
    obtain ⟨rfl, rfl⟩ := hrel
    go_wp2
    go_end0
    exact ⟨rfl, rfl⟩
set_option maxRecDepth 100000 in
theorem pdq_small (A : Option Addr) (n cap : Nat) (l : Int) (w : World) (hn : n ≤ 1) :
    Calls Try.prog 37 #[.slice A n cap, .int .i64 0, .int .i64 (n : Int), .int .i64 l] w fun e w' => e = .returned (.tuple #[]) ∧ w' = w := by
  have h1 : (n : Int) ≤ 12 := by omega
  have HK := Aside0.mk (insertion_small A n cap w hn)
  go_enter Try.func37, Try.ntmps37
  go_wp2
  go_loopw [1, 2, 3] (fun v1 v2 v3 wr => v1 = .int .i64 0 ∧ v2 = .int .i64 (n : Int) ∧ v3 = .int .i64 l ∧ wr = w) (fun _ _ _ _ => 0)
  case atStart => exact ⟨rfl, rfl, rfl, rfl⟩
  case round =>
    obtain ⟨rfl, rfl, rfl, rfl⟩ := hrel
    go_wp2_with fail
    refine HK.out.mono ?_
    rintro e w1 ⟨rfl, rfl⟩
    go_wp2
    go_returns
    exact ⟨rfl, rfl⟩
set_option maxRecDepth 100000 in
theorem sort_small (A : Option Addr) (n cap : Nat) (w : World) (hn : n ≤ 1) :
    Calls Try.prog 36 #[.slice A n cap] w fun e w' => e = .returned (.tuple #[]) ∧ w' = w := by
  have HL := Aside0.mk (Try.bits_Len (n : Int) w (by omega) (by omega))
  obtain ⟨l, hl⟩ : ∃ l, l = (Lib.bitLen (n : Int).toNat) := ⟨_, rfl⟩
  rw [← hl] at HL
  have HK := Aside0.mk (pdq_small A n cap l w hn)
  clear hl
  have h0 : (n : Int) ≤ 1 := by omega
  go_enter Try.func36, Try.ntmps36
  go_wp2_with fail
  refine HL.out.mono ?_
  rintro e w1 ⟨rfl, rfl⟩
  go_wp2_with fail
  refine HK.out.mono ?_
  rintro e w1 ⟨rfl, rfl⟩
  go_wp2
  go_end0
  exact ⟨rfl, rfl⟩
theorem at_to {v v1 : Value} {n : Nat} (hat : v1.ownBlock = v.ownBlock ∨ ∃ i, v1.ownBlock = some i ∧ n ≤ i) : ∀ i, v1.ownBlock = some i → v.ownBlock = some i ∨ n ≤ i := by
  intro i hi
  rcases hat with h1 | ⟨j, h1, h2⟩
  · exact .inl (by rw [← h1]; exact hi)
  · rw [h1] at hi
    injection hi with hi
    exact .inr (by omega)
/-- A row of bytes of the call's own. -/
def CloneBPost (l : List Int) (w : World) (e : Ending) (w' : World) : Prop :=
  ∃ v, e = .returned v ∧ (Kd.int .u8).R 5 w' w.heap.size (fun _ => True) v l ∧ Below w.heap.size w w'
set_option maxHeartbeats 4000000 in
set_option maxRecDepth 100000 in
theorem cloneB_calls (l : List Int) (N : Nat) (hN : N = l.length) (A : Option Addr) (c : Nat) (w : World) (hr : Kd.C (Kd.int .u8) w A l.length l) (hc : N ≤ c) (hl : N ≤ 4294960000) :
    Calls Try.prog 35 #[.slice A N c] w (CloneBPost l w) := by
  cases A with
  | none =>
    have h0 : l = [] := by
      rcases l with _ | ⟨f, r⟩
      · rfl
      · obtain ⟨ad, h, _⟩ := hr.2.2 (by simp)
        cases h
    subst h0
    obtain rfl : N = 0 := hN
    have hq : ∀ W, (binOp .eql 30 (.slice none 0 c) (.slice none 0 0)).run Try.prog W = .ok (.bool true) W := fun W => Go.Lib.run_eql_slice_nil W 30 5 none 0 c 0 0 Try.underlying30
    clear hr hl
    go_enter Try.func35, Try.ntmps35
    go_wp2
    go_ret
    exact ⟨.slice none 0 0, rfl, Kd.R_nil _ _ _ _ _, Below.refl _ _⟩
  | some ad =>
    have HR := Aside0.mk hr
    have HL := Aside0.mk hl
    have HN := Aside0.mk hN
    have hOw : (w.alloc (.cells #[] 5)).ownsRow w.heap.size 5 1 (.slice (some ⟨w.heap.size, 0, none⟩) 0 0) 0 [] := by simpa using World.ownsRow_lit (base := w.heap.size) (e := 5) (size := 1) w #[] 0 (Nat.le_refl _) (by decide) (by rfl)
    have hO : (Kd.int .u8).R 5 (w.alloc (.cells #[] 5)) w.heap.size (fun _ => True) (.slice (some ⟨w.heap.size, 0, none⟩) 0 0) [] :=
      ⟨fun _ _ => trivial, [], hOw, Reps.none _ _⟩
    have HO := Aside0.mk hO
    have hq : ∀ W, (binOp .eql 30 (.slice (some ad) N c) (.slice none 0 0)).run Try.prog W = .ok (.bool false) W := fun W => Go.Lib.run_eql_slice_nil W 30 5 (some ad) N c 0 0 Try.underlying30
    clear hr hl hN hO hOw
    go_enter Try.func35, Try.ntmps35
    go_wp2_with (at_builtin; refine Kd.R_append_row (Value.int .u8) 0 (h1 := fun _ => rfl) (w0 := w.alloc (.cells #[] 5)) w.heap.size rfl (.tmp 5) (.tmp 6) 30 5 (.int .u8 0) 1 rfl Try.underlying30 info_u8 rfl (by decide) (.slice (some ⟨w.heap.size, 0, none⟩) 0 0) [] l (some ad) N c (fun _ => True) rfl rfl (fun _ _ => trivial) HO.out (by rw [HN.out]; exact Kd.C_alloc HR.out _) (Below.refl _ _) (below_size (below_alloc (Below.refl _ _) _)) (by have := HL.out; have := HN.out; simp only [List.length_nil]; omega) ?_; intro v1 w1 hR hb hg hat; have HR1 := Aside0.mk hR; have HB1 := Aside0.mk ((below_alloc (Below.refl w.heap.size w) (.cells #[] 5)).trans hb); clear hR hb hg hat)
    go_ret
    have h5 := HR1.out
    rw [List.nil_append] at h5
    exact ⟨v1, rfl, h5, HB1.out⟩
theorem C_take {w : World} {A : Option Addr} {n : Nat} {xs : List Int} (h : (Kd.int .u8).C w A n xs) (i : Nat) (hi : i ≤ n) : (Kd.int .u8).C w A i (xs.take i) :=
  Kd.C_of_reads (d := (0 : Int)) (h1 := fun _ => rfl) (ReadsOf.take_ (Kd.reads_of_C (enc := Value.int .u8) (d := (0 : Int)) (h1 := fun _ => rfl) h) i hi)
/-- A row that was copied: its block is new. -/
theorem R_row {w w' : World} {v : Value} {xs : List Int} (h : (Kd.int .u8).R 5 w' w.heap.size (fun _ => True) v xs) : Row .u8 5 w' v xs ∧ ∀ i, v.ownBlock = some i → w.heap.size ≤ i := by
  have hq := q_of_own (Kd.own_of_R h)
  exact ⟨q_lower hq (Nat.zero_le _), fun i hi => (q_typed hq i hi).1⟩
section
variable {w : World} {p bm q : Nat} {vw vs vd : Value} {c : Int} {en : Bool} {ws ss : List Int} {room : Int} {ds : List Int}
set_option maxRecDepth 100000 in
theorem end_calls (h : St w p bm q vw vs vd c en ws ss room ds) (hc : (Key c).wf = true) :
    Calls Try.prog 24 #[.pointer (some ⟨p, 0, none⟩), .int .i64 c] w fun e w' => e = .returned (.int .i64 0) ∧ Next w p bm q vw vs vd c true ws ss room ds w' := by
  have HA := Aside0.mk (at_calls h.blkP h.own h.blkQ hc)
  have H := Aside0.mk h
  have hz1 : w.cell? ⟨q, 1, none⟩ = some (.bool en) := (blk_cell h.blkQ 1).trans rfl
  have hf1 := blk_frozen h.blkQ 1
  clear h hc
  go_enter Try.func24, Try.ntmps24
  go_wp2_with (go_at_call 33; refine HA.out.mono ?_; rintro e w1 ⟨rfl, rfl⟩)
  go_ret
  exact ⟨rfl, vw, vs, vd, H.out.setQ rfl, fun k hk => .inl hk, H.out.stayQ _ _⟩
set_option maxRecDepth 100000 in
theorem waits_calls (h : St w p bm q vw vs vd c en ws ss room ds) (hc : (Key c).wf = true) :
    Calls Try.prog 7 #[.pointer (some ⟨p, 0, none⟩), .int .i64 c] w fun e w' => e = .returned (.tuple #[.int .i64 (ws.length : Int), .bool en]) ∧ Below w.heap.size w w' := by
  have HA := Aside0.mk (at_calls h.blkP h.own h.blkQ hc)
  obtain ⟨Aw, cw, rfl, _⟩ := h.rw.slice
  obtain ⟨W, hW⟩ : ∃ W, W = ws.length := ⟨_, rfl⟩
  rw [← hW] at h
  rw [← hW]
  have hz1 : w.cell? ⟨q, 1, none⟩ = some (.bool en) := (blk_cell h.blkQ 1).trans rfl
  have hz2 : w.cell? ⟨q, 2, none⟩ = some (.slice Aw W cw) := (blk_cell h.blkQ 2).trans rfl
  clear h hc hW
  go_enter Try.func7, Try.ntmps7
  go_wp2_with (go_at_call 33; refine HA.out.mono ?_; rintro e w1 ⟨rfl, rfl⟩)
  go_region
  all_goals
    go_wp2
    go_ret2
    exact ⟨rfl, below_drew (Below.refl _ _)⟩
set_option maxHeartbeats 4000000 in
set_option maxRecDepth 100000 in
theorem arrive_ok (h : St w p bm q vw vs vd c false ws ss room ds) (hc : (Key c).wf = true) (A : Option Addr) (n cb : Nat) (b : List Int) (hn : n = b.length) (hb : (Kd.int .u8).C w A b.length b) (hl : b.length + ws.length ≤ 1048576) :
    Calls Try.prog 17 #[.pointer (some ⟨p, 0, none⟩), .int .i64 c, .slice A n cb] w fun e w' => e = .returned (.int .i64 0) ∧ Next w p bm q vw vs vd c false (ws ++ b) ss room ds w' := by
  have HA := Aside0.mk (at_calls h.blkP h.own h.blkQ hc)
  obtain ⟨Aw, cw, rfl, _⟩ := h.rw.slice
  obtain ⟨W, hW⟩ : ∃ W, W = ws.length := ⟨_, rfl⟩
  have HW := Aside0.mk hW
  rw [← hW] at h ⊢
  have H := Aside0.mk h
  have HB := Aside0.mk hb
  have Hn := Aside0.mk hn
  have HL := Aside0.mk hl
  have hz1 : w.cell? ⟨q, 1, none⟩ = some (.bool false) := (blk_cell h.blkQ 1).trans rfl
  have hz2 : w.cell? ⟨q, 2, none⟩ = some (.slice Aw W cw) := (blk_cell h.blkQ 2).trans rfl
  have hs0 : 0 ≤ 1048576 - (W : Int) := by omega
  have hs1 : ¬ 1048576 - (W : Int) < (n : Int) := by omega
  have hW0 : (W : Int) ≤ 1048576 := by omega
  clear h hc hW hb hn hl
  go_enter Try.func17, Try.ntmps17
  go_wp2_with (first
    | (go_at_call 33; refine HA.out.mono ?_; rintro e w1 ⟨rfl, rfl⟩)
    | ((with_reducible refine gate_builtin (b := .append) (xs := #[.tmp 33, .tmp 34]) rfl ?_); at_builtin; refine append_row (bytes := 1) rfl (.tmp 33) (.tmp 34) rfl Try.underlying30 info_u8 (by decide) (.slice Aw W cw) ws A n cb b rfl rfl H.out.rw HB.out Hn.out (by have := HL.out; omega) ?_; intro v1 w2 hR hg hat; obtain ⟨A1, c1, e1, _⟩ := hR.slice; obtain ⟨N1, hN1⟩ : ∃ N, N = (ws ++ b).length := ⟨_, rfl⟩; rw [← hN1] at e1; clear hN1; obtain ⟨hq2, hst, hft, hsy⟩ := H.out.toW hg hR (at_to hat); have HSt := Aside0.mk hst; have HFt := Aside0.mk hft; have HSy := Aside0.mk hsy; have hy2 : w2.cell? ⟨q, 2, none⟩ = some (.slice Aw W cw) := (blk_cell hq2 2).trans rfl; have hf2 := blk_frozen hq2 2; clear hR hg hat hq2 hst hft hsy hz1 hz2; subst e1))
  go_ret
  exact ⟨rfl, _, vs, vd, HSt.out, HFt.out, HSy.out⟩
set_option maxRecDepth 100000 in
theorem arrive_long (h : St w p bm q vw vs vd c false ws ss room ds) (hc : (Key c).wf = true) (A : Option Addr) (n cb : Nat) (hw : ws.length ≤ 1048576) (hl : 1048576 < n + ws.length) :
    Calls Try.prog 17 #[.pointer (some ⟨p, 0, none⟩), .int .i64 c, .slice A n cb] w fun e w' => e = .returned (.int .i64 2) ∧ w' = w := by
  have HA := Aside0.mk (at_calls h.blkP h.own h.blkQ hc)
  obtain ⟨Aw, cw, rfl, _⟩ := h.rw.slice
  obtain ⟨W, hW⟩ : ∃ W, W = ws.length := ⟨_, rfl⟩
  rw [← hW] at h
  have hz1 : w.cell? ⟨q, 1, none⟩ = some (.bool false) := (blk_cell h.blkQ 1).trans rfl
  have hz2 : w.cell? ⟨q, 2, none⟩ = some (.slice Aw W cw) := (blk_cell h.blkQ 2).trans rfl
  have hs0 : 0 ≤ 1048576 - (W : Int) := by omega
  have hs1 : 1048576 - (W : Int) < (n : Int) := by omega
  have hW0 : (W : Int) ≤ 1048576 := by omega
  clear h hc hW hl hw
  go_enter Try.func17, Try.ntmps17
  go_wp2_with (go_at_call 33; refine HA.out.mono ?_; rintro e w1 ⟨rfl, rfl⟩)
  go_returns
  exact ⟨rfl, rfl⟩
end
end Go.Proofs.Ytnhhcmnjfaeliaa.Wld
/- Package world, by hand: what Read, Room, Write, Sent come to; own text of this session. -/
namespace Go.Proofs.Ytnhhcmnjfaeliaa.Wld
open Go.RowKit Go.Proofs.YtnhhcmnjfaeliaaW.PrintWords Go.Proofs.YtnhhcmnjfaeliaaW.PrintLast Go.Maps
set_option linter.unusedVariables false
set_option linter.unusedSimpArgs false
theorem cut_at (t e : TypeId) {i : TypeInfo} (ht : Try.prog.underlying t = some (.slice e)) (hi : Try.prog.info? e = some i) (hsz : i.size = 1) (A : Option Addr) (n c m : Nat) (hm : m ≤ n) :
    ∀ W : World, (Instr.slice t (.slice A n c) (some (.int .i64 (m : Int))) none none).run Try.prog W = .ok (.slice (if c = m then A else A.map (·.add m)) (n - m) (c - m)) W := by
  intro W
  have hel : Try.prog.elem t = e := by simp [Program.elem, ht]
  have hu : Try.prog.underlying t = some (.slice (Try.prog.elem t)) := by rw [hel]; exact ht
  rw [run_slice_l W t A n c hu .i64 (m : Int) (Int.natCast_nonneg _) (by omega), hel]
  simp [sizeOf, typeInfo, hi, hsz, sliced, Result.andThen]
theorem cut_own {A : Option Addr} {n c m n' c' : Nat} : ∀ i, (Value.slice (if c = m then A else A.map (·.add m)) n' c').ownBlock = some i → (Value.slice A n c).ownBlock = some i := by
  intro i hi
  split at hi
  · cases A with
    | none => simp [Value.ownBlock] at hi
    | some a => simpa [Value.ownBlock] using hi
  · cases A with
    | none => simp [Value.ownBlock] at hi
    | some a =>
      rw [Option.map_some] at hi
      have h2 : (a.add m).block = a.block := by unfold Addr.add; split <;> rfl
      simp only [Value.ownBlock] at hi ⊢
      rw [← hi, h2]
theorem grown_refl (w : World) (r : Option Nat) : w.grownBy w r := ⟨rfl, rfl, rfl, Nat.le_refl _, fun _ _ _ => rfl⟩
/-- What Read comes to. -/
def ReadPost (w : World) (p bm q : Nat) (vw vs vd : Value) (c : Int) (en : Bool) (ws ss : List Int) (room : Int) (ds : List Int) (m : Nat) (e : Ending) (w' : World) : Prop :=
  ∃ (A1 : Option Addr) (c1 : Nat) (vw' : Value), e = .returned (.tuple #[.slice A1 m c1, .int .i64 0]) ∧ St w' p bm q vw' vs vd c en (ws.drop m) ss room ds ∧ (∀ k, Ft p bm q vw' vs vd k → Ft p bm q vw vs vd k) ∧ Stay (Ft p bm q vw vs vd) w w' ∧
    Row .u8 5 w' (.slice A1 m c1) (ws.take m) ∧ (∀ i, (Value.slice A1 m c1).ownBlock = some i → w.heap.size ≤ i)
section
variable {w : World} {p bm q : Nat} {vw vs vd : Value} {c : Int} {en : Bool} {ws ss : List Int} {room : Int} {ds : List Int}
set_option maxHeartbeats 4000000 in
set_option maxRecDepth 100000 in
theorem read_calls (h : St w p bm q vw vs vd c en ws ss room ds) (hc : (Key c).wf = true) (hw : ws.length ≤ 1048576) (n : Int) (m : Nat) (hm : (m : Int) = max 0 (min n ws.length)) :
    Calls Try.prog 18 #[.pointer (some ⟨p, 0, none⟩), .int .i64 c, .int .i64 n] w (ReadPost w p bm q vw vs vd c en ws ss room ds m) := by
  have HA := Aside0.mk (at_calls h.blkP h.own h.blkQ hc)
  obtain ⟨Aw, cw, rfl, hcw⟩ := h.rw.slice
  obtain ⟨W, hW⟩ : ∃ W, W = ws.length := ⟨_, rfl⟩
  have HW := Aside0.mk hW
  rw [← hW] at h hcw hw hm ⊢
  have H := Aside0.mk h
  have hmW : m ≤ W := by omega
  have hz2 : w.cell? ⟨q, 2, none⟩ = some (.slice Aw W cw) := (blk_cell h.blkQ 2).trans rfl
  obtain ⟨i5, hi5, hzz⟩ := Option.map_eq_some_iff.1 info_u8
  simp only [Prod.mk.injEq] at hzz
  have hcut := cut_at 30 5 Try.underlying30 hi5 hzz.2.1 Aw W cw m hmW
  have hdrop := h.rw.drop hmW
  have hown := cut_own (A := Aw) (n := W) (c := cw) (m := m) (n' := W - m) (c' := cw - m)
  obtain ⟨A', hA'⟩ : ∃ A', A' = (if cw = m then Aw else Aw.map (·.add m)) := ⟨_, rfl⟩
  rw [← hA'] at hcut hdrop hown
  obtain ⟨N', hN'⟩ : ∃ x, x = W - m := ⟨_, rfl⟩
  obtain ⟨C', hC'⟩ : ∃ x, x = cw - m := ⟨_, rfl⟩
  rw [← hN', ← hC'] at hcut hdrop hown
  have HDr := Aside0.mk hdrop
  have HOw := Aside0.mk hown
  have htl : m = (ws.take m).length := by rw [List.length_take]; omega
  have Htl := Aside0.mk htl
  have HCl := Aside0.mk (cloneB_calls (ws.take m) m htl Aw cw w (by rw [← htl]; exact C_take (hW ▸ h.rw.C.2.2) m hmW) (by omega) (by omega))
  have hmc : m ≤ cw := by omega
  have hWn : (W : Int) ≤ 1048576 := by omega
  clear h hc hdrop hown hA' hN' hC' hi5 hzz htl hW hcw hw
  by_cases h1 : n < 0
  · obtain rfl : m = 0 := by omega
    have e1 : min n (W : Int) = n := by omega
    have e2 : max 0 n = 0 := by omega
    have h2 : n < (W : Int) := by omega
    have h3 : ¬ 0 < n := by omega
    have h4 : ¬ (W : Int) < n := by omega
    clear hm
    go_enter Try.func18, Try.ntmps18
    go_wp2_with (first
      | (go_at_call 33; refine HA.out.mono ?_; rintro e w1 ⟨rfl, rfl⟩)
      | (go_at_call 35; refine HCl.out.mono ?_; rintro e w2 ⟨v2, rfl, hR2, hb2⟩; obtain ⟨A1, c1, e1'⟩ := Kd.R_slice hR2; rw [← Htl.out] at e1'; subst e1'; have HB2 := Aside0.mk hb2; have HR2 := Aside0.mk (R_row hR2); have H2 := Aside0.mk (H.out.below hb2); have hy2 : w2.cell? ⟨q, 2, none⟩ = some (.slice Aw W cw) := (blk_cell H2.out.blkQ 2).trans rfl; have hf2 := blk_frozen H2.out.blkQ 2; clear hR2 hb2 hz2))
    go_ret2
    obtain ⟨_, hst, hft, hsy⟩ := H2.out.toW (grown_refl _ _) H2.out.rw (fun i hi => .inl hi)
    exact ⟨A1, c1, _, rfl, hst, fun k hk => (hft k hk).elim id (fun h5 => absurd (hst.lt k hk) (by rw [set_size]; omega)), (Stay.below HB2.out).trans hsy (fun k hk => .inl hk),
      HR2.out.1.keep (fun i hi hl => Below.heap_setCell _ _ _ _ (by have := HR2.out.2 i hi; have h6 := H.out.lt q (.inr (.inr (.inl rfl))); show i ≠ q; omega)), HR2.out.2⟩
  · by_cases h5 : n ≤ (W : Int)
    · obtain rfl : n = (m : Int) := by omega
      have e1 : min (m : Int) (W : Int) = (m : Int) := by omega
      have e2 : max 0 (m : Int) = (m : Int) := by omega
      have h4 : ¬ (W : Int) < (m : Int) := by omega
      clear hm h1
      go_enter Try.func18, Try.ntmps18
      go_wp2_with (first
        | (go_at_call 33; refine HA.out.mono ?_; rintro e w1 ⟨rfl, rfl⟩)
        | (go_at_call 35; refine HCl.out.mono ?_; rintro e w2 ⟨v2, rfl, hR2, hb2⟩; obtain ⟨A1, c1, e1'⟩ := Kd.R_slice hR2; rw [← Htl.out] at e1'; subst e1'; have HB2 := Aside0.mk hb2; have HR2 := Aside0.mk (R_row hR2); have H2 := Aside0.mk (H.out.below hb2); have hy2 : w2.cell? ⟨q, 2, none⟩ = some (.slice Aw W cw) := (blk_cell H2.out.blkQ 2).trans rfl; have hf2 := blk_frozen H2.out.blkQ 2; clear hR2 hb2 hz2))
      go_ret2
      obtain ⟨_, hst, hft, hsy⟩ := H2.out.toW (grown_refl _ _) (HDr.out.below HB2.out) (fun i hi => .inl (HOw.out i hi))
      exact ⟨A1, c1, _, rfl, hst, fun k hk => (hft k hk).elim id (fun h5 => absurd (hst.lt k hk) (by rw [set_size]; omega)), (Stay.below HB2.out).trans hsy (fun k hk => .inl hk),
        HR2.out.1.keep (fun i hi hl => Below.heap_setCell _ _ _ _ (by have := HR2.out.2 i hi; have h6 := H.out.lt q (.inr (.inr (.inl rfl))); show i ≠ q; omega)), HR2.out.2⟩
    · obtain rfl : m = W := by omega
      have e1 : min n (m : Int) = (m : Int) := by omega
      have e2 : max 0 (m : Int) = (m : Int) := by omega
      have h4 : (m : Int) < n := by omega
      have h6 : ¬ n < (m : Int) := by omega
      clear hm h1
      go_enter Try.func18, Try.ntmps18
      go_wp2_with (first
        | (go_at_call 33; refine HA.out.mono ?_; rintro e w1 ⟨rfl, rfl⟩)
        | (go_at_call 35; refine HCl.out.mono ?_; rintro e w2 ⟨v2, rfl, hR2, hb2⟩; obtain ⟨A1, c1, e1'⟩ := Kd.R_slice hR2; rw [← Htl.out] at e1'; subst e1'; have HB2 := Aside0.mk hb2; have HR2 := Aside0.mk (R_row hR2); have H2 := Aside0.mk (H.out.below hb2); have hy2 : w2.cell? ⟨q, 2, none⟩ = some (.slice Aw m cw) := (blk_cell H2.out.blkQ 2).trans rfl; have hf2 := blk_frozen H2.out.blkQ 2; clear hR2 hb2 hz2))
      go_ret2
      obtain ⟨_, hst, hft, hsy⟩ := H2.out.toW (grown_refl _ _) (HDr.out.below HB2.out) (fun i hi => .inl (HOw.out i hi))
      exact ⟨A1, c1, _, rfl, hst, fun k hk => (hft k hk).elim id (fun h5 => absurd (hst.lt k hk) (by rw [set_size]; omega)), (Stay.below HB2.out).trans hsy (fun k hk => .inl hk),
        HR2.out.1.keep (fun i hi hl => Below.heap_setCell _ _ _ _ (by have := HR2.out.2 i hi; have h6 := H.out.lt q (.inr (.inr (.inl rfl))); show i ≠ q; omega)), HR2.out.2⟩
set_option maxHeartbeats 4000000 in
set_option maxRecDepth 100000 in
theorem room_calls (h : St w p bm q vw vs vd c en ws ss room ds) (hc : (Key c).wf = true) (n : Int) (hn : 0 ≤ n) (hn2 : n ≤ 9007199254740992) (hr0 : 0 ≤ room) (hr1 : room ≤ 1048576) :
    Calls Try.prog 16 #[.pointer (some ⟨p, 0, none⟩), .int .i64 c, .int .i64 n] w fun e w' => e = .returned (.int .i64 0) ∧ Next w p bm q vw vs vd c en ws ss (room + min n (1048576 - room)) ds w' := by
  have HA := Aside0.mk (at_calls h.blkP h.own h.blkQ hc)
  have H := Aside0.mk h
  have hz4 : w.cell? ⟨q, 4, none⟩ = some (.int .i64 room) := (blk_cell h.blkQ 4).trans rfl
  have hf4 := blk_frozen h.blkQ 4
  have hn3 : ¬ n < 0 := by omega
  have hw1 : IntKind.i64.wrap (1048576 - room) = 1048576 - room := IntWalk.i64_in _ (by omega)
  obtain ⟨s, hs⟩ : ∃ s, s = room + min n (1048576 - room) := ⟨_, rfl⟩
  rw [← hs]
  clear h hc
  by_cases h1 : n ≤ 1048576 - room
  · have e1 : min n (1048576 - room) = n := by omega
    have e2 : IntKind.i64.wrap (room + n) = s := (IntWalk.i64_in _ (by omega)).trans (by omega)
    have h3 : ¬ 1048576 - room < n := by omega
    clear hs hr0 hr1 hn hn2
    go_enter Try.func16, Try.ntmps16
    go_wp2_with (go_at_call 33; refine HA.out.mono ?_; rintro e w1 ⟨rfl, rfl⟩)
    go_region
    all_goals
      go_wp2
      go_ret
      exact ⟨rfl, vw, vs, vd, (H.out.setQ rfl).below (below_drew (Below.refl _ _)), fun k hk => .inl hk, stay_low (H.out.stayQ _ _) (below_drew (Below.refl _ _))⟩
  · have e1 : min n (1048576 - room) = 1048576 - room := by omega
    have e2 : IntKind.i64.wrap (room + (1048576 - room)) = s := (IntWalk.i64_in _ (by omega)).trans (by omega)
    have h3 : 1048576 - room < n := by omega
    clear hs hr0 hr1 hn hn2
    go_enter Try.func16, Try.ntmps16
    go_wp2_with (go_at_call 33; refine HA.out.mono ?_; rintro e w1 ⟨rfl, rfl⟩)
    go_region
    all_goals
      go_wp2
      go_ret
      exact ⟨rfl, vw, vs, vd, (H.out.setQ rfl).below (below_drew (Below.refl _ _)), fun k hk => .inl hk, stay_low (H.out.stayQ _ _) (below_drew (Below.refl _ _))⟩
end
end Go.Proofs.Ytnhhcmnjfaeliaa.Wld
/- Package world, by hand: what Write, Sent, Give, Draw come to; own text of this session. -/
namespace Go.Proofs.Ytnhhcmnjfaeliaa.Wld
open Go.RowKit Go.Proofs.YtnhhcmnjfaeliaaW.PrintWords Go.Proofs.YtnhhcmnjfaeliaaW.PrintLast Go.Maps
set_option linter.unusedVariables false
set_option linter.unusedSimpArgs false
theorem C_blk {k : IntKind} {W : World} {b : Nat} {C : Array Value} {ty : TypeId} {fr : Nat × Nat} {xs : List Int} (h : W.heap[b]? = some (.cells C ty fr))
    (hc : ∀ i, i < xs.length → C[i]? = some (.int k (xs.getD i 0))) (hm : xs.length ≤ 9223372036854775807) : (Kd.int k).C W (some ⟨b, 0, none⟩) xs.length xs := by
  refine Kd.C_of_reads (d := (0 : Int)) (h1 := fun _ => rfl) ⟨rfl, hm, fun _ => ⟨_, rfl, fun j hj => ?_⟩⟩
  rw [add_plain]
  unfold World.cell?
  simp only [h, Option.isSome_none, Bool.false_eq_true, if_false]
  exact hc j hj
section
variable {w : World} {p bm q : Nat} {vw vs vd : Value} {c : Int} {en : Bool} {ws ss : List Int} {room : Int} {ds : List Int}
set_option maxHeartbeats 4000000 in
set_option maxRecDepth 100000 in
theorem write_calls (h : St w p bm q vw vs vd c en ws ss room ds) (hc : (Key c).wf = true) (A : Option Addr) (N cb : Nat) (b : List Int) (hN : N = b.length) (hcb : N ≤ cb) (hb : (Kd.int .u8).C w A b.length b) (n : Nat) (hn : (n : Int) = min (b.length : Int) room)
    (hr0 : 0 ≤ room) (hr1 : room ≤ 1048576) (hl : ss.length + n ≤ 140737488355328) :
    Calls Try.prog 19 #[.pointer (some ⟨p, 0, none⟩), .int .i64 c, .slice A N cb] w fun e w' => e = .returned (.tuple #[.int .i64 (n : Int), .int .i64 0]) ∧ Next w p bm q vw vs vd c en ws (ss ++ b.take n) (room - n) ds w' := by
  have HA := Aside0.mk (at_calls h.blkP h.own h.blkQ hc)
  obtain ⟨As, cs, rfl, hcs⟩ := h.rs.slice
  obtain ⟨S, hS⟩ : ∃ S, S = ss.length := ⟨_, rfl⟩
  have HSl := Aside0.mk hS
  rw [← hS] at h hl ⊢
  rw [← hN] at hn
  have H := Aside0.mk h
  have hnN : n ≤ N := by omega
  have hnc : n ≤ cb := by omega
  have htl : n = (b.take n).length := by rw [List.length_take]; omega
  have Htl := Aside0.mk htl
  have HCt := Aside0.mk (C_take hb n (by omega))
  have hz4 : w.cell? ⟨q, 4, none⟩ = some (.int .i64 room) := (blk_cell h.blkQ 4).trans rfl
  have hz3 : w.cell? ⟨q, 3, none⟩ = some (.slice As S cs) := (blk_cell h.blkQ 3).trans rfl
  have hk0 : 0 ≤ room - (n : Int) := by omega
  have hk1 : room - (n : Int) ≤ 1048576 := by omega
  have HL := Aside0.mk hl
  have hrest : True := trivial
  obtain ⟨T, hT⟩ : ∃ T, T = b.take n := ⟨_, rfl⟩
  rw [← hT] at Htl HCt
  rw [← hT]
  clear h hc htl hb hS hl hN hT
  by_cases h1 : (N : Int) ≤ room
  · obtain rfl : n = N := by omega
    have h3 : ¬ room < (n : Int) := by omega
    have e1 : min (n : Int) room = (n : Int) := by omega
    clear hn
    go_enter Try.func19, Try.ntmps19
    go_wp2_with (go_at_call 33; refine HA.out.mono ?_; rintro e w1 ⟨rfl, rfl⟩)
    go_region_law (refine step_append_row (bytes := 1) (by rfl) (.tmp 26) (.tmp 29) rfl Try.underlying30 info_u8 (by decide) (.slice As S cs) ss A n cb T rfl rfl H.out.drew.rs (by rw [← Htl.out]; exact Kd.C_below HCt.out (below_drew (Below.refl _ _))) Htl.out (by have := HL.out; have := HSl.out; have := Htl.out; omega) ?_; intro v1 w2 hR hg hat; obtain ⟨A1, c1, e1', _⟩ := hR.slice; obtain ⟨N1, hN1⟩ : ∃ N, N = (ss ++ T).length := ⟨_, rfl⟩; rw [← hN1] at e1'; clear hN1; obtain ⟨hq2, hst, hft, hsy⟩ := H.out.drew.toS hg hR (at_to hat); have HSt := Aside0.mk hst; have HFt := Aside0.mk hft; have HSy := Aside0.mk hsy; have hy3 : w2.cell? ⟨q, 3, none⟩ = some (.slice As S cs) := (blk_cell hq2 3).trans rfl; have hy4 : w2.cell? ⟨q, 4, none⟩ = some (.int .i64 room) := (blk_cell hq2 4).trans rfl; have hf3 := blk_frozen hq2 3; have hf4 := blk_frozen hq2 4; clear hR hg hat hq2 hst hft hsy; subst e1')
    all_goals
      go_wp2
      go_ret2
      exact ⟨rfl, _, _, _, HSt.out.setQ rfl, HFt.out, ((Stay.below (below_drew (Below.refl _ _))).trans HSy.out (fun k hk => .inl hk)).set (.inr (.inr (.inl rfl))) _⟩
  · obtain rfl : room = (n : Int) := by omega
    have h3 : (n : Int) < (N : Int) := by omega
    have e1 : min (N : Int) (n : Int) = (n : Int) := by omega
    clear hn h1
    go_enter Try.func19, Try.ntmps19
    go_wp2_with (go_at_call 33; refine HA.out.mono ?_; rintro e w1 ⟨rfl, rfl⟩)
    go_region_law (refine step_append_row (bytes := 1) (by rfl) (.tmp 26) (.tmp 29) rfl Try.underlying30 info_u8 (by decide) (.slice As S cs) ss A n cb T rfl rfl H.out.drew.rs (by rw [← Htl.out]; exact Kd.C_below HCt.out (below_drew (Below.refl _ _))) Htl.out (by have := HL.out; have := HSl.out; have := Htl.out; omega) ?_; intro v1 w2 hR hg hat; obtain ⟨A1, c1, e1', _⟩ := hR.slice; obtain ⟨N1, hN1⟩ : ∃ N, N = (ss ++ T).length := ⟨_, rfl⟩; rw [← hN1] at e1'; clear hN1; obtain ⟨hq2, hst, hft, hsy⟩ := H.out.drew.toS hg hR (at_to hat); have HSt := Aside0.mk hst; have HFt := Aside0.mk hft; have HSy := Aside0.mk hsy; have hy3 : w2.cell? ⟨q, 3, none⟩ = some (.slice As S cs) := (blk_cell hq2 3).trans rfl; have hy4 : w2.cell? ⟨q, 4, none⟩ = some (.int .i64 (n : Int)) := (blk_cell hq2 4).trans rfl; have hf3 := blk_frozen hq2 3; have hf4 := blk_frozen hq2 4; clear hR hg hat hq2 hst hft hsy; subst e1')
    all_goals
      go_wp2
      go_ret2
      exact ⟨rfl, _, _, _, HSt.out.setQ (by simp [cellsQ]), HFt.out, ((Stay.below (below_drew (Below.refl _ _))).trans HSy.out (fun k hk => .inl hk)).set (.inr (.inr (.inl rfl))) _⟩
set_option maxHeartbeats 4000000 in
set_option maxRecDepth 100000 in
theorem sent_calls (h : St w p bm q vw vs vd c en ws ss room ds) (hc : (Key c).wf = true) (hl : ss.length ≤ 4294960000) :
    Calls Try.prog 9 #[.pointer (some ⟨p, 0, none⟩), .int .i64 c] w fun e w' => ∃ (A1 : Option Addr) (c1 : Nat), e = .returned (.slice A1 ss.length c1) ∧ Row .u8 5 w' (.slice A1 ss.length c1) ss ∧ (∀ i, (Value.slice A1 ss.length c1).ownBlock = some i → w.heap.size ≤ i) ∧ Below w.heap.size w w' := by
  obtain ⟨As, cs, rfl, hcs⟩ := h.rs.slice
  obtain ⟨S, hS⟩ : ∃ S, S = ss.length := ⟨_, rfl⟩
  have HSl := Aside0.mk hS
  rw [← hS] at h hcs hl ⊢
  have hz0 : w.cell? ⟨p, 0, none⟩ = some (.map (some bm)) := (blk_cell h.blkP 0).trans rfl
  have hlk := look_one h.own hc
  have hz3 : w.cell? ⟨q, 3, none⟩ = some (.slice As S cs) := (blk_cell h.blkQ 3).trans rfl
  have HCl := Aside0.mk (cloneB_calls ss S hS As cs w (h.rs.C.2.2) hcs hl)
  clear h hc hcs hl hS
  go_enter Try.func9, Try.ntmps9
  go_wp2_with (go_at_call 35; refine HCl.out.mono ?_; rintro e w2 ⟨v2, rfl, hR2, hb2⟩; obtain ⟨A1, c1, e1'⟩ := Kd.R_slice hR2; rw [← HSl.out] at e1'; subst e1'; have HB2 := Aside0.mk hb2; have HR2 := Aside0.mk (R_row hR2); clear hR2 hb2)
  go_ret
  exact ⟨A1, c1, rfl, HR2.out.1, HR2.out.2, HB2.out⟩
set_option maxHeartbeats 4000000 in
set_option maxRecDepth 100000 in
theorem give_calls (h : St w p bm q vw vs vd c en ws ss room ds) (v : Int) (hv0 : 0 ≤ v) (hv1 : v ≤ 4294967295) (hl : ds.length < 4096) :
    Calls Try.prog 29 #[.pointer (some ⟨p, 0, none⟩), .int .i64 v] w fun e w' => e = .returned (.int .i64 0) ∧ Next w p bm q vw vs vd c en ws ss room (ds ++ [v]) w' := by
  obtain ⟨Ad, cd, rfl, hcd⟩ := h.rd.slice
  obtain ⟨D, hD⟩ : ∃ D, D = ds.length := ⟨_, rfl⟩
  have HD := Aside0.mk hD
  rw [← hD] at h hl ⊢
  have H := Aside0.mk h
  have HL := Aside0.mk hl
  have hz1 : w.cell? ⟨p, 1, none⟩ = some (.slice Ad D cd) := (blk_cell h.blkP 1).trans rfl
  have h1 : ¬ v < 0 := by omega
  have h2 : ¬ 4294967295 < v := by omega
  have h3 : ((D : Int) == 4096) = false := by have : ¬ (D : Int) = 4096 := by omega
                                              simpa using this
  have hCv : ∀ W : World, (Kd.int .i64).C (W.alloc (.cells #[.int .i64 v] 3)) (some ⟨W.heap.size, 0, none⟩) [v].length [v] := fun W => C_blk (xs := [v]) (blk_new W (.cells #[.int .i64 v] 3)) (fun i hi => by match i, hi with | 0, _ => rfl) (by simp)
  have HCv := Aside0.mk hCv
  clear h hcd hl hD hv0 hv1 hCv
  go_enter Try.func29, Try.ntmps29
  go_wp2_with ((with_reducible refine gate_builtin (b := .append) (xs := #[.tmp 25, .tmp 27]) rfl ?_); at_builtin; refine append_row (bytes := 8) rfl (.tmp 25) (.tmp 27) rfl Try.underlying27 info_int (by decide) (.slice Ad D cd) ds (some ⟨w.heap.size, 0, none⟩) 1 1 [v] rfl rfl (H.out.rd.below (below_alloc (Below.refl _ _) _)) (HCv.out w) rfl (by have := HL.out; have := HD.out; simp only [List.length_singleton]; omega) ?_; intro v1 w2 hR hg hat; obtain ⟨A1, c1, e1', _⟩ := hR.slice; obtain ⟨N1, hN1⟩ : ∃ N, N = (ds ++ [v]).length := ⟨_, rfl⟩; rw [← hN1] at e1'; clear hN1; obtain ⟨hp2, hst, hft, hsy⟩ := (H.out.below (below_alloc (Below.refl _ _) (.cells #[.int .i64 v] 3))).toD hg hR (at_to hat); have HSt := Aside0.mk hst; have HFt := Aside0.mk hft; have HSy := Aside0.mk hsy; have hy1 : w2.cell? ⟨p, 1, none⟩ = some (.slice Ad D cd) := (blk_cell hp2 1).trans rfl; have hf1 := blk_frozen hp2 1; clear hR hg hat hp2 hst hft hsy; subst e1')
  go_ret
  exact ⟨rfl, vw, vs, _, HSt.out, fun k hk => (HFt.out k hk).imp id (fun h5 => Nat.le_trans (below_size (below_alloc (Below.refl w.heap.size w) _)) h5), (Stay.below (below_alloc (Below.refl _ _) _)).trans HSy.out (fun k hk => .inl hk)⟩
set_option maxHeartbeats 4000000 in
set_option maxRecDepth 100000 in
theorem draw_calls (d : Int) (h : St w p bm q vw vs vd c en ws ss room [d]) (n : Int) (hn : 1 ≤ n) (hd0 : 0 ≤ d) (hd1 : d ≤ 4294967295) (hn2 : n ≤ 4294967295) :
    Calls Try.prog 31 #[.pointer (some ⟨p, 0, none⟩), .int .i64 n] w fun e w' => e = .returned (.tuple #[.int .i64 (d % n), .int .i64 0]) ∧ Next w p bm q vw vs vd c en ws ss room [] w' := by
  obtain ⟨Ad, cd, rfl, hcd⟩ := h.rd.slice
  have hC := h.rd.C.2.2
  obtain ⟨ad, rfl, hx⟩ := Kd.at_int hC (0 : Int) (by decide) (by simp)
  have hx1 : w.cell? (ad.add 0) = some (.int .i64 d) := hx
  have hx2 : w.cell? ad = some (.int .i64 d) := by
    have e : ad.add 0 = ad := if_pos rfl
    rw [← e]; exact hx1
  obtain ⟨i5, hi5, hzz⟩ := Option.map_eq_some_iff.1 info_int
  simp only [Prod.mk.injEq] at hzz
  have hcd2 : 1 ≤ cd := by simpa using hcd
  have hcut := cut_at 27 3 Try.underlying27 hi5 hzz.2.1 (some ad) 1 cd 1 (Nat.le_refl _)
  have hdrop := h.rd.drop (m := 1) (by simp)
  have hown := cut_own (A := some ad) (n := 1) (c := cd) (m := 1) (n' := 1 - 1) (c' := cd - 1)
  obtain ⟨A', hA'⟩ : ∃ A', A' = (if cd = 1 then some ad else (some ad).map (·.add 1)) := ⟨_, rfl⟩
  obtain ⟨C', hC'⟩ : ∃ x, x = cd - 1 := ⟨_, rfl⟩
  have hdrop2 : Row .i64 3 w (.slice A' 0 C') [] := by rw [hA', hC']; exact hdrop
  have hown2 : ∀ i, (Value.slice A' 0 C').ownBlock = some i → (Value.slice (some ad) 1 cd).ownBlock = some i := by rw [hA', hC']; exact hown
  have hcut2 : ∀ W : World, (Instr.slice 27 (.slice (some ad) 1 cd) (some (.int .i64 1)) none none).run Try.prog W = .ok (.slice A' 0 C') W := by intro W; rw [hA', hC']; exact hcut W
  have HDr := Aside0.mk hdrop2
  have HOw := Aside0.mk hown2
  have H : Aside0 (St w p bm q vw vs (.slice (some ad) 1 cd) c en ws ss room [d]) := ⟨h⟩
  have hz1 : w.cell? ⟨p, 1, none⟩ = some (.slice (some ad) 1 cd) := (blk_cell h.blkP 1).trans rfl
  have hf1 := blk_frozen h.blkP 1
  have h1 : ¬ n < 1 := by omega
  have h2 : ¬ n = 0 := by omega
  clear h hcd hC hx hi5 hzz hcut hdrop hown hA' hC' hdrop2 hown2
  go_enter Try.func31, Try.ntmps31
  go_wp2
  go_ret2
  obtain ⟨_, hst, hft, hsy⟩ := H.out.toD (grown_refl _ _) HDr.out (fun i hi => .inl (HOw.out i hi))
  exact ⟨rfl, vw, vs, _, hst, hft, hsy⟩
end
end Go.Proofs.Ytnhhcmnjfaeliaa.Wld
