/- Package world, by hand: what a world with one connection holds; own text of this session. -/
import Derived.Test.YtnhhcmnjfaeliaaVld1
import Derived.Maps.OwnOps
import Derived.Maps.OwnSet
import Derived.Maps.Views
import Derived.Maps.RangeWalk
namespace Go.Proofs.Ytnhhcmnjfaeliaa.Vm
open Wld Go.RowKit Go.Proofs.YtnhhcmnjfaeliaaW.PrintWords Go.Proofs.YtnhhcmnjfaeliaaW.PrintLast Go.Maps
set_option linter.unusedVariables false
set_option linter.unusedSimpArgs false
theorem info_u8 : (Try.prog.info? 5).map (fun i => (i.zero, i.size, i.bytes)) = some (some (.int .u8 0), 1, 1) := by kernel_rfl
theorem info_int : (Try.prog.info? 3).map (fun i => (i.zero, i.size, i.bytes)) = some (some (.int .i64 0), 1, 8) := by kernel_rfl
/-- How a map's element, a pointer to a block's front, reads. -/
def ptrE : Value → Option (DataW Unit × List MemPlace)
  | .pointer none => some (.nil, [])
  | .pointer (some ⟨b, 0, none⟩) => some (.lit (.int .i64 (b : Int)), [])
  | _ => none
theorem ptrE_none {v : Value} {ps : List MemPlace} (h : ptrE v = some (.nil, ps)) : v = .pointer none := by
  unfold ptrE at h
  split at h
  · rfl
  · simp at h
  · cases h
theorem ptrE_some {v : Value} {q : Nat} {ps : List MemPlace} (h : ptrE v = some (.lit (.int .i64 (q : Int)), ps)) : v = .pointer (some ⟨q, 0, none⟩) := by
  unfold ptrE at h
  split at h
  · simp at h
  · simp only [Option.some.injEq, Prod.mk.injEq, DataW.lit.injEq, Lit.int.injEq, true_and] at h
    have := h.1
    have h2 := Int.ofNat.inj this
    rw [h2]
  · cases h
theorem law : Keyed Try.prog 3 := int_keyed Try.underlying3
theorem zeroP (w : World) : (zeroValue 64).run Try.prog w = .ok (.pointer none) w := by kernel_rfl
abbrev Key (c : Int) : Lit := .int .i64 c
theorem key_of {c : Int} (hc : (Key c).wf = true) : keyOf Try.prog 3 (.int .i64 c) = some (Key c) := keyOf_int_mk Try.underlying3 hc
/-- The connection at a key. -/
theorem look_at {w : World} {bm n q : Nat} {c : Int} {D : DataW Unit} (h : w.ownsMap Try.prog 3 ptrE bm n D) (hl : D.atKey (Key c) .nil = .lit (.int .i64 (q : Int))) (hc : (Key c).wf = true) :
    (Instr.lookup 53 (.map (some bm)) (.int .i64 c) false).run Try.prog w = .ok (.pointer (some ⟨q, 0, none⟩)) w := by
  obtain ⟨v, ps, hrun, hv⟩ := h.lookup law Try.underlying53 (zeroP w) (zd := .nil) (zp := []) rfl (key_of hc)
  rw [hl] at hv
  rw [ptrE_some hv] at hrun
  exact hrun
theorem look_no {w : World} {bm n : Nat} {c : Int} {D : DataW Unit} (h : w.ownsMap Try.prog 3 ptrE bm n D) (hl : D.atKey (Key c) .nil = .nil) (hc : (Key c).wf = true) :
    (Instr.lookup 53 (.map (some bm)) (.int .i64 c) false).run Try.prog w = .ok (.pointer none) w := by
  obtain ⟨v, ps, hrun, hv⟩ := h.lookup law Try.underlying53 (zeroP w) (zd := .nil) (zp := []) rfl (key_of hc)
  rw [hl] at hv
  rw [ptrE_none hv] at hrun
  exact hrun
def cellsP (bm : Nat) (vd : Value) : Array Value := #[.map (some bm), vd]
def cellsQ (op en : Bool) (vw vs : Value) (room : Int) : Array Value := #[.bool op, .bool en, vw, vs, .int .i64 room]
/-- A world with one connection c, open, whose block is q: what waits (ws), what was sent (ss), the room, the numbers that were given (ds). -/
structure St (w : World) (p bm sz : Nat) (Dm : DataW Unit) (q : Nat) (vw vs vd : Value) (c : Int) (op en : Bool) (ws ss : List Int) (room : Int) (ds : List Int) : Prop where
  blkP : w.heap[p]? = some (.cells (cellsP bm vd) 55 (0, 0))
  own : w.ownsMap Try.prog 3 ptrE bm sz Dm
  blkQ : w.heap[q]? = some (.cells (cellsQ op en vw vs room) 67 (0, 0))
  rw : Row .u8 5 w vw ws
  rs : Row .u8 5 w vs ss
  rd : Row .i64 3 w vd ds
  apart : ∀ i, vw.ownBlock = some i → vs.ownBlock = some i → False
  look : Dm.atKey (Key c) .nil = .lit (.int .i64 (q : Int))
/-- The blocks that it lives in. -/
def Ft (p bm q : Nat) (vw vs vd : Value) (k : Nat) : Prop := k = p ∨ k = bm ∨ k = q ∨ vw.ownBlock = some k ∨ vs.ownBlock = some k ∨ vd.ownBlock = some k
theorem ne_t : (5 : Nat) ≠ 55 ∧ (5 : Nat) ≠ 67 ∧ (3 : Nat) ≠ 55 ∧ (3 : Nat) ≠ 67 ∧ (3 : Nat) ≠ 5 ∧ (55 : Nat) ≠ 67 := by decide
theorem ne_blk {w : World} {i j : Nat} {C C' : Array Value} {t t' : TypeId} {f f' : Nat × Nat} (h : w.heap[i]? = some (.cells C t f)) (h' : w.heap[j]? = some (.cells C' t' f')) (ht : t ≠ t') : i ≠ j := by
  intro e
  rw [e, h'] at h
  injection h with h
  injection h with _ h2 _
  exact ht h2.symm
theorem ne_map {w : World} {i j n : Nat} {C : Array Value} {t : TypeId} {f : Nat × Nat} {D : DataW Unit} (h : w.heap[i]? = some (.cells C t f)) (h' : w.ownsMap Try.prog 3 ptrE j n D) : i ≠ j := by
  intro e
  obtain ⟨es, clock, hb, _⟩ := h'
  rw [e, hb] at h
  cases h
section
variable {w w1 w' : World} {p bm sz q : Nat} {Dm : DataW Unit} {vw vs vd : Value} {c : Int} {op en : Bool} {ws ss : List Int} {room : Int} {ds : List Int}
theorem grown_below (hb : Below w.heap.size w w') (r : Option Nat) : w.grownBy w' r := ⟨hb.os, hb.tape, hb.output, hb.size, fun k hk _ => hb.block k hk⟩
theorem St.below (h : St w p bm sz Dm q vw vs vd c op en ws ss room ds) (hb : Below w.heap.size w w') : St w' p bm sz Dm q vw vs vd c op en ws ss room ds :=
  ⟨(hb.block p (blk_lt h.blkP)).trans h.blkP, h.own.kept (grown_below hb none) (by simp), (hb.block q (blk_lt h.blkQ)).trans h.blkQ, h.rw.below hb, h.rs.below hb, h.rd.below hb, h.apart, h.look⟩
theorem St.drew (h : St w p bm sz Dm q vw vs vd c op en ws ss room ds) : St w.drew p bm sz Dm q vw vs vd c op en ws ss room ds := h.below (below_drew (Below.refl _ _))
theorem St.lt (h : St w p bm sz Dm q vw vs vd c op en ws ss room ds) (k : Nat) (hk : Ft p bm q vw vs vd k) : k < w.heap.size := by
  rcases hk with rfl | rfl | rfl | hk | hk | hk
  · exact blk_lt h.blkP
  · exact h.own.lt
  · exact blk_lt h.blkQ
  · exact h.rw.lt k hk
  · exact h.rs.lt k hk
  · exact h.rd.lt k hk
theorem St.neW (h : St w p bm sz Dm q vw vs vd c op en ws ss room ds) (i : Nat) (hi : vw.ownBlock = some i) : i ≠ p ∧ i ≠ bm ∧ i ≠ q ∧ vd.ownBlock ≠ some i := by
  obtain ⟨C, hC⟩ := h.rw.typed i hi
  refine ⟨ne_blk hC h.blkP ne_t.1, ne_map hC h.own, ne_blk hC h.blkQ ne_t.2.1, fun hd => ?_⟩
  obtain ⟨C', hC'⟩ := h.rd.typed i hd
  exact ne_blk hC' hC ne_t.2.2.2.2.1 rfl
theorem St.neS (h : St w p bm sz Dm q vw vs vd c op en ws ss room ds) (i : Nat) (hi : vs.ownBlock = some i) : i ≠ p ∧ i ≠ bm ∧ i ≠ q ∧ vd.ownBlock ≠ some i := by
  obtain ⟨C, hC⟩ := h.rs.typed i hi
  refine ⟨ne_blk hC h.blkP ne_t.1, ne_map hC h.own, ne_blk hC h.blkQ ne_t.2.1, fun hd => ?_⟩
  obtain ⟨C', hC'⟩ := h.rd.typed i hd
  exact ne_blk hC' hC ne_t.2.2.2.2.1 rfl
theorem St.neD (h : St w p bm sz Dm q vw vs vd c op en ws ss room ds) (i : Nat) (hi : vd.ownBlock = some i) : i ≠ p ∧ i ≠ bm ∧ i ≠ q := by
  obtain ⟨C, hC⟩ := h.rd.typed i hi
  exact ⟨ne_blk hC h.blkP ne_t.2.2.1, ne_map hC h.own, ne_blk hC h.blkQ ne_t.2.2.2.1⟩
theorem St.nePQ (h : St w p bm sz Dm q vw vs vd c op en ws ss room ds) : p ≠ q ∧ p ≠ bm ∧ q ≠ bm := ⟨ne_blk h.blkP h.blkQ ne_t.2.2.2.2.2, ne_map h.blkP h.own, ne_map h.blkQ h.own⟩
/-- A store into the connection's block. -/
theorem St.setQ {j : Nat} {u : Value} {op' en' : Bool} {room' : Int} (h : St w p bm sz Dm q vw vs vd c op en ws ss room ds) (hC : (cellsQ op en vw vs room).setIfInBounds j u = cellsQ op' en' vw vs room') : St (w.setCell ⟨q, j, none⟩ u) p bm sz Dm q vw vs vd c op' en' ws ss room' ds :=
  ⟨(Below.heap_setCell _ _ _ _ h.nePQ.1).trans h.blkP, h.own.setCell (Ne.symm h.nePQ.2.2) u, by rw [blk_set h.blkQ, hC], h.rw.keep (fun i hi _ => Below.heap_setCell _ _ _ _ (h.neW i hi).2.2.1), h.rs.keep (fun i hi _ => Below.heap_setCell _ _ _ _ (h.neS i hi).2.2.1), h.rd.keep (fun i hi _ => Below.heap_setCell _ _ _ _ (h.neD i hi).2.2), h.apart, h.look⟩
theorem St.stayQ (h : St w p bm sz Dm q vw vs vd c op en ws ss room ds) (j : Nat) (u : Value) : Stay (Ft p bm q vw vs vd) w (w.setCell ⟨q, j, none⟩ u) := (Stay.refl _ _).set (.inr (.inr (.inl rfl))) u
/-- What waits turned. -/
theorem St.toW {vw1 : Value} {ws1 : List Int} (h : St w p bm sz Dm q vw vs vd c op en ws ss room ds) (hg : w.grownBy w1 vw.ownBlock) (hR : Row .u8 5 w1 vw1 ws1) (hat : ∀ i, vw1.ownBlock = some i → vw.ownBlock = some i ∨ w.heap.size ≤ i) :
    w1.heap[q]? = some (.cells (cellsQ op en vw vs room) 67 (0, 0)) ∧ St (w1.setCell ⟨q, 2, none⟩ vw1) p bm sz Dm q vw1 vs vd c op en ws1 ss room ds ∧ (∀ k, Ft p bm q vw1 vs vd k → Ft p bm q vw vs vd k ∨ w.heap.size ≤ k) ∧ Stay (Ft p bm q vw vs vd) w (w1.setCell ⟨q, 2, none⟩ vw1) := by
  have nq : some q ≠ vw.ownBlock := fun e => (h.neW q e.symm).2.2.1 rfl
  have np : some p ≠ vw.ownBlock := fun e => (h.neW p e.symm).1 rfl
  have nm : some bm ≠ vw.ownBlock := fun e => (h.neW bm e.symm).2.1 rfl
  have hq : w1.heap[q]? = some (.cells (cellsQ op en vw vs room) 67 (0, 0)) := (hg.block q (blk_lt h.blkQ) nq).trans h.blkQ
  have hp : w1.heap[p]? = some (.cells (cellsP bm vd) 55 (0, 0)) := (hg.block p (blk_lt h.blkP) np).trans h.blkP
  have hm := h.own.kept hg nm
  refine ⟨hq, ⟨(Below.heap_setCell _ _ _ _ h.nePQ.1).trans hp, hm.setCell (Ne.symm h.nePQ.2.2) _, blk_put hq 2 _ rfl, ?_, ?_, ?_, ?_, h.look⟩, ?_, (Stay.grown hg (fun k hk => .inr (.inr (.inr (.inl hk))))).set (.inr (.inr (.inl rfl))) _⟩
  · exact hR.keep (fun i hi _ => Below.heap_setCell _ _ _ _ (by
      obtain ⟨C, hC⟩ := hR.typed i hi
      exact ne_blk hC hq ne_t.2.1))
  · exact h.rs.keep (fun i hi hl => (Below.heap_setCell _ _ _ _ (h.neS i hi).2.2.1).trans (hg.block i hl (fun e => h.apart i e.symm hi)))
  · exact h.rd.keep (fun i hi hl => (Below.heap_setCell _ _ _ _ (h.neD i hi).2.2).trans (hg.block i hl (fun e => (h.neW i e.symm).2.2.2 hi)))
  · intro i hi hs
    rcases hat i hi with h2 | h2
    · exact h.apart i h2 hs
    · have := h.rs.lt i hs; omega
  · rintro k (hk | hk | hk | hk | hk | hk)
    · exact .inl (.inl hk)
    · exact .inl (.inr (.inl hk))
    · exact .inl (.inr (.inr (.inl hk)))
    · rcases hat k hk with h2 | h2
      · exact .inl (.inr (.inr (.inr (.inl h2))))
      · exact .inr h2
    · exact .inl (.inr (.inr (.inr (.inr (.inl hk)))))
    · exact .inl (.inr (.inr (.inr (.inr (.inr hk)))))
/-- What was sent turned. -/
theorem St.toS {vs1 : Value} {ss1 : List Int} (h : St w p bm sz Dm q vw vs vd c op en ws ss room ds) (hg : w.grownBy w1 vs.ownBlock) (hR : Row .u8 5 w1 vs1 ss1) (hat : ∀ i, vs1.ownBlock = some i → vs.ownBlock = some i ∨ w.heap.size ≤ i) :
    w1.heap[q]? = some (.cells (cellsQ op en vw vs room) 67 (0, 0)) ∧ St (w1.setCell ⟨q, 3, none⟩ vs1) p bm sz Dm q vw vs1 vd c op en ws ss1 room ds ∧ (∀ k, Ft p bm q vw vs1 vd k → Ft p bm q vw vs vd k ∨ w.heap.size ≤ k) ∧ Stay (Ft p bm q vw vs vd) w (w1.setCell ⟨q, 3, none⟩ vs1) := by
  have nq : some q ≠ vs.ownBlock := fun e => (h.neS q e.symm).2.2.1 rfl
  have np : some p ≠ vs.ownBlock := fun e => (h.neS p e.symm).1 rfl
  have nm : some bm ≠ vs.ownBlock := fun e => (h.neS bm e.symm).2.1 rfl
  have hq : w1.heap[q]? = some (.cells (cellsQ op en vw vs room) 67 (0, 0)) := (hg.block q (blk_lt h.blkQ) nq).trans h.blkQ
  have hp : w1.heap[p]? = some (.cells (cellsP bm vd) 55 (0, 0)) := (hg.block p (blk_lt h.blkP) np).trans h.blkP
  have hm := h.own.kept hg nm
  refine ⟨hq, ⟨(Below.heap_setCell _ _ _ _ h.nePQ.1).trans hp, hm.setCell (Ne.symm h.nePQ.2.2) _, blk_put hq 3 _ rfl, ?_, ?_, ?_, ?_, h.look⟩, ?_, (Stay.grown hg (fun k hk => .inr (.inr (.inr (.inr (.inl hk)))))).set (.inr (.inr (.inl rfl))) _⟩
  · exact h.rw.keep (fun i hi hl => (Below.heap_setCell _ _ _ _ (h.neW i hi).2.2.1).trans (hg.block i hl (fun e => h.apart i hi e.symm)))
  · exact hR.keep (fun i hi _ => Below.heap_setCell _ _ _ _ (by
      obtain ⟨C, hC⟩ := hR.typed i hi
      exact ne_blk hC hq ne_t.2.1))
  · exact h.rd.keep (fun i hi hl => (Below.heap_setCell _ _ _ _ (h.neD i hi).2.2).trans (hg.block i hl (fun e => (h.neS i e.symm).2.2.2 hi)))
  · intro i hi hs
    rcases hat i hs with h2 | h2
    · exact h.apart i hi h2
    · have := h.rw.lt i hi; omega
  · rintro k (hk | hk | hk | hk | hk | hk)
    · exact .inl (.inl hk)
    · exact .inl (.inr (.inl hk))
    · exact .inl (.inr (.inr (.inl hk)))
    · exact .inl (.inr (.inr (.inr (.inl hk))))
    · rcases hat k hk with h2 | h2
      · exact .inl (.inr (.inr (.inr (.inr (.inl h2)))))
      · exact .inr h2
    · exact .inl (.inr (.inr (.inr (.inr (.inr hk)))))
/-- The numbers turned. -/
theorem St.toD {vd1 : Value} {ds1 : List Int} (h : St w p bm sz Dm q vw vs vd c op en ws ss room ds) (hg : w.grownBy w1 vd.ownBlock) (hR : Row .i64 3 w1 vd1 ds1) (hat : ∀ i, vd1.ownBlock = some i → vd.ownBlock = some i ∨ w.heap.size ≤ i) :
    w1.heap[p]? = some (.cells (cellsP bm vd) 55 (0, 0)) ∧ St (w1.setCell ⟨p, 1, none⟩ vd1) p bm sz Dm q vw vs vd1 c op en ws ss room ds1 ∧ (∀ k, Ft p bm q vw vs vd1 k → Ft p bm q vw vs vd k ∨ w.heap.size ≤ k) ∧ Stay (Ft p bm q vw vs vd) w (w1.setCell ⟨p, 1, none⟩ vd1) := by
  have nq : some q ≠ vd.ownBlock := fun e => (h.neD q e.symm).2.2 rfl
  have np : some p ≠ vd.ownBlock := fun e => (h.neD p e.symm).1 rfl
  have nm : some bm ≠ vd.ownBlock := fun e => (h.neD bm e.symm).2.1 rfl
  have hq : w1.heap[q]? = some (.cells (cellsQ op en vw vs room) 67 (0, 0)) := (hg.block q (blk_lt h.blkQ) nq).trans h.blkQ
  have hp : w1.heap[p]? = some (.cells (cellsP bm vd) 55 (0, 0)) := (hg.block p (blk_lt h.blkP) np).trans h.blkP
  have hm := h.own.kept hg nm
  refine ⟨hp, ⟨blk_put hp 1 _ rfl, hm.setCell (Ne.symm h.nePQ.2.1) _, (Below.heap_setCell _ _ _ _ (Ne.symm h.nePQ.1)).trans hq, ?_, ?_, ?_, h.apart, h.look⟩, ?_, (Stay.grown hg (fun k hk => .inr (.inr (.inr (.inr (.inr hk)))))).set (.inl rfl) _⟩
  · exact h.rw.keep (fun i hi hl => (Below.heap_setCell _ _ _ _ (h.neW i hi).1).trans (hg.block i hl (fun e => (h.neW i hi).2.2.2 e.symm)))
  · exact h.rs.keep (fun i hi hl => (Below.heap_setCell _ _ _ _ (h.neS i hi).1).trans (hg.block i hl (fun e => (h.neS i hi).2.2.2 e.symm)))
  · exact hR.keep (fun i hi _ => Below.heap_setCell _ _ _ _ (by
      obtain ⟨C, hC⟩ := hR.typed i hi
      exact ne_blk hC hp ne_t.2.2.1))
  · rintro k (hk | hk | hk | hk | hk | hk)
    · exact .inl (.inl hk)
    · exact .inl (.inr (.inl hk))
    · exact .inl (.inr (.inr (.inl hk)))
    · exact .inl (.inr (.inr (.inr (.inl hk))))
    · exact .inl (.inr (.inr (.inr (.inr (.inl hk)))))
    · rcases hat k hk with h2 | h2
      · exact .inl (.inr (.inr (.inr (.inr (.inr h2)))))
      · exact .inr h2
end
/-- What a call leaves: the state, whose blocks are those that were, or new; all else as it was. -/
def Next (w : World) (p bm sz : Nat) (Dm : DataW Unit) (q : Nat) (vw vs vd : Value) (c : Int) (op en : Bool) (ws ss : List Int) (room : Int) (ds : List Int) (w' : World) : Prop :=
  ∃ vw' vs' vd', St w' p bm sz Dm q vw' vs' vd' c op en ws ss room ds ∧ (∀ k, Ft p bm q vw' vs' vd' k → Ft p bm q vw vs vd k ∨ w.heap.size ≤ k) ∧ Stay (Ft p bm q vw vs vd) w w'
set_option maxRecDepth 100000 in
theorem at_calls {w : World} {p bm sz q : Nat} {Dm : DataW Unit} {vw vs vd : Value} {c : Int} {en : Bool} {ws ss : List Int} {room : Int} {ds : List Int} (h : St w p bm sz Dm q vw vs vd c true en ws ss room ds) (hc : (Key c).wf = true) :
    Calls Try.prog 33 #[.pointer (some ⟨p, 0, none⟩), .int .i64 c] w fun e w' => e = .returned (.pointer (some ⟨q, 0, none⟩)) ∧ w' = w := by
  have hz0 : w.cell? ⟨p, 0, none⟩ = some (.map (some bm)) := (blk_cell h.blkP 0).trans rfl
  have hy0 : w.cell? ⟨q, 0, none⟩ = some (.bool true) := (blk_cell h.blkQ 0).trans rfl
  have hlk := look_at h.own h.look hc
  clear h hc
  go_enter Try.func33, Try.ntmps33
  go_wp2
  go_ret
  exact ⟨rfl, rfl⟩
set_option maxRecDepth 100000 in
theorem at_shut {w : World} {p bm sz q : Nat} {Dm : DataW Unit} {vw vs vd : Value} {c : Int} {en : Bool} {ws ss : List Int} {room : Int} {ds : List Int} (h : St w p bm sz Dm q vw vs vd c false en ws ss room ds) (hc : (Key c).wf = true) :
    Calls Try.prog 33 #[.pointer (some ⟨p, 0, none⟩), .int .i64 c] w fun e w' => e = .returned (.pointer none) ∧ w' = w := by
  have hz0 : w.cell? ⟨p, 0, none⟩ = some (.map (some bm)) := (blk_cell h.blkP 0).trans rfl
  have hy0 : w.cell? ⟨q, 0, none⟩ = some (.bool false) := (blk_cell h.blkQ 0).trans rfl
  have hlk := look_at h.own h.look hc
  clear h hc
  go_enter Try.func33, Try.ntmps33
  go_wp2
  go_ret
  exact ⟨rfl, rfl⟩
set_option maxRecDepth 100000 in
theorem at_no {w : World} {p bm sz : Nat} {Dm : DataW Unit} {vd : Value} {c : Int} (hP : w.heap[p]? = some (.cells (cellsP bm vd) 55 (0, 0))) (hO : w.ownsMap Try.prog 3 ptrE bm sz Dm) (hl : Dm.atKey (Key c) .nil = .nil) (hc : (Key c).wf = true) :
    Calls Try.prog 33 #[.pointer (some ⟨p, 0, none⟩), .int .i64 c] w fun e w' => e = .returned (.pointer none) ∧ w' = w := by
  have hz0 : w.cell? ⟨p, 0, none⟩ = some (.map (some bm)) := (blk_cell hP 0).trans rfl
  have hlk := look_no hO hl hc
  clear hP hO hl hc
  go_enter Try.func33, Try.ntmps33
  go_wp2
  go_ret
  exact ⟨rfl, rfl⟩
end Go.Proofs.Ytnhhcmnjfaeliaa.Vm
