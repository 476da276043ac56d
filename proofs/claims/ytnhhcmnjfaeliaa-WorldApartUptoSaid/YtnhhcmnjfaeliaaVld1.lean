/- Package world, by hand: rows of numbers that may begin inside their block, and append onto them; own text of this session. -/
import Derived.Test.YtnhhcmnjfaeliaaProg
import Derived.Test.YtnhhcmnjfaeliaaWWords
import Derived.Test.YtnhhcmnjfaeliaaWLast
import Derived.Test.YtnhhcmnjfaeliaaWMore
import Derived.Deep.AppendSrc
import Derived.Deep.RegionLaw
import Derived.Lib.SliceRun
import Derived.Maps.Own
namespace Go.Proofs.Ytnhhcmnjfaeliaa.Wld
open Go.RowKit Go.Proofs.YtnhhcmnjfaeliaaW.PrintWords Go.Proofs.YtnhhcmnjfaeliaaW.PrintLast
set_option linter.unusedVariables false
set_option linter.unusedSimpArgs false
/-- Blocks outside of F stay. -/
structure Stay (F : Nat → Prop) (w w' : World) : Prop where
  os : w'.os = w.os
  tape : w'.tape = w.tape
  output : w'.output = w.output
  size : w.heap.size ≤ w'.heap.size
  block : ∀ k, k < w.heap.size → ¬ F k → w'.heap[k]? = w.heap[k]?
theorem Stay.refl (F : Nat → Prop) (w : World) : Stay F w w := ⟨rfl, rfl, rfl, Nat.le_refl _, fun _ _ _ => rfl⟩
theorem Stay.trans {F G : Nat → Prop} {a b c : World} (h : Stay F a b) (k : Stay G b c) (hG : ∀ i, G i → F i ∨ a.heap.size ≤ i) : Stay F a c :=
  ⟨k.os.trans h.os, k.tape.trans h.tape, k.output.trans h.output, Nat.le_trans h.size k.size, fun i hi hF => (k.block i (Nat.lt_of_lt_of_le hi h.size) (fun hg => (hG i hg).elim hF (fun h2 => by omega))).trans (h.block i hi hF)⟩
theorem Stay.mono {F G : Nat → Prop} {a b : World} (h : Stay F a b) (hF : ∀ i, F i → G i) : Stay G a b := ⟨h.os, h.tape, h.output, h.size, fun i hi hG => h.block i hi (fun hf => hG (hF i hf))⟩
theorem Stay.grown {F : Nat → Prop} {a b : World} {row : Option Nat} (h : a.grownBy b row) (hr : ∀ k, row = some k → F k) : Stay F a b :=
  ⟨h.os, h.tape, h.output, h.size, fun i hi hF => h.block i hi (fun e => hF (hr i e.symm))⟩
theorem Stay.below {F : Nat → Prop} {a b : World} (h : Below a.heap.size a b) : Stay F a b := ⟨h.os, h.tape, h.output, h.size, fun i hi _ => h.block i hi⟩
theorem set_size (w : World) (p : Addr) (u : Value) : (w.setCell p u).heap.size = w.heap.size := by unfold World.setCell; split <;> simp
theorem Stay.set {F : Nat → Prop} {a b : World} (h : Stay F a b) {p : Addr} (hp : F p.block) (u : Value) : Stay F a (b.setCell p u) := by
  refine ⟨h.os, h.tape, h.output, by rw [set_size]; exact h.size, fun i hi hF => ?_⟩
  exact (Below.heap_setCell b p u i (fun e => hF (by rw [e]; exact hp))).trans (h.block i hi hF)
theorem Stay.out {F : Nat → Prop} {B : Nat} {w a b : World} (h : Stay F a b) (hb : Below B w a) (hF : ∀ i, F i → B ≤ i) (hB : B ≤ a.heap.size) : Below B w b :=
  ⟨h.os.trans hb.os, h.tape.trans hb.tape, h.output.trans hb.output, Nat.le_trans hb.size h.size, fun i hi => (h.block i (Nat.lt_of_lt_of_le hi hB) (fun hf => by have := hF i hf; omega)).trans (hb.block i hi)⟩
theorem stay_low {F : Nat → Prop} {w w1 w2 : World} (h : Stay F w w1) (hb : Below w1.heap.size w1 w2) : Stay F w w2 := h.trans (Stay.below (F := fun _ => False) hb) (fun i hi => hi.elim)
def Row (k : IntKind) (e : TypeId) (w : World) (v : Value) (xs : List Int) : Prop := QRow w 0 e 1 v xs.length (nums k xs)
section
variable {k : IntKind} {e : TypeId} {w w' : World} {v : Value} {xs : List Int}
theorem Row.nil (k : IntKind) (e : TypeId) (w : World) : Row k e w (.slice none 0 0) [] := ⟨rfl, .inl ⟨rfl, none, rfl, fun a ha => by cases ha⟩⟩
theorem Row.keep (h : Row k e w v xs) (hk : ∀ i, v.ownBlock = some i → i < w.heap.size → w'.heap[i]? = w.heap[i]?) : Row k e w' v xs := q_move h (fun i hi => hk i hi (q_lt h i hi))
theorem Row.below (h : Row k e w v xs) (hb : Below w.heap.size w w') : Row k e w' v xs := h.keep (fun i _ hi => hb.block i hi)
theorem Row.slice (h : Row k e w v xs) : ∃ A c, v = .slice A xs.length c ∧ xs.length ≤ c := q_slice h
theorem Row.lt (h : Row k e w v xs) (i : Nat) (hi : v.ownBlock = some i) : i < w.heap.size := q_lt h i hi
theorem Row.typed (h : Row k e w v xs) (i : Nat) (hi : v.ownBlock = some i) : ∃ cells, w.heap[i]? = some (.cells cells e (0, 0)) := (q_typed h i hi).2
theorem Row.Q (h : Row k e w v xs) : (Kd.int k).Q e w 0 (fun _ => True) v xs := ⟨fun _ _ => trivial, nums k xs, h, Kd.reps_scalar xs⟩
theorem Row.C {A : Option Addr} {n c : Nat} (h : Row k e w (.slice A n c) xs) : n = xs.length ∧ n ≤ c ∧ (Kd.int k).C w A xs.length xs := Kd.Q_reads' h.Q
theorem nums_drop (k : IntKind) (xs : List Int) (m : Nat) : (nums k xs).drop (m * 1) = nums k (xs.drop m) := by
  unfold nums
  rw [Nat.mul_one, List.map_drop]
theorem Row.drop {A : Option Addr} {m n c : Nat} (h : Row k e w (.slice A n c) xs) (hm : m ≤ n) : Row k e w (.slice (if c = m then A else A.map (·.add m)) (n - m) (c - m)) (xs.drop m) := by
  have hn := h.C.1
  subst hn
  have h2 := q_drop (k := m) h hm
  rw [nums_drop] at h2
  unfold Row
  rw [List.length_drop]
  simpa using h2
end
section
variable {P : Program}
theorem run_append_none (w : World) (t tx ty e : TypeId) (i : TypeInfo) (ht : P.underlying t = some (.slice e)) (hi : P.info? e = some i) (base : Option Addr) (sLen sCap : Nat) (x : Value) (hs : Src P i.size tx x 0 [] w) (hroom : sLen ≤ sCap) :
    (Builtin.append_ #[t, tx] ty #[.slice base sLen sCap, x]).run P w = .ok (.slice base sLen sCap) w := by
  cases base with
  | none => rcases hs.kind with ⟨e', hk⟩ | hk <;> simp [Builtin.append_, run_underlying ht, run_underlying hk, sizeOf, typeInfo, hi, hs.len, hroom, hs.cells]
  | some a =>
    rcases hs.kind with ⟨e', hk⟩ | hk <;> simp [Builtin.append_, run_underlying ht, run_underlying hk, sizeOf, typeInfo, hi, hs.len, hroom, hs.cells, storeCells]
theorem row_append {k : IntKind} {t e : TypeId} {bytes : Nat} (ht : P.underlying t = some (.slice e)) (hinfo : (P.info? e).map (fun i => (i.zero, i.size, i.bytes)) = some (some (.int k 0), 1, bytes)) (hb0 : 0 < bytes)
    (W : World) {v : Value} {xs : List Int} (h : Row k e W v xs) {A : Option Addr} {n c : Nat} {b : List Int} (hC : (Kd.int k).C W A b.length b) (hn : n = b.length) (hl : (xs.length + b.length) * bytes ≤ 140737488355328) (ty : TypeId) :
    ∃ v1 w1, (Builtin.append_ #[t, t] ty #[v, .slice A n c]).run P W = .ok v1 w1 ∧ Row k e w1 v1 (xs ++ b) ∧ W.grownBy w1 v.ownBlock ∧ (v1.ownBlock = v.ownBlock ∨ ∃ i, v1.ownBlock = some i ∧ W.heap.size ≤ i) := by
  subst hn
  obtain ⟨i0, hi, hzz⟩ := Option.map_eq_some_iff.1 hinfo
  simp only [Prod.mk.injEq] at hzz
  obtain ⟨hz0, hz1, hz2⟩ := hzz
  have hrd := Kd.reads_of_C (enc := Value.int k) (d := (0 : Int)) (h1 := fun _ => rfl) hC
  by_cases hb : b = []
  · subst hb
    obtain ⟨A0, c0, rfl, hc0⟩ := h.slice
    refine ⟨_, W, ?_, by rw [List.append_nil]; exact h, ⟨rfl, rfl, rfl, Nat.le_refl _, fun _ _ _ => rfl⟩, .inl rfl⟩
    have hsrc : Src P i0.size t (.slice A 0 c) 0 [] W := by
      cases A with
      | none => exact Src.ofNil W ht c
      | some a => exact Src.ofSlice W ht a 0 c [] (by simp) (fun j u hu => by simp at hu) (fun u hu => by cases hu)
    exact run_append_none W t t ty e i0 ht hi A0 xs.length c0 _ hsrc hc0
  · have hpos := List.length_pos_iff.2 hb
    obtain ⟨ad, rfl, hcell⟩ := hrd.2.2 hpos
    have hlen : ∀ ys : List Int, (nums k ys).length = ys.length := fun ys => nums_length _ _
    have hle : xs.length + b.length ≤ 140737488355328 := Nat.le_trans (Nat.le_mul_of_pos_right _ hb0) hl
    obtain ⟨v1, w1, hr, hq, hg, hat⟩ := q_append W 0 t ty e i0 (.int k 0) 1 bytes ht hi hz0 hz1 hz2 rfl (by decide) v xs.length (nums k xs) h ad b.length c (nums k b) (by rw [hlen, Nat.mul_one])
      (fun j u hu => by
        have hj : j < b.length := by have := (List.getElem?_eq_some_iff.1 hu).1; rw [hlen] at this; exact this
        rw [hcell j hj, ← hu]
        simp [nums, hj, List.getD_eq_getElem?_getD])
      (fun u hu => by obtain ⟨x, _, rfl⟩ := List.mem_map.1 hu; rfl) hpos (by simp only [maxLen]; omega) hl (Nat.zero_le _)
    refine ⟨v1, w1, hr, ?_, hg, hat⟩
    unfold Row
    rw [List.length_append, nums_append]
    exact hq
variable {ops : Array Oper} {o : Oper} {a : Act} {Q : Exit → Act → World → Prop} {Kc : Act → World → Prop}
/-- append, as one step of a region that draws its order. -/
theorem step_append_row {k : IntKind} {t e : TypeId} {bytes : Nat} {W : World} (hw : Region.wanted o (yielded ops a.tmps) = true) (s x : Operand)
    (ho : o.op = .call { callee := .builtin .append, args := #[s, x], argTypes := #[t, t] })
    (ht : P.underlying t = some (.slice e)) (hinfo : (P.info? e).map (fun i => (i.zero, i.size, i.bytes)) = some (some (.int k 0), 1, bytes)) (hb0 : 0 < bytes)
    (v : Value) (xs : List Int) (A : Option Addr) (n c : Nat) (b : List Int) (hs : a.eval s = v) (hx : a.eval x = .slice A n c)
    (h : Row k e W v xs) (hC : (Kd.int k).C W A b.length b) (hn : n = b.length) (hl : (xs.length + b.length) * bytes ≤ 140737488355328)
    (hK : ∀ v1 w1, Row k e w1 v1 (xs ++ b) → W.grownBy w1 v.ownBlock → (v1.ownBlock = v.ownBlock ∨ ∃ i, v1.ownBlock = some i ∧ W.heap.size ≤ i) → Kc (a.put o.dst v1) w1) :
    if Region.wanted o (yielded ops a.tmps) = true then Oper.wp P o a W Kc Q else Kc (a.put o.dst undef) W := by
  rw [if_pos hw]
  obtain ⟨v1, w1, hr, h1, h2, h3⟩ := row_append ht hinfo hb0 W h (c := c) hC hn hl o.type
  unfold Oper.wp execOp
  simp only [ho, resolve, invoke, builtin, Sem.run_bind, Sem.run_pure, Result.andThen_ok, List.map_toArray, List.map_cons, List.map_nil, hs, hx, hr]
  exact hK v1 w1 h1 h2 h3
/-- append, as one step of a walk. -/
theorem append_row {k : IntKind} {t e : TypeId} {bytes : Nat} {W : World} {rest : List Oper} (hgd : o.guard = none) (s x : Operand)
    (ho : o.op = .call { callee := .builtin .append, args := #[s, x], argTypes := #[t, t] })
    (ht : P.underlying t = some (.slice e)) (hinfo : (P.info? e).map (fun i => (i.zero, i.size, i.bytes)) = some (some (.int k 0), 1, bytes)) (hb0 : 0 < bytes)
    (v : Value) (xs : List Int) (A : Option Addr) (n c : Nat) (b : List Int) (hs : a.eval s = v) (hx : a.eval x = .slice A n c)
    (h : Row k e W v xs) (hC : (Kd.int k).C W A b.length b) (hn : n = b.length) (hl : (xs.length + b.length) * bytes ≤ 140737488355328)
    (hK : ∀ v1 w1, Row k e w1 v1 (xs ++ b) → W.grownBy w1 v.ownBlock → (v1.ownBlock = v.ownBlock ∨ ∃ i, v1.ownBlock = some i ∧ W.heap.size ≤ i) → wpList P ops Q rest (a.put o.dst v1) w1) :
    wpList P ops Q (o :: rest) a W := by
  obtain ⟨v1, w1, hr, h1, h2, h3⟩ := row_append ht hinfo hb0 W h (c := c) hC hn hl o.type
  refine wpList_plain hgd fun K hK' => ?_
  unfold Oper.wp execOp
  simp only [ho, resolve, invoke, builtin, Sem.run_bind, Sem.run_pure, Result.andThen_ok, List.map_toArray, List.map_cons, List.map_nil, hs, hx, hr]
  exact hK' _ _ (hK v1 w1 h1 h2 h3)
end
end Go.Proofs.Ytnhhcmnjfaeliaa.Wld
