/- '[]byte(s)' as one step of a walk: the new row is read from then on; own text of this session. -/
import Derived.Test.YtnhhcmnjfaeliaaWMore
import Derived.Laws.IdiomStrings
import Derived.Lib.SlBytesConst
namespace Go.Proofs.YtnhhcmnjfaeliaaW.PrintWords
open Go.RowKit
/-- What bytes say as numbers. -/
def nOf (l : List UInt8) : List Int := l.map fun b => (b.toNat : Int)
theorem nOf_length (l : List UInt8) : (nOf l).length = l.length := by simp [nOf]
theorem strOfNums_nOf (l : List UInt8) : strOfNums (nOf l) = ⟨l.toArray⟩ := by
  unfold strOfNums nOf
  congr 2
  rw [List.map_map]
  refine (List.map_congr_left (g := id) (fun b _ => ?_)).trans (by simp)
  simp
theorem C_of_block {W : World} {b : Nat} {C : Array Value} {ty : TypeId} {fr : Nat × Nat} {xs : List Int} (h : W.heap[b]? = some (.cells C ty fr))
    (hc : ∀ i, i < xs.length → C[i]? = some (.int .u8 (xs.getD i 0))) (hm : xs.length ≤ 9223372036854775807) : (Kd.int .u8).C W (some ⟨b, 0, none⟩) xs.length xs := by
  refine Kd.C_of_reads (d := (0 : Int)) (h1 := fun _ => rfl) ⟨rfl, hm, fun _ => ⟨_, rfl, fun j hj => ?_⟩⟩
  rw [add_plain]
  unfold World.cell?
  simp only [h, Option.isSome_none, Bool.false_eq_true, if_false]
  exact hc j hj
section
variable {P : Program} {ops : Array Oper} {rest : List Oper} {o o2 : Oper} {a : Act} {Q : Exit → Act → World → Prop}
theorem V_new {W : World} {base : Nat} {C : Array Value} {e ty : TypeId} {fr : Nat × Nat} {xs : List Int} {W1 : World} {n c : Nat} (h : W1.heap[W.heap.size]? = some (.cells C ty fr)) (hlt : W.heap.size < W1.heap.size) (hn : n = xs.length) (hcap : n ≤ c)
    (hc : ∀ i, i < xs.length → C[i]? = some (.int .u8 (xs.getD i 0))) (hm : xs.length ≤ 9223372036854775807) : Kd.V (Kd.int .u8) e W1 base (fun k => W.heap.size ≤ k) (.slice (some ⟨W.heap.size, 0, none⟩) n c) xs := by
  subst hn
  refine ⟨_, _, rfl, hcap, fun W' hW' => ?_⟩
  exact C_of_block ((hW' _ (Nat.le_refl _) hlt).trans h) hc hm
/-- '[]byte(s)'. -/
theorem V_bytes {w0 W : World} (base e : Nat) (hgd : o.guard = none) {N : Tmp} (_hd : o.dst = some N) (src t : TypeId) (x : Operand) (ho : o.op = .convert src t x) (s : ByteArray) (hx : a.eval x = .string s) (hm : s.size ≤ 9223372036854775807)
    (hs : P.underlying src = some .string) (ht : P.underlying t = some (.slice e)) (he : P.underlying e = some (.int .u8)) (HB : Below base w0 W) (hbase : base ≤ W.heap.size)
    (h : ∀ v1 w1, Kd.V (Kd.int .u8) e w1 base (fun k => W.heap.size ≤ k) v1 (nOf s.data.toList) → Below base w0 w1 → W.grownBy w1 none → (∃ b, v1.ownBlock = some b ∧ W.heap.size ≤ b) → wpList P ops Q rest (a.put o.dst v1) w1) : wpList P ops Q (o :: rest) a W := by
  have hr := run_bytes_of_string (P := P) W src t e s hs ht he
  have hl : s.size = s.data.toList.length := Array.length_toList.symm
  have hcap : s.size ≤ grownCap W s.size 0 e := by show s.size ≤ s.size + _; omega
  refine Kd.event_run hgd (v := .slice (some ⟨W.heap.size, 0, none⟩) s.size (grownCap W s.size 0 e)) (w1 := W.drew.alloc (.cells (bytesRow s (grownCap W s.size 0 e)) e ((bytesRow s (grownCap W s.size 0 e)).size, (bytesRow s (grownCap W s.size 0 e)).size + 1))) ?_
    (h _ _ (V_new (fr := ((bytesRow s (grownCap W s.size 0 e)).size, (bytesRow s (grownCap W s.size 0 e)).size + 1)) (C := bytesRow s (grownCap W s.size 0 e)) (ty := e) ?_ ?_ ?_ hcap ?_ ?_) ((below_drew HB).alloc hbase _) ?_ ⟨W.heap.size, by simp [Value.ownBlock], Nat.le_refl _⟩)
  · simp [execOp, ho, hx, hr]
  · show (W.heap.push _)[_]? = _; simp
  · show W.heap.size < (W.heap.push _).size; simp
  · rw [nOf_length]; exact hl
  · intro i hi
    rw [nOf_length] at hi
    unfold bytesRow
    rw [Array.getElem?_append_left (by simp only [Array.size_map]; exact (Array.length_toList (xs := s.data)) ▸ hi)]
    have hi' : i < s.data.size := by simpa using hi
    simp [nOf, Array.getElem?_eq_getElem hi']
  · rw [nOf_length, ← hl]; exact hm
  · have h5 := World.grownBy_alloc W.drew (.cells (bytesRow s (grownCap W s.size 0 e)) e ((bytesRow s (grownCap W s.size 0 e)).size, (bytesRow s (grownCap W s.size 0 e)).size + 1)) none
    exact ⟨h5.os, h5.tape, h5.output, h5.size, h5.block⟩
/-- '[]byte("constant")': two operations. -/
theorem V_bytes_const {w0 W : World} (base e : Nat) (hgd : o.guard = none) {N N2 : Tmp} (hd : o.dst = some N) (hgd2 : o2.guard = none) (_hd2 : o2.dst = some N2) (t : TypeId) (ho2 : o2.op = .convert t t (.tmp N)) (hN : N < a.tmps.size)
    (xs : List Int) (hrun : (execOp a.eval o).run P W = .ok (.value (.slice (some ⟨W.heap.size, 0, none⟩) xs.length xs.length)) (W.alloc (.cells (xs.map (Value.int .u8)).toArray e))) (hm : xs.length ≤ 9223372036854775807)
    (ht : P.underlying t = some (.slice e)) (he : P.underlying e = some (.int .u8)) (HB : Below base w0 W) (hbase : base ≤ W.heap.size)
    (h : ∀ v1 w1, Kd.V (Kd.int .u8) e w1 base (fun k => W.heap.size ≤ k) v1 xs → Below base w0 w1 → W.grownBy w1 none → (∃ b, v1.ownBlock = some b ∧ W.heap.size ≤ b) → wpList P ops Q rest ((a.put (some N) v1).put o2.dst v1) w1) : wpList P ops Q (o :: o2 :: rest) a W := by
  refine Kd.event_run hgd hrun ?_
  have hr := Lib.run_convert_bytes_const (P := P) W t e (xs.map (Value.int .u8)).toArray xs.length xs.length ht he
  rw [hd]
  refine Kd.event_run hgd2 (v := .slice (some ⟨W.heap.size, 0, none⟩) xs.length xs.length) (w1 := W.alloc (.cells (xs.map (Value.int .u8)).toArray e ((xs.map (Value.int .u8)).toArray.size, (xs.map (Value.int .u8)).toArray.size + 1))) ?_
    (h _ _ (V_new (fr := ((xs.map (Value.int .u8)).toArray.size, (xs.map (Value.int .u8)).toArray.size + 1)) (C := (xs.map (Value.int .u8)).toArray) (ty := e) ?_ ?_ rfl (Nat.le_refl _) ?_ hm) (HB.alloc hbase _) (World.grownBy_alloc W _ none) ⟨W.heap.size, by simp [Value.ownBlock], Nat.le_refl _⟩)
  · have he2 : (a.put (some N) (.slice (some ⟨W.heap.size, 0, none⟩) xs.length xs.length)).eval (.tmp N) = .slice (some ⟨W.heap.size, 0, none⟩) xs.length xs.length := by
      simp [Act.eval, Act.put, hN]
    simp [execOp, ho2, he2, hr]
  · show (W.heap.push _)[_]? = _; simp
  · show W.heap.size < (W.heap.push _).size; simp
  · intro i hi
    simp [List.getElem?_eq_getElem hi]
end
end Go.Proofs.YtnhhcmnjfaeliaaW.PrintWords
