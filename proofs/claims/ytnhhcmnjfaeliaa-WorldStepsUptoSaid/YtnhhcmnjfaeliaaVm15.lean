/- WorldApart: what holds along the script; own text of this session. -/
import Derived.Test.YtnhhcmnjfaeliaaVm14
namespace Go.Proofs.Ytnhhcmnjfaeliaa.Vm
open Wld hiding St Ft Next cellsQ cellsP ReadPost ptrE ptrE_none ptrE_some law zeroP Key key_of info_u8 info_int ne_t ne_blk ne_map grown_below
open Go.RowKit Go.Proofs.YtnhhcmnjfaeliaaW.PrintWords Go.Proofs.YtnhhcmnjfaeliaaW.PrintLast Go.Maps
set_option linter.unusedVariables false
set_option linter.unusedSimpArgs false
/-- What is known of a connection behind i steps. -/
def Good (i : Nat) (y : Cn) : Prop := y.ws.length ≤ 1048576 ∧ (0 ≤ y.room ∧ y.room ≤ 1048576) ∧ y.ss.length ≤ i * 1048576
theorem Good.mono {i : Nat} {y : Cn} (h : Good i y) : Good (i + 1) y := ⟨h.1, h.2.1, Nat.le_trans h.2.2 (Nat.mul_le_mul_right _ (Nat.le_succ i))⟩
/-- Behind i steps: one connection x0 as it was, and some others. -/
structure Ap (w0 w : World) (p bm : Nat) (x0 : Cn) (i sz : Nat) (Dm : DataW Unit) (vd : Value) (L : List Cn) : Prop where
  mw : MW w p bm sz Dm vd [] (x0 :: L)
  bP : w0.heap.size ≤ p
  bM : w0.heap.size ≤ bm
  bO : ∀ y ∈ x0 :: L, ∀ k, y.own k → w0.heap.size ≤ k
  bD : ∀ k, vd.ownBlock = some k → w0.heap.size ≤ k
  bel : Below w0.heap.size w0 w
  good : ∀ y ∈ L, Good i y
  szi : sz ≤ i + 1
section
variable {w0 w w' : World} {p bm i sz : Nat} {x0 : Cn} {Dm : DataW Unit} {vd : Value} {L : List Cn}
theorem Ap.low (h : Ap w0 w p bm x0 i sz Dm vd L) (hb : Below w.heap.size w w') : Ap w0 w' p bm x0 i sz Dm vd L := ⟨h.mw.below hb, h.bP, h.bM, h.bO, h.bD, below_step h.bel hb, h.good, h.szi⟩
theorem Ap.next (h : Ap w0 w p bm x0 i sz Dm vd L) : Ap w0 w p bm x0 (i + 1) sz Dm vd L := ⟨h.mw, h.bP, h.bM, h.bO, h.bD, h.bel, fun y hy => (h.good y hy).mono, by have := h.szi; omega⟩
/-- A block of another type is left. -/
theorem keepT {ds : List Int} {y : Cn} (hy : y.St w p bm sz Dm vd ds) (hs : Stay (Ft p bm y.q y.vw y.vs vd) w w') {k : Nat} {C : Array Value} {t : TypeId} {f : Nat × Nat} (hk : w.heap[k]? = some (.cells C t f))
    (ht : t ≠ 55 ∧ t ≠ 67 ∧ t ≠ 5 ∧ t ≠ 3) : w'.heap[k]? = some (.cells C t f) := by
  refine (hs.block k (blk_lt hk) ?_).trans hk
  rintro (e | e | e | e | e | e)
  · rw [e] at hk; exact ne_blk hk hy.blkP ht.1 rfl
  · rw [e] at hk; exact ne_map hk hy.own rfl
  · rw [e] at hk; exact ne_blk hk hy.blkQ ht.2.1 rfl
  · obtain ⟨C', hC'⟩ := hy.rw.typed k e; exact ne_blk hk hC' ht.2.2.1 rfl
  · obtain ⟨C', hC'⟩ := hy.rs.typed k e; exact ne_blk hk hC' ht.2.2.1 rfl
  · obtain ⟨C', hC'⟩ := hy.rd.typed k e; exact ne_blk hk hC' ht.2.2.2 rfl
/-- A call on one of the others. -/
theorem Ap.step {A B : List Cn} {y y' : Cn} {vd' : Value} (h : Ap w0 w p bm x0 i sz Dm vd (A ++ y :: B)) (hc : y'.c = y.c) (hq : y'.q = y.q) (hy' : y'.St w' p bm sz Dm vd' [])
    (hft : ∀ k, Ft p bm y'.q y'.vw y'.vs vd' k → Ft p bm y.q y.vw y.vs vd k ∨ w.heap.size ≤ k) (hs : Stay (Ft p bm y.q y.vw y.vs vd) w w') (hg : Good (i + 1) y') : Ap w0 w' p bm x0 (i + 1) sz Dm vd' (A ++ y' :: B) := by
  have hFt : ∀ k, Ft p bm y.q y.vw y.vs vd k → w0.heap.size ≤ k := by
    rintro k (e | e | e | e | e | e)
    · rw [e]; exact h.bP
    · rw [e]; exact h.bM
    · exact h.bO y (by simp) k (.inl e)
    · exact h.bO y (by simp) k (.inr (.inl e))
    · exact h.bO y (by simp) k (.inr (.inr e))
    · exact h.bD k e
  have hFt' : ∀ k, Ft p bm y'.q y'.vw y'.vs vd' k → w0.heap.size ≤ k := fun k hk => (hft k hk).elim (hFt k) (fun h5 => Nat.le_trans h.bel.size h5)
  refine ⟨?_, h.bP, h.bM, ?_, fun k hk => hFt' k (.inr (.inr (.inr (.inr (.inr hk))))), hs.out h.bel hFt h.bel.size, ?_, by have := h.szi; omega⟩
  · exact MW.step (A := x0 :: A) h.mw hc hq hy' hft hs
  · intro z hz k hk
    have hz' : z = y' ∨ z ∈ x0 :: (A ++ y :: B) := by
      simp only [List.mem_cons, List.mem_append] at hz ⊢
      rcases hz with h1 | h1 | h1 | h1
      · exact .inr (.inl h1)
      · exact .inr (.inr (.inl h1))
      · exact .inl h1
      · exact .inr (.inr (.inr (.inr h1)))
    rcases hz' with e | hz'
    · subst e
      rcases hk with e | e | e
      · exact hFt' k (.inr (.inr (.inl e)))
      · exact hFt' k (.inr (.inr (.inr (.inl e))))
      · exact hFt' k (.inr (.inr (.inr (.inr (.inl e)))))
    · exact h.bO z hz' k hk
  · intro z hz
    simp only [List.mem_append, List.mem_cons] at hz
    rcases hz with h1 | h1 | h1
    · exact (h.good z (by simp [h1])).mono
    · rw [h1]; exact hg
    · exact (h.good z (by simp [h1])).mono
theorem find_or (L : List Cn) (c : Int) : (∃ A y B, L = A ++ y :: B ∧ y.c = c) ∨ ∀ y ∈ L, y.c ≠ c := by
  by_cases h : ∃ y ∈ L, y.c = c
  · obtain ⟨y, hy, e⟩ := h
    obtain ⟨A, B, hAB⟩ := List.append_of_mem hy
    exact .inl ⟨A, y, B, hAB, e⟩
  · exact .inr (fun y hy e => h ⟨y, hy, e⟩)
/-- One of the others is open, or there is no such open connection. -/
theorem Ap.at (h : Ap w0 w p bm x0 i sz Dm vd L) {c : Int} (hc : (Key c).wf = true) (hne : c ≠ x0.c) : (∃ A y B, L = A ++ y :: B ∧ y.c = c ∧ y.op = true) ∨ NoAt w p c := by
  rcases find_or L c with ⟨A, y, B, hL, hyc⟩ | hn
  · have hy : y.St w p bm sz Dm vd [] := h.mw.all y (by rw [hL]; simp)
    rcases hop : y.op with _ | _
    · refine .inr ?_
      unfold Cn.St at hy
      rw [hop, hyc] at hy
      exact at_shut hy hc
    · exact .inl ⟨A, y, B, hL, hyc, hop⟩
  · exact .inr (at_no h.mw.blkP h.mw.own (h.mw.nokey c (fun y hy => by
      rw [List.mem_cons] at hy
      rcases hy with rfl | hy
      · exact fun e => hne e.symm
      · exact hn y hy)) hc)
/-- Behind a call: some others, and blocks of other types as they were. -/
def Zs (w0 : World) (p bm : Nat) (x0 : Cn) (i : Nat) (x : Nat) (S : Obj) (g : Nat) (W : World) : Prop := (∃ sz Dm vd L, Ap w0 W p bm x0 i sz Dm vd L) ∧ W.heap[g]? = some S ∧ Emp W x
theorem Zs.low {x g : Nat} {S : Obj} (h : Zs w0 p bm x0 i x S g w) (hb : Below w.heap.size w w') : Zs w0 p bm x0 i x S g w' := by
  obtain ⟨⟨sz, Dm, vd, L, hA⟩, hg, hx⟩ := h
  exact ⟨⟨sz, Dm, vd, L, hA.low hb⟩, (hb.block g (blk_lt hg)).trans hg, (hb.block x (blk_lt hx)).trans hx⟩
theorem Zs.next {x g : Nat} {S : Obj} (h : Zs w0 p bm x0 i x S g w) : Zs w0 p bm x0 (i + 1) x S g w := by
  obtain ⟨⟨sz, Dm, vd, L, hA⟩, hg, hx⟩ := h
  exact ⟨⟨sz, Dm, vd, L, hA.next⟩, hg, hx⟩
end
end Go.Proofs.Ytnhhcmnjfaeliaa.Vm
