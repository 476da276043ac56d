/- Package world, by hand: Open at any connections; own text of this session. -/
import Derived.Test.YtnhhcmnjfaeliaaVm8
namespace Go.Proofs.Ytnhhcmnjfaeliaa.Vm
open Wld hiding St Ft Next cellsQ cellsP ReadPost ptrE ptrE_none ptrE_some law zeroP Key key_of info_u8 info_int ne_t ne_blk ne_map grown_below
open Go.RowKit Go.Proofs.YtnhhcmnjfaeliaaW.PrintWords Go.Proofs.YtnhhcmnjfaeliaaW.PrintLast Go.Maps
set_option linter.unusedVariables false
set_option linter.unusedSimpArgs false
/-- A connection that was opened just now. -/
def fresh (c : Int) (q : Nat) : Cn := ⟨q, .slice none 0 0, .slice none 0 0, c, true, false, [], [], 0⟩
theorem key_ne {a b : Int} (h : a ≠ b) : Key a ≠ Key b := fun e => h (by injection e)
theorem MW.neP {w : World} {p bm sz : Nat} {Dm : DataW Unit} {vd : Value} {ds : List Int} {L : List Cn} (h : MW w p bm sz Dm vd ds L) : p ≠ bm := ne_map h.blkP h.own
theorem MW.neD {w : World} {p bm sz : Nat} {Dm : DataW Unit} {vd : Value} {ds : List Int} {L : List Cn} (h : MW w p bm sz Dm vd ds L) (i : Nat) (hi : vd.ownBlock = some i) : i ≠ bm := by
  obtain ⟨C, hC⟩ := h.rd.typed i hi
  exact ne_map hC h.own
theorem fresh_own {c : Int} {q k : Nat} (h : (fresh c q).own k) : k = q := by
  rcases h with h | h | h
  · exact h
  · simp [fresh, Value.ownBlock] at h
  · simp [fresh, Value.ownBlock] at h
theorem Cn.own_lt {w : World} {p bm sz : Nat} {Dm : DataW Unit} {vd : Value} {ds : List Int} {x : Cn} (h : x.St w p bm sz Dm vd ds) {k : Nat} (hk : x.own k) : k < w.heap.size := by
  rcases hk with e | e | e
  · rw [e]; exact blk_lt h.blkQ
  · exact h.rw.lt k e
  · exact h.rs.lt k e
/-- One connection more. -/
theorem MW.add {w1 w2 : World} {p bm sz : Nat} {Dm : DataW Unit} {vd : Value} {ds : List Int} {L : List Cn} {c : Int} (h : MW w1 p bm sz Dm vd ds L) (hc : (Key c).wf = true) (hn : ∀ x ∈ L, x.c ≠ c)
    (hown : w2.ownsMap Try.prog 3 ptrE bm (sz + 1) (Dm.put (Key c) (.lit (.int .i64 (w1.heap.size : Int)))))
    (hg : (w1.alloc (.cells (cellsQ true false (.slice none 0 0) (.slice none 0 0) 0) 67)).grownBy w2 (some bm)) :
    MW w2 p bm (sz + 1) (Dm.put (Key c) (.lit (.int .i64 (w1.heap.size : Int)))) vd ds (L ++ [fresh c w1.heap.size]) := by
  obtain ⟨o, ho⟩ : ∃ o, o = Obj.cells (cellsQ true false (.slice none 0 0) (.slice none 0 0) 0) 67 (0, 0) := ⟨_, rfl⟩
  rw [← ho] at hg
  have hba := below_alloc (Below.refl w1.heap.size w1) o
  have keep : ∀ k, k < w1.heap.size → k ≠ bm → w2.heap[k]? = w1.heap[k]? := fun k hk hne => (hg.block k (Nat.lt_of_lt_of_le hk hba.size) (fun e => by injection e with e; exact hne e)).trans (hba.block k hk)
  have hq : w2.heap[w1.heap.size]? = some (.cells (cellsQ true false (.slice none 0 0) (.slice none 0 0) 0) 67 (0, 0)) := by
    have h5 := blk_new w1 o
    rw [ho] at h5
    exact (hg.block w1.heap.size (blk_lt (blk_new w1 o)) (fun e => by injection e with e; have := h.own.lt; omega)).trans (ho ▸ h5)
  have hP : w2.heap[p]? = some (.cells (cellsP bm vd) 55 (0, 0)) := (keep p (blk_lt h.blkP) h.neP).trans h.blkP
  have hD : Row .i64 3 w2 vd ds := h.rd.keep (fun i hi hl => keep i hl (h.neD i hi))
  have hkc := law.key (key_of hc)
  have hfr : (fresh c w1.heap.size).St w2 p bm (sz + 1) (Dm.put (Key c) (.lit (.int .i64 (w1.heap.size : Int)))) vd ds :=
    ⟨hP, hown, hq, Row.nil _ _ _, Row.nil _ _ _, hD, fun i hi => by simp [fresh, Value.ownBlock] at hi, atKey_put_same h.own.isMap hkc _ _⟩
  have split : ∀ y, y ∈ L ++ [fresh c w1.heap.size] → y ∈ L ∨ y = fresh c w1.heap.size := by
    intro y hy
    simpa using hy
  refine ⟨hP, hown, hD, ?_, ?_, ?_, ?_, ?_⟩
  · intro y hy
    rcases split y hy with hy | rfl
    · have hS := h.all y hy
      exact ⟨hP, hown, (keep y.q (blk_lt hS.blkQ) hS.nePQ.2.2).trans hS.blkQ, hS.rw.keep (fun i hi hl => keep i hl (hS.neW i hi).2.1), hS.rs.keep (fun i hi hl => keep i hl (hS.neS i hi).2.1), hD, hS.apart, by rw [atKey_put_other (key_ne (hn y hy))]; exact hS.look⟩
    · exact hfr
  · intro c' hc'
    rw [atKey_put_other (key_ne (b := c) (fun e => hc' (fresh c w1.heap.size) (by simp) e.symm))]
    exact h.nokey c' (fun x hx => hc' x (by simp [hx]))
  · intro k hk
    by_cases e : k = Key c
    · exact ⟨fresh c w1.heap.size, by simp, e⟩
    · rw [has_put_other e] at hk
      obtain ⟨x, hx, h5⟩ := h.has k hk
      exact ⟨x, by simp [hx], h5⟩
  · intro y hy z hz hyz k hk hkz
    rcases split y hy with hy | rfl
    · rcases split z hz with hz | rfl
      · exact h.apart y hy z hz hyz k hk hkz
      · have h5 := fresh_own hkz
        have h6 := Cn.own_lt (h.all y hy) hk
        omega
    · rcases split z hz with hz | rfl
      · have h5 := fresh_own hk
        have h6 := Cn.own_lt (h.all z hz) hkz
        omega
      · exact hyz rfl
  · rw [List.pairwise_append]
    refine ⟨h.keys, List.pairwise_singleton _ _, fun x hx y hy => ?_⟩
    rw [List.mem_singleton] at hy
    subst hy
    exact hn x hx
section
variable {w : World} {p bm sz : Nat} {Dm : DataW Unit} {vd : Value} {ds : List Int} {L : List Cn} {c : Int}
set_option maxRecDepth 100000 in
theorem open_neg (p : Nat) (w : World) (h0 : c < 0) : Calls Try.prog 15 #[.pointer (some ⟨p, 0, none⟩), .int .i64 c] w fun e w' => e = .returned (.int .i64 1) ∧ w' = w := by
  go_enter Try.func15, Try.ntmps15
  go_wp2
  go_ret
  exact ⟨rfl, rfl⟩
set_option maxRecDepth 100000 in
theorem open_has (h : MW w p bm sz Dm vd ds L) (hc : (Key c).wf = true) (h0 : ¬ c < 0) {x : Cn} (hx : x ∈ L) (hxc : x.c = c) : Calls Try.prog 15 #[.pointer (some ⟨p, 0, none⟩), .int .i64 c] w fun e w' => e = .returned (.int .i64 7) ∧ w' = w := by
  have hz0 : w.cell? ⟨p, 0, none⟩ = some (.map (some bm)) := (blk_cell h.blkP 0).trans rfl
  have hlk := look_at h.own (hxc ▸ (h.all x hx).look) hc
  clear h hc hx hxc
  go_enter Try.func15, Try.ntmps15
  go_wp2
  go_ret
  exact ⟨rfl, rfl⟩
/-- Open, of a connection that never was: it is full, or there is one more. -/
def OpenPost (w : World) (p bm sz : Nat) (Dm : DataW Unit) (vd : Value) (ds : List Int) (L : List Cn) (c : Int) (e : Ending) (w' : World) : Prop :=
  (e = .returned (.int .i64 5) ∧ 1024 ≤ Maps.size Dm ∧ Below w.heap.size w w') ∨
  (e = .returned (.int .i64 0) ∧ ∃ q, w.heap.size ≤ q ∧ MW w' p bm (sz + 1) (Dm.put (Key c) (.lit (.int .i64 (q : Int)))) vd ds (L ++ [fresh c q]) ∧ Stay (fun k => k = bm) w w')
set_option maxHeartbeats 4000000 in
set_option maxRecDepth 100000 in
theorem open_new (h : MW w p bm sz Dm vd ds L) (hsz : sz ≤ 1000000000) (hc : (Key c).wf = true) (h0 : ¬ c < 0) (hn : ∀ x ∈ L, x.c ≠ c) : Calls Try.prog 15 #[.pointer (some ⟨p, 0, none⟩), .int .i64 c] w (OpenPost w p bm sz Dm vd ds L c) := by
  have H := Aside0.mk h
  have HC := Aside0.mk hc
  have HZ := Aside0.mk hsz
  have HN := Aside0.mk hn
  have HA := Aside0.mk (all_any h (Nat.le_trans h.own.size_le hsz))
  have hz0 : w.cell? ⟨p, 0, none⟩ = some (.map (some bm)) := (blk_cell h.blkP 0).trans rfl
  have hlk := look_no h.own (h.nokey c hn) hc
  clear h hc hsz hn
  go_enter Try.func15, Try.ntmps15
  go_wp2_with (first
    | (go_at_call 12; refine HA.out.mono ?_; rintro e w1 ⟨A1, n, c1, rfl, hle, hb1⟩; have HLe := Aside0.mk hle; have HB1 := Aside0.mk hb1; clear hle; have H1 := Aside0.mk (H.out.below hb1); have hy0 : w1.cell? ⟨p, 0, none⟩ = some (.map (some bm)) := (blk_cell H1.out.blkP 0).trans rfl; clear hb1 hz0 hlk)
    | (at_mapUpdate; refine wpList_mapUpdate_own _ rfl _ _ _ 53 rfl 3 64 law Try.underlying53 ptrE bm sz Dm rfl (H1.out.own.alloc _) (by unfold maxLen; have := HZ.out; omega) (.int .i64 c) (.pointer (some ⟨w1.heap.size, 0, none⟩)) (Key c) rfl rfl (key_of HC.out) (.lit (.int .i64 (w1.heap.size : Int))) [] rfl ?_; intro w2 hown2 hgrow2; have HO2 := Aside0.mk hown2; have HG2 := Aside0.mk hgrow2; clear hown2 hgrow2))
  · rename_i hq
    go_ret
    exact .inl ⟨rfl, by have h5 := HLe.out; have h6 : (n : Int) = 1024 := (by simpa using hq); omega, HB1.out⟩
  · go_ret
    exact .inr ⟨rfl, w1.heap.size, HB1.out.size, MW.add H1.out HC.out HN.out HO2.out HG2.out, (Stay.below HB1.out).trans ((Stay.below (F := fun k => k = bm) (below_alloc (Below.refl w1.heap.size w1) _)).trans (Stay.grown (F := fun k => k = bm) HG2.out (fun k hk => by injection hk with hk; exact hk.symm)) (fun i hi => .inl hi)) (fun i hi => .inl hi)⟩
end
end Go.Proofs.Ytnhhcmnjfaeliaa.Vm
