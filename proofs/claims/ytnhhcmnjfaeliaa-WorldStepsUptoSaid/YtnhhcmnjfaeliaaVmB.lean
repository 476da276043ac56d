/- Package world, by hand: slices.Sort of a row of numbers; All at any connections; own text of this session. -/
import Derived.Test.YtnhhcmnjfaeliaaVmA
import Derived.Test.YtnhhcmnjfaeliaaVld8
namespace Go.Proofs.Ytnhhcmnjfaeliaa.Vm
open Go.Sort
open Wld hiding St Ft Next cellsQ cellsP ReadPost
open Go.RowKit Go.Proofs.YtnhhcmnjfaeliaaW.PrintWords Go.Proofs.YtnhhcmnjfaeliaaW.PrintLast Go.Maps
set_option linter.unusedVariables false
set_option linter.unusedSimpArgs false
theorem put_take (cur : Array Value) (off : Nat) (d : Array Int) (h : off + d.size ≤ cur.size) : ((putCells (Value.int .i64) off d cur).toList.drop off).take d.size = d.toList.map (Value.int .i64) := by
  apply List.ext_getElem?
  intro j
  by_cases hj : j < d.size
  · have h1 : off + j < cur.size := by omega
    have h2 : off ≤ off + j ∧ off + j < off + d.size := by omega
    rw [List.getElem?_take_of_lt hj, List.getElem?_drop, List.getElem?_map, Array.getElem?_toList, Array.getElem?_toList]
    unfold putCells
    rw [Array.getElem?_mapIdx, Array.getElem?_eq_getElem h1, Array.getElem?_eq_getElem hj]
    simp only [Option.map_some, if_pos h2]
    rw [Nat.add_sub_cancel_left, getElem!_pos d j hj]
  · rw [List.getElem?_eq_none (by rw [List.length_take]; omega), List.getElem?_eq_none (by rw [List.length_map, Array.length_toList]; omega)]
theorem sorted_len (xs : List Int) : (xs.mergeSort fun x y => decide (x ≤ y)).length = xs.length := List.length_mergeSort xs
/-- slices.Sort, a row of numbers of one's own. -/
theorem sort_row {w : World} {A : Option Addr} {n c : Nat} {xs : List Int} (h : Row .i64 3 w (.slice A n c) xs) (hl : xs.length < 4611686018427387904) :
    Calls Try.prog 36 #[.slice A n c] w fun e w' => e = .returned (.tuple #[]) ∧ Row .i64 3 w' (.slice A n c) (xs.mergeSort fun x y => decide (x ≤ y)) ∧ Stay (fun k => (Value.slice A n c).ownBlock = some k) w w' := by
  obtain ⟨hn, h2⟩ := h
  rcases h2 with ⟨h0, A', e, hA⟩ | ⟨g, off, cap, cur, e, hb, hh, hnc, hcm, hcs, ht⟩
  · injection e with e1 e2 e3
    subst e1 e2 e3
    have hx : xs = [] := List.eq_nil_of_length_eq_zero h0
    subst hx
    refine (Try.slices_Sort_int_none A 0 w).mono ?_
    rintro e w' ⟨rfl, rfl⟩
    rw [List.mergeSort_nil]
    exact ⟨rfl, ⟨hn, .inl ⟨rfl, A, rfl, hA⟩⟩, Stay.refl _ _⟩
  · injection e with e1 e2 e3
    subst e1 e2 e3
    simp only [Nat.mul_one] at hcs ht
    have hget : ∀ j, j < xs.length → cur[off + j]? = some (Value.int .i64 (xs[j]!)) := by
      intro j hj
      have h5 := congrArg (fun l => l[j]?) ht
      rw [List.getElem?_take_of_lt hj, List.getElem?_drop, Array.getElem?_toList] at h5
      rw [h5]
      unfold nums
      rw [List.getElem?_map, List.getElem?_eq_getElem hj, getElem!_pos xs j hj]
      rfl
    have hH : Holds (Value.int .i64) w g (off * 1) xs.toArray := by
      intro j hj
      have hj' : j < xs.length := by simpa using hj
      rw [Nat.mul_one]
      refine ⟨?_, blk_frozen hh _⟩
      rw [blk_cell hh, hget j hj', getElem!_pos xs j hj', getElem!_pos xs.toArray j hj]
      rfl
    refine (Try.slices_Sort_int g (off * 1) c xs w hH (blk_lt hh) hl).mono ?_
    rintro e w' ⟨rfl, m, os, rfl⟩
    rw [Nat.mul_one]
    obtain ⟨ys, hys⟩ : ∃ ys, ys = (xs.mergeSort fun x y => decide (x ≤ y)) := ⟨_, rfl⟩
    have hyl : ys.length = xs.length := by rw [hys]; exact sorted_len xs
    rw [← hys]
    have hg1 : (grow (putRow (Value.int .i64) (Sort.ahead w m) g off ys.toArray) os).heap[g]? = some (.cells (putCells (Value.int .i64) off ys.toArray cur) 3 (0, 0)) := by
      have hlt := blk_lt hh
      unfold grow putRow mapBlock Sort.ahead
      simp only []
      rw [Array.getElem?_append_left (by rw [Array.size_modify]; exact hlt), Array.getElem?_modify, if_pos rfl, hh]
      rfl
    have hk1 : ∀ k, k < w.heap.size → k ≠ g → (grow (putRow (Value.int .i64) (Sort.ahead w m) g off ys.toArray) os).heap[k]? = w.heap[k]? := by
      intro k hk hne
      unfold grow putRow mapBlock Sort.ahead
      simp only []
      rw [Array.getElem?_append_left (by rw [Array.size_modify]; exact hk), Array.getElem?_modify, if_neg (fun e => hne e.symm)]
    refine ⟨rfl, ⟨by unfold nums; rw [List.length_map, hyl]; omega, .inr ⟨g, off, c, _, by rw [Nat.mul_one, hyl], Nat.zero_le _, hg1, by omega, hcm, ?_, ?_⟩⟩, ⟨rfl, rfl, rfl, ?_, fun k hk hne => hk1 k hk (fun e => hne (by rw [e]; rfl))⟩⟩
    · rw [Nat.mul_one]
      unfold putCells
      rw [Array.size_mapIdx]
      exact hcs
    · rw [Nat.mul_one, Nat.mul_one]
      have h5 := put_take cur off ys.toArray (by simp only [List.size_toArray]; omega)
      simp only [List.size_toArray] at h5
      rw [h5]
      rfl
    · unfold grow putRow mapBlock Sort.ahead
      simp only [Array.size_append, Array.size_modify]
      omega
end Go.Proofs.Ytnhhcmnjfaeliaa.Vm
/- Package world, by hand: All at any connections; own text of this session. -/
namespace Go.Proofs.Ytnhhcmnjfaeliaa.Vm
open Wld hiding St Ft Next cellsQ cellsP ReadPost ptrE ptrE_none ptrE_some law zeroP Key key_of info_u8 info_int ne_t ne_blk ne_map grown_below
open Go.RowKit Go.Proofs.YtnhhcmnjfaeliaaW.PrintWords Go.Proofs.YtnhhcmnjfaeliaaW.PrintLast Go.Maps
set_option linter.unusedVariables false
set_option linter.unusedSimpArgs false
theorem below_grown {w w1 w2 : World} {o : Obj} {own : Option Nat} (hb : Below w.heap.size w w1) (hg : (w1.alloc o).grownBy w2 own) (hne : ∀ k, own = some k → w.heap.size ≤ k) : Below w.heap.size w w2 := by
  have h5 := below_alloc hb o
  exact ⟨hg.os.trans h5.os, hg.tape.trans h5.tape, hg.output.trans h5.output, Nat.le_trans h5.size hg.size, fun k hk => (hg.block k (Nat.lt_of_lt_of_le hk h5.size) (fun e => by have := hne k e.symm; omega)).trans (h5.block k hk)⟩
theorem own_grown {w1 : World} {o : Obj} {v v1 : Value} {B r : Nat} (ho : ∀ i, v.ownBlock = some i → B ≤ i ∧ i ≠ r) (hat : v1.ownBlock = v.ownBlock ∨ ∃ i, v1.ownBlock = some i ∧ (w1.alloc o).heap.size ≤ i) (hr : r < w1.heap.size) (hB : B ≤ w1.heap.size) : ∀ i, v1.ownBlock = some i → B ≤ i ∧ i ≠ r := by
  intro i hi
  rcases hat with e | ⟨j, e, hj⟩
  · exact ho i (by rw [← e]; exact hi)
  · rw [e] at hi
    injection hi with hi
    have h7 := (below_alloc (Below.refl w1.heap.size w1) o).size
    exact ⟨by omega, by omega⟩
section
variable {w : World} {p bm sz : Nat} {Dm : DataW Unit} {vd : Value} {ds : List Int} {L : List Cn}
set_option maxHeartbeats 8000000 in
set_option maxRecDepth 100000 in
theorem all_any (h : MW w p bm sz Dm vd ds L) (hsz : Maps.size Dm ≤ 1000000000) :
    Calls Try.prog 12 #[.pointer (some ⟨p, 0, none⟩)] w fun e w' => ∃ (A1 : Option Addr) (n c1 : Nat), e = .returned (.slice A1 n c1) ∧ n ≤ Maps.size Dm ∧ Below w.heap.size w w' := by
  have H := Aside0.mk h
  have HZ := Aside0.mk hsz
  have hz0 : w.cell? ⟨p, 0, none⟩ = some (.map (some bm)) := (blk_cell h.blkP 0).trans rfl
  clear h hsz
  go_enter Try.func12, Try.ntmps12
  go_wp2_with (at_range; refine wpList_range_own _ rfl _ 53 rfl 3 64 law Try.underlying53 ptrE bm sz Dm rfl H.out.own ?_; intro w0 hrg0 hg0 hs0; have HR0 := Aside0.mk hrg0; have HG0 := Aside0.mk hg0; clear hrg0 hg0 hs0 hz0)
  go_frame
  obtain ⟨r, hr⟩ : ∃ r, r = w.heap.size := ⟨_, rfl⟩
  have HRr := Aside0.mk hr
  rw [← hr]
  rw [← hr] at HR0
  clear hr
  go_loopw [3] (fun v3 wr => ∃ (v : Value) (xs : List Int) (left : Lit → Bool) (cnt : Nat), v = v3 ∧ Aside0 (Below w.heap.size w wr) ∧ Aside0 (wr.ranges Try.prog 3 ptrE bm r sz Dm left cnt) ∧ Aside0 (Row .i64 3 wr v xs) ∧ Aside0 (∀ i, v.ownBlock = some i → w.heap.size ≤ i ∧ i ≠ r) ∧ Aside0 (xs.length + cnt ≤ Maps.size Dm) ∧ Aside0 (∀ kl, left kl = true → Maps.has Dm kl = true)) (fun _ wr => wr.rangeLeft bm r)
  case atStart => exact ⟨_, [], _, _, rfl, ⟨⟨HG0.out.os, HG0.out.tape, HG0.out.output, HG0.out.size, fun k hk => HG0.out.block k hk (by simp)⟩⟩, HR0, ⟨Row.nil _ _ _⟩, ⟨fun i hi => by simp [Value.ownBlock] at hi⟩, ⟨by simp⟩, ⟨fun _ h => h⟩⟩
  case round =>
    obtain ⟨v, xs, left, cnt, rfl, HB, HRg, HRow, HOw, HCt, HHas⟩ := hrel
    clear HR0
    rcases Nat.eq_zero_or_pos cnt with h0 | h0
    · subst h0
      obtain ⟨A1, c1, rfl, _⟩ := HRow.out.slice
      have HS := Aside0.mk (sort_row HRow.out (by have := HCt.out; have := HZ.out; omega))
      obtain ⟨n, hn⟩ : ∃ n, n = xs.length := ⟨_, rfl⟩
      have HN := Aside0.mk hn
      rw [← hn] at HS ⊢
      clear hn
      go_wp2_with (first
        | (at_next; refine wpList_next_ranges _ rfl _ rfl 3 law ptrE (Value.int .i64) (fun o : Option Nat => Value.pointer (o.map fun b => ⟨b, 0, none⟩)) ?iK ?iV bm r sz Dm left 0 rfl HRg.out ?_ (fun x cc kl y w1 cnt1 hkey hlk hv hat hrg1 hlt hg1 hs1 hen => absurd hlt (Nat.not_lt_zero _)); (case iK => intro key kl hk; obtain ⟨x, hx, _⟩ := keyOf_int_inv Try.underlying3 hk; exact ⟨x, hx⟩); (case iV => intro v y hv; unfold ptrE at hv; split at hv; exact ⟨none, rfl⟩; exact ⟨some _, rfl⟩; cases hv); intro _ _)
        | (go_at_call 36; refine HS.out.mono ?_; rintro e w2 ⟨rfl, hrow2, hst2⟩; have HR2 := Aside0.mk hrow2; have HS2 := Aside0.mk hst2; clear hrow2 hst2))
      go_ret
      exact ⟨A1, n, c1, rfl, by have h1 := HCt.out; have h2 := HN.out; omega, HS2.out.out HB.out (fun i hi => (HOw.out i (HN.out ▸ hi)).1) HB.out.size⟩
    · obtain ⟨A0, c0, rfl, _⟩ := HRow.out.slice
      obtain ⟨n, hn⟩ : ∃ n, n = xs.length := ⟨_, rfl⟩
      have HN := Aside0.mk hn
      rw [← hn] at HRow HOw ⊢
      clear hn
      have hbr : bm < w.heap.size := H.out.own.lt
      have Hbr := Aside0.mk hbr
      have H0 := Aside0.mk h0
      clear hbr h0
      go_wp2_with (first
        | (at_next; refine wpList_next_ranges _ rfl _ rfl 3 law ptrE (Value.int .i64) (fun o : Option Nat => Value.pointer (o.map fun b => ⟨b, 0, none⟩)) ?iK ?iV bm r sz Dm left cnt rfl HRg.out (fun hz _ => absurd hz (by have := H0.out; omega)) ?_; (case iK => intro key kl hk; obtain ⟨x, hx, _⟩ := keyOf_int_inv Try.underlying3 hk; exact ⟨x, hx⟩); (case iV => intro v y hv; unfold ptrE at hv; split at hv; exact ⟨none, rfl⟩; exact ⟨some _, rfl⟩; cases hv); intro x cc kl y w1 cnt1 hkey hlk hv hat hrg1 hlt hg1 hs1 hen;
            obtain ⟨x', ex, hkl, _⟩ := keyOf_int_inv Try.underlying3 hkey; injection ex with _ ex; subst ex; subst hkl; obtain ⟨yc, hyL, hyc⟩ := H.out.has _ (HHas.out _ hlk); obtain ⟨y1, y2⟩ := y; have hy := hat .nil; have hyS := H.out.all yc hyL; rw [hyc, hyS.look] at hy; replace hy : y1 = .lit (.int .i64 (yc.q : Int)) := hy.symm; subst hy; have hp := ptrE_some hv; rw [hp] at hen; rw [hp]; have HR1 := Aside0.mk hrg1; have HB1 : Aside0 (Below w.heap.size w w1) := ⟨⟨hg1.os.trans HB.out.os, hg1.tape.trans HB.out.tape, hg1.output.trans HB.out.output, Nat.le_trans HB.out.size hg1.size, fun k hk => (hg1.block k (Nat.lt_of_lt_of_le hk HB.out.size) (by have := HRr.out; intro e; injection e with e; omega)).trans (HB.out.block k hk)⟩⟩;
            have hq0 : w1.cell? ⟨yc.q, 0, none⟩ = some (.bool yc.op) := (blk_cell ((HB1.out.block yc.q (blk_lt hyS.blkQ)).trans hyS.blkQ) 0).trans rfl; obtain ⟨op, hop⟩ : ∃ op, op = yc.op := ⟨_, rfl⟩; obtain ⟨qq, hqq⟩ : ∃ qq, qq = yc.q := ⟨_, rfl⟩; rw [← hop, ← hqq] at hq0; rw [← hqq] at hen; rw [← hqq]; have HRow1 := Aside0.mk (HRow.out.keep (fun i hi hl => hg1.block i hl (by have := (HOw.out i hi).2; intro e; injection e with e; omega))); have HLt := Aside0.mk hlt; have HS1 := Aside0.mk hs1; clear hkey hlk hv hat hrg1 hlt hg1 hs1 hp hop hqq hyS hyc hyL)
        | ((with_reducible refine gate_builtin (b := .append) (xs := #[.tmp 22, .tmp 24]) rfl ?_); at_builtin; go_loud (refine append_row (bytes := 8) rfl (.tmp 22) (.tmp 24) rfl Try.underlying27 info_int (by decide) (.slice A0 n c0) xs (some ⟨w1.heap.size, 0, none⟩) 1 1 [x] rfl rfl (HRow1.out.below (below_alloc (Below.refl _ _) _)) (C_blk (xs := [x]) (blk_new w1 (.cells #[.int .i64 x] 3)) (fun i hi => by match i, hi with | 0, _ => rfl) (by simp)) rfl (by have h1 := HCt.out; have h2 := HZ.out; simp only [List.length_cons, List.length_nil]; omega) ?_; intro v1 w2 hR hg hat; have HRow2 := Aside0.mk hR; have HR2 := Aside0.mk ((HR1.out.alloc (.cells #[.int .i64 x] 3)).kept hg (fun e => by have := (HOw.out bm e.symm).1; have := Hbr.out; omega) (fun e => (HOw.out r e.symm).2 rfl)); have HB2 := Aside0.mk (below_grown HB1.out hg (fun k e => (HOw.out k e).1)); have HOw2 := Aside0.mk (own_grown HOw.out hat HR1.out.lt HB1.out.size); clear hR hg hat)))
      · go_roundw
        case rel => exact ⟨v1, xs ++ [x], _, cnt1, rfl, HB2, HR2, HRow2, HOw2, ⟨by have h1 := HCt.out; have h2 := HLt.out; rw [List.length_append]; simp only [List.length_cons, List.length_nil]; omega⟩, ⟨fun kl hk => HHas.out kl (by simp only [Bool.and_eq_true] at hk; exact hk.1)⟩⟩
        case measure =>
          rw [HR2.out.left_eq, HRg.out.left_eq]
          exact HLt.out
      · go_roundw
        case rel => exact ⟨_, xs, _, cnt1, rfl, HB1, HR1, HRow1, HOw, ⟨by have h1 := HCt.out; have h2 := HLt.out; omega⟩, ⟨fun kl hk => HHas.out kl (by simp only [Bool.and_eq_true] at hk; exact hk.1)⟩⟩
        case measure =>
          rw [HR1.out.left_eq, HRg.out.left_eq]
          exact HLt.out
end
end Go.Proofs.Ytnhhcmnjfaeliaa.Vm
/- Package world, by hand: Open at any connections; own text of this session. -/
namespace Go.Proofs.Ytnhhcmnjfaeliaa.Vm
open Wld hiding St Ft Next cellsQ cellsP ReadPost ptrE ptrE_none ptrE_some law zeroP Key key_of info_u8 info_int ne_t ne_blk ne_map grown_below
open Go.RowKit Go.Proofs.YtnhhcmnjfaeliaaW.PrintWords Go.Proofs.YtnhhcmnjfaeliaaW.PrintLast Go.Maps
set_option linter.unusedVariables false
set_option linter.unusedSimpArgs false
/-- A connection that was opened just now. -/
def fresh (c : Int) (q : Nat) : Cn := ⟨q, .slice none 0 0, .slice none 0 0, c, true, false, [], [], 0⟩
theorem key_ne {a b : Int} (h : a ≠ b) : Key a ≠ Key b := fun e => h (by injection e)
theorem MW.neP {w : World} {p bm sz : Nat} {Dm : DataW Unit} {vd : Value} {ds : List Int} {L : List Cn} (h : MW w p bm sz Dm vd ds L) : p ≠ bm := ne_map h.blkP h.own
theorem MW.neD {w : World} {p bm sz : Nat} {Dm : DataW Unit} {vd : Value} {ds : List Int} {L : List Cn} (h : MW w p bm sz Dm vd ds L) (i : Nat) (hi : vd.ownBlock = some i) : i ≠ bm := by
  obtain ⟨C, hC⟩ := h.rd.typed i hi
  exact ne_map hC h.own
theorem fresh_own {c : Int} {q k : Nat} (h : (fresh c q).own k) : k = q := by
  rcases h with h | h | h
  · exact h
  · simp [fresh, Value.ownBlock] at h
  · simp [fresh, Value.ownBlock] at h
theorem Cn.own_lt {w : World} {p bm sz : Nat} {Dm : DataW Unit} {vd : Value} {ds : List Int} {x : Cn} (h : x.St w p bm sz Dm vd ds) {k : Nat} (hk : x.own k) : k < w.heap.size := by
  rcases hk with e | e | e
  · rw [e]; exact blk_lt h.blkQ
  · exact h.rw.lt k e
  · exact h.rs.lt k e
/-- One connection more. -/
theorem MW.add {w1 w2 : World} {p bm sz : Nat} {Dm : DataW Unit} {vd : Value} {ds : List Int} {L : List Cn} {c : Int} (h : MW w1 p bm sz Dm vd ds L) (hc : (Key c).wf = true) (hn : ∀ x ∈ L, x.c ≠ c)
    (hown : w2.ownsMap Try.prog 3 ptrE bm (sz + 1) (Dm.put (Key c) (.lit (.int .i64 (w1.heap.size : Int)))))
    (hg : (w1.alloc (.cells (cellsQ true false (.slice none 0 0) (.slice none 0 0) 0) 67)).grownBy w2 (some bm)) :
    MW w2 p bm (sz + 1) (Dm.put (Key c) (.lit (.int .i64 (w1.heap.size : Int)))) vd ds (L ++ [fresh c w1.heap.size]) := by
  obtain ⟨o, ho⟩ : ∃ o, o = Obj.cells (cellsQ true false (.slice none 0 0) (.slice none 0 0) 0) 67 (0, 0) := ⟨_, rfl⟩
  rw [← ho] at hg
  have hba := below_alloc (Below.refl w1.heap.size w1) o
  have keep : ∀ k, k < w1.heap.size → k ≠ bm → w2.heap[k]? = w1.heap[k]? := fun k hk hne => (hg.block k (Nat.lt_of_lt_of_le hk hba.size) (fun e => by injection e with e; exact hne e)).trans (hba.block k hk)
  have hq : w2.heap[w1.heap.size]? = some (.cells (cellsQ true false (.slice none 0 0) (.slice none 0 0) 0) 67 (0, 0)) := by
    have h5 := blk_new w1 o
    rw [ho] at h5
    exact (hg.block w1.heap.size (blk_lt (blk_new w1 o)) (fun e => by injection e with e; have := h.own.lt; omega)).trans (ho ▸ h5)
  have hP : w2.heap[p]? = some (.cells (cellsP bm vd) 55 (0, 0)) := (keep p (blk_lt h.blkP) h.neP).trans h.blkP
  have hD : Row .i64 3 w2 vd ds := h.rd.keep (fun i hi hl => keep i hl (h.neD i hi))
  have hkc := law.key (key_of hc)
  have hfr : (fresh c w1.heap.size).St w2 p bm (sz + 1) (Dm.put (Key c) (.lit (.int .i64 (w1.heap.size : Int)))) vd ds :=
    ⟨hP, hown, hq, Row.nil _ _ _, Row.nil _ _ _, hD, fun i hi => by simp [fresh, Value.ownBlock] at hi, atKey_put_same h.own.isMap hkc _ _⟩
  have split : ∀ y, y ∈ L ++ [fresh c w1.heap.size] → y ∈ L ∨ y = fresh c w1.heap.size := by
    intro y hy
    simpa using hy
  refine ⟨hP, hown, hD, ?_, ?_, ?_, ?_, ?_⟩
  · intro y hy
    rcases split y hy with hy | rfl
    · have hS := h.all y hy
      exact ⟨hP, hown, (keep y.q (blk_lt hS.blkQ) hS.nePQ.2.2).trans hS.blkQ, hS.rw.keep (fun i hi hl => keep i hl (hS.neW i hi).2.1), hS.rs.keep (fun i hi hl => keep i hl (hS.neS i hi).2.1), hD, hS.apart, by rw [atKey_put_other (key_ne (hn y hy))]; exact hS.look⟩
    · exact hfr
  · intro c' hc'
    rw [atKey_put_other (key_ne (b := c) (fun e => hc' (fresh c w1.heap.size) (by simp) e.symm))]
    exact h.nokey c' (fun x hx => hc' x (by simp [hx]))
  · intro k hk
    by_cases e : k = Key c
    · exact ⟨fresh c w1.heap.size, by simp, e⟩
    · rw [has_put_other e] at hk
      obtain ⟨x, hx, h5⟩ := h.has k hk
      exact ⟨x, by simp [hx], h5⟩
  · intro y hy z hz hyz k hk hkz
    rcases split y hy with hy | rfl
    · rcases split z hz with hz | rfl
      · exact h.apart y hy z hz hyz k hk hkz
      · have h5 := fresh_own hkz
        have h6 := Cn.own_lt (h.all y hy) hk
        omega
    · rcases split z hz with hz | rfl
      · have h5 := fresh_own hk
        have h6 := Cn.own_lt (h.all z hz) hkz
        omega
      · exact hyz rfl
  · rw [List.pairwise_append]
    refine ⟨h.keys, List.pairwise_singleton _ _, fun x hx y hy => ?_⟩
    rw [List.mem_singleton] at hy
    subst hy
    exact hn x hx
section
variable {w : World} {p bm sz : Nat} {Dm : DataW Unit} {vd : Value} {ds : List Int} {L : List Cn} {c : Int}
set_option maxRecDepth 100000 in
theorem open_neg (p : Nat) (w : World) (h0 : c < 0) : Calls Try.prog 15 #[.pointer (some ⟨p, 0, none⟩), .int .i64 c] w fun e w' => e = .returned (.int .i64 1) ∧ w' = w := by
  go_enter Try.func15, Try.ntmps15
  go_wp2
  go_ret
  exact ⟨rfl, rfl⟩
set_option maxRecDepth 100000 in
theorem open_has (h : MW w p bm sz Dm vd ds L) (hc : (Key c).wf = true) (h0 : ¬ c < 0) {x : Cn} (hx : x ∈ L) (hxc : x.c = c) : Calls Try.prog 15 #[.pointer (some ⟨p, 0, none⟩), .int .i64 c] w fun e w' => e = .returned (.int .i64 7) ∧ w' = w := by
  have hz0 : w.cell? ⟨p, 0, none⟩ = some (.map (some bm)) := (blk_cell h.blkP 0).trans rfl
  have hlk := look_at h.own (hxc ▸ (h.all x hx).look) hc
  clear h hc hx hxc
  go_enter Try.func15, Try.ntmps15
  go_wp2
  go_ret
  exact ⟨rfl, rfl⟩
/-- Open, of a connection that never was: it is full, or there is one more. -/
def OpenPost (w : World) (p bm sz : Nat) (Dm : DataW Unit) (vd : Value) (ds : List Int) (L : List Cn) (c : Int) (e : Ending) (w' : World) : Prop :=
  (e = .returned (.int .i64 5) ∧ 1024 ≤ Maps.size Dm ∧ Below w.heap.size w w') ∨
  (e = .returned (.int .i64 0) ∧ ∃ q, w.heap.size ≤ q ∧ MW w' p bm (sz + 1) (Dm.put (Key c) (.lit (.int .i64 (q : Int)))) vd ds (L ++ [fresh c q]) ∧ Stay (fun k => k = bm) w w')
set_option maxHeartbeats 4000000 in
set_option maxRecDepth 100000 in
theorem open_new (h : MW w p bm sz Dm vd ds L) (hsz : sz ≤ 1000000000) (hc : (Key c).wf = true) (h0 : ¬ c < 0) (hn : ∀ x ∈ L, x.c ≠ c) : Calls Try.prog 15 #[.pointer (some ⟨p, 0, none⟩), .int .i64 c] w (OpenPost w p bm sz Dm vd ds L c) := by
  have H := Aside0.mk h
  have HC := Aside0.mk hc
  have HZ := Aside0.mk hsz
  have HN := Aside0.mk hn
  have HA := Aside0.mk (all_any h (Nat.le_trans h.own.size_le hsz))
  have hz0 : w.cell? ⟨p, 0, none⟩ = some (.map (some bm)) := (blk_cell h.blkP 0).trans rfl
  have hlk := look_no h.own (h.nokey c hn) hc
  clear h hc hsz hn
  go_enter Try.func15, Try.ntmps15
  go_wp2_with (first
    | (go_at_call 12; refine HA.out.mono ?_; rintro e w1 ⟨A1, n, c1, rfl, hle, hb1⟩; have HLe := Aside0.mk hle; have HB1 := Aside0.mk hb1; clear hle; have H1 := Aside0.mk (H.out.below hb1); have hy0 : w1.cell? ⟨p, 0, none⟩ = some (.map (some bm)) := (blk_cell H1.out.blkP 0).trans rfl; clear hb1 hz0 hlk)
    | (at_mapUpdate; refine wpList_mapUpdate_own _ rfl _ _ _ 53 rfl 3 64 law Try.underlying53 ptrE bm sz Dm rfl (H1.out.own.alloc _) (by unfold maxLen; have := HZ.out; omega) (.int .i64 c) (.pointer (some ⟨w1.heap.size, 0, none⟩)) (Key c) rfl rfl (key_of HC.out) (.lit (.int .i64 (w1.heap.size : Int))) [] rfl ?_; intro w2 hown2 hgrow2; have HO2 := Aside0.mk hown2; have HG2 := Aside0.mk hgrow2; clear hown2 hgrow2))
  · rename_i hq
    go_ret
    exact .inl ⟨rfl, by have h5 := HLe.out; have h6 : (n : Int) = 1024 := (by simpa using hq); omega, HB1.out⟩
  · go_ret
    exact .inr ⟨rfl, w1.heap.size, HB1.out.size, MW.add H1.out HC.out HN.out HO2.out HG2.out, (Stay.below HB1.out).trans ((Stay.below (F := fun k => k = bm) (below_alloc (Below.refl w1.heap.size w1) _)).trans (Stay.grown (F := fun k => k = bm) HG2.out (fun k hk => by injection hk with hk; exact hk.symm)) (fun i hi => .inl hi)) (fun i hi => .inl hi)⟩
end
end Go.Proofs.Ytnhhcmnjfaeliaa.Vm
