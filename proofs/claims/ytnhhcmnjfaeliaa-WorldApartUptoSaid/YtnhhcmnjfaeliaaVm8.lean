/- Package world, by hand: All at any connections; own text of this session. -/
import Derived.Test.YtnhhcmnjfaeliaaVm7
namespace Go.Proofs.Ytnhhcmnjfaeliaa.Vm
open Wld hiding St Ft Next cellsQ cellsP ReadPost ptrE ptrE_none ptrE_some law zeroP Key key_of info_u8 info_int ne_t ne_blk ne_map grown_below
open Go.RowKit Go.Proofs.YtnhhcmnjfaeliaaW.PrintWords Go.Proofs.YtnhhcmnjfaeliaaW.PrintLast Go.Maps
set_option linter.unusedVariables false
set_option linter.unusedSimpArgs false
theorem below_grown {w w1 w2 : World} {o : Obj} {own : Option Nat} (hb : Below w.heap.size w w1) (hg : (w1.alloc o).grownBy w2 own) (hne : ∀ k, own = some k → w.heap.size ≤ k) : Below w.heap.size w w2 := by
  have h5 := below_alloc hb o
  exact ⟨hg.os.trans h5.os, hg.tape.trans h5.tape, hg.output.trans h5.output, Nat.le_trans h5.size hg.size, fun k hk => (hg.block k (Nat.lt_of_lt_of_le hk h5.size) (fun e => by have := hne k e.symm; omega)).trans (h5.block k hk)⟩
theorem own_grown {w1 : World} {o : Obj} {v v1 : Value} {B r : Nat} (ho : ∀ i, v.ownBlock = some i → B ≤ i ∧ i ≠ r) (hat : v1.ownBlock = v.ownBlock ∨ ∃ i, v1.ownBlock = some i ∧ (w1.alloc o).heap.size ≤ i) (hr : r < w1.heap.size) (hB : B ≤ w1.heap.size) : ∀ i, v1.ownBlock = some i → B ≤ i ∧ i ≠ r := by
  intro i hi
  rcases hat with e | ⟨j, e, hj⟩
  · exact ho i (by rw [← e]; exact hi)
  · rw [e] at hi
    injection hi with hi
    have h7 := (below_alloc (Below.refl w1.heap.size w1) o).size
    exact ⟨by omega, by omega⟩
section
variable {w : World} {p bm sz : Nat} {Dm : DataW Unit} {vd : Value} {ds : List Int} {L : List Cn}
set_option maxHeartbeats 8000000 in
set_option maxRecDepth 100000 in
theorem all_any (h : MW w p bm sz Dm vd ds L) (hsz : Maps.size Dm ≤ 1000000000) :
    Calls Try.prog 12 #[.pointer (some ⟨p, 0, none⟩)] w fun e w' => ∃ (A1 : Option Addr) (n c1 : Nat), e = .returned (.slice A1 n c1) ∧ n ≤ Maps.size Dm ∧ Below w.heap.size w w' := by
  have H := Aside0.mk h
  have HZ := Aside0.mk hsz
  have hz0 : w.cell? ⟨p, 0, none⟩ = some (.map (some bm)) := (blk_cell h.blkP 0).trans rfl
  clear h hsz
  go_enter Try.func12, Try.ntmps12
  go_wp2_with (at_range; refine wpList_range_own _ rfl _ 53 rfl 3 64 law Try.underlying53 ptrE bm sz Dm rfl H.out.own ?_; intro w0 hrg0 hg0 hs0; have HR0 := Aside0.mk hrg0; have HG0 := Aside0.mk hg0; clear hrg0 hg0 hs0 hz0)
  go_frame
  obtain ⟨r, hr⟩ : ∃ r, r = w.heap.size := ⟨_, rfl⟩
  have HRr := Aside0.mk hr
  rw [← hr]
  rw [← hr] at HR0
  clear hr
  go_loopw [3] (fun v3 wr => ∃ (v : Value) (xs : List Int) (left : Lit → Bool) (cnt : Nat), v = v3 ∧ Aside0 (Below w.heap.size w wr) ∧ Aside0 (wr.ranges Try.prog 3 ptrE bm r sz Dm left cnt) ∧ Aside0 (Row .i64 3 wr v xs) ∧ Aside0 (∀ i, v.ownBlock = some i → w.heap.size ≤ i ∧ i ≠ r) ∧ Aside0 (xs.length + cnt ≤ Maps.size Dm) ∧ Aside0 (∀ kl, left kl = true → Maps.has Dm kl = true)) (fun _ wr => wr.rangeLeft bm r)
  case atStart => exact ⟨_, [], _, _, rfl, ⟨⟨HG0.out.os, HG0.out.tape, HG0.out.output, HG0.out.size, fun k hk => HG0.out.block k hk (by simp)⟩⟩, HR0, ⟨Row.nil _ _ _⟩, ⟨fun i hi => by simp [Value.ownBlock] at hi⟩, ⟨by simp⟩, ⟨fun _ h => h⟩⟩
  case round =>
    obtain ⟨v, xs, left, cnt, rfl, HB, HRg, HRow, HOw, HCt, HHas⟩ := hrel
    clear HR0
    rcases Nat.eq_zero_or_pos cnt with h0 | h0
    · subst h0
      obtain ⟨A1, c1, rfl, _⟩ := HRow.out.slice
      have HS := Aside0.mk (sort_row HRow.out (by have := HCt.out; have := HZ.out; omega))
      obtain ⟨n, hn⟩ : ∃ n, n = xs.length := ⟨_, rfl⟩
      have HN := Aside0.mk hn
      rw [← hn] at HS ⊢
      clear hn
      go_wp2_with (first
        | (at_next; refine wpList_next_ranges _ rfl _ rfl 3 law ptrE (Value.int .i64) (fun o : Option Nat => Value.pointer (o.map fun b => ⟨b, 0, none⟩)) ?iK ?iV bm r sz Dm left 0 rfl HRg.out ?_ (fun x cc kl y w1 cnt1 hkey hlk hv hat hrg1 hlt hg1 hs1 hen => absurd hlt (Nat.not_lt_zero _)); (case iK => intro key kl hk; obtain ⟨x, hx, _⟩ := keyOf_int_inv Try.underlying3 hk; exact ⟨x, hx⟩); (case iV => intro v y hv; unfold ptrE at hv; split at hv; exact ⟨none, rfl⟩; exact ⟨some _, rfl⟩; cases hv); intro _ _)
        | (go_at_call 36; refine HS.out.mono ?_; rintro e w2 ⟨rfl, hrow2, hst2⟩; have HR2 := Aside0.mk hrow2; have HS2 := Aside0.mk hst2; clear hrow2 hst2))
      go_ret
      exact ⟨A1, n, c1, rfl, by have h1 := HCt.out; have h2 := HN.out; omega, HS2.out.out HB.out (fun i hi => (HOw.out i (HN.out ▸ hi)).1) HB.out.size⟩
    · obtain ⟨A0, c0, rfl, _⟩ := HRow.out.slice
      obtain ⟨n, hn⟩ : ∃ n, n = xs.length := ⟨_, rfl⟩
      have HN := Aside0.mk hn
      rw [← hn] at HRow HOw ⊢
      clear hn
      have hbr : bm < w.heap.size := H.out.own.lt
      have Hbr := Aside0.mk hbr
      have H0 := Aside0.mk h0
      clear hbr h0
      go_wp2_with (first
        | (at_next; refine wpList_next_ranges _ rfl _ rfl 3 law ptrE (Value.int .i64) (fun o : Option Nat => Value.pointer (o.map fun b => ⟨b, 0, none⟩)) ?iK ?iV bm r sz Dm left cnt rfl HRg.out (fun hz _ => absurd hz (by have := H0.out; omega)) ?_; (case iK => intro key kl hk; obtain ⟨x, hx, _⟩ := keyOf_int_inv Try.underlying3 hk; exact ⟨x, hx⟩); (case iV => intro v y hv; unfold ptrE at hv; split at hv; exact ⟨none, rfl⟩; exact ⟨some _, rfl⟩; cases hv); intro x cc kl y w1 cnt1 hkey hlk hv hat hrg1 hlt hg1 hs1 hen;
            obtain ⟨x', ex, hkl, _⟩ := keyOf_int_inv Try.underlying3 hkey; injection ex with _ ex; subst ex; subst hkl; obtain ⟨yc, hyL, hyc⟩ := H.out.has _ (HHas.out _ hlk); obtain ⟨y1, y2⟩ := y; have hy := hat .nil; have hyS := H.out.all yc hyL; rw [hyc, hyS.look] at hy; replace hy : y1 = .lit (.int .i64 (yc.q : Int)) := hy.symm; subst hy; have hp := ptrE_some hv; rw [hp] at hen; rw [hp]; have HR1 := Aside0.mk hrg1; have HB1 : Aside0 (Below w.heap.size w w1) := ⟨⟨hg1.os.trans HB.out.os, hg1.tape.trans HB.out.tape, hg1.output.trans HB.out.output, Nat.le_trans HB.out.size hg1.size, fun k hk => (hg1.block k (Nat.lt_of_lt_of_le hk HB.out.size) (by have := HRr.out; intro e; injection e with e; omega)).trans (HB.out.block k hk)⟩⟩;
            have hq0 : w1.cell? ⟨yc.q, 0, none⟩ = some (.bool yc.op) := (blk_cell ((HB1.out.block yc.q (blk_lt hyS.blkQ)).trans hyS.blkQ) 0).trans rfl; obtain ⟨op, hop⟩ : ∃ op, op = yc.op := ⟨_, rfl⟩; obtain ⟨qq, hqq⟩ : ∃ qq, qq = yc.q := ⟨_, rfl⟩; rw [← hop, ← hqq] at hq0; rw [← hqq] at hen; rw [← hqq]; have HRow1 := Aside0.mk (HRow.out.keep (fun i hi hl => hg1.block i hl (by have := (HOw.out i hi).2; intro e; injection e with e; omega))); have HLt := Aside0.mk hlt; have HS1 := Aside0.mk hs1; clear hkey hlk hv hat hrg1 hlt hg1 hs1 hp hop hqq hyS hyc hyL)
        | ((with_reducible refine gate_builtin (b := .append) (xs := #[.tmp 22, .tmp 24]) rfl ?_); at_builtin; go_loud (refine append_row (bytes := 8) rfl (.tmp 22) (.tmp 24) rfl Try.underlying27 info_int (by decide) (.slice A0 n c0) xs (some ⟨w1.heap.size, 0, none⟩) 1 1 [x] rfl rfl (HRow1.out.below (below_alloc (Below.refl _ _) _)) (C_blk (xs := [x]) (blk_new w1 (.cells #[.int .i64 x] 3)) (fun i hi => by match i, hi with | 0, _ => rfl) (by simp)) rfl (by have h1 := HCt.out; have h2 := HZ.out; simp only [List.length_cons, List.length_nil]; omega) ?_; intro v1 w2 hR hg hat; have HRow2 := Aside0.mk hR; have HR2 := Aside0.mk ((HR1.out.alloc (.cells #[.int .i64 x] 3)).kept hg (fun e => by have := (HOw.out bm e.symm).1; have := Hbr.out; omega) (fun e => (HOw.out r e.symm).2 rfl)); have HB2 := Aside0.mk (below_grown HB1.out hg (fun k e => (HOw.out k e).1)); have HOw2 := Aside0.mk (own_grown HOw.out hat HR1.out.lt HB1.out.size); clear hR hg hat)))
      · go_roundw
        case rel => exact ⟨v1, xs ++ [x], _, cnt1, rfl, HB2, HR2, HRow2, HOw2, ⟨by have h1 := HCt.out; have h2 := HLt.out; rw [List.length_append]; simp only [List.length_cons, List.length_nil]; omega⟩, ⟨fun kl hk => HHas.out kl (by simp only [Bool.and_eq_true] at hk; exact hk.1)⟩⟩
        case measure =>
          rw [HR2.out.left_eq, HRg.out.left_eq]
          exact HLt.out
      · go_roundw
        case rel => exact ⟨_, xs, _, cnt1, rfl, HB1, HR1, HRow1, HOw, ⟨by have h1 := HCt.out; have h2 := HLt.out; omega⟩, ⟨fun kl hk => HHas.out kl (by simp only [Bool.and_eq_true] at hk; exact hk.1)⟩⟩
        case measure =>
          rw [HR1.out.left_eq, HRg.out.left_eq]
          exact HLt.out
end
end Go.Proofs.Ytnhhcmnjfaeliaa.Vm
