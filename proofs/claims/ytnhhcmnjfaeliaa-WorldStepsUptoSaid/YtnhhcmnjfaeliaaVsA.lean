/- Package world, by hand: All told exactly; own text of this session. -/
import Derived.Test.YtnhhcmnjfaeliaaVm21
namespace Go.Proofs.Ytnhhcmnjfaeliaa.Vm
open Wld hiding St Ft Next cellsQ cellsP ReadPost ptrE ptrE_none ptrE_some law zeroP Key key_of info_u8 info_int ne_t ne_blk ne_map grown_below
open Go.RowKit Go.Proofs.YtnhhcmnjfaeliaaW.PrintWords Go.Proofs.YtnhhcmnjfaeliaaW.PrintLast Go.Maps
set_option linter.unusedVariables false
set_option linter.unusedSimpArgs false
/-- The numbers of the open ones, in order. -/
def opens (L : List Cn) : List Int := ((L.filter fun y => y.op).map fun y => y.c).mergeSort fun x y => decide (x ≤ y)
def Mem (L : List Cn) (left : Lit → Bool) (xs : List Int) : Prop := ∀ c, c ∈ xs ↔ ∃ y ∈ L, y.c = c ∧ y.op = true ∧ left (Key c) = false
theorem key_self (c : Int) : (Key c).sameKey (Key c) = true := by simp [Key, Lit.sameKey]
theorem key_other {a b : Int} (h : a ≠ b) : (Key a).sameKey (Key b) = false := by simp [Key, Lit.sameKey, h]
theorem nodup_snoc {xs : List Int} {c : Int} (h : xs.Nodup) (hc : c ∉ xs) : (xs ++ [c]).Nodup := by
  rw [List.nodup_append]
  exact ⟨h, List.nodup_cons.2 ⟨List.not_mem_nil, List.nodup_nil⟩, fun a ha b hb e => by rw [List.mem_singleton] at hb; subst hb; subst e; exact hc ha⟩
theorem sort_perm {xs ys : List Int} (h : xs.Perm ys) : (xs.mergeSort fun x y => decide (x ≤ y)) = ys.mergeSort fun x y => decide (x ≤ y) := by
  have s : ∀ l : List Int, (l.mergeSort fun x y => decide (x ≤ y)).Pairwise (fun a b => a ≤ b) := fun l =>
    (List.pairwise_mergeSort (le := fun x y : Int => decide (x ≤ y)) (fun a b c h1 h2 => by simp at *; omega) (fun a b => by simp; omega) l).imp (fun h => by simpa using h)
  exact List.Perm.eq_of_pairwise (fun a b _ _ h1 h2 => by omega) (s xs) (s ys) ((List.mergeSort_perm xs _).trans (h.trans (List.mergeSort_perm ys _).symm))
section
variable {w : World} {p bm sz : Nat} {Dm : DataW Unit} {vd : Value} {ds : List Int} {L : List Cn} {left : Lit → Bool} {xs : List Int}
theorem MW.uniq (h : MW w p bm sz Dm vd ds L) {y z : Cn} (hy : y ∈ L) (hz : z ∈ L) (e : y.c = z.c) : y = z := by
  have gen : ∀ l : List Cn, l.Pairwise (fun x y => x.c ≠ y.c) → ∀ y ∈ l, ∀ z ∈ l, y.c = z.c → y = z := by
    intro l hl
    induction hl with
    | nil => intro y hy; cases hy
    | cons h1 _ ih =>
      intro y hy z hz e
      rcases List.mem_cons.1 hy with h2 | hy
      · rcases List.mem_cons.1 hz with h3 | hz
        · rw [h2, h3]
        · rw [h2] at e
          exact absurd e (h1 z hz)
      · rcases List.mem_cons.1 hz with h3 | hz
        · rw [h3] at e
          exact absurd e.symm (h1 y hy)
        · exact ih y hy z hz e
  exact gen L h.keys y hy z hz e
theorem mem_start (h : MW w p bm sz Dm vd ds L) : Mem L (Maps.has Dm) [] := by
  intro c
  refine ⟨fun hc => (by cases hc), ?_⟩
  rintro ⟨y, hy, rfl, _, hl⟩
  have hk := (h.all y hy).look
  rw [Maps.atKey_of_not_has hl] at hk
  cases hk
theorem mem_open (h : MW w p bm sz Dm vd ds L) (hm : Mem L left xs) {yc : Cn} (hy : yc ∈ L) (ho : yc.op = true) (hl : left (Key yc.c) = true) : Mem L (fun z => left z && !z.sameKey (Key yc.c)) (xs ++ [yc.c]) ∧ yc.c ∉ xs := by
  refine ⟨fun c => ?_, fun hc => ?_⟩
  · rw [List.mem_append, List.mem_singleton]
    constructor
    · rintro (hc | rfl)
      · obtain ⟨y, h1, h2, h3, h4⟩ := (hm c).1 hc
        exact ⟨y, h1, h2, h3, by simp [h4]⟩
      · exact ⟨yc, hy, rfl, ho, by simp [key_self]⟩
    · rintro ⟨y, h1, rfl, h3, h4⟩
      by_cases e : y.c = yc.c
      · exact .inr e
      · replace h4 : (left (Key y.c) && !(Key y.c).sameKey (Key yc.c)) = false := h4
        rw [key_other e] at h4
        exact .inl ((hm _).2 ⟨y, h1, rfl, h3, by simpa using h4⟩)
  · obtain ⟨y, h1, h2, h3, h4⟩ := (hm _).1 hc
    rw [hl] at h4
    cases h4
theorem mem_shut (h : MW w p bm sz Dm vd ds L) (hm : Mem L left xs) {yc : Cn} (hy : yc ∈ L) (ho : yc.op = false) : Mem L (fun z => left z && !z.sameKey (Key yc.c)) xs := by
  intro c
  rw [hm c]
  constructor
  · rintro ⟨y, h1, h2, h3, h4⟩
    exact ⟨y, h1, h2, h3, by simp [h4]⟩
  · rintro ⟨y, h1, rfl, h3, h4⟩
    have e : y.c ≠ yc.c := fun e => by
      rw [h.uniq h1 hy e, ho] at h3
      cases h3
    replace h4 : (left (Key y.c) && !(Key y.c).sameKey (Key yc.c)) = false := h4
    rw [key_other e] at h4
    exact ⟨y, h1, rfl, h3, by simpa using h4⟩
theorem mem_done (h : MW w p bm sz Dm vd ds L) (hm : Mem L left xs) (hn : xs.Nodup) (hl : ∀ kl, left kl = false) : (xs.mergeSort fun x y => decide (x ≤ y)) = opens L := by
  refine sort_perm ((List.perm_ext_iff_of_nodup hn ?_).2 fun c => ?_)
  · rw [List.Nodup, List.pairwise_map]
    exact h.keys.filter _
  · rw [hm c]
    simp only [List.mem_map, List.mem_filter, hl, and_true]
    constructor
    · rintro ⟨y, h1, h2, h3⟩; exact ⟨y, ⟨h1, h3⟩, h2⟩
    · rintro ⟨y, ⟨h1, h3⟩, h2⟩; exact ⟨y, h1, h2, h3⟩
set_option maxHeartbeats 8000000 in
set_option maxRecDepth 100000 in
theorem all_exact (h : MW w p bm sz Dm vd ds L) (hsz : Maps.size Dm ≤ 1000000000) :
    Calls Try.prog 12 #[.pointer (some ⟨p, 0, none⟩)] w fun e w' => ∃ (A1 : Option Addr) (c1 : Nat), e = .returned (.slice A1 (opens L).length c1) ∧ Row .i64 3 w' (.slice A1 (opens L).length c1) (opens L) ∧ Below w.heap.size w w' := by
  have H := Aside0.mk h
  have HM0 := Aside0.mk (mem_start h)
  have HZ := Aside0.mk hsz
  have hz0 : w.cell? ⟨p, 0, none⟩ = some (.map (some bm)) := (blk_cell h.blkP 0).trans rfl
  clear h hsz
  go_enter Try.func12, Try.ntmps12
  go_wp2_with (at_range; refine wpList_range_own _ rfl _ 53 rfl 3 64 law Try.underlying53 ptrE bm sz Dm rfl H.out.own ?_; intro w0 hrg0 hg0 hs0; have HR0 := Aside0.mk hrg0; have HG0 := Aside0.mk hg0; clear hrg0 hg0 hs0 hz0)
  go_frame
  obtain ⟨r, hr⟩ : ∃ r, r = w.heap.size := ⟨_, rfl⟩
  have HRr := Aside0.mk hr
  rw [← hr]
  rw [← hr] at HR0
  clear hr
  go_loopw [3] (fun v3 wr => ∃ (v : Value) (xs : List Int) (left : Lit → Bool) (cnt : Nat), v = v3 ∧ Aside0 (Mem L left xs ∧ xs.Nodup) ∧ Aside0 (Below w.heap.size w wr) ∧ Aside0 (wr.ranges Try.prog 3 ptrE bm r sz Dm left cnt) ∧ Aside0 (Row .i64 3 wr v xs) ∧ Aside0 (∀ i, v.ownBlock = some i → w.heap.size ≤ i ∧ i ≠ r) ∧ Aside0 (xs.length + cnt ≤ Maps.size Dm) ∧ Aside0 (∀ kl, left kl = true → Maps.has Dm kl = true)) (fun _ wr => wr.rangeLeft bm r)
  case atStart => exact ⟨_, [], _, _, rfl, ⟨HM0.out, List.nodup_nil⟩, ⟨⟨HG0.out.os, HG0.out.tape, HG0.out.output, HG0.out.size, fun k hk => HG0.out.block k hk (by simp)⟩⟩, HR0, ⟨Row.nil _ _ _⟩, ⟨fun i hi => by simp [Value.ownBlock] at hi⟩, ⟨by simp⟩, ⟨fun _ h => h⟩⟩
  case round =>
    obtain ⟨v, xs, left, cnt, rfl, HMem, HB, HRg, HRow, HOw, HCt, HHas⟩ := hrel
    clear HR0
    rcases Nat.eq_zero_or_pos cnt with h0 | h0
    · subst h0
      obtain ⟨A1, c1, rfl, _⟩ := HRow.out.slice
      have HS := Aside0.mk (sort_row HRow.out (by have := HCt.out; have := HZ.out; omega))
      obtain ⟨n, hn⟩ : ∃ n, n = xs.length := ⟨_, rfl⟩
      have HN := Aside0.mk hn
      rw [← hn] at HS ⊢
      clear hn
      go_wp2_with (first
        | (at_next; refine wpList_next_ranges _ rfl _ rfl 3 law ptrE (Value.int .i64) (fun o : Option Nat => Value.pointer (o.map fun b => ⟨b, 0, none⟩)) ?iK ?iV bm r sz Dm left 0 rfl HRg.out ?_ (fun x cc kl y w1 cnt1 hkey hlk hv hat hrg1 hlt hg1 hs1 hen => absurd hlt (Nat.not_lt_zero _)); (case iK => intro key kl hk; obtain ⟨x, hx, _⟩ := keyOf_int_inv Try.underlying3 hk; exact ⟨x, hx⟩); (case iV => intro v y hv; unfold ptrE at hv; split at hv; exact ⟨none, rfl⟩; exact ⟨some _, rfl⟩; cases hv); intro _ hno; have HE := Aside0.mk (mem_done H.out HMem.out.1 HMem.out.2 hno); clear hno)
        | (go_at_call 36; refine HS.out.mono ?_; rintro e w2 ⟨rfl, hrow2, hst2⟩; have HR2 := Aside0.mk hrow2; have HS2 := Aside0.mk hst2; clear hrow2 hst2))
      go_ret
      have hlen : n = (opens L).length := by rw [← HE.out, List.length_mergeSort]; exact HN.out
      have hr5 := HR2.out
      rw [HE.out] at hr5
      subst hlen
      exact ⟨A1, c1, rfl, hr5, HS2.out.out HB.out (fun i hi => (HOw.out i (HN.out ▸ hi)).1) HB.out.size⟩
    · obtain ⟨A0, c0, rfl, _⟩ := HRow.out.slice
      obtain ⟨n, hn⟩ : ∃ n, n = xs.length := ⟨_, rfl⟩
      have HN := Aside0.mk hn
      rw [← hn] at HRow HOw ⊢
      clear hn
      have hbr : bm < w.heap.size := H.out.own.lt
      have Hbr := Aside0.mk hbr
      have H0 := Aside0.mk h0
      clear hbr h0
      go_wp2_with (first
        | (at_next; refine wpList_next_ranges _ rfl _ rfl 3 law ptrE (Value.int .i64) (fun o : Option Nat => Value.pointer (o.map fun b => ⟨b, 0, none⟩)) ?iK ?iV bm r sz Dm left cnt rfl HRg.out (fun hz _ => absurd hz (by have := H0.out; omega)) ?_; (case iK => intro key kl hk; obtain ⟨x, hx, _⟩ := keyOf_int_inv Try.underlying3 hk; exact ⟨x, hx⟩); (case iV => intro v y hv; unfold ptrE at hv; split at hv; exact ⟨none, rfl⟩; exact ⟨some _, rfl⟩; cases hv); intro x cc kl y w1 cnt1 hkey hlk hv hat hrg1 hlt hg1 hs1 hen;
            obtain ⟨x', ex, hkl, _⟩ := keyOf_int_inv Try.underlying3 hkey; injection ex with _ ex; subst ex; subst hkl; obtain ⟨yc, hyL, hyc⟩ := H.out.has _ (HHas.out _ hlk); obtain ⟨y1, y2⟩ := y; have hy := hat .nil; have hyS := H.out.all yc hyL; have HMo := Aside0.mk (fun (ho : yc.op = true) => mem_open H.out HMem.out.1 hyL ho (hyc ▸ hlk)); have HMs := Aside0.mk (fun (ho : yc.op = false) => mem_shut H.out HMem.out.1 hyL ho); have HX : Aside0 (x = yc.c) := ⟨by injection hyc⟩; rw [hyc, hyS.look] at hy; replace hy : y1 = .lit (.int .i64 (yc.q : Int)) := hy.symm; subst hy; have hp := ptrE_some hv; rw [hp] at hen; rw [hp]; have HR1 := Aside0.mk hrg1; have HB1 : Aside0 (Below w.heap.size w w1) := ⟨⟨hg1.os.trans HB.out.os, hg1.tape.trans HB.out.tape, hg1.output.trans HB.out.output, Nat.le_trans HB.out.size hg1.size, fun k hk => (hg1.block k (Nat.lt_of_lt_of_le hk HB.out.size) (by have := HRr.out; intro e; injection e with e; omega)).trans (HB.out.block k hk)⟩⟩;
            have hq0 : w1.cell? ⟨yc.q, 0, none⟩ = some (.bool yc.op) := (blk_cell ((HB1.out.block yc.q (blk_lt hyS.blkQ)).trans hyS.blkQ) 0).trans rfl; obtain ⟨op, hop⟩ : ∃ op, op = yc.op := ⟨_, rfl⟩; obtain ⟨qq, hqq⟩ : ∃ qq, qq = yc.q := ⟨_, rfl⟩; rw [← hop, ← hqq] at hq0; rw [← hop] at HMo HMs; rw [← HX.out] at HMo HMs; rw [← hqq] at hen; rw [← hqq]; have HRow1 := Aside0.mk (HRow.out.keep (fun i hi hl => hg1.block i hl (by have := (HOw.out i hi).2; intro e; injection e with e; omega))); have HLt := Aside0.mk hlt; have HS1 := Aside0.mk hs1; clear hkey hlk hv hat hrg1 hlt hg1 hs1 hp hop hqq hyS hyc hyL)
        | ((with_reducible refine gate_builtin (b := .append) (xs := #[.tmp 22, .tmp 24]) rfl ?_); at_builtin; go_loud (refine append_row (bytes := 8) rfl (.tmp 22) (.tmp 24) rfl Try.underlying27 info_int (by decide) (.slice A0 n c0) xs (some ⟨w1.heap.size, 0, none⟩) 1 1 [x] rfl rfl (HRow1.out.below (below_alloc (Below.refl _ _) _)) (C_blk (xs := [x]) (blk_new w1 (.cells #[.int .i64 x] 3)) (fun i hi => by match i, hi with | 0, _ => rfl) (by simp)) rfl (by have h1 := HCt.out; have h2 := HZ.out; simp only [List.length_cons, List.length_nil]; omega) ?_; intro v1 w2 hR hg hat; have HRow2 := Aside0.mk hR; have HR2 := Aside0.mk ((HR1.out.alloc (.cells #[.int .i64 x] 3)).kept hg (fun e => by have := (HOw.out bm e.symm).1; have := Hbr.out; omega) (fun e => (HOw.out r e.symm).2 rfl)); have HB2 := Aside0.mk (below_grown HB1.out hg (fun k e => (HOw.out k e).1)); have HOw2 := Aside0.mk (own_grown HOw.out hat HR1.out.lt HB1.out.size); clear hR hg hat)))
      · go_roundw
        case rel => exact ⟨v1, xs ++ [x], _, cnt1, rfl, ⟨(HMo.out (by assumption)).1, nodup_snoc HMem.out.2 (HMo.out (by assumption)).2⟩, HB2, HR2, HRow2, HOw2, ⟨by have h1 := HCt.out; have h2 := HLt.out; rw [List.length_append]; simp only [List.length_cons, List.length_nil]; omega⟩, ⟨fun kl hk => HHas.out kl (by simp only [Bool.and_eq_true] at hk; exact hk.1)⟩⟩
        case measure =>
          rw [HR2.out.left_eq, HRg.out.left_eq]
          exact HLt.out
      · go_roundw
        case rel => exact ⟨_, xs, _, cnt1, rfl, ⟨HMs.out (by first | assumption | simp_all), HMem.out.2⟩, HB1, HR1, HRow1, HOw, ⟨by have h1 := HCt.out; have h2 := HLt.out; omega⟩, ⟨fun kl hk => HHas.out kl (by simp only [Bool.and_eq_true] at hk; exact hk.1)⟩⟩
        case measure =>
          rw [HR1.out.left_eq, HRg.out.left_eq]
          exact HLt.out
end
end Go.Proofs.Ytnhhcmnjfaeliaa.Vm
/- The reference's world with any connections: what its memory holds; own text of this session. -/
namespace Go.Proofs.Ytnhhcmnjfaeliaa.Vm
open Wld hiding St Ft Next cellsQ cellsP ReadPost ptrE ptrE_none ptrE_some law zeroP Key key_of info_u8 info_int ne_t ne_blk ne_map grown_below
open Go.RowKit Go.Proofs.YtnhhcmnjfaeliaaW.PrintWords Go.Proofs.YtnhhcmnjfaeliaaW.PrintLast Go.Maps
set_option linter.unusedVariables false
set_option linter.unusedSimpArgs false
/-- A connection of the reference. -/
structure Rc where
  c : Int
  op : Bool
  en : Bool
  vw : Value
  vs : Value
  ws : List Int
  ss : List Int
  room : Int
def Rc.cells (y : Rc) : List Value := [.int .i64 y.c, .bool y.op, .bool y.en, y.vw, y.vs, .int .i64 y.room]
def Rc.own (y : Rc) (k : Nat) : Prop := y.vw.ownBlock = some k ∨ y.vs.ownBlock = some k
def lcells (L : List Rc) : List Value := L.flatMap Rc.cells
theorem lcells_len (L : List Rc) : (lcells L).length = L.length * 6 := by
  unfold lcells
  induction L with
  | nil => rfl
  | cons y r ih => rw [List.flatMap_cons, List.length_append, ih, List.length_cons]; simp [Rc.cells]; omega
theorem lcells_mid (A B : List Rc) (y : Rc) : lcells (A ++ y :: B) = lcells A ++ (y.cells ++ lcells B) := by
  unfold lcells
  rw [List.flatMap_append, List.flatMap_cons]
theorem lcells_get (A B : List Rc) (y : Rc) (j : Nat) (u : Value) (h : y.cells[j]? = some u) : (lcells (A ++ y :: B))[A.length * 6 + j]? = some u := by
  have hj : j < y.cells.length := (List.getElem?_eq_some_iff.1 h).1
  rw [lcells_mid, List.getElem?_append_right (by rw [lcells_len]; omega), lcells_len, Nat.add_sub_cancel_left, List.getElem?_append_left hj, h]
theorem lcells_set (A B : List Rc) (y y' : Rc) (j : Nat) (u : Value) (h : y'.cells = y.cells.set j u) (hj : j < 6) : (lcells (A ++ y :: B)).set (A.length * 6 + j) u = lcells (A ++ y' :: B) := by
  rw [lcells_mid, lcells_mid, List.set_append_right _ _ (by rw [lcells_len]; omega), lcells_len, Nat.add_sub_cancel_left, List.set_append_left _ _ (by simp [Rc.cells]; omega), h]
/-- A store into a row of one's own. -/
theorem q_set {w : World} {base n c size : Nat} {e : TypeId} {ad : Addr} {xs : List Value} (h : QRow w base e size (.slice (some ad) n c) n xs) (j : Nat) (hj : j < xs.length) (u : Value) :
    QRow (w.setCell ⟨ad.block, ad.off + j, none⟩ u) base e size (.slice (some ad) n c) n (xs.set j u) ∧ w.frozen? ⟨ad.block, ad.off + j, none⟩ = false := by
  obtain ⟨h1, h2⟩ := h
  rcases h2 with ⟨h0, _⟩ | ⟨g, off, cap, cur, he, hg, hh, hnc, hcm, hcs, ht⟩
  · rw [h1, h0] at hj; omega
  · injection he with ha _ hc
    injection ha with ha
    subst ha hc
    refine ⟨⟨by rw [List.length_set]; exact h1, .inr ⟨g, off, c, _, rfl, hg, blk_set hh _ u, hnc, hcm, by simpa using hcs, ?_⟩⟩, blk_frozen hh _⟩
    rw [Array.toList_setIfInBounds, List.drop_set, if_neg (Nat.not_lt.2 (Nat.le_add_right _ _)), Nat.add_sub_cancel_left, List.take_set, ht]
/-- The reference's world at x: the connections that ever were, the numbers that were given. -/
structure RW (w : World) (x : Nat) (vL vD : Value) (L : List Rc) (ds : List Int) : Prop where
  blk : w.heap[x]? = some (.cells #[vL, vD] 29 (0, 0))
  rl : QRow w 0 38 6 vL L.length (lcells L)
  rw : ∀ y ∈ L, Row .u8 5 w y.vw y.ws
  rs : ∀ y ∈ L, Row .u8 5 w y.vs y.ss
  rd : Row .i64 3 w vD ds
  self : ∀ y ∈ L, ∀ k, y.vw.ownBlock = some k → y.vs.ownBlock = some k → False
  apart : ∀ y ∈ L, ∀ z ∈ L, y.c ≠ z.c → ∀ k, y.own k → ¬ z.own k
  keys : L.Pairwise (fun y z => y.c ≠ z.c)
/-- The blocks that it lives in. -/
def RFt (x : Nat) (vL vD : Value) (L : List Rc) (k : Nat) : Prop := k = x ∨ vL.ownBlock = some k ∨ vD.ownBlock = some k ∨ ∃ y ∈ L, y.own k
theorem ne_r : (29 : Nat) ≠ 38 ∧ (29 : Nat) ≠ 5 ∧ (29 : Nat) ≠ 3 ∧ (38 : Nat) ≠ 5 ∧ (38 : Nat) ≠ 3 ∧ (5 : Nat) ≠ 3 := by decide
section
variable {w w1 w' : World} {x : Nat} {vL vD : Value} {L : List Rc} {ds : List Int}
theorem RW.typed (h : RW w x vL vD L ds) {y : Rc} (hy : y ∈ L) {k : Nat} (hk : y.own k) : ∃ C, w.heap[k]? = some (.cells C 5 (0, 0)) := by
  rcases hk with e | e
  · exact (h.rw y hy).typed k e
  · exact (h.rs y hy).typed k e
theorem RW.lt (h : RW w x vL vD L ds) (k : Nat) (hk : RFt x vL vD L k) : k < w.heap.size := by
  rcases hk with rfl | hk | hk | ⟨y, hy, hk⟩
  · exact blk_lt h.blk
  · exact q_lt h.rl k hk
  · exact h.rd.lt k hk
  · obtain ⟨C, hC⟩ := h.typed hy hk
    exact blk_lt hC
theorem RW.neL (h : RW w x vL vD L ds) {k : Nat} (hk : vL.ownBlock = some k) : k ≠ x ∧ vD.ownBlock ≠ some k ∧ ∀ y ∈ L, ¬ y.own k := by
  obtain ⟨_, C, hC⟩ := q_typed h.rl k hk
  refine ⟨ne_blk hC h.blk (Ne.symm ne_r.1), fun hd => ?_, fun y hy hy2 => ?_⟩
  · obtain ⟨C', hC'⟩ := h.rd.typed k hd
    exact ne_blk hC hC' ne_r.2.2.2.2.1 rfl
  · obtain ⟨C', hC'⟩ := h.typed hy hy2
    exact ne_blk hC hC' ne_r.2.2.2.1 rfl
theorem RW.neD (h : RW w x vL vD L ds) {k : Nat} (hk : vD.ownBlock = some k) : k ≠ x ∧ ∀ y ∈ L, ¬ y.own k := by
  obtain ⟨C, hC⟩ := h.rd.typed k hk
  refine ⟨ne_blk hC h.blk (Ne.symm ne_r.2.2.1), fun y hy hy2 => ?_⟩
  obtain ⟨C', hC'⟩ := h.typed hy hy2
  exact ne_blk hC hC' (Ne.symm ne_r.2.2.2.2.2) rfl
theorem RW.neY (h : RW w x vL vD L ds) {y : Rc} (hy : y ∈ L) {k : Nat} (hk : y.own k) : k ≠ x := by
  obtain ⟨C, hC⟩ := h.typed hy hk
  exact ne_blk hC h.blk (Ne.symm ne_r.2.1)
/-- Nothing of it turned. -/
theorem RW.keep (h : RW w x vL vD L ds) (hk : ∀ k, RFt x vL vD L k → k < w.heap.size → w'.heap[k]? = w.heap[k]?) : RW w' x vL vD L ds :=
  ⟨(hk x (.inl rfl) (blk_lt h.blk)).trans h.blk, q_move h.rl (fun k e => hk k (.inr (.inl e)) (q_lt h.rl k e)), fun y hy => (h.rw y hy).keep (fun i hi hl => hk i (.inr (.inr (.inr ⟨y, hy, .inl hi⟩))) hl), fun y hy => (h.rs y hy).keep (fun i hi hl => hk i (.inr (.inr (.inr ⟨y, hy, .inr hi⟩))) hl), h.rd.keep (fun i hi hl => hk i (.inr (.inr (.inl hi))) hl), h.self, h.apart, h.keys⟩
theorem RW.below (h : RW w x vL vD L ds) (hb : Below w.heap.size w w') : RW w' x vL vD L ds := h.keep (fun k _ hl => hb.block k hl)
theorem RW.drew (h : RW w x vL vD L ds) : RW w.drew x vL vD L ds := h.below (below_drew (Below.refl _ _))
theorem RW.stay {F : Nat → Prop} (h : RW w x vL vD L ds) (hs : Stay F w w') (hF : ∀ k, F k → ¬ RFt x vL vD L k) : RW w' x vL vD L ds := h.keep (fun k hk hl => hs.block k hl (fun hf => hF k hf hk))
end
section
variable {w w1 w' : World} {x : Nat} {vL vD : Value} {A B : List Rc} {y y' : Rc} {ds : List Int}
theorem RW.ne (h : RW w x vL vD (A ++ y :: B) ds) {z : Rc} (hz : z ∈ A ∨ z ∈ B) : z.c ≠ y.c := by
  have hkeys := h.keys
  rw [List.pairwise_append, List.pairwise_cons] at hkeys
  rcases hz with hz | hz
  · exact hkeys.2.2 z hz y (by simp)
  · exact fun e => hkeys.2.1.1 z hz e.symm
/-- The cells of a connection. -/
theorem RW.conn (h : RW w x vL vD (A ++ y :: B) ds) : ∃ ad cap, vL = .slice (some ad) (A ++ y :: B).length cap ∧ (∀ k, ad.add k = ⟨ad.block, ad.off + k, none⟩) ∧ (∀ j u, y.cells[j]? = some u → w.cell? ⟨(ad.add (A.length * 6)).block, (ad.add (A.length * 6)).off + j, none⟩ = some u) := by
  have hr := h.rl
  rcases hr.2 with ⟨h0, _⟩ | ⟨g, off, cap, cur, he, _⟩
  · simp at h0
  · refine ⟨_, cap, he, fun k => by rw [add_at], fun j u hu => ?_⟩
    rw [he] at hr
    obtain ⟨ad, e, hc⟩ := q_cells hr (by rw [List.length_append, List.length_cons]; omega)
    injection e with e
    have h5 := hc _ u (lcells_get A B y j u hu)
    rw [← e, add_at] at h5
    rw [add_at]
    show w.cell? ⟨g, off * 6 + A.length * 6 + j, none⟩ = some u
    rw [Nat.add_assoc]
    exact h5
/-- A store into a connection's cell, behind what turned of its rows. -/
theorem RW.put (h : RW w x vL vD (A ++ y :: B) ds) {ad : Addr} {n cap : Nat} (hv : vL = .slice (some ad) n cap) (had : ∀ k, ad.add k = ⟨ad.block, ad.off + k, none⟩) (hc : y'.c = y.c) (hm : ∀ k, k < w.heap.size → ¬ y.own k → w1.heap[k]? = w.heap[k]?)
    (hm2 : ∀ k, k < w.heap.size → y'.own k → y.own k) (hsz : w.heap.size ≤ w1.heap.size) (hw1 : Row .u8 5 w1 y'.vw y'.ws) (hs1 : Row .u8 5 w1 y'.vs y'.ss) (hself : ∀ k, y'.vw.ownBlock = some k → y'.vs.ownBlock = some k → False)
    (j : Nat) (hj : j < 6) (u : Value) (hcells : y'.cells = y.cells.set j u) :
    RW (w1.setCell ⟨(ad.add (A.length * 6)).block, (ad.add (A.length * 6)).off + j, none⟩ u) x vL vD (A ++ y' :: B) ds ∧ w1.frozen? ⟨(ad.add (A.length * 6)).block, (ad.add (A.length * 6)).off + j, none⟩ = false := by
  have hyL : y ∈ A ++ y :: B := by simp
  have hgo : vL.ownBlock = some ad.block := by rw [hv]; rfl
  have hg := h.neL hgo
  have hglt : ad.block < w.heap.size := q_lt h.rl _ hgo
  have hmem : ∀ z, z ∈ A ∨ z ∈ B → z ∈ A ++ y :: B := by rintro z (hz | hz) <;> simp [hz]
  have hap : ∀ z, z ∈ A ∨ z ∈ B → ∀ k, y.own k → ¬ z.own k := fun z hz => h.apart y hyL z (hmem z hz) (fun e => h.ne hz e.symm)
  have hrl1 : QRow w1 0 38 6 vL (A ++ y :: B).length (lcells (A ++ y :: B)) := q_move h.rl (fun k e => hm k (q_lt h.rl k e) (fun ho => (h.neL e).2.2 y hyL ho))
  have hrl2 := hrl1
  rw [hv] at hrl2
  have hn : n = (A ++ y :: B).length := by
    obtain ⟨A', c', e⟩ := q_slice hrl2
    injection e.1
  subst hn
  obtain ⟨hq, hf⟩ := q_set hrl2 (A.length * 6 + j) (by rw [lcells_len, List.length_append, List.length_cons]; omega) u
  rw [lcells_set A B y y' j u hcells hj] at hq
  have e1 : (⟨(ad.add (A.length * 6)).block, (ad.add (A.length * 6)).off + j, none⟩ : Addr) = ⟨ad.block, ad.off + (A.length * 6 + j), none⟩ := by rw [had, Nat.add_assoc]
  rw [e1]
  have off : ∀ k, k ≠ ad.block → (w1.setCell ⟨ad.block, ad.off + (A.length * 6 + j), none⟩ u).heap[k]? = w1.heap[k]? := fun k hk => Below.heap_setCell w1 ⟨ad.block, ad.off + (A.length * 6 + j), none⟩ u k hk
  have split : ∀ z, z ∈ A ++ y' :: B → z = y' ∨ (z ∈ A ∨ z ∈ B) := by
    intro z hz
    rw [List.mem_append, List.mem_cons] at hz
    rcases hz with hz | hz | hz
    · exact .inr (.inl hz)
    · exact .inl hz
    · exact .inr (.inr hz)
  have hyn : ∀ k, y'.own k → k ≠ ad.block := by
    intro k hk e
    rw [e] at hk
    exact hg.2.2 y hyL (hm2 _ hglt hk)
  refine ⟨⟨?_, ?_, ?_, ?_, ?_, ?_, ?_, ?_⟩, hf⟩
  · exact (off x hg.1.symm).trans ((hm x (blk_lt h.blk) (fun ho => h.neY hyL ho rfl)).trans h.blk)
  · rw [hv]
    have e5 : (A ++ y' :: B).length = (A ++ y :: B).length := by rw [List.length_append, List.length_append, List.length_cons, List.length_cons]
    rw [e5]
    exact hq
  · intro z hz
    rcases split z hz with rfl | hz
    · exact hw1.keep (fun i hi _ => off i (hyn i (.inl hi)))
    · exact (h.rw z (hmem z hz)).keep (fun i hi hl => (off i (fun e => hg.2.2 z (hmem z hz) (e ▸ .inl hi))).trans (hm i hl (fun ho => hap z hz i ho (.inl hi))))
  · intro z hz
    rcases split z hz with rfl | hz
    · exact hs1.keep (fun i hi _ => off i (hyn i (.inr hi)))
    · exact (h.rs z (hmem z hz)).keep (fun i hi hl => (off i (fun e => hg.2.2 z (hmem z hz) (e ▸ .inr hi))).trans (hm i hl (fun ho => hap z hz i ho (.inr hi))))
  · exact h.rd.keep (fun i hi hl => (off i (fun e => hg.2.1 (e ▸ hi))).trans (hm i hl (fun ho => (h.neD hi).2 y hyL ho)))
  · intro z hz
    rcases split z hz with rfl | hz
    · exact hself
    · exact h.self z (hmem z hz)
  · have two : ∀ z, z ∈ A ∨ z ∈ B → ∀ k, y'.own k → ¬ z.own k := by
      intro z hz k hk hkz
      obtain ⟨C, hC⟩ := h.typed (hmem z hz) hkz
      exact hap z hz k (hm2 k (blk_lt hC) hk) hkz
    intro z1 h1 z2 h2 hne k hk1 hk2
    rcases split z1 h1 with e1 | h1
    · rw [e1] at hk1
      rcases split z2 h2 with e2 | h2
      · exact hne (by rw [e1, e2])
      · exact two z2 h2 k hk1 hk2
    · rcases split z2 h2 with e2 | h2
      · rw [e2] at hk2
        exact two z1 h1 k hk2 hk1
      · exact h.apart z1 (hmem z1 h1) z2 (hmem z2 h2) hne k hk1 hk2
  · have hkeys := h.keys
    rw [List.pairwise_append, List.pairwise_cons] at hkeys ⊢
    refine ⟨hkeys.1, ⟨fun z hz => ?_, hkeys.2.1.2⟩, fun z hz v hv => ?_⟩
    · rw [hc]; exact hkeys.2.1.1 z hz
    · rw [List.mem_cons] at hv
      rcases hv with rfl | hv
      · rw [hc]; exact hkeys.2.2 z hz y (by simp)
      · exact hkeys.2.2 z hz v (by simp [hv])
/-- What a call on one connection leaves. -/
def RNext (w : World) (x : Nat) (vL vD : Value) (L : List Rc) (ds : List Int) (L' : List Rc) (ds' : List Int) (w' : World) : Prop :=
  ∃ vL' vD', RW w' x vL' vD' L' ds' ∧ (∀ k, RFt x vL' vD' L' k → RFt x vL vD L k ∨ w.heap.size ≤ k) ∧ Stay (RFt x vL vD L) w w'
end
end Go.Proofs.Ytnhhcmnjfaeliaa.Vm
/- The reference's world with any connections: find, At; own text of this session. -/
namespace Go.Proofs.Ytnhhcmnjfaeliaa.Vm
open Wld hiding St Ft Next cellsQ cellsP ReadPost ptrE ptrE_none ptrE_some law zeroP Key key_of info_u8 info_int ne_t ne_blk ne_map grown_below
open Go.RowKit Go.Proofs.YtnhhcmnjfaeliaaW.PrintWords Go.Proofs.YtnhhcmnjfaeliaaW.PrintLast Go.Maps
set_option linter.unusedVariables false
set_option linter.unusedSimpArgs false
/-- The place of a connection. -/
def Idx (L : List Rc) (c R : Int) : Prop := (R = -1 ∧ ∀ y ∈ L, y.c ≠ c) ∨ ∃ A y B, L = A ++ y :: B ∧ R = (A.length : Int) ∧ y.c = c
theorem split_at {α : Type} (L : List α) (k : Nat) (h : k < L.length) : ∃ A y B, L = A ++ y :: B ∧ A.length = k := by
  refine ⟨L.take k, L[k], L.drop (k + 1), ?_, by rw [List.length_take]; omega⟩
  rw [← List.drop_eq_getElem_cons h, List.take_append_drop]
theorem key_once {L : List Rc} (hk : L.Pairwise (fun y z => y.c ≠ z.c)) {A B A' B' : List Rc} {y y' : Rc} (h : L = A ++ y :: B) (h' : L = A' ++ y' :: B') (e : y.c = y'.c) : A.length = A'.length := by
  have g : L[A.length]? = some y := by rw [h]; simp
  have g' : L[A'.length]? = some y' := by rw [h']; simp
  have l1 : A.length < L.length := (List.getElem?_eq_some_iff.1 g).1
  have l2 : A'.length < L.length := (List.getElem?_eq_some_iff.1 g').1
  have e1 : L[A.length] = y := (List.getElem?_eq_some_iff.1 g).2
  have e2 : L[A'.length] = y' := (List.getElem?_eq_some_iff.1 g').2
  rw [List.pairwise_iff_getElem] at hk
  rcases Nat.lt_trichotomy A.length A'.length with hlt | heq | hlt
  · exact absurd (by rw [e1, e2]; exact e) (hk _ _ l1 l2 hlt)
  · exact heq
  · exact absurd (by rw [e1, e2]; exact e.symm) (hk _ _ l2 l1 hlt)
section
variable {w : World} {x n cap : Nat} {vL vD : Value} {L A B : List Rc} {y : Rc} {ds : List Int} {ad : Addr}
theorem RW.cellAt (h : RW w x (.slice (some ad) n cap) vD (A ++ y :: B) ds) (j : Nat) (u : Value) (hu : y.cells[j]? = some u) : w.cell? ⟨(ad.add (A.length * 6)).block, (ad.add (A.length * 6)).off + j, none⟩ = some u := by
  obtain ⟨ad', cap', e, _, hc⟩ := h.conn
  injection e with e _ _
  injection e with e
  rw [e]
  exact hc j u hu
theorem RW.cell0 (h : RW w x (.slice (some ad) n cap) vD (A ++ y :: B) ds) : w.cell? (ad.add (A.length * 6)) = some (.int .i64 y.c) := by
  obtain ⟨ad', cap', e, hadd, hc⟩ := h.conn
  injection e with e _ _
  injection e with e
  rw [e]
  have h5 := hc 0 _ rfl
  rw [hadd] at h5 ⊢
  exact h5
set_option maxHeartbeats 4000000 in
set_option maxRecDepth 100000 in
theorem rfind_calls (h : RW w x vL vD L ds) (c R : Int) (hR : Idx L c R) (hl : L.length ≤ 1000000000) :
    Calls Try.prog 34 #[.pointer (some ⟨x, 0, none⟩), .int .i64 c] w fun e w' => e = .returned (.int .i64 R) ∧ Below w.heap.size w w' := by
  obtain ⟨AL, cap, rfl, _⟩ := q_slice h.rl
  obtain ⟨n, hn⟩ : ∃ n, n = L.length := ⟨_, rfl⟩
  have Hn := Aside0.mk hn
  rw [← hn] at h hl
  have H := Aside0.mk h
  have HR := Aside0.mk hR
  have hz0 : w.cell? ⟨x, 0, none⟩ = some (.slice AL n cap) := (blk_cell h.blk 0).trans rfl
  clear h hn hR
  go_enter Try.func34, Try.ntmps34
  go_wp2
  go_loopw [12] (fun v12 wr => ∃ kk : Nat, kk ≤ n ∧ v12 = .int .i64 kk ∧ Aside0 (Below w.heap.size w wr) ∧ Aside0 (∀ z ∈ L.take kk, z.c ≠ c)) (fun v12 _ => n - (intOf v12).toNat)
  case atStart => exact ⟨0, Nat.zero_le _, rfl, ⟨Below.refl _ _⟩, ⟨fun z hz => by simp at hz⟩⟩
  case round =>
    obtain ⟨kk, hkk, rfl, HB, HZ⟩ := hrel
    clear hz0
    by_cases hlt : kk < n
    · have hltz : (kk : Int) < (n : Int) := by omega
      obtain ⟨A, y, B, eL, eA⟩ := split_at L kk (by have := Hn.out; omega)
      have H1 := Aside0.mk (H.out.below HB.out)
      obtain ⟨ad, cap', e, hadd⟩ : ∃ ad cap', (Value.slice AL n cap) = .slice (some ad) n cap' ∧ True := by
        have h5 := H.out
        rw [eL] at h5
        obtain ⟨ad, cap', e, _⟩ := h5.conn
        injection e with e1 e2 e3
        exact ⟨ad, cap', by rw [e1, e3], trivial⟩
      injection e with e1 e2 e3
      subst e1 e3
      have hy : Aside0 (RW wr x (.slice (some ad) n cap) vD (A ++ y :: B) ds) := ⟨by rw [← eL]; exact H1.out⟩
      have z0 := hy.out.cell0
      have z1 := hy.out.cellAt 1 _ rfl
      have z2 := hy.out.cellAt 2 _ rfl
      have z3 := hy.out.cellAt 3 _ rfl
      have z4 := hy.out.cellAt 4 _ rfl
      have z5 := hy.out.cellAt 5 _ rfl
      rw [eA] at z0 z1 z2 z3 z4 z5
      have HEL := Aside0.mk eL
      have HEA := Aside0.mk eA
      obtain ⟨A3, c3, e3, _⟩ := (hy.out.rw y (by simp)).slice
      obtain ⟨n3, hn3⟩ : ∃ n3, n3 = y.ws.length := ⟨_, rfl⟩
      obtain ⟨A4, c4, e4, _⟩ := (hy.out.rs y (by simp)).slice
      obtain ⟨n4, hn4⟩ : ∃ n4, n4 = y.ss.length := ⟨_, rfl⟩
      rw [← hn3] at e3
      rw [← hn4] at e4
      rw [e3] at z3
      rw [e4] at z4
      obtain ⟨yc, hyc⟩ : ∃ yc, yc = y.c := ⟨_, rfl⟩
      rw [← hyc] at z0
      have HYc := Aside0.mk hyc
      obtain ⟨yo, hyo⟩ : ∃ yo, yo = y.op := ⟨_, rfl⟩
      rw [← hyo] at z1
      obtain ⟨ye, hye⟩ : ∃ ye, ye = y.en := ⟨_, rfl⟩
      rw [← hye] at z2
      obtain ⟨yr, hyr⟩ : ∃ yr, yr = y.room := ⟨_, rfl⟩
      rw [← hyr] at z5
      clear eL eA hyc hyo hye hyr e3 e4 hn3 hn4 hadd
      by_cases hyc : yc = c
      · subst hyc
        go_wp2
        go_ret
        refine ⟨?_, by repeat (first | exact HB.out | apply below_alloc | apply below_drew1 | apply pw_below_drewN)⟩
        rcases HR.out with ⟨_, h2⟩ | ⟨A', y', B', h2, h3, h4⟩
        · exact absurd HYc.out.symm (h2 y (by rw [HEL.out]; simp))
        · have h5 := key_once H.out.keys HEL.out h2 (HYc.out.symm.trans h4.symm)
          rw [h3, ← h5, HEA.out]
          rfl
      · have bC : (yc == c) = false := by simpa using hyc
        go_wp2
        go_roundw
        case rel => exact ⟨kk + 1, by omega, by simp, ⟨by repeat (first | exact HB.out | apply below_alloc | apply below_drew1 | apply pw_below_drewN)⟩, ⟨fun z hz => by
          have h5 : L.take (kk + 1) = A ++ [y] := by
            have h6 : A ++ y :: B = (A ++ [y]) ++ B := by simp
            rw [HEL.out, h6]
            exact List.take_left' (by rw [List.length_append, HEA.out]; rfl)
          rw [h5, List.mem_append, List.mem_singleton] at hz
          rcases hz with hz | rfl
          · exact HZ.out z (by rw [HEL.out, ← HEA.out]; simpa using hz)
          · rw [← HYc.out]; exact hyc⟩⟩
        case measure => simp [intOf]; omega
    · obtain rfl : kk = n := by omega
      go_wp2
      go_ret
      refine ⟨?_, by repeat (first | exact HB.out | apply below_alloc | apply below_drew1 | apply pw_below_drewN)⟩
      rcases HR.out with ⟨h2, _⟩ | ⟨A', y', B', h2, h3, h4⟩
      · rw [h2]
        rfl
      · exact absurd h4 (HZ.out y' (by rw [List.take_of_length_le (by rw [Hn.out]; exact Nat.le_refl _), h2]; simp))
end
end Go.Proofs.Ytnhhcmnjfaeliaa.Vm
/- The reference's world with any connections: At, Close, End, Sent, Room; own text of this session. -/
namespace Go.Proofs.Ytnhhcmnjfaeliaa.Vm
open Wld hiding St Ft Next cellsQ cellsP ReadPost ptrE ptrE_none ptrE_some law zeroP Key key_of info_u8 info_int ne_t ne_blk ne_map grown_below
open Go.RowKit Go.Proofs.YtnhhcmnjfaeliaaW.PrintWords Go.Proofs.YtnhhcmnjfaeliaaW.PrintLast Go.Maps
set_option linter.unusedVariables false
set_option linter.unusedSimpArgs false
/-- No open one. -/
def NoC (L : List Rc) (c : Int) : Prop := ∀ y ∈ L, y.c = c → y.op = false
section
variable {w w1 : World} {x n cap : Nat} {vL vD : Value} {L A B : List Rc} {y : Rc} {ds : List Int} {ad : Addr} {c : Int}
set_option maxRecDepth 100000 in
theorem rat_no (h : RW w x vL vD L ds) (hno : NoC L c) (hl : L.length ≤ 1000000000) :
    Calls Try.prog 8 #[.pointer (some ⟨x, 0, none⟩), .int .i64 c] w fun e w' => e = .returned (.int .i64 (-1)) ∧ Below w.heap.size w w' := by
  by_cases hy : ∃ y ∈ L, y.c = c
  · obtain ⟨y, hy, hyc⟩ := hy
    have ho := hno y hy hyc
    obtain ⟨A, B, rfl⟩ := List.append_of_mem hy
    have HF := Aside0.mk (rfind_calls h c (A.length : Int) (.inr ⟨A, y, B, rfl, rfl, hyc⟩) hl)
    obtain ⟨ad, cap, rfl, hadd, _⟩ := h.conn
    have H := Aside0.mk h
    have hi : A.length < (A ++ y :: B).length := by rw [List.length_append, List.length_cons]; omega
    have Ho := Aside0.mk ho
    obtain ⟨n, hn⟩ : ∃ n, n = (A ++ y :: B).length := ⟨_, rfl⟩
    rw [← hn] at H hi hl
    obtain ⟨i, hi2⟩ : ∃ i, i = A.length := ⟨_, rfl⟩
    have HI := Aside0.mk hi2
    rw [← hi2] at HF hi
    have hiz : (i : Int) < (n : Int) := by omega
    have hi0 : ¬ ((i : Int) < 0) := by omega
    clear h hno hy hyc ho hadd hn hi2
    go_enter Try.func8, Try.ntmps8
    go_wp2_with (go_at_call 34; refine HF.out.mono ?_; rintro e w1 ⟨rfl, hb⟩; have HB := Aside0.mk hb; have H1 := Aside0.mk (H.out.below hb); have hz0 : w1.cell? ⟨x, 0, none⟩ = some (.slice (some ad) n cap) := (blk_cell H1.out.blk 0).trans rfl; have hz1 := H1.out.cellAt 1 (.bool false) (by rw [← Ho.out]; rfl); rw [← HI.out] at hz1; clear hb)
    go_ret
    exact ⟨rfl, by repeat (first | exact HB.out | apply below_drew1 | apply pw_below_drewN)⟩
  · have HF := Aside0.mk (rfind_calls h c (-1) (.inl ⟨rfl, fun y h1 h2 => hy ⟨y, h1, h2⟩⟩) hl)
    clear h hno hy hl
    go_enter Try.func8, Try.ntmps8
    go_wp2_with (go_at_call 34; refine HF.out.mono ?_; rintro e w1 ⟨rfl, hb⟩; have HB := Aside0.mk hb; clear hb)
    go_ret
    exact ⟨rfl, by repeat (first | exact HB.out | apply below_drew1 | apply pw_below_drewN)⟩
set_option maxRecDepth 100000 in
theorem rat_yes (h : RW w x vL vD (A ++ y :: B) ds) (hyc : y.c = c) (ho : y.op = true) (hl : (A ++ y :: B).length ≤ 1000000000) :
    Calls Try.prog 8 #[.pointer (some ⟨x, 0, none⟩), .int .i64 c] w fun e w' => e = .returned (.int .i64 (A.length : Int)) ∧ Below w.heap.size w w' := by
  have HF := Aside0.mk (rfind_calls h c (A.length : Int) (.inr ⟨A, y, B, rfl, rfl, hyc⟩) hl)
  obtain ⟨ad, cap, rfl, hadd, _⟩ := h.conn
  have H := Aside0.mk h
  have hi : A.length < (A ++ y :: B).length := by rw [List.length_append, List.length_cons]; omega
  have Ho := Aside0.mk ho
  obtain ⟨n, hn⟩ : ∃ n, n = (A ++ y :: B).length := ⟨_, rfl⟩
  rw [← hn] at H hi hl
  obtain ⟨i, hi2⟩ : ∃ i, i = A.length := ⟨_, rfl⟩
  have HI := Aside0.mk hi2
  rw [← hi2] at HF hi ⊢
  have hiz : (i : Int) < (n : Int) := by omega
  have hi0 : ¬ ((i : Int) < 0) := by omega
  clear h hyc ho hadd hn hi2
  go_enter Try.func8, Try.ntmps8
  go_wp2_with (go_at_call 34; refine HF.out.mono ?_; rintro e w1 ⟨rfl, hb⟩; have HB := Aside0.mk hb; have H1 := Aside0.mk (H.out.below hb); have hz0 : w1.cell? ⟨x, 0, none⟩ = some (.slice (some ad) n cap) := (blk_cell H1.out.blk 0).trans rfl; have hz1 := H1.out.cellAt 1 (.bool true) (by rw [← Ho.out]; rfl); rw [← HI.out] at hz1; clear hb)
  go_ret
  exact ⟨rfl, by repeat (first | exact HB.out | apply below_drew1 | apply pw_below_drewN)⟩
/-- Only a bool or a number of the connection turned. -/
theorem RW.flag {y' : Rc} (h : RW w1 x (.slice (some ad) n cap) vD (A ++ y :: B) ds) (hc : y'.c = y.c) (hw : y'.vw = y.vw) (hs : y'.vs = y.vs) (hws : y'.ws = y.ws) (hss : y'.ss = y.ss) (j : Nat) (hj : j < 6) (u : Value) (hcells : y'.cells = y.cells.set j u) :
    RW (w1.setCell ⟨(ad.add (A.length * 6)).block, (ad.add (A.length * 6)).off + j, none⟩ u) x (.slice (some ad) n cap) vD (A ++ y' :: B) ds ∧ w1.frozen? ⟨(ad.add (A.length * 6)).block, (ad.add (A.length * 6)).off + j, none⟩ = false := by
  obtain ⟨ad', cap', e, hadd, _⟩ := h.conn
  injection e with e _ _
  injection e with e
  subst e
  have own : ∀ k, y'.own k → y.own k := by
    rintro k (hk | hk)
    · exact .inl (hw ▸ hk)
    · exact .inr (hs ▸ hk)
  exact h.put rfl hadd hc (fun _ _ _ => rfl) (fun k _ hk => own k hk) (Nat.le_refl _) (by rw [hw, hws]; exact h.rw y (by simp)) (by rw [hs, hss]; exact h.rs y (by simp)) (by rw [hw, hs]; exact h.self y (by simp)) j hj u hcells
theorem RFt.flag {y' : Rc} (hw : y'.vw = y.vw) (hs : y'.vs = y.vs) (k : Nat) (hk : RFt x vL vD (A ++ y' :: B) k) : RFt x vL vD (A ++ y :: B) k := by
  rcases hk with hk | hk | hk | ⟨z, hz, hk⟩
  · exact .inl hk
  · exact .inr (.inl hk)
  · exact .inr (.inr (.inl hk))
  · rw [List.mem_append, List.mem_cons] at hz
    rcases hz with hz | rfl | hz
    · exact .inr (.inr (.inr ⟨z, by simp [hz], hk⟩))
    · exact .inr (.inr (.inr ⟨y, by simp, by rcases hk with hk | hk; exact .inl (hw ▸ hk); exact .inr (hs ▸ hk)⟩))
    · exact .inr (.inr (.inr ⟨z, by simp [hz], hk⟩))
theorem stay_cell (h : RW w x (.slice (some ad) n cap) vD L ds) {k j : Nat} (hadd : (ad.add k).block = ad.block) (hs : Stay (RFt x (.slice (some ad) n cap) vD L) w w1) (u : Value) : Stay (RFt x (.slice (some ad) n cap) vD L) w (w1.setCell ⟨(ad.add k).block, j, none⟩ u) :=
  hs.set (.inr (.inl (by rw [hadd]; rfl))) u
theorem add_block (ad : Addr) (k : Nat) : (ad.add k).block = ad.block := by unfold Addr.add; split <;> rfl
set_option maxRecDepth 100000 in
theorem rclose_no (h : RW w x vL vD L ds) (hno : NoC L c) (hl : L.length ≤ 1000000000) :
    Calls Try.prog 22 #[.pointer (some ⟨x, 0, none⟩), .int .i64 c] w fun e w' => e = .returned (.int .i64 6) ∧ Below w.heap.size w w' := by
  have HF := Aside0.mk (rat_no h hno hl)
  clear h hno hl
  go_enter Try.func22, Try.ntmps22
  go_wp2_with (go_at_call 8; refine HF.out.mono ?_; rintro e w1 ⟨rfl, hb⟩; have HB := Aside0.mk hb; clear hb)
  go_ret
  exact ⟨rfl, by repeat (first | exact HB.out | apply below_drew1 | apply pw_below_drewN)⟩
set_option maxRecDepth 100000 in
theorem rclose_yes (h : RW w x vL vD (A ++ y :: B) ds) (hyc : y.c = c) (ho : y.op = true) (hl : (A ++ y :: B).length ≤ 1000000000) :
    Calls Try.prog 22 #[.pointer (some ⟨x, 0, none⟩), .int .i64 c] w fun e w' => e = .returned (.int .i64 0) ∧ RNext w x vL vD (A ++ y :: B) ds (A ++ { y with op := false } :: B) ds w' := by
  have HF := Aside0.mk (rat_yes h hyc ho hl)
  obtain ⟨ad, cap, rfl, hadd, _⟩ := h.conn
  have H := Aside0.mk h
  have hi : A.length < (A ++ y :: B).length := by rw [List.length_append, List.length_cons]; omega
  obtain ⟨n, hn⟩ : ∃ n, n = (A ++ y :: B).length := ⟨_, rfl⟩
  rw [← hn] at H hi hl ⊢
  obtain ⟨i, hi2⟩ : ∃ i, i = A.length := ⟨_, rfl⟩
  have HI := Aside0.mk hi2
  rw [← hi2] at HF hi
  have hiz : (i : Int) < (n : Int) := by omega
  have hi0 : ¬ ((i : Int) < 0) := by omega
  clear h hyc ho hadd hn hi2
  go_enter Try.func22, Try.ntmps22
  go_wp2_with (go_at_call 8; refine HF.out.mono ?_; rintro e w1 ⟨rfl, hb⟩; have HB := Aside0.mk hb; have H1 := Aside0.mk (H.out.below hb); have hz0 : w1.cell? ⟨x, 0, none⟩ = some (.slice (some ad) n cap) := (blk_cell H1.out.blk 0).trans rfl; have hz1 := H1.out.cellAt 1 _ rfl; have hp := H1.out.flag (y' := { y with op := false }) rfl rfl rfl rfl rfl 1 (by decide) (.bool false) rfl; rw [← HI.out] at hz1 hp; have HP := Aside0.mk hp.1; have hf := hp.2; clear hb hp)
  go_ret
  exact ⟨rfl, _, _, HP.out, fun k hk => .inl (RFt.flag (y := y) (y' := { y with op := false }) rfl rfl k hk), stay_cell H.out (add_block _ _) (Stay.below HB.out) _⟩
set_option maxRecDepth 100000 in
theorem rend_no (h : RW w x vL vD L ds) (hno : NoC L c) (hl : L.length ≤ 1000000000) :
    Calls Try.prog 25 #[.pointer (some ⟨x, 0, none⟩), .int .i64 c] w fun e w' => e = .returned (.int .i64 6) ∧ Below w.heap.size w w' := by
  have HF := Aside0.mk (rat_no h hno hl)
  clear h hno hl
  go_enter Try.func25, Try.ntmps25
  go_wp2_with (go_at_call 8; refine HF.out.mono ?_; rintro e w1 ⟨rfl, hb⟩; have HB := Aside0.mk hb; clear hb)
  go_ret
  exact ⟨rfl, by repeat (first | exact HB.out | apply below_drew1 | apply pw_below_drewN)⟩
set_option maxRecDepth 100000 in
theorem rend_yes (h : RW w x vL vD (A ++ y :: B) ds) (hyc : y.c = c) (ho : y.op = true) (hl : (A ++ y :: B).length ≤ 1000000000) :
    Calls Try.prog 25 #[.pointer (some ⟨x, 0, none⟩), .int .i64 c] w fun e w' => e = .returned (.int .i64 0) ∧ RNext w x vL vD (A ++ y :: B) ds (A ++ { y with en := true } :: B) ds w' := by
  have HF := Aside0.mk (rat_yes h hyc ho hl)
  obtain ⟨ad, cap, rfl, hadd, _⟩ := h.conn
  have H := Aside0.mk h
  have hi : A.length < (A ++ y :: B).length := by rw [List.length_append, List.length_cons]; omega
  obtain ⟨n, hn⟩ : ∃ n, n = (A ++ y :: B).length := ⟨_, rfl⟩
  rw [← hn] at H hi hl ⊢
  obtain ⟨i, hi2⟩ : ∃ i, i = A.length := ⟨_, rfl⟩
  have HI := Aside0.mk hi2
  rw [← hi2] at HF hi
  have hiz : (i : Int) < (n : Int) := by omega
  have hi0 : ¬ ((i : Int) < 0) := by omega
  clear h hyc ho hadd hn hi2
  go_enter Try.func25, Try.ntmps25
  go_wp2_with (go_at_call 8; refine HF.out.mono ?_; rintro e w1 ⟨rfl, hb⟩; have HB := Aside0.mk hb; have H1 := Aside0.mk (H.out.below hb); have hz0 : w1.cell? ⟨x, 0, none⟩ = some (.slice (some ad) n cap) := (blk_cell H1.out.blk 0).trans rfl; have hz1 := H1.out.cellAt 2 _ rfl; have hp := H1.out.flag (y' := { y with en := true }) rfl rfl rfl rfl rfl 2 (by decide) (.bool true) rfl; rw [← HI.out] at hz1 hp; have HP := Aside0.mk hp.1; have hf := hp.2; clear hb hp)
  go_ret
  exact ⟨rfl, _, _, HP.out, fun k hk => .inl (RFt.flag (y := y) (y' := { y with en := true }) rfl rfl k hk), stay_cell H.out (add_block _ _) (Stay.below HB.out) _⟩
set_option maxRecDepth 100000 in
theorem rsent_none (h : RW w x vL vD L ds) (hno : ∀ y ∈ L, y.c ≠ c) (hl : L.length ≤ 1000000000) :
    Calls Try.prog 10 #[.pointer (some ⟨x, 0, none⟩), .int .i64 c] w fun e w' => e = .returned (.slice none 0 0) ∧ Below w.heap.size w w' := by
  have HF := Aside0.mk (rfind_calls h c (-1) (.inl ⟨rfl, hno⟩) hl)
  clear h hno hl
  go_enter Try.func10, Try.ntmps10
  go_wp2_with (go_at_call 34; refine HF.out.mono ?_; rintro e w1 ⟨rfl, hb⟩; have HB := Aside0.mk hb; clear hb)
  go_ret
  exact ⟨rfl, by repeat (first | exact HB.out | apply below_drew1 | apply pw_below_drewN)⟩
set_option maxRecDepth 100000 in
theorem rsent_some (h : RW w x vL vD (A ++ y :: B) ds) (hyc : y.c = c) (hl : (A ++ y :: B).length ≤ 1000000000) :
    Calls Try.prog 10 #[.pointer (some ⟨x, 0, none⟩), .int .i64 c] w fun e w' => e = .returned y.vs ∧ Below w.heap.size w w' := by
  have HF := Aside0.mk (rfind_calls h c (A.length : Int) (.inr ⟨A, y, B, rfl, rfl, hyc⟩) hl)
  obtain ⟨ad, cap, rfl, hadd, _⟩ := h.conn
  have H := Aside0.mk h
  have hi : A.length < (A ++ y :: B).length := by rw [List.length_append, List.length_cons]; omega
  obtain ⟨n, hn⟩ : ∃ n, n = (A ++ y :: B).length := ⟨_, rfl⟩
  rw [← hn] at H hi hl
  obtain ⟨i, hi2⟩ : ∃ i, i = A.length := ⟨_, rfl⟩
  have HI := Aside0.mk hi2
  rw [← hi2] at HF hi
  have hiz : (i : Int) < (n : Int) := by omega
  have hi0 : ¬ ((i : Int) < 0) := by omega
  obtain ⟨A4, c4, e4, _⟩ := (h.rs y (by simp)).slice
  obtain ⟨n4, hn4⟩ : ∃ n4, n4 = y.ss.length := ⟨_, rfl⟩
  rw [← hn4] at e4
  have HE := Aside0.mk e4
  rw [e4]
  clear h hyc hadd hn hi2 e4 hn4
  go_enter Try.func10, Try.ntmps10
  go_wp2_with (go_at_call 34; refine HF.out.mono ?_; rintro e w1 ⟨rfl, hb⟩; have HB := Aside0.mk hb; have H1 := Aside0.mk (H.out.below hb); have hz0 : w1.cell? ⟨x, 0, none⟩ = some (.slice (some ad) n cap) := (blk_cell H1.out.blk 0).trans rfl; have hz1 := H1.out.cellAt 4 _ rfl; rw [HE.out, ← HI.out] at hz1; clear hb)
  go_ret
  exact ⟨rfl, by repeat (first | exact HB.out | apply below_drew1 | apply pw_below_drewN)⟩
end
end Go.Proofs.Ytnhhcmnjfaeliaa.Vm
