/- The reference's world with any connections: All; own text of this session. -/
import Derived.Test.YtnhhcmnjfaeliaaVs9
import Derived.Deep.CutRange
namespace Go.Proofs.Ytnhhcmnjfaeliaa.Vm
open Wld hiding St Ft Next cellsQ cellsP ReadPost ptrE ptrE_none ptrE_some law zeroP Key key_of info_u8 info_int ne_t ne_blk ne_map grown_below
open Go.RowKit Go.Proofs.YtnhhcmnjfaeliaaW.PrintWords Go.Proofs.YtnhhcmnjfaeliaaW.PrintLast Go.Maps
set_option linter.unusedVariables false
set_option linter.unusedSimpArgs false
/-- A store into a row of numbers of one's own. -/
theorem Row.put {k : IntKind} {e : TypeId} {w : World} {n c : Nat} {ad : Addr} {xs : List Int} (h : Row k e w (.slice (some ad) n c) xs) (j : Nat) (hj : j < xs.length) (x : Int) :
    Row k e (w.setCell (ad.add j) (.int k x)) (.slice (some ad) n c) (xs.set j x) ∧ w.frozen? (ad.add j) = false ∧ (ad.add j).block = ad.block := by
  have hn : n = xs.length := h.C.1
  subst hn
  have hb := add_block ad j
  rcases h.2 with ⟨h0, _⟩ | ⟨g, off, cap, cur, he, _⟩
  · omega
  · injection he with e1 _ _
    injection e1 with e1
    have e2 : ad.add j = ⟨ad.block, ad.off + j, none⟩ := by rw [e1, add_at]
    have h5 := q_set h j (by rw [nums_length]; exact hj) (.int k x)
    rw [← e2] at h5
    refine ⟨?_, h5.2, hb⟩
    unfold Row
    rw [List.length_set]
    have e3 : nums k (xs.set j x) = (nums k xs).set j (.int k x) := by unfold nums; rw [List.map_set]
    rw [e3]
    exact h5.1
/-- Numbers, sorted, of the open ones. -/
def InsI (l : List Rc) (xs : List Int) : Prop := xs.Pairwise (fun a b => a ≤ b) ∧ xs.Perm ((l.filter fun y => y.op).map fun y => y.c)
theorem ins_skip {l : List Rc} {xs : List Int} {y : Rc} (h : InsI l xs) (ho : y.op = false) : InsI (l ++ [y]) xs := by
  refine ⟨h.1, ?_⟩
  rw [List.filter_append]
  simp only [List.filter_cons, ho, List.filter_nil]
  simpa using h.2
/-- One number on its way down. -/
def InsJ (l : List Rc) (y : Rc) (P Q : List Int) (u : Int) : Prop := u = y.c ∧ (P ++ Q).Pairwise (fun a b => a ≤ b) ∧ (∀ q ∈ Q, u ≤ q) ∧ (P ++ Q).Perm ((l.filter fun y => y.op).map fun y => y.c)
theorem insJ_start {l : List Rc} {xs : List Int} {y : Rc} (h : InsI l xs) : InsJ l y xs [] y.c := ⟨rfl, (by rw [List.append_nil]; exact h.1), (fun q hq => by cases hq), (by rw [List.append_nil]; exact h.2)⟩
theorem insJ_down {l : List Rc} {y : Rc} {P Q : List Int} {u p : Int} (h : InsJ l y (P ++ [p]) Q u) (hlt : u < p) : InsJ l y P (p :: Q) u := by
  obtain ⟨h1, h2, h3, h4⟩ := h
  have e : P ++ [p] ++ Q = P ++ p :: Q := by simp
  rw [e] at h2 h4
  exact ⟨h1, h2, fun q hq => by rcases List.mem_cons.1 hq with rfl | hq; omega; exact h3 q hq, h4⟩
theorem insJ_end {l : List Rc} {y : Rc} {P Q : List Int} {u : Int} (h : InsJ l y P Q u) (ho : y.op = true) (hp : ∀ p ∈ P, p ≤ u) : InsI (l ++ [y]) (P ++ u :: Q) := by
  obtain ⟨h1, h2, h3, h4⟩ := h
  rw [List.pairwise_append] at h2
  refine ⟨?_, ?_⟩
  · rw [List.pairwise_append, List.pairwise_cons]
    refine ⟨h2.1, ⟨h3, h2.2.1⟩, fun a ha b hb => ?_⟩
    rcases List.mem_cons.1 hb with rfl | hb
    · exact hp a ha
    · exact h2.2.2 a ha b hb
  · rw [List.filter_append, List.map_append]
    simp only [List.filter_cons, ho, List.filter_nil, if_true, List.map_cons, List.map_nil, ← h1]
    exact (List.perm_middle).trans ((List.Perm.cons u h4).trans (List.perm_append_singleton u _).symm)
theorem insI_opens {l : List Rc} {xs : List Int} (h : InsI l xs) : xs = ((l.filter fun y => y.op).map fun y => y.c).mergeSort fun x y => decide (x ≤ y) := by
  have s : ∀ l : List Int, (l.mergeSort fun x y => decide (x ≤ y)).Pairwise (fun a b => a ≤ b) := fun l =>
    (List.pairwise_mergeSort (le := fun x y : Int => decide (x ≤ y)) (fun a b c h1 h2 => by simp at *; omega) (fun a b => by simp; omega) l).imp (fun h => by simpa using h)
  exact List.Perm.eq_of_pairwise (fun a b _ _ h1 h2 => by omega) h.1 (s _) (h.2.trans (List.mergeSort_perm _ _).symm)
theorem insI_len {l : List Rc} {xs : List Int} (h : InsI l xs) : xs.length ≤ l.length := by
  rw [h.2.length_eq, List.length_map]
  exact List.length_filter_le _ _
theorem last_le {P : List Int} {p u : Int} (h : (P ++ [p]).Pairwise (fun a b => a ≤ b)) (hp : p ≤ u) : ∀ q ∈ P ++ [p], q ≤ u := by
  rw [List.pairwise_append] at h
  intro q hq
  rw [List.mem_append, List.mem_singleton] at hq
  rcases hq with hq | rfl
  · have := h.2.2 q hq p (by simp); omega
  · exact hp
theorem snoc_cases {α : Type} (P : List α) : P = [] ∨ ∃ P' p, P = P' ++ [p] := by
  rcases List.eq_nil_or_concat P with h | ⟨P', p, h⟩
  · exact .inl h
  · exact .inr ⟨P', p, by rw [h, List.concat_eq_append]⟩
/-- The numbers of the reference's open ones, in order. -/
def ropens (L : List Rc) : List Int := ((L.filter fun y => y.op).map fun y => y.c).mergeSort fun x y => decide (x ≤ y)
section
variable {w w1 w2 : World} {x n cap : Nat} {vL vD : Value} {L A B : List Rc} {y : Rc} {ds : List Int} {ad : Addr} {c : Int}
set_option maxHeartbeats 8000000 in
set_option maxRecDepth 100000 in
theorem rall_calls (h : RW w x vL vD L ds) (hl : L.length ≤ 1000000000) :
    Calls Try.prog 13 #[.pointer (some ⟨x, 0, none⟩)] w fun e w' => ∃ (A1 : Option Addr) (c1 : Nat), e = .returned (.slice A1 (ropens L).length c1) ∧ Row .i64 3 w' (.slice A1 (ropens L).length c1) (ropens L) ∧ Below w.heap.size w w' := by
  obtain ⟨AL, cap, rfl, _⟩ := q_slice h.rl
  obtain ⟨n, hn⟩ : ∃ n, n = L.length := ⟨_, rfl⟩
  have Hn := Aside0.mk hn
  rw [← hn] at h hl
  have H := Aside0.mk h
  have hz0 : w.cell? ⟨x, 0, none⟩ = some (.slice AL n cap) := (blk_cell h.blk 0).trans rfl
  clear h hn
  go_enter Try.func13, Try.ntmps13
  go_wp2
  go_loopw [3, 13] (fun x3 x13 wr => ∃ (kk : Nat) (v3 : Value) (xs : List Int), kk ≤ n ∧ v3 = x3 ∧ x13 = .int .i64 kk ∧ Aside0 (Below w.heap.size w wr) ∧ Aside0 (Row .i64 3 wr v3 xs) ∧ Aside0 (∀ i, v3.ownBlock = some i → w.heap.size ≤ i) ∧ Aside0 (InsI (L.take kk) xs)) (fun _ v13 _ => n - (intOf v13).toNat)
  case atStart => exact ⟨0, _, [], Nat.zero_le _, rfl, rfl, ⟨Below.refl _ _⟩, ⟨Row.nil _ _ _⟩, ⟨fun i hi => by simp [Value.ownBlock] at hi⟩, ⟨by simp [InsI]⟩⟩
  case round =>
    obtain ⟨kk, v3, xs, hkk, rfl, rfl, HB, HRow, HOw, HI⟩ := hrel
    clear hz0
    obtain ⟨A3, c3, e3, _⟩ := HRow.out.slice
    obtain ⟨n3, hn3⟩ : ∃ n3, n3 = xs.length := ⟨_, rfl⟩
    have HN3 := Aside0.mk hn3
    rw [← hn3] at e3
    subst e3
    clear hn3
    by_cases hlt : kk < n
    · have hltz : (kk : Int) < (n : Int) := by omega
      obtain ⟨A, y, B, eL, eA⟩ := split_at L kk (by have := Hn.out; omega)
      have H1 := Aside0.mk (H.out.below HB.out)
      obtain ⟨ad, cap', e, hadd⟩ : ∃ ad cap', (Value.slice AL n cap) = .slice (some ad) n cap' ∧ True := by
        have h5 := H.out
        rw [eL] at h5
        obtain ⟨ad, cap', e, _⟩ := h5.conn
        injection e with e1 e2 e3
        exact ⟨ad, cap', by rw [e1, e3], trivial⟩
      injection e with e1 e2 e3
      subst e1 e3
      have hy : Aside0 (RW wr x (.slice (some ad) n cap) vD (A ++ y :: B) ds) := ⟨by rw [← eL]; exact H1.out⟩
      have z0 := hy.out.cell0
      have z1 := hy.out.cellAt 1 _ rfl
      have z2 := hy.out.cellAt 2 _ rfl
      have z3 := hy.out.cellAt 3 _ rfl
      have z4 := hy.out.cellAt 4 _ rfl
      have z5 := hy.out.cellAt 5 _ rfl
      rw [eA] at z0 z1 z2 z3 z4 z5
      have HTk : Aside0 (L.take (kk + 1) = L.take kk ++ [y]) := ⟨by
        have h6 : A ++ y :: B = (A ++ [y]) ++ B := by simp
        have h7 : L.take kk = A := by rw [eL]; exact List.take_left' eA
        rw [h7, eL, h6]
        exact List.take_left' (by rw [List.length_append, eA]; rfl)⟩
      obtain ⟨A3', c3', e3, _⟩ := (hy.out.rw y (by simp)).slice
      obtain ⟨n3', hn3⟩ : ∃ n3, n3 = y.ws.length := ⟨_, rfl⟩
      obtain ⟨A4, c4, e4, _⟩ := (hy.out.rs y (by simp)).slice
      obtain ⟨n4, hn4⟩ : ∃ n4, n4 = y.ss.length := ⟨_, rfl⟩
      rw [← hn3] at e3
      rw [← hn4] at e4
      rw [e3] at z3
      rw [e4] at z4
      obtain ⟨yc, hyc⟩ : ∃ yc, yc = y.c := ⟨_, rfl⟩
      rw [← hyc] at z0
      have HYc := Aside0.mk hyc
      obtain ⟨yo, hyo⟩ : ∃ yo, yo = y.op := ⟨_, rfl⟩
      rw [← hyo] at z1
      have HYo := Aside0.mk hyo
      obtain ⟨ye, hye⟩ : ∃ ye, ye = y.en := ⟨_, rfl⟩
      rw [← hye] at z2
      obtain ⟨yr, hyr⟩ : ∃ yr, yr = y.room := ⟨_, rfl⟩
      rw [← hyr] at z5
      have HXl := Aside0.mk (show xs.length ≤ kk by have := insI_len HI.out; rw [List.length_take] at this; omega)
      clear eL eA hyc hyo hye hyr e3 e4 hn3 hn4 hadd
      cases yo with
      | false =>
        go_wp2
        go_roundw
        case rel => exact ⟨kk + 1, _, xs, by omega, rfl, by simp, ⟨by repeat (first | exact HB.out | apply below_alloc | apply below_drew1 | apply pw_below_drewN)⟩, ⟨HRow.out.below (by repeat (first | exact Below.refl _ _ | apply below_alloc))⟩, HOw, ⟨by rw [HTk.out]; exact ins_skip HI.out HYo.out.symm⟩⟩
        case measure => simp [intOf]; omega
      | true =>
        go_wp2_with (first
          | ((with_reducible refine gate_builtin (b := .append) (xs := #[.tmp 20, .tmp 23]) rfl ?_); at_builtin; go_loud (refine append_row (bytes := 8) rfl (.tmp 20) (.tmp 23) rfl Try.underlying27 info_int (by decide) (.slice A3 n3 c3) xs (some ⟨wr.heap.size + 1, 0, none⟩) 1 1 [yc] rfl rfl (HRow.out.below (below_alloc (below_alloc (Below.refl _ _) _) _)) (C_blk (xs := [yc]) (Wld.blk_two _ _ _) (fun i hi => by match i, hi with | 0, _ => rfl) (by simp)) rfl (by have h1 := HXl.out; simp only [List.length_cons, List.length_nil]; omega) ?_; intro v1 w2 hR hg hat; obtain ⟨A1, c1, e1', _⟩ := hR.slice; have hN1 : (xs ++ [yc]).length = n3 + 1 := (by rw [List.length_append, ← HN3.out]; rfl); rw [hN1] at e1'; have HR2 := Aside0.mk hR; have HB2 := Aside0.mk (below_grown (below_alloc HB.out _) hg HOw.out); have HOw2 : Aside0 (∀ i, v1.ownBlock = some i → w.heap.size ≤ i) := ⟨fun i hi => (own_at hat i hi).elim (HOw.out i) (fun h5 => Nat.le_trans HB.out.size (Nat.le_trans (below_alloc (below_alloc (Below.refl wr.heap.size wr) _) _).size h5))⟩; clear hR hg hat hN1; subst e1')))
        have hn3 : n3 ≤ 1000000000 := by have := HXl.out; have := HN3.out; omega
        clear z0 z1 z2 z3 z4 z5
        go_loopw [6, 7] (fun x6 x7 wq => ∃ (k : Int) (P Q : List Int), x6 = .int .i64 k ∧ k = (P.length : Int) ∧ P.length + Q.length = n3 ∧ Aside0 (Below w.heap.size w wq) ∧ Aside0 (Row .i64 3 wq (.slice A1 (n3 + 1) c1) (P ++ yc :: Q)) ∧ Aside0 (InsJ (L.take kk) y P Q yc)) (fun v6 _ _ => (intOf v6).toNat)
        case atStart => exact ⟨(n3 : Int), xs, [], (by rw [IntWalk.wrap64_in _ (by omega)]), (by have := HN3.out; omega), (by have := HN3.out; simp; omega), HB2, HR2, ⟨by have h5 := insJ_start (y := y) HI.out; rw [← HYc.out] at h5; exact h5⟩⟩
        case round =>
          obtain ⟨k, P, Q, rfl, hk, hPQ, HBq, HRq, HJ⟩ := hrel
          rcases snoc_cases P with rfl | ⟨P', p, rfl⟩
          · simp only [List.length_nil] at hk
            subst hk
            go_wp2
            go_region
            all_goals
              go_wp2
              go_roundw
              case rel => exact ⟨kk + 1, _, _, by omega, rfl, by simp, ⟨below_drew1 HBq.out⟩, ⟨HRq.out.below (below_drew (Below.refl _ _))⟩, HOw2, ⟨by rw [HTk.out]; exact insJ_end HJ.out HYo.out.symm (fun p hp => by cases hp)⟩⟩
              case measure => simp [intOf]; omega
          · obtain ⟨kp, hkp⟩ : ∃ kp, kp = P'.length := ⟨_, rfl⟩
            have HKp := Aside0.mk hkp
            have hkk2 : k = (kp : Int) + 1 := by rw [hk, hkp, List.length_append]; rfl
            have hlen2 : kp + 1 + Q.length = n3 := by rw [hkp, ← hPQ, List.length_append]; rfl
            subst hkk2
            clear hk hPQ hkp
            obtain ⟨adr, eA1, hz1⟩ := row_at HRq.out (kp + 1) (by rw [List.length_append, List.length_append, ← HKp.out]; simp)
            subst eA1
            obtain ⟨adr', eA2, hz2⟩ := row_at HRq.out kp (by rw [List.length_append, List.length_append, ← HKp.out]; simp; omega)
            injection eA2 with eA2
            subst eA2
            have eg1 : (P' ++ [p] ++ yc :: Q).getD (kp + 1) 0 = yc := by rw [HKp.out]; simp [List.getD_eq_getElem?_getD]
            have eg2 : (P' ++ [p] ++ yc :: Q).getD kp 0 = p := by rw [HKp.out]; simp [List.getD_eq_getElem?_getD]
            rw [eg1] at hz1
            rw [eg2] at hz2
            have hq1 : ∀ q, (wr.drewN q).cell? (adr.add (kp + 1)) = some (.int .i64 yc) := fun q => hz1
            have hq2 : ∀ q, (wr.drewN q).cell? (adr.add kp) = some (.int .i64 p) := fun q => hz2
            have e5 : adr.add (kp + 1) = ⟨adr.block, adr.off + (kp + 1), none⟩ := by
              rcases HRq.out.2 with ⟨h0, _⟩ | ⟨g, off, cap5, cur, he, _⟩
              · simp at h0
              · injection he with e1 _ _
                injection e1 with e1
                rw [e1, add_at]
            have hz3 : wr.cell? ⟨adr.block, adr.off + (kp + 1), none⟩ = some (.int .i64 yc) := by
              rw [← e5]
              exact hz1
            have hp1 := fun q => Row.put (HRq.out.below (pw_below_drewN (Below.refl _ _) q)) (kp + 1) (by rw [List.length_append, List.length_append, ← HKp.out]; simp) p
            have hp2 := fun q => Row.put (hp1 q).1 kp (by rw [List.length_set, List.length_append, List.length_append, ← HKp.out]; simp; omega) yc
            have HP2 : Aside0 (∀ q, Row .i64 3 (((wr.drewN q).setCell ⟨adr.block, adr.off + (kp + 1), none⟩ (.int .i64 p)).setCell (adr.add kp) (.int .i64 yc)) (.slice (some adr) (n3 + 1) c1) (P' ++ yc :: p :: Q)) := ⟨fun q => by
              have h5 := (hp2 q).1
              have e6 : ((P' ++ [p] ++ yc :: Q).set (kp + 1) p).set kp yc = P' ++ yc :: p :: Q := by rw [HKp.out]; simp
              rw [e6, e5] at h5
              exact h5⟩
            have hs1 : ∀ q, (wr.drewN q).frozen? ⟨adr.block, adr.off + (kp + 1), none⟩ = false := fun q => by rw [← e5]; exact (hp1 q).2.1
            have hs2 : ∀ q, ((wr.drewN q).setCell ⟨adr.block, adr.off + (kp + 1), none⟩ (.int .i64 p)).frozen? (adr.add kp) = false := fun q => by rw [← e5]; exact (hp2 q).2.1
            have hs3 : ∀ q, ((wr.drewN q).setCell ⟨adr.block, adr.off + (kp + 1), none⟩ (.int .i64 p)).cell? (adr.add kp) = some (.int .i64 p) := fun q => by
              obtain ⟨adq, eAq, hzq⟩ := row_at (hp1 q).1 kp (by rw [List.length_set, List.length_append, List.length_append, ← HKp.out]; simp; omega)
              injection eAq with eAq
              subst eAq
              have e6 : ((P' ++ [p] ++ yc :: Q).set (kp + 1) p).getD kp 0 = p := by rw [HKp.out]; simp [List.getD_eq_getElem?_getD]
              rw [e6, e5] at hzq
              exact hzq
            have HBl : Aside0 (∀ q, Below w.heap.size w (((wr.drewN q).setCell ⟨adr.block, adr.off + (kp + 1), none⟩ (.int .i64 p)).setCell (adr.add kp) (.int .i64 yc))) := ⟨fun q => by
              have hge : w.heap.size ≤ adr.block := HOw2.out _ rfl
              have hge2 : w.heap.size ≤ (adr.add kp).block := by rw [add_block adr kp]; exact hge
              exact ((pw_below_drewN HBq.out q).setCell (p := ⟨adr.block, adr.off + (kp + 1), none⟩) hge _).setCell hge2 _⟩
            clear hp1 hp2 e5
            have hq3 : ∀ q, (wr.drewN q).cell? ⟨adr.block, adr.off + (kp + 1), none⟩ = some (.int .i64 yc) := fun q => hz3
            have hb0 : 0 ≤ (kp : Int) + 1 := by omega
            have hb1 : (kp : Int) + 1 < (n3 : Int) + 1 := by omega
            have hb2 : (kp : Int) < (n3 : Int) + 1 := by omega
            have ht : ((kp : Int) + 1).toNat = kp + 1 := by omega
            have hw5 : IntKind.i64.wrap ((kp : Int) + 1 - 1) = (kp : Int) := by rw [Int.add_sub_cancel]; exact IntWalk.i64_in _ (by omega)
            clear eg1 eg2
            by_cases hup : yc < p
            · go_wp2
              go_quiet (fail)
              go_wp2
              go_roundw
              case rel => exact ⟨_, P', p :: Q, rfl, HKp.out ▸ rfl, by simp only [List.length_cons]; have := HKp.out; omega, ⟨HBl.out _⟩, ⟨HP2.out _⟩, ⟨insJ_down HJ.out hup⟩⟩
              case measure => simp [intOf]
            · go_wp2
              go_quiet (fail)
              all_goals
                go_wp2
                go_roundw
                case rel => exact ⟨kk + 1, _, _, by omega, rfl, by simp, ⟨by repeat (first | exact HBq.out | apply below_drew1 | apply pw_below_drewN)⟩, ⟨HRq.out.below (by repeat (first | exact Below.refl _ _ | apply below_drew1 | apply pw_below_drewN))⟩, HOw2, ⟨by rw [HTk.out]; exact insJ_end HJ.out HYo.out.symm (last_le (by have h5 := HJ.out.2.1; rw [List.pairwise_append] at h5; exact h5.1) (by omega))⟩⟩
                case measure => simp [intOf]; omega
    · obtain rfl : kk = n := by omega
      have HE := Aside0.mk (insI_opens (by have h5 := HI.out; rw [List.take_of_length_le (by rw [Hn.out]; exact Nat.le_refl _)] at h5; exact h5))
      go_wp2
      go_ret
      have hlen : n3 = (ropens L).length := by rw [HN3.out, HE.out]; rfl
      have hr5 := HRow.out
      rw [HE.out] at hr5
      subst hlen
      exact ⟨A3, c3, rfl, hr5, HB.out⟩
end
end Go.Proofs.Ytnhhcmnjfaeliaa.Vm
