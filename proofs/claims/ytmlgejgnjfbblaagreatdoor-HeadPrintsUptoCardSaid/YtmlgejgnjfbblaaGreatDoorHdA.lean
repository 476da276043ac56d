/- Package head, by hand: Parse; own text of this session. -/
import Derived.Test.YtmlgejgnjfbblaaGreatDoorSq
import Derived.Test.YtmlgejgnjfbblaaGreatDoorHdAA
namespace Go.Proofs.YtmlgejgnjfbblaaGreatDoor.Hd
open Go.RowKit Go.Proofs.YtmlgejgnjfbblaaGreatDoorW.PrintWords Go.Proofs.YtmlgejgnjfbblaaGreatDoorW.PrintLast Chk Px Hr
set_option linter.unusedVariables false
set_option linter.unusedSimpArgs false
theorem feedP_sane (b : List Int) : ∀ (p : Par) (n m : Nat), SaneN (b.length + m) p → SaneN m (feedP p b n).1 := by
 induction b with
 | nil => intro p n m h; show SaneN m p; simpa using h
 | cons c r ih =>
  intro p n m h
  by_cases hs : p.whole = true ∨ p.err.isSome = true
  ·have e : feedP p (c :: r) n = (p, n) := feedP_stop p _ n (.inr hs)
   rw [e]
   show SaneN m p
   exact ⟨h.rd0, h.mo0, h.mo1, h.li0, by have := h.rd1; simp only [List.length_cons] at this; push_cast at this; omega, by have := h.li1; simp only [List.length_cons] at this; push_cast at this; omega, by have := h.ln; simp only [List.length_cons] at this; omega, by have := h.fl; simp only [List.length_cons] at this; omega⟩
  ·have hw : p.whole = false := by cases hx : p.whole with | false => rfl | true => exact absurd (.inl hx) hs
   have he : p.err = none := by cases hx : p.err with | none => rfl | some y => exact absurd (.inr (by rw [hx]; rfl)) hs
   rw [feedP_next p c r n hw he]
   refine ih _ _ _ (SaneN.take (m := r.length + m) ?_ c)
   have e : (c :: r).length + m = r.length + m + 1 := by simp only [List.length_cons]; omega
   rw [← e]; exact h
theorem feedP_count (b : List Int) : ∀ (p : Par) (n : Nat), n ≤ (feedP p b n).2 ∧ (feedP p b n).2 ≤ n + b.length := by
 induction b with
 | nil => intro p n; exact ⟨Nat.le_refl _, Nat.le_refl _⟩
 | cons c r ih =>
  intro p n
  by_cases hs : p.whole = true ∨ p.err.isSome = true
  ·rw [feedP_stop p _ n (.inr hs)]; exact ⟨Nat.le_refl _, Nat.le_add_right _ _⟩
  ·have hw : p.whole = false := by cases hx : p.whole with | false => rfl | true => exact absurd (.inl hx) hs
   have he : p.err = none := by cases hx : p.err with | none => rfl | some y => exact absurd (.inr (by rw [hx]; rfl)) hs
   rw [feedP_next p c r n hw he]
   have h5 := ih { (takeS p c).1 with err := (takeS p c).2 } (n + 1)
   refine ⟨Nat.le_trans (Nat.le_succ _) h5.1, Nat.le_trans h5.2 ?_⟩
   simp only [List.length_cons]
   omega
def ParsePost (r : Head × Int × Int) (w : World) (e : Ending) (w' : World) : Prop :=
 ∃ v : Value, e = .returned (.tuple #[hdV r.1 v, .int .i64 r.2.1, .int .i64 r.2.2]) ∧ fldK.R 45 w' w.heap.size (fun i => w.heap.size ≤ i) v r.1.f6 ∧ Below w.heap.size w w'
set_option maxHeartbeats 4000000 in
set_option maxRecDepth 100000 in
theorem parse_err (request : Bool) (b : List Int) (A : Option Addr) (cap : Nat) (w : World) (hr : Kd.C (Kd.int .u8) w A b.length b) (hl : b.length ≤ 4294940000) (hG : GInv w) (q : Par) (n : Nat) (hq : feedP (newPar request 65536) b 0 = (q, n)) (he : ¬ codeOf q.err = 0) :
  Calls Tryz.prog 7 #[.bool request, .slice A b.length cap] w (ParsePost (head0 false, 0, codeOf q.err) w) := by
 obtain ⟨W1, hW1⟩ : ∃ W1, W1 = (w.alloc (.cells #[.bool false, .string ⟨#[]⟩, .string ⟨#[]⟩, .int .i64 0, .int .i64 0, .string ⟨#[]⟩, .slice none 0 0] 24)) := ⟨_, rfl⟩
 have hB1 : Below w.heap.size w W1 := by rw [hW1]; exact below_alloc (Below.refl _ _) _
 have hK1 : W1.heap[w.heap.size]? = some (.cells #[.bool false, .string ⟨#[]⟩, .string ⟨#[]⟩, .int .i64 0, .int .i64 0, .string ⟨#[]⟩, .slice none 0 0] 24 (0, 0)) := by rw [hW1]; exact blk_new _ _
 have HB1 := Aside0.mk hB1
 have HK1 := Aside0.mk hK1
 have HG1 := Aside0.mk (hG.below hB1)
 have HNw := Aside0.mk (fun W => new_calls request 65536 W (by decide) (by decide))
 have hsn := sane_new request 65536 b.length (by decide) (by decide) (by omega)
 have hsq := feedP_sane b (newPar request 65536) 0 0 (by simpa using hsn)
 have hqn := feedP_count b (newPar request 65536) 0
 rw [hq] at hsq hqn
 have HSq := Aside0.mk hsq
 have hFd : ∀ (W : World) (F : Nat → Prop) (k : Nat), Below W1.heap.size W1 W → (∀ i, F i → W1.heap.size ≤ i) → Rep W F k (.slice none 0 0) (.slice none 0 0) (newPar request 65536) → Calls Tryz.prog 17 #[.pointer (some ⟨k, 0, none⟩), .slice A b.length cap] W (FeedPost W F k (q, n)) := by
  intro W F k hb hF hrep
  have h5 := feed_calls W1 W F k _ _ (newPar request 65536) A cap b hrep ⟨HG1.out, hb, hF⟩ hsn (fun W' hs => Kd.C_below (Kd.C_below hr hB1) (hs.out hb hF hb.size))
  rw [hq] at h5
  exact h5
 have HFd := Aside0.mk hFd
 have HW1 := Aside0.mk hW1
 obtain ⟨L, hL⟩ : ∃ L, L = b.length := ⟨_, rfl⟩
 rw [← hL] at HFd ⊢
 obtain ⟨ec, hec⟩ : ∃ ec, ec = codeOf q.err := ⟨_, rfl⟩
 unfold FeedPost at HFd
 simp only [← hec] at HFd
 rw [← hec] at he ⊢
 have be : (ec != 0) = true := by simpa using he
 clear he hec
 clear hr hl hG hq hB1 hK1 hsn hsq hqn hFd hW1 hL
 go_enter Tryz.func7, Tryz.ntmps7
 go_wp2_with (first
  | (go_at_call 16; rw [← HW1.out]; refine (HNw.out _).mono ?_; rintro e w2 ⟨k, rfl, hk, hrep, hb⟩; have HKk := Aside0.mk hk; have HR2 := Aside0.mk hrep; have HB2 := Aside0.mk hb; clear hk hrep hb)
  | (go_at_call 17; refine (HFd.out _ _ _ HB2.out (fun i hi => by rw [hi]; exact HKk.out) HR2.out).mono ?_; rintro e w3 ⟨rfl, ⟨vl, vf, hrep⟩, hst⟩; have HR3 := Aside0.mk hrep; have HB3 := Aside0.mk (hst.out HB2.out (fun i hi => by rw [hi]; exact HKk.out) HB2.out.size); have HK3 := Aside0.mk (blk_below HK1.out HB3.out); have zy0 := bz7 HK3; clear hrep hst))
 refine bodyPost_ret (results_ctt rfl _ _ w.heap.size 24 #[.bool false, .string ⟨#[]⟩, .string ⟨#[]⟩, .int .i64 0, .int .i64 0, .string ⟨#[]⟩, .slice none 0 0] (0, 0) _ rfl (by refine blk_put (cs := #[.bool false, .string ⟨#[]⟩, .string ⟨#[]⟩, .int .i64 0, .int .i64 0, .string ⟨#[]⟩, .slice none 0 0]) ?_ 6 _ rfl; refine blk_put (cs := #[.bool false, .string ⟨#[]⟩, .string ⟨#[]⟩, .int .i64 0, .int .i64 0, .string ⟨#[]⟩, .slice none 0 0]) ?_ 5 _ rfl; refine blk_put (cs := #[.bool false, .string ⟨#[]⟩, .string ⟨#[]⟩, .int .i64 0, .int .i64 0, .string ⟨#[]⟩, .slice none 0 0]) ?_ 4 _ rfl; refine blk_put (cs := #[.bool false, .string ⟨#[]⟩, .string ⟨#[]⟩, .int .i64 0, .int .i64 0, .string ⟨#[]⟩, .slice none 0 0]) ?_ 3 _ rfl; refine blk_put (cs := #[.bool false, .string ⟨#[]⟩, .string ⟨#[]⟩, .int .i64 0, .int .i64 0, .string ⟨#[]⟩, .slice none 0 0]) ?_ 2 _ rfl; refine blk_put (cs := #[.bool false, .string ⟨#[]⟩, .string ⟨#[]⟩, .int .i64 0, .int .i64 0, .string ⟨#[]⟩, .slice none 0 0]) ?_ 1 _ rfl; refine blk_put (cs := #[.bool false, .string ⟨#[]⟩, .string ⟨#[]⟩, .int .i64 0, .int .i64 0, .string ⟨#[]⟩, .slice none 0 0]) ?_ 0 _ rfl; exact HK3.out) Tryz.underlying24 rfl (by kernel_rfl)) rfl ?_
 have HBw : Below w.heap.size w w3 := below_then HB1.out HB1.out.size HB3.out
 exact ⟨_, rfl, Kd.R_nil _ _ _ _ _, (((((((HBw).setCell (p := ⟨w.heap.size, 0, none⟩) (Nat.le_refl _) (.bool false)).setCell (p := ⟨w.heap.size, 1, none⟩) (Nat.le_refl _) (.string ⟨#[]⟩)).setCell (p := ⟨w.heap.size, 2, none⟩) (Nat.le_refl _) (.string ⟨#[]⟩)).setCell (p := ⟨w.heap.size, 3, none⟩) (Nat.le_refl _) (.int .i64 0)).setCell (p := ⟨w.heap.size, 4, none⟩) (Nat.le_refl _) (.int .i64 0)).setCell (p := ⟨w.heap.size, 5, none⟩) (Nat.le_refl _) (.string ⟨#[]⟩)).setCell (p := ⟨w.heap.size, 6, none⟩) (Nat.le_refl _) (.slice none 0 0)⟩
set_option maxHeartbeats 4000000 in
set_option maxRecDepth 100000 in
theorem parse_cut (request : Bool) (b : List Int) (A : Option Addr) (cap : Nat) (w : World) (hr : Kd.C (Kd.int .u8) w A b.length b) (hl : b.length ≤ 4294940000) (hG : GInv w) (q : Par) (n : Nat) (hq : feedP (newPar request 65536) b 0 = (q, n)) (he : codeOf q.err = 0) (hw : q.whole = false) :
  Calls Tryz.prog 7 #[.bool request, .slice A b.length cap] w (ParsePost (head0 false, 0, 6) w) := by
 obtain ⟨W1, hW1⟩ : ∃ W1, W1 = (w.alloc (.cells #[.bool false, .string ⟨#[]⟩, .string ⟨#[]⟩, .int .i64 0, .int .i64 0, .string ⟨#[]⟩, .slice none 0 0] 24)) := ⟨_, rfl⟩
 have hB1 : Below w.heap.size w W1 := by rw [hW1]; exact below_alloc (Below.refl _ _) _
 have hK1 : W1.heap[w.heap.size]? = some (.cells #[.bool false, .string ⟨#[]⟩, .string ⟨#[]⟩, .int .i64 0, .int .i64 0, .string ⟨#[]⟩, .slice none 0 0] 24 (0, 0)) := by rw [hW1]; exact blk_new _ _
 have HB1 := Aside0.mk hB1
 have HK1 := Aside0.mk hK1
 have HG1 := Aside0.mk (hG.below hB1)
 have HNw := Aside0.mk (fun W => new_calls request 65536 W (by decide) (by decide))
 have hsn := sane_new request 65536 b.length (by decide) (by decide) (by omega)
 have hsq := feedP_sane b (newPar request 65536) 0 0 (by simpa using hsn)
 have hqn := feedP_count b (newPar request 65536) 0
 rw [hq] at hsq hqn
 have HSq := Aside0.mk hsq
 have hFd : ∀ (W : World) (F : Nat → Prop) (k : Nat), Below W1.heap.size W1 W → (∀ i, F i → W1.heap.size ≤ i) → Rep W F k (.slice none 0 0) (.slice none 0 0) (newPar request 65536) → Calls Tryz.prog 17 #[.pointer (some ⟨k, 0, none⟩), .slice A b.length cap] W (FeedPost W F k (q, n)) := by
  intro W F k hb hF hrep
  have h5 := feed_calls W1 W F k _ _ (newPar request 65536) A cap b hrep ⟨HG1.out, hb, hF⟩ hsn (fun W' hs => Kd.C_below (Kd.C_below hr hB1) (hs.out hb hF hb.size))
  rw [hq] at h5
  exact h5
 have HFd := Aside0.mk hFd
 have HW1 := Aside0.mk hW1
 obtain ⟨L, hL⟩ : ∃ L, L = b.length := ⟨_, rfl⟩
 rw [← hL] at HFd ⊢
 unfold FeedPost at HFd
 simp only [he, hw] at HFd
 clear he hw
 clear hr hl hG hq hB1 hK1 hsn hsq hqn hFd hW1 hL
 go_enter Tryz.func7, Tryz.ntmps7
 go_wp2_with (first
  | (go_at_call 16; rw [← HW1.out]; refine (HNw.out _).mono ?_; rintro e w2 ⟨k, rfl, hk, hrep, hb⟩; have HKk := Aside0.mk hk; have HR2 := Aside0.mk hrep; have HB2 := Aside0.mk hb; clear hk hrep hb)
  | (go_at_call 17; refine (HFd.out _ _ _ HB2.out (fun i hi => by rw [hi]; exact HKk.out) HR2.out).mono ?_; rintro e w3 ⟨rfl, ⟨vl, vf, hrep⟩, hst⟩; have HR3 := Aside0.mk hrep; have HB3 := Aside0.mk (hst.out HB2.out (fun i hi => by rw [hi]; exact HKk.out) HB2.out.size); have HK3 := Aside0.mk (blk_below HK1.out HB3.out); have zy0 := bz7 HK3; clear hrep hst))
 refine bodyPost_ret (results_ctt rfl _ _ w.heap.size 24 #[.bool false, .string ⟨#[]⟩, .string ⟨#[]⟩, .int .i64 0, .int .i64 0, .string ⟨#[]⟩, .slice none 0 0] (0, 0) _ rfl (by refine blk_put (cs := #[.bool false, .string ⟨#[]⟩, .string ⟨#[]⟩, .int .i64 0, .int .i64 0, .string ⟨#[]⟩, .slice none 0 0]) ?_ 6 _ rfl; refine blk_put (cs := #[.bool false, .string ⟨#[]⟩, .string ⟨#[]⟩, .int .i64 0, .int .i64 0, .string ⟨#[]⟩, .slice none 0 0]) ?_ 5 _ rfl; refine blk_put (cs := #[.bool false, .string ⟨#[]⟩, .string ⟨#[]⟩, .int .i64 0, .int .i64 0, .string ⟨#[]⟩, .slice none 0 0]) ?_ 4 _ rfl; refine blk_put (cs := #[.bool false, .string ⟨#[]⟩, .string ⟨#[]⟩, .int .i64 0, .int .i64 0, .string ⟨#[]⟩, .slice none 0 0]) ?_ 3 _ rfl; refine blk_put (cs := #[.bool false, .string ⟨#[]⟩, .string ⟨#[]⟩, .int .i64 0, .int .i64 0, .string ⟨#[]⟩, .slice none 0 0]) ?_ 2 _ rfl; refine blk_put (cs := #[.bool false, .string ⟨#[]⟩, .string ⟨#[]⟩, .int .i64 0, .int .i64 0, .string ⟨#[]⟩, .slice none 0 0]) ?_ 1 _ rfl; refine blk_put (cs := #[.bool false, .string ⟨#[]⟩, .string ⟨#[]⟩, .int .i64 0, .int .i64 0, .string ⟨#[]⟩, .slice none 0 0]) ?_ 0 _ rfl; exact HK3.out) Tryz.underlying24 rfl (by kernel_rfl)) rfl ?_
 have HBw : Below w.heap.size w w3 := below_then HB1.out HB1.out.size HB3.out
 exact ⟨_, rfl, Kd.R_nil _ _ _ _ _, (((((((HBw).setCell (p := ⟨w.heap.size, 0, none⟩) (Nat.le_refl _) (.bool false)).setCell (p := ⟨w.heap.size, 1, none⟩) (Nat.le_refl _) (.string ⟨#[]⟩)).setCell (p := ⟨w.heap.size, 2, none⟩) (Nat.le_refl _) (.string ⟨#[]⟩)).setCell (p := ⟨w.heap.size, 3, none⟩) (Nat.le_refl _) (.int .i64 0)).setCell (p := ⟨w.heap.size, 4, none⟩) (Nat.le_refl _) (.int .i64 0)).setCell (p := ⟨w.heap.size, 5, none⟩) (Nat.le_refl _) (.string ⟨#[]⟩)).setCell (p := ⟨w.heap.size, 6, none⟩) (Nat.le_refl _) (.slice none 0 0)⟩
set_option maxHeartbeats 4000000 in
set_option maxRecDepth 100000 in
theorem parse_ok (request : Bool) (b : List Int) (A : Option Addr) (cap : Nat) (w : World) (hr : Kd.C (Kd.int .u8) w A b.length b) (hl : b.length ≤ 4294940000) (hG : GInv w) (q : Par) (n : Nat) (hq : feedP (newPar request 65536) b 0 = (q, n)) (he : codeOf q.err = 0) (hw : q.whole = true) :
  Calls Tryz.prog 7 #[.bool request, .slice A b.length cap] w (ParsePost (q.hd, n, 0) w) := by
 obtain ⟨W1, hW1⟩ : ∃ W1, W1 = (w.alloc (.cells #[.bool false, .string ⟨#[]⟩, .string ⟨#[]⟩, .int .i64 0, .int .i64 0, .string ⟨#[]⟩, .slice none 0 0] 24)) := ⟨_, rfl⟩
 have hB1 : Below w.heap.size w W1 := by rw [hW1]; exact below_alloc (Below.refl _ _) _
 have hK1 : W1.heap[w.heap.size]? = some (.cells #[.bool false, .string ⟨#[]⟩, .string ⟨#[]⟩, .int .i64 0, .int .i64 0, .string ⟨#[]⟩, .slice none 0 0] 24 (0, 0)) := by rw [hW1]; exact blk_new _ _
 have HB1 := Aside0.mk hB1
 have HK1 := Aside0.mk hK1
 have HG1 := Aside0.mk (hG.below hB1)
 have HNw := Aside0.mk (fun W => new_calls request 65536 W (by decide) (by decide))
 have hsn := sane_new request 65536 b.length (by decide) (by decide) (by omega)
 have hsq := feedP_sane b (newPar request 65536) 0 0 (by simpa using hsn)
 have hqn := feedP_count b (newPar request 65536) 0
 rw [hq] at hsq hqn
 have HSq := Aside0.mk hsq
 have hFd : ∀ (W : World) (F : Nat → Prop) (k : Nat), Below W1.heap.size W1 W → (∀ i, F i → W1.heap.size ≤ i) → Rep W F k (.slice none 0 0) (.slice none 0 0) (newPar request 65536) → Calls Tryz.prog 17 #[.pointer (some ⟨k, 0, none⟩), .slice A b.length cap] W (FeedPost W F k (q, n)) := by
  intro W F k hb hF hrep
  have h5 := feed_calls W1 W F k _ _ (newPar request 65536) A cap b hrep ⟨HG1.out, hb, hF⟩ hsn (fun W' hs => Kd.C_below (Kd.C_below hr hB1) (hs.out hb hF hb.size))
  rw [hq] at h5
  exact h5
 have HFd := Aside0.mk hFd
 have HW1 := Aside0.mk hW1
 obtain ⟨L, hL⟩ : ∃ L, L = b.length := ⟨_, rfl⟩
 rw [← hL] at HFd ⊢
 unfold FeedPost at HFd
 simp only [he, hw] at HFd
 have HWh := Aside0.mk hw
 obtain ⟨N1, hN1⟩ : ∃ N1, N1 = q.hd.f6.length := ⟨_, rfl⟩
 have HN1 := Aside0.mk hN1
 clear he hw hN1
 clear hr hl hG hq hB1 hK1 hsn hsq hqn hFd hW1 hL
 go_enter Tryz.func7, Tryz.ntmps7
 go_wp2_with (first
  | (go_at_call 16; rw [← HW1.out]; refine (HNw.out _).mono ?_; rintro e w2 ⟨k, rfl, hk, hrep, hb⟩; have HKk := Aside0.mk hk; have HR2 := Aside0.mk hrep; have HB2 := Aside0.mk hb; clear hk hrep hb)
  | (go_at_call 17; refine (HFd.out _ _ _ HB2.out (fun i hi => by rw [hi]; exact HKk.out) HR2.out).mono ?_; rintro e w3 ⟨rfl, ⟨vl, vf, hrep⟩, hst⟩; have HR3 := Aside0.mk hrep; have HB3 := Aside0.mk (hst.out HB2.out (fun i hi => by rw [hi]; exact HKk.out) HB2.out.size); have HK3 := Aside0.mk (blk_below HK1.out HB3.out); have zy0 := bz7 HK3; clear hrep hst)
  | (go_at_call 18; refine (head_yes _ _ _ _ _ _ HR3.out HWh.out (by have := HSq.out.fl; omega)).mono ?_; rintro e w4 ⟨v4, rfl, hR4, hb⟩; obtain ⟨A1, c1, e1⟩ := Kd.R_slice hR4; rw [← HN1.out] at e1; subst e1; have HR4 := Aside0.mk hR4; have HB43 := Aside0.mk hb; have HB4 := Aside0.mk (below_then HB3.out HB3.out.size hb); have HK4 := Aside0.mk (blk_below HK3.out hb); unfold hdV; have zz0 := bz7 HK4; clear hR4 hb))
 refine bodyPost_ret (results_ctt rfl _ _ w.heap.size 24 #[.bool q.hd.f0, .string q.hd.f1, .string q.hd.f2, .int .i64 q.hd.f3, .int .i64 q.hd.f4, .string q.hd.f5, .slice A1 N1 c1] (0, 0) _ rfl (by refine blk_put (cs := #[.bool q.hd.f0, .string q.hd.f1, .string q.hd.f2, .int .i64 q.hd.f3, .int .i64 q.hd.f4, .string q.hd.f5, .slice none 0 0]) ?_ 6 _ rfl; refine blk_put (cs := #[.bool q.hd.f0, .string q.hd.f1, .string q.hd.f2, .int .i64 q.hd.f3, .int .i64 q.hd.f4, .string ⟨#[]⟩, .slice none 0 0]) ?_ 5 _ rfl; refine blk_put (cs := #[.bool q.hd.f0, .string q.hd.f1, .string q.hd.f2, .int .i64 q.hd.f3, .int .i64 0, .string ⟨#[]⟩, .slice none 0 0]) ?_ 4 _ rfl; refine blk_put (cs := #[.bool q.hd.f0, .string q.hd.f1, .string q.hd.f2, .int .i64 0, .int .i64 0, .string ⟨#[]⟩, .slice none 0 0]) ?_ 3 _ rfl; refine blk_put (cs := #[.bool q.hd.f0, .string q.hd.f1, .string ⟨#[]⟩, .int .i64 0, .int .i64 0, .string ⟨#[]⟩, .slice none 0 0]) ?_ 2 _ rfl; refine blk_put (cs := #[.bool q.hd.f0, .string ⟨#[]⟩, .string ⟨#[]⟩, .int .i64 0, .int .i64 0, .string ⟨#[]⟩, .slice none 0 0]) ?_ 1 _ rfl; refine blk_put (cs := #[.bool false, .string ⟨#[]⟩, .string ⟨#[]⟩, .int .i64 0, .int .i64 0, .string ⟨#[]⟩, .slice none 0 0]) ?_ 0 _ rfl; exact HK4.out) Tryz.underlying24 rfl (by kernel_rfl)) rfl ?_
 have HBw : Below w.heap.size w w4 := below_then HB1.out HB1.out.size HB4.out
 have hst : ∀ i, W1.heap.size ≤ i → (((((((w4.setCell ⟨w.heap.size, 0, none⟩ (.bool q.hd.f0)).setCell ⟨w.heap.size, 1, none⟩ (.string q.hd.f1)).setCell ⟨w.heap.size, 2, none⟩ (.string q.hd.f2)).setCell ⟨w.heap.size, 3, none⟩ (.int .i64 q.hd.f3)).setCell ⟨w.heap.size, 4, none⟩ (.int .i64 q.hd.f4)).setCell ⟨w.heap.size, 5, none⟩ (.string q.hd.f5)).setCell ⟨w.heap.size, 6, none⟩ (.slice A1 N1 c1)).heap[i]? = w4.heap[i]? := fun i hi => by
  have hlt := blk_lt HK1.out
  rw [Below.heap_setCell _ _ _ _ (by show i ≠ w.heap.size; omega), Below.heap_setCell _ _ _ _ (by show i ≠ w.heap.size; omega), Below.heap_setCell _ _ _ _ (by show i ≠ w.heap.size; omega), Below.heap_setCell _ _ _ _ (by show i ≠ w.heap.size; omega), Below.heap_setCell _ _ _ _ (by show i ≠ w.heap.size; omega), Below.heap_setCell _ _ _ _ (by show i ≠ w.heap.size; omega), Below.heap_setCell _ _ _ _ (by show i ≠ w.heap.size; omega)]
 have hle : W1.heap.size ≤ w3.heap.size := HB3.out.size
 have hle2 : w.heap.size ≤ W1.heap.size := HB1.out.size
 have hR5 := Kd.R_step HR4.out (w1 := (((((((w4.setCell ⟨w.heap.size, 0, none⟩ (.bool q.hd.f0)).setCell ⟨w.heap.size, 1, none⟩ (.string q.hd.f1)).setCell ⟨w.heap.size, 2, none⟩ (.string q.hd.f2)).setCell ⟨w.heap.size, 3, none⟩ (.int .i64 q.hd.f3)).setCell ⟨w.heap.size, 4, none⟩ (.int .i64 q.hd.f4)).setCell ⟨w.heap.size, 5, none⟩ (.string q.hd.f5)).setCell ⟨w.heap.size, 6, none⟩ (.slice A1 N1 c1))) (fun i hi _ => hst i (by omega))
 refine ⟨_, rfl, ?_, (((((((HBw).setCell (p := ⟨w.heap.size, 0, none⟩) (Nat.le_refl _) (.bool q.hd.f0)).setCell (p := ⟨w.heap.size, 1, none⟩) (Nat.le_refl _) (.string q.hd.f1)).setCell (p := ⟨w.heap.size, 2, none⟩) (Nat.le_refl _) (.string q.hd.f2)).setCell (p := ⟨w.heap.size, 3, none⟩) (Nat.le_refl _) (.int .i64 q.hd.f3)).setCell (p := ⟨w.heap.size, 4, none⟩) (Nat.le_refl _) (.int .i64 q.hd.f4)).setCell (p := ⟨w.heap.size, 5, none⟩) (Nat.le_refl _) (.string q.hd.f5)).setCell (p := ⟨w.heap.size, 6, none⟩) (Nat.le_refl _) (.slice A1 N1 c1)⟩
 exact Kd.R_mono (Kd.R_lower hR5 (by omega)) (fun i hi => by omega)
theorem parse_calls (request : Bool) (b : List Int) (A : Option Addr) (cap : Nat) (w : World) (hr : Kd.C (Kd.int .u8) w A b.length b) (hl : b.length ≤ 4294940000) (hG : GInv w) :
  Calls Tryz.prog 7 #[.bool request, .slice A b.length cap] w (ParsePost (parseS request b) w) := by
 obtain ⟨⟨q, n⟩, hq⟩ : ∃ r, r = feedP (newPar request 65536) b 0 := ⟨_, rfl⟩
 unfold parseS
 rw [← hq]
 by_cases he : codeOf q.err = 0
 ·simp only [he, not_true_eq_false, if_false]
  cases hw : q.whole with
  | false => rw [if_pos rfl]; exact parse_cut request b A cap w hr hl hG q n hq.symm he hw
  | true => rw [if_neg (by decide)]; exact parse_ok request b A cap w hr hl hG q n hq.symm he hw
 ·simp only [he, not_false_eq_true, if_true]
  exact parse_err request b A cap w hr hl hG q n hq.symm he
end Go.Proofs.YtmlgejgnjfbblaaGreatDoor.Hd
