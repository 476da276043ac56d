/- headraceref08.line, by hand; own text of this session (gen_rh4.py). -/
import Derived.Test.YtmlgejgnjfbblaaGreatDoorRh3
import Derived.Test.YtmlgejgnjfbblaaGreatDoorHdA
namespace Go.Proofs.YtmlgejgnjfbblaaGreatDoor.Hd
open Go.RowKit Go.Proofs.YtmlgejgnjfbblaaGreatDoorW.PrintWords Go.Proofs.YtmlgejgnjfbblaaGreatDoorW.PrintLast Chk Px Hr
set_option linter.unusedVariables false
set_option linter.unusedSimpArgs false
theorem results_ctt {P : Program} {fn : Func} {p u v : Tmp} {ty : TypeId} (h : fn.results = #[.cell p ty, .tmp u, .tmp v]) (tmps : Array Value) (w : World) (g : Nat) (t : TypeId) (cs : Array Value) (fr : Nat × Nat) (d : TypeDesc)
  (hp : tmps.getD p undef = .pointer (some ⟨g, 0, none⟩)) (hg : w.heap[g]? = some (.cells cs t fr))
  (hu : P.underlying ty = some d) (hd : (match d with | .struct _ | .array _ _ => true | _ => false) = true) (hi : (P.info? ty).map (·.size) = some cs.size) :
  (results fn tmps).run P w = .ok (.tuple #[.agg cs, tmps.getD u undef, tmps.getD v undef]) w := by
 have hp' : tmps[p]?.getD undef = .pointer (some ⟨g, 0, none⟩) := by simpa using hp
 simp [results, h, hp', asAddr, run_loadVar_row w g t ty cs fr d hg hu hd hi]
/-- What line hands back: the head's value, its fields' row; only the came-in row, and new blocks, may have changed. -/
def LineP (w0 w : World) (base : Nat) (ok : Nat → Prop) (v : Value) (h : Head) (wh : Bool) (er : Int) (e : Ending) (w' : World) : Prop :=
 ∃ (x : Head) (v' : Value), e = .returned (.tuple #[hdV x v', .bool wh, .int .i64 er]) ∧ (er = 0 → x = h ∧ fldK.R 45 w' base ok v' x.f6) ∧ (∃ A n c, v' = .slice A n c) ∧ Below base w0 w' ∧ w.heap.size ≤ w'.heap.size ∧ (∀ k, k < w.heap.size → some k ≠ v.ownBlock → w'.heap[k]? = w.heap[k]?)
theorem below_weak_ {B B' : Nat} {w w' : World} (h : Below B w w') (hb : B' ≤ B) : Below B' w w' := ⟨h.os, h.tape, h.output, h.size, fun i hi => h.block i (by omega)⟩
theorem below7 {B g : Nat} {w W : World} (h : Below B w W) (hg : B ≤ g) {v0 v1 v2 v3 v4 v5 v6 : Value} : Below B w (((((((W.setCell ⟨g, 0, none⟩ v0).setCell ⟨g, 1, none⟩ v1).setCell ⟨g, 2, none⟩ v2).setCell ⟨g, 3, none⟩ v3).setCell ⟨g, 4, none⟩ v4).setCell ⟨g, 5, none⟩ v5).setCell ⟨g, 6, none⟩ v6) :=
 ((((((h.setCell (p := ⟨g, 0, none⟩) hg _).setCell (p := ⟨g, 1, none⟩) hg _).setCell (p := ⟨g, 2, none⟩) hg _).setCell (p := ⟨g, 3, none⟩) hg _).setCell (p := ⟨g, 4, none⟩) hg _).setCell (p := ⟨g, 5, none⟩) hg _).setCell (p := ⟨g, 6, none⟩) hg _
theorem LineP.keep {w0 w w' : World} {base : Nat} {ok : Nat → Prop} {h x : Head} {A : Option Addr} {n c : Nat} {wh : Bool} {er : Int} (hR : fldK.R 45 w base ok (.slice A n c) h.f6) (hB : Below base w0 w) (hbase : base ≤ w.heap.size) (hx : x = h) (hf : Below w.heap.size w w') : LineP w0 w base ok (.slice A n c) h wh er (.returned (.tuple #[hdV x (.slice A n c), .bool wh, .int .i64 er])) w' := by
 subst hx
 exact ⟨x, .slice A n c, rfl, fun _ => ⟨rfl, Kd.R_below hR hf⟩, ⟨_, _, _, rfl⟩, hB.trans (below_weak_ hf hbase), hf.size, fun k hk _ => hf.block k hk⟩
set_option maxHeartbeats 16000000 in
set_option maxRecDepth 100000 in
theorem line_same (w0 w : World) (base : Nat) (ok : Nat → Prop) (h : Head) (A : Option Addr) (n c : Nat) (lines : Int) (s : ByteArray) (hR : fldK.R 45 w base ok (.slice A n c) h.f6) (hB : Below base w0 w) (hbase : base ≤ w.heap.size) (hsl : s.size ≤ 1099511627776) (h1 : h.f1.size = 0) (h4 : h.f4 = 0) (h0 : h.f0 = true) (hs : s.size = 0) (hl : lines ≤ 4) :
  Calls Tryz.prog 29 #[.agg #[.bool h.f0, .string h.f1, .string h.f2, .int .i64 h.f3, .int .i64 h.f4, .string h.f5, .slice A n c], .int .i64 lines, .string s] w (LineP w0 w base ok (.slice A n c) h false 0) := by
 have HRow := Aside0.mk hR
 have HBw := Aside0.mk hB
 have Hbs := Aside0.mk hbase
 have hn : n = h.f6.length := (Kd.R_reads' hR).1
 have HN := Aside0.mk hn
 clear hR hB hbase hn
 have e1 : h.f1.toList.isEmpty = true := Lex.emptyB h1
 have e2 : (h.f4 == 0) = true := by rw [h4]; rfl
 have HH : Aside0 ((⟨true, h.f1, h.f2, h.f3, 0, h.f5, h.f6⟩ : Head) = h) := ⟨by rw [← h0, ← h4]⟩
 have e3 : s.toList.isEmpty = true := Lex.emptyB hs
 go_enter Tryz.func29, Tryz.ntmps29
 go_wp2_with (first
  | (refine bx 3 #[.bool h.f0, .string h.f1, .string h.f2, .int .i64 h.f3, .int .i64 h.f4, .string h.f5, .slice A n c] 24 ?_; intro g3 hg3 w3 hbox3 hb3; have HK3 := Aside0.mk hbox3; have HB3 := Aside0.mk hb3; have HG3 := Aside0.mk hg3;  clear hbox3 hb3 hg3)
  | (refine bx 6 #[.bool false, .string ⟨#[]⟩, .string ⟨#[]⟩, .int .i64 0, .int .i64 0, .string ⟨#[]⟩, .slice none 0 0] 24 ?_; intro g6 hg6 w6 hbox6 hb6; have HK6 := Aside0.mk hbox6; have HB6 := Aside0.mk hb6; have HG6 := Aside0.mk hg6; have hk3 := (hb6.block g3 (blk_lt HK3.out)).trans HK3.out; have K3 := Aside0.mk hk3; have hne : ¬ g3 = g6 := (by have h5 := blk_lt HK3.out; omega); have hne2 : ¬ g6 = g3 := (fun h5 => hne h5.symm); have zaz0 := cz7 hk3; have zcz0 := cz7 hbox6; clear hk3; clear hbox6 hb6 hg6))
 have HGE : Aside0 (base ≤ g6) := ⟨by have h5 := HB3.out.size; have h6 := HG6.out; have := Hbs.out; omega⟩
 have HBZ : Aside0 (Below w.heap.size w w6) := ⟨below_step HB3.out HB6.out⟩
 have HGW : Aside0 (w.heap.size ≤ g6) := ⟨by have h5 := HB3.out.size; have h6 := HG6.out; omega⟩
 refine bodyPost_ret (results_ctt rfl _ _ g6 24 #[.bool true, .string h.f1, .string h.f2, .int .i64 h.f3, .int .i64 0, .string h.f5, .slice A n c] (0, 0) _ rfl (blk_put (blk_put (blk_put (blk_put (blk_put (blk_put (blk_put HK6.out 0 _ rfl) 1 _ rfl) 2 _ rfl) 3 _ rfl) 4 _ rfl) 5 _ rfl) 6 _ rfl) Tryz.underlying24 rfl (by kernel_rfl)) rfl ?_
 exact LineP.keep HRow.out HBw.out Hbs.out HH.out (below7 HBZ.out HGW.out)
set_option maxHeartbeats 16000000 in
set_option maxRecDepth 100000 in
theorem line_end (w0 w : World) (base : Nat) (ok : Nat → Prop) (h : Head) (A : Option Addr) (n c : Nat) (lines : Int) (s : ByteArray) (hR : fldK.R 45 w base ok (.slice A n c) h.f6) (hB : Below base w0 w) (hbase : base ≤ w.heap.size) (hsl : s.size ≤ 1099511627776) (hbg : ¬ h.f1.size = 0 ∨ ¬ h.f4 = 0) (hs : s.size = 0) :
  Calls Tryz.prog 29 #[.agg #[.bool h.f0, .string h.f1, .string h.f2, .int .i64 h.f3, .int .i64 h.f4, .string h.f5, .slice A n c], .int .i64 lines, .string s] w (LineP w0 w base ok (.slice A n c) h true 0) := by
 have HRow := Aside0.mk hR
 have HBw := Aside0.mk hB
 have Hbs := Aside0.mk hbase
 have hn : n = h.f6.length := (Kd.R_reads' hR).1
 have HN := Aside0.mk hn
 clear hR hB hbase hn
 have e3 : s.toList.isEmpty = true := Lex.emptyB hs
 by_cases h1 : h.f1.size = 0
 ·have e1 : h.f1.toList.isEmpty = true := Lex.emptyB h1
  have e2 : (h.f4 != 0) = true := by have := hbg.resolve_left (fun h => h h1); simpa using this
  go_enter Tryz.func29, Tryz.ntmps29
  go_wp2_with (first
   | (refine bx 3 #[.bool h.f0, .string h.f1, .string h.f2, .int .i64 h.f3, .int .i64 h.f4, .string h.f5, .slice A n c] 24 ?_; intro g3 hg3 w3 hbox3 hb3; have HK3 := Aside0.mk hbox3; have HB3 := Aside0.mk hb3; have HG3 := Aside0.mk hg3;  clear hbox3 hb3 hg3)
   | (refine bx 6 #[.bool false, .string ⟨#[]⟩, .string ⟨#[]⟩, .int .i64 0, .int .i64 0, .string ⟨#[]⟩, .slice none 0 0] 24 ?_; intro g6 hg6 w6 hbox6 hb6; have HK6 := Aside0.mk hbox6; have HB6 := Aside0.mk hb6; have HG6 := Aside0.mk hg6; have hk3 := (hb6.block g3 (blk_lt HK3.out)).trans HK3.out; have K3 := Aside0.mk hk3; have hne : ¬ g3 = g6 := (by have h5 := blk_lt HK3.out; omega); have hne2 : ¬ g6 = g3 := (fun h5 => hne h5.symm); have zaz0 := cz7 hk3; have zcz0 := cz7 hbox6; clear hk3; clear hbox6 hb6 hg6))
  have HGE : Aside0 (base ≤ g6) := ⟨by have h5 := HB3.out.size; have h6 := HG6.out; have := Hbs.out; omega⟩
  have HBZ : Aside0 (Below w.heap.size w w6) := ⟨below_step HB3.out HB6.out⟩
  have HGW : Aside0 (w.heap.size ≤ g6) := ⟨by have h5 := HB3.out.size; have h6 := HG6.out; omega⟩
  refine bodyPost_ret (results_ctt rfl _ _ g6 24 #[.bool h.f0, .string h.f1, .string h.f2, .int .i64 h.f3, .int .i64 h.f4, .string h.f5, .slice A n c] (0, 0) _ rfl (blk_put (blk_put (blk_put (blk_put (blk_put (blk_put (blk_put HK6.out 0 _ rfl) 1 _ rfl) 2 _ rfl) 3 _ rfl) 4 _ rfl) 5 _ rfl) 6 _ rfl) Tryz.underlying24 rfl (by kernel_rfl)) rfl ?_
  exact LineP.keep HRow.out HBw.out Hbs.out rfl (below7 HBZ.out HGW.out)
 ·have e1 : h.f1.toList.isEmpty = false := Lex.emptyB_no h1
  go_enter Tryz.func29, Tryz.ntmps29
  go_wp2_with (first
   | (refine bx 3 #[.bool h.f0, .string h.f1, .string h.f2, .int .i64 h.f3, .int .i64 h.f4, .string h.f5, .slice A n c] 24 ?_; intro g3 hg3 w3 hbox3 hb3; have HK3 := Aside0.mk hbox3; have HB3 := Aside0.mk hb3; have HG3 := Aside0.mk hg3;  clear hbox3 hb3 hg3)
   | (refine bx 6 #[.bool false, .string ⟨#[]⟩, .string ⟨#[]⟩, .int .i64 0, .int .i64 0, .string ⟨#[]⟩, .slice none 0 0] 24 ?_; intro g6 hg6 w6 hbox6 hb6; have HK6 := Aside0.mk hbox6; have HB6 := Aside0.mk hb6; have HG6 := Aside0.mk hg6; have hk3 := (hb6.block g3 (blk_lt HK3.out)).trans HK3.out; have K3 := Aside0.mk hk3; have hne : ¬ g3 = g6 := (by have h5 := blk_lt HK3.out; omega); have hne2 : ¬ g6 = g3 := (fun h5 => hne h5.symm); have zaz0 := cz7 hk3; have zcz0 := cz7 hbox6; clear hk3; clear hbox6 hb6 hg6))
  have HGE : Aside0 (base ≤ g6) := ⟨by have h5 := HB3.out.size; have h6 := HG6.out; have := Hbs.out; omega⟩
  have HBZ : Aside0 (Below w.heap.size w w6) := ⟨below_step HB3.out HB6.out⟩
  have HGW : Aside0 (w.heap.size ≤ g6) := ⟨by have h5 := HB3.out.size; have h6 := HG6.out; omega⟩
  refine bodyPost_ret (results_ctt rfl _ _ g6 24 #[.bool h.f0, .string h.f1, .string h.f2, .int .i64 h.f3, .int .i64 h.f4, .string h.f5, .slice A n c] (0, 0) _ rfl (blk_put (blk_put (blk_put (blk_put (blk_put (blk_put (blk_put HK6.out 0 _ rfl) 1 _ rfl) 2 _ rfl) 3 _ rfl) 4 _ rfl) 5 _ rfl) 6 _ rfl) Tryz.underlying24 rfl (by kernel_rfl)) rfl ?_
  exact LineP.keep HRow.out HBw.out Hbs.out rfl (below7 HBZ.out HGW.out)
set_option maxHeartbeats 2000000 in
theorem blk7 {W : World} {g t : Nat} {v0 v1 v2 v3 v4 v5 v6 a0 a1 a2 a3 a4 a5 a6 : Value} (h : W.heap[g]? = some (.cells #[a0, a1, a2, a3, a4, a5, a6] t (0, 0))) : (((((((W.setCell ⟨g, 0, none⟩ v0).setCell ⟨g, 1, none⟩ v1).setCell ⟨g, 2, none⟩ v2).setCell ⟨g, 3, none⟩ v3).setCell ⟨g, 4, none⟩ v4).setCell ⟨g, 5, none⟩ v5).setCell ⟨g, 6, none⟩ v6).heap[g]? = some (.cells #[v0, v1, v2, v3, v4, v5, v6] t (0, 0)) :=
 by
 have h1 := blk_put h 0 v0 (cs' := #[v0, a1, a2, a3, a4, a5, a6]) rfl
 have h2 := blk_put h1 1 v1 (cs' := #[v0, v1, a2, a3, a4, a5, a6]) rfl
 have h3 := blk_put h2 2 v2 (cs' := #[v0, v1, v2, a3, a4, a5, a6]) rfl
 have h4 := blk_put h3 3 v3 (cs' := #[v0, v1, v2, v3, a4, a5, a6]) rfl
 have h5 := blk_put h4 4 v4 (cs' := #[v0, v1, v2, v3, v4, a5, a6]) rfl
 have h6 := blk_put h5 5 v5 (cs' := #[v0, v1, v2, v3, v4, v5, a6]) rfl
 exact blk_put h6 6 v6 rfl
theorem far7 {W : World} {g q : Nat} (hn : ¬ q = g) {v0 v1 v2 v3 v4 v5 v6 : Value} : (((((((W.setCell ⟨g, 0, none⟩ v0).setCell ⟨g, 1, none⟩ v1).setCell ⟨g, 2, none⟩ v2).setCell ⟨g, 3, none⟩ v3).setCell ⟨g, 4, none⟩ v4).setCell ⟨g, 5, none⟩ v5).setCell ⟨g, 6, none⟩ v6).heap[q]? = W.heap[q]? := by
 rw [Below.heap_setCell _ _ _ _ hn, Below.heap_setCell _ _ _ _ hn, Below.heap_setCell _ _ _ _ hn, Below.heap_setCell _ _ _ _ hn, Below.heap_setCell _ _ _ _ hn, Below.heap_setCell _ _ _ _ hn, Below.heap_setCell _ _ _ _ hn]
theorem LineP.fresh {w0 w w6 w7 w' : World} {base : Nat} {ok : Nat → Prop} {h x : Head} {v : Value} {A7 : Option Addr} {n7 c7 : Nat} {er : Int} (hB : Below base w0 w) (hbase : base ≤ w.heap.size) (hfresh : ∀ k, w.heap.size ≤ k → ok k) (h6 : w.heap.size ≤ w6.heap.size) (hR : fldK.R 45 w7 w6.heap.size (fun _ => True) (.slice A7 n7 c7) x.f6)
  (hsame : ∀ k, w6.heap.size ≤ k → k < w7.heap.size → w'.heap[k]? = w7.heap[k]?) (hx : er = 0 → x = h) (hf : Below w.heap.size w w') : LineP w0 w base ok v h false er (.returned (.tuple #[hdV x (.slice A7 n7 c7), .bool false, .int .i64 er])) w' := by
 refine ⟨x, .slice A7 n7 c7, rfl, fun he => ⟨hx he, ?_⟩, ⟨_, _, _, rfl⟩, hB.trans (below_weak_ hf hbase), hf.size, fun k hk _ => hf.block k hk⟩
 refine Kd.R_lower (Kd.R_mono (Kd.R_step (Kd.R_mono (Kd.R_bound hR) (ok' := fun k => w6.heap.size ≤ k ∧ k < w7.heap.size) (fun k hk => ⟨hk.2.1, hk.2.2.1⟩)) (fun k hk _ => hsame k hk.1 hk.2)) (fun k hk => hfresh k (Nat.le_trans h6 hk.1))) (Nat.le_trans hbase h6)
set_option maxHeartbeats 16000000 in
set_option maxRecDepth 100000 in
theorem line_first (w0 w : World) (base : Nat) (ok : Nat → Prop) (h : Head) (A : Option Addr) (n c : Nat) (lines : Int) (s : ByteArray) (hR : fldK.R 45 w base ok (.slice A n c) h.f6) (hB : Below base w0 w) (hbase : base ≤ w.heap.size) (hsl : s.size ≤ 1099511627776) (hfresh : ∀ k, w.heap.size ≤ k → ok k) (h1 : h.f1.size = 0) (h4 : h.f4 = 0) (hno : ¬ (h.f0 = true ∧ s.size = 0 ∧ lines ≤ 4)) (x y : Head) (er : Int) (kk : Nat) (hf : P.headraceref08_first.f kk h.f0 s = some (tupF x er)) (hxe : er = 0 → x = y) :
  Calls Tryz.prog 29 #[.agg #[.bool h.f0, .string h.f1, .string h.f2, .int .i64 h.f3, .int .i64 h.f4, .string h.f5, .slice A n c], .int .i64 lines, .string s] w (LineP w0 w base ok (.slice A n c) y false er) := by
 have HRow := Aside0.mk hR
 have HBw := Aside0.mk hB
 have Hbs := Aside0.mk hbase
 have hn : n = h.f6.length := (Kd.R_reads' hR).1
 have HN := Aside0.mk hn
 clear hR hB hbase hn
 have e1 : h.f1.toList.isEmpty = true := Lex.emptyB h1
 have e2 : (h.f4 == 0) = true := by rw [h4]; rfl
 have HF := Aside0.mk (fun W => P.headraceref08_first.calls kk h.f0 s x.f0 x.f1 x.f2 x.f3 x.f4 x.f5 x.f6 er W hf)
 have HFr := Aside0.mk hfresh
 have HXE := Aside0.mk hxe
 clear hf hfresh hxe
 obtain ⟨b0, hb0⟩ : ∃ b0, b0 = h.f0 := ⟨_, rfl⟩
 by_cases h0 : h.f0 = true
 ·by_cases hs : s.size = 0
  ·have e3 : s.toList.isEmpty = true := Lex.emptyB hs
   have hl : ¬ lines ≤ 4 := fun hl => hno ⟨h0, hs, hl⟩
   rw [h0] at HF
   clear hno hb0
   go_enter Tryz.func29, Tryz.ntmps29
   go_wp2_with (first
    | (refine bx 3 #[.bool h.f0, .string h.f1, .string h.f2, .int .i64 h.f3, .int .i64 h.f4, .string h.f5, .slice A n c] 24 ?_; intro g3 hg3 w3 hbox3 hb3; have HK3 := Aside0.mk hbox3; have HB3 := Aside0.mk hb3; have HG3 := Aside0.mk hg3;  clear hbox3 hb3 hg3)
    | (refine bx 6 #[.bool false, .string ⟨#[]⟩, .string ⟨#[]⟩, .int .i64 0, .int .i64 0, .string ⟨#[]⟩, .slice none 0 0] 24 ?_; intro g6 hg6 w6 hbox6 hb6; have HK6 := Aside0.mk hbox6; have HB6 := Aside0.mk hb6; have HG6 := Aside0.mk hg6; have hk3 := (hb6.block g3 (blk_lt HK3.out)).trans HK3.out; have K3 := Aside0.mk hk3; have hne : ¬ g3 = g6 := (by have h5 := blk_lt HK3.out; omega); have hne2 : ¬ g6 = g3 := (fun h5 => hne h5.symm); have zaz0 := cz7 hk3; have zcz0 := cz7 hbox6; clear hk3; clear hbox6 hb6 hg6)
    | (go_at_call 44; go_loud (refine (HF.out _).mono ?_; rintro e w7 ⟨v7, rfl, hR7, hb7⟩; obtain ⟨A7, c7, e7⟩ := Kd.R_slice hR7; subst e7; have HR7 := Aside0.mk hR7; have HB7 := Aside0.mk hb7; have HK67 := Aside0.mk ((hb7.block g6 (blk_lt HK6.out)).trans HK6.out); have HLT7 : Aside0 (g6 < w7.heap.size) := ⟨Nat.lt_of_lt_of_le (blk_lt HK6.out) hb7.size⟩; clear hR7 hb7))
    | (refine bx 10 #[.bool false, .string ⟨#[]⟩, .string ⟨#[]⟩, .int .i64 0, .int .i64 0, .string ⟨#[]⟩, .slice none 0 0] 24 ?_; intro g10 hg10 w10 hbox10 hb10; have HK10 := Aside0.mk hbox10; have HB10 := Aside0.mk hb10; have HG10 := Aside0.mk hg10; have hk6 := (hb10.block g6 HLT7.out).trans HK67.out; have K6 := Aside0.mk hk6; have hnx : ¬ g6 = g10 := (by have h5 := HLT7.out; omega); have hnx2 : ¬ g10 = g6 := (fun h5 => hnx h5.symm); clear zcz0; have zcz0 := cz7 hk6; have zdz0 := cz7 hbox10; clear hk6 hbox10 hb10 hg10))
   have HGE : Aside0 (base ≤ g6) := ⟨by have h5 := HB3.out.size; have h6 := HG6.out; have := Hbs.out; omega⟩
   have HBZ : Aside0 (Below w.heap.size w w6) := ⟨below_step HB3.out HB6.out⟩
   have HGW : Aside0 (w.heap.size ≤ g6) := ⟨by have h5 := HB3.out.size; have h6 := HG6.out; omega⟩
   have HGX : Aside0 (w7.heap.size ≤ g10) := ⟨Nat.le_of_eq HG10.out.symm⟩
   have HG7 : Aside0 (w.heap.size ≤ g10) := ⟨by have h5 := HB7.out.size; have h6 := HBZ.out.size; have h7 := HG10.out; omega⟩
   have HBX : Aside0 (Below w.heap.size w w10) := ⟨below_step (below_step HBZ.out HB7.out) HB10.out⟩
   refine bodyPost_ret (results_ctt rfl _ _ g6 24 #[.bool x.f0, .string x.f1, .string x.f2, .int .i64 x.f3, .int .i64 x.f4, .string x.f5, .slice A7 x.f6.length c7] (0, 0) _ rfl (blk7 ((far7 hnx).trans K6.out)) Tryz.underlying24 rfl (by kernel_rfl)) rfl ?_
   refine LineP.fresh HBw.out Hbs.out HFr.out HBZ.out.size HR7.out (fun k hk hk2 => ?_) HXE.out (below7 (below7 HBX.out HG7.out) HGW.out)
   rw [far7 (show ¬ k = g6 by have := blk_lt HK6.out; omega), far7 (show ¬ k = g10 by have := HG10.out; omega)]
   exact HB10.out.block k hk2
  ·have e3 : s.toList.isEmpty = false := Lex.emptyB_no hs
   rw [h0] at HF
   clear hno hb0
   go_enter Tryz.func29, Tryz.ntmps29
   go_wp2_with (first
    | (refine bx 3 #[.bool h.f0, .string h.f1, .string h.f2, .int .i64 h.f3, .int .i64 h.f4, .string h.f5, .slice A n c] 24 ?_; intro g3 hg3 w3 hbox3 hb3; have HK3 := Aside0.mk hbox3; have HB3 := Aside0.mk hb3; have HG3 := Aside0.mk hg3;  clear hbox3 hb3 hg3)
    | (refine bx 6 #[.bool false, .string ⟨#[]⟩, .string ⟨#[]⟩, .int .i64 0, .int .i64 0, .string ⟨#[]⟩, .slice none 0 0] 24 ?_; intro g6 hg6 w6 hbox6 hb6; have HK6 := Aside0.mk hbox6; have HB6 := Aside0.mk hb6; have HG6 := Aside0.mk hg6; have hk3 := (hb6.block g3 (blk_lt HK3.out)).trans HK3.out; have K3 := Aside0.mk hk3; have hne : ¬ g3 = g6 := (by have h5 := blk_lt HK3.out; omega); have hne2 : ¬ g6 = g3 := (fun h5 => hne h5.symm); have zaz0 := cz7 hk3; have zcz0 := cz7 hbox6; clear hk3; clear hbox6 hb6 hg6)
    | (go_at_call 44; go_loud (refine (HF.out _).mono ?_; rintro e w7 ⟨v7, rfl, hR7, hb7⟩; obtain ⟨A7, c7, e7⟩ := Kd.R_slice hR7; subst e7; have HR7 := Aside0.mk hR7; have HB7 := Aside0.mk hb7; have HK67 := Aside0.mk ((hb7.block g6 (blk_lt HK6.out)).trans HK6.out); have HLT7 : Aside0 (g6 < w7.heap.size) := ⟨Nat.lt_of_lt_of_le (blk_lt HK6.out) hb7.size⟩; clear hR7 hb7))
    | (refine bx 10 #[.bool false, .string ⟨#[]⟩, .string ⟨#[]⟩, .int .i64 0, .int .i64 0, .string ⟨#[]⟩, .slice none 0 0] 24 ?_; intro g10 hg10 w10 hbox10 hb10; have HK10 := Aside0.mk hbox10; have HB10 := Aside0.mk hb10; have HG10 := Aside0.mk hg10; have hk6 := (hb10.block g6 HLT7.out).trans HK67.out; have K6 := Aside0.mk hk6; have hnx : ¬ g6 = g10 := (by have h5 := HLT7.out; omega); have hnx2 : ¬ g10 = g6 := (fun h5 => hnx h5.symm); clear zcz0; have zcz0 := cz7 hk6; have zdz0 := cz7 hbox10; clear hk6 hbox10 hb10 hg10))
   have HGE : Aside0 (base ≤ g6) := ⟨by have h5 := HB3.out.size; have h6 := HG6.out; have := Hbs.out; omega⟩
   have HBZ : Aside0 (Below w.heap.size w w6) := ⟨below_step HB3.out HB6.out⟩
   have HGW : Aside0 (w.heap.size ≤ g6) := ⟨by have h5 := HB3.out.size; have h6 := HG6.out; omega⟩
   have HGX : Aside0 (w7.heap.size ≤ g10) := ⟨Nat.le_of_eq HG10.out.symm⟩
   have HG7 : Aside0 (w.heap.size ≤ g10) := ⟨by have h5 := HB7.out.size; have h6 := HBZ.out.size; have h7 := HG10.out; omega⟩
   have HBX : Aside0 (Below w.heap.size w w10) := ⟨below_step (below_step HBZ.out HB7.out) HB10.out⟩
   refine bodyPost_ret (results_ctt rfl _ _ g6 24 #[.bool x.f0, .string x.f1, .string x.f2, .int .i64 x.f3, .int .i64 x.f4, .string x.f5, .slice A7 x.f6.length c7] (0, 0) _ rfl (blk7 ((far7 hnx).trans K6.out)) Tryz.underlying24 rfl (by kernel_rfl)) rfl ?_
   refine LineP.fresh HBw.out Hbs.out HFr.out HBZ.out.size HR7.out (fun k hk hk2 => ?_) HXE.out (below7 (below7 HBX.out HG7.out) HGW.out)
   rw [far7 (show ¬ k = g6 by have := blk_lt HK6.out; omega), far7 (show ¬ k = g10 by have := HG10.out; omega)]
   exact HB10.out.block k hk2
 ·have h0 : h.f0 = false := by simpa using h0
  rw [h0] at HF
  clear hno hb0
  go_enter Tryz.func29, Tryz.ntmps29
  go_wp2_with (first
   | (refine bx 3 #[.bool h.f0, .string h.f1, .string h.f2, .int .i64 h.f3, .int .i64 h.f4, .string h.f5, .slice A n c] 24 ?_; intro g3 hg3 w3 hbox3 hb3; have HK3 := Aside0.mk hbox3; have HB3 := Aside0.mk hb3; have HG3 := Aside0.mk hg3;  clear hbox3 hb3 hg3)
   | (refine bx 6 #[.bool false, .string ⟨#[]⟩, .string ⟨#[]⟩, .int .i64 0, .int .i64 0, .string ⟨#[]⟩, .slice none 0 0] 24 ?_; intro g6 hg6 w6 hbox6 hb6; have HK6 := Aside0.mk hbox6; have HB6 := Aside0.mk hb6; have HG6 := Aside0.mk hg6; have hk3 := (hb6.block g3 (blk_lt HK3.out)).trans HK3.out; have K3 := Aside0.mk hk3; have hne : ¬ g3 = g6 := (by have h5 := blk_lt HK3.out; omega); have hne2 : ¬ g6 = g3 := (fun h5 => hne h5.symm); have zaz0 := cz7 hk3; have zcz0 := cz7 hbox6; clear hk3; clear hbox6 hb6 hg6)
   | (go_at_call 44; go_loud (refine (HF.out _).mono ?_; rintro e w7 ⟨v7, rfl, hR7, hb7⟩; obtain ⟨A7, c7, e7⟩ := Kd.R_slice hR7; subst e7; have HR7 := Aside0.mk hR7; have HB7 := Aside0.mk hb7; have HK67 := Aside0.mk ((hb7.block g6 (blk_lt HK6.out)).trans HK6.out); have HLT7 : Aside0 (g6 < w7.heap.size) := ⟨Nat.lt_of_lt_of_le (blk_lt HK6.out) hb7.size⟩; clear hR7 hb7))
   | (refine bx 10 #[.bool false, .string ⟨#[]⟩, .string ⟨#[]⟩, .int .i64 0, .int .i64 0, .string ⟨#[]⟩, .slice none 0 0] 24 ?_; intro g10 hg10 w10 hbox10 hb10; have HK10 := Aside0.mk hbox10; have HB10 := Aside0.mk hb10; have HG10 := Aside0.mk hg10; have hk6 := (hb10.block g6 HLT7.out).trans HK67.out; have K6 := Aside0.mk hk6; have hnx : ¬ g6 = g10 := (by have h5 := HLT7.out; omega); have hnx2 : ¬ g10 = g6 := (fun h5 => hnx h5.symm); clear zcz0; have zcz0 := cz7 hk6; have zdz0 := cz7 hbox10; clear hk6 hbox10 hb10 hg10))
  have HGE : Aside0 (base ≤ g6) := ⟨by have h5 := HB3.out.size; have h6 := HG6.out; have := Hbs.out; omega⟩
  have HBZ : Aside0 (Below w.heap.size w w6) := ⟨below_step HB3.out HB6.out⟩
  have HGW : Aside0 (w.heap.size ≤ g6) := ⟨by have h5 := HB3.out.size; have h6 := HG6.out; omega⟩
  have HGX : Aside0 (w7.heap.size ≤ g10) := ⟨Nat.le_of_eq HG10.out.symm⟩
  have HG7 : Aside0 (w.heap.size ≤ g10) := ⟨by have h5 := HB7.out.size; have h6 := HBZ.out.size; have h7 := HG10.out; omega⟩
  have HBX : Aside0 (Below w.heap.size w w10) := ⟨below_step (below_step HBZ.out HB7.out) HB10.out⟩
  refine bodyPost_ret (results_ctt rfl _ _ g6 24 #[.bool x.f0, .string x.f1, .string x.f2, .int .i64 x.f3, .int .i64 x.f4, .string x.f5, .slice A7 x.f6.length c7] (0, 0) _ rfl (blk7 ((far7 hnx).trans K6.out)) Tryz.underlying24 rfl (by kernel_rfl)) rfl ?_
  refine LineP.fresh HBw.out Hbs.out HFr.out HBZ.out.size HR7.out (fun k hk hk2 => ?_) HXE.out (below7 (below7 HBX.out HG7.out) HGW.out)
  rw [far7 (show ¬ k = g6 by have := blk_lt HK6.out; omega), far7 (show ¬ k = g10 by have := HG10.out; omega)]
  exact HB10.out.block k hk2
theorem set_size'_ (w : World) (p : Addr) (u : Value) : (w.setCell p u).heap.size = w.heap.size := by unfold World.setCell; split <;> simp
theorem own_lt_ {w : World} {base : Nat} {ok : Nat → Prop} {v : Value} {l : List Fld} (h : fldK.R 45 w base ok v l) (k : Nat) (hk : v.ownBlock = some k) : k < w.heap.size := ((Kd.R_bound h).1 k hk).2.2.1
theorem LineP.grown {w0 w w12 w13 : World} {base g3 g6 : Nat} {ok : Nat → Prop} {h y : Head} {f : Fld} {v v13 : Value} {A13 : Option Addr} {m13 c13 : Nat} {er : Int} {v0 v1 v2 v3 v4 v5 v6 : Value} (hbase : base ≤ w.heap.size) (hR : fldK.R 45 w13 base (fun k => ok k ∧ k ≠ g3 ∧ k ≠ g6) v13 (h.f6 ++ [f])) (ev : v13 = .slice A13 m13 c13) (hb : Below base w0 w13) (hw : Below w.heap.size w w12) (hg : w12.grownBy w13 v.ownBlock) (h13 : w12.heap.size ≤ w13.heap.size) (hx : er = 0 → (⟨h.f0, h.f1, h.f2, h.f3, h.f4, h.f5, h.f6 ++ [f]⟩ : Head) = y) (g3w : w.heap.size ≤ g3) (g6w : w.heap.size ≤ g6) :
  LineP w0 w base ok v y false er (.returned (.tuple #[hdV ⟨h.f0, h.f1, h.f2, h.f3, h.f4, h.f5, h.f6 ++ [f]⟩ v13, .bool false, .int .i64 er])) ((((((((w13.setCell ⟨g3, 6, none⟩ v13).setCell ⟨g6, 0, none⟩ v0).setCell ⟨g6, 1, none⟩ v1).setCell ⟨g6, 2, none⟩ v2).setCell ⟨g6, 3, none⟩ v3).setCell ⟨g6, 4, none⟩ v4).setCell ⟨g6, 5, none⟩ v5).setCell ⟨g6, 6, none⟩ v6) := by
 refine ⟨_, v13, rfl, fun he => ⟨hx he, ?_⟩, ⟨_, _, _, ev⟩, below7 (hb.setCell (p := ⟨g3, 6, none⟩) (Nat.le_trans hbase g3w) _) (Nat.le_trans hbase g6w), ?_, ?_⟩
 ·refine Kd.R_mono (Kd.R_step hR (fun k hk _ => ?_)) (fun k hk => hk.1)
  rw [far7 hk.2.2, Below.heap_setCell _ _ _ _ hk.2.1]
 ·have e : ∀ (W : World) (p : Addr) (u : Value), (W.setCell p u).heap.size = W.heap.size := set_size'_
  rw [e, e, e, e, e, e, e, e]
  exact Nat.le_trans hw.size h13
 ·intro k hk hne
  rw [far7 (by omega), Below.heap_setCell _ _ _ _ (show ¬ k = g3 by omega)]
  exact (hg.block k (Nat.lt_of_lt_of_le hk hw.size) hne).trans (hw.block k hk)
set_option maxHeartbeats 16000000 in
set_option maxRecDepth 100000 in
theorem line_fld (w0 w : World) (base : Nat) (ok : Nat → Prop) (h : Head) (A : Option Addr) (n c : Nat) (lines : Int) (s : ByteArray) (hR : fldK.R 45 w base ok (.slice A n c) h.f6) (hB : Below base w0 w) (hbase : base ≤ w.heap.size) (hsl : s.size ≤ 1099511627776) (hfresh : ∀ k, w.heap.size ≤ k → ok k) (hbg : ¬ h.f1.size = 0 ∨ ¬ h.f4 = 0) (hs : ¬ s.size = 0) (hnl : h.f6.length ≤ 100) (nm vl : ByteArray) (fe : Int) (kk : Nat) (hf : P.headraceref08_field.f kk s = some (nm, vl, fe)) (y : Head) (hxe : fe = 0 → h.f6.length < 100 → (⟨h.f0, h.f1, h.f2, h.f3, h.f4, h.f5, h.f6 ++ [⟨nm, vl⟩]⟩ : Head) = y) :
  Calls Tryz.prog 29 #[.agg #[.bool h.f0, .string h.f1, .string h.f2, .int .i64 h.f3, .int .i64 h.f4, .string h.f5, .slice A n c], .int .i64 lines, .string s] w (LineP w0 w base ok (.slice A n c) y false (if fe = 0 ∧ 100 ≤ h.f6.length then 85 else fe)) := by
 have HRow := Aside0.mk hR
 have HBw := Aside0.mk hB
 have Hbs := Aside0.mk hbase
 have hn : n = h.f6.length := (Kd.R_reads' hR).1
 have HN := Aside0.mk hn
 clear hR hB hbase hn
 have HNl := Aside0.mk hnl
 have e3 : s.toList.isEmpty = false := Lex.emptyB_no hs
 have HF := Aside0.mk (fun W => P.headraceref08_field.calls kk s nm vl fe W hf)
 have HFr := Aside0.mk hfresh
 have HXE0 := Aside0.mk hxe
 clear hf hfresh hxe
 have main : ∀ (er : Int), (fe = 0 ∧ (100 : Int) ≤ (n : Int) ∧ er = 85 ∨ fe = 0 ∧ ¬ (100 : Int) ≤ (n : Int) ∧ er = 0 ∨ ¬ fe = 0 ∧ er = fe) → Calls Tryz.prog 29 #[.agg #[.bool h.f0, .string h.f1, .string h.f2, .int .i64 h.f3, .int .i64 h.f4, .string h.f5, .slice A n c], .int .i64 lines, .string s] w (LineP w0 w base ok (.slice A n c) y false er) := by
  intro er her
  have HXE : Aside0 (er = 0 → (⟨h.f0, h.f1, h.f2, h.f3, h.f4, h.f5, h.f6 ++ [⟨nm, vl⟩]⟩ : Head) = y) := ⟨fun h0 => by
   have h5 := HN.out
   rcases her with ⟨_, _, h7⟩ | ⟨h6, h7, _⟩ | ⟨h6, h7⟩
   ·rw [h7] at h0; cases h0
   ·exact HXE0.out h6 (by omega)
   ·exact absurd (h7.symm.trans h0) h6⟩
  clear hnl
  have go : (∀ (hb1 : h.f1.toList.isEmpty = true → (h.f4 != 0) = true), True) := fun _ => trivial
  clear go
  by_cases h1 : h.f1.size = 0
  ·have e1 : h.f1.toList.isEmpty = true := Lex.emptyB h1
   have e2 : (h.f4 != 0) = true := by have := hbg.resolve_left (fun h => h h1); simpa using this
   rcases her with ⟨h6, h7, rfl⟩ | ⟨h6, h7, rfl⟩ | ⟨h6, rfl⟩
   ·skip
    subst h6
    go_enter Tryz.func29, Tryz.ntmps29
    go_wp2_with (first
     | (refine bx 3 #[.bool h.f0, .string h.f1, .string h.f2, .int .i64 h.f3, .int .i64 h.f4, .string h.f5, .slice A n c] 24 ?_; intro g3 hg3 w3 hbox3 hb3; have HK3 := Aside0.mk hbox3; have HB3 := Aside0.mk hb3; have HG3 := Aside0.mk hg3;  clear hbox3 hb3 hg3)
     | (refine bx 6 #[.bool false, .string ⟨#[]⟩, .string ⟨#[]⟩, .int .i64 0, .int .i64 0, .string ⟨#[]⟩, .slice none 0 0] 24 ?_; intro g6 hg6 w6 hbox6 hb6; have HK6 := Aside0.mk hbox6; have HB6 := Aside0.mk hb6; have HG6 := Aside0.mk hg6; have hk3 := (hb6.block g3 (blk_lt HK3.out)).trans HK3.out; have K3 := Aside0.mk hk3; have hne : ¬ g3 = g6 := (by have h5 := blk_lt HK3.out; omega); have hne2 : ¬ g6 = g3 := (fun h5 => hne h5.symm); have zaz0 := cz7 hk3; have zcz0 := cz7 hbox6; clear hk3; clear hbox6 hb6 hg6)
     | (go_at_call 45; go_loud (refine (HF.out _).mono ?_; rintro e w7 ⟨rfl, hb7⟩; have HB7 := Aside0.mk hb7; have hk3 := (hb7.block g3 (blk_lt K3.out)).trans K3.out; have hk6 := (hb7.block g6 (blk_lt HK6.out)).trans HK6.out; have K37 := Aside0.mk hk3; have K67 := Aside0.mk hk6; clear zaz0 zcz0; have zaz0 := cz7 hk3; have zcz0 := cz7 hk6; clear hk3 hk6 hb7))
     | (refine bx 12 #[.string (⟨#[]⟩ : ByteArray), .string (⟨#[]⟩ : ByteArray)] 45 ?_; intro g12 hg12 w12 hbox12 hb12; have HK12 := Aside0.mk hbox12; have HB12 := Aside0.mk hb12; have HG12 := Aside0.mk hg12; have hk3 := (hb12.block g3 (blk_lt K37.out)).trans K37.out; have hk6 := (hb12.block g6 (blk_lt K67.out)).trans K67.out; have K312 := Aside0.mk hk3; have K612 := Aside0.mk hk6; have hna : ¬ g3 = g12 := (by have h5 := blk_lt K37.out; omega); have hna2 : ¬ g12 = g3 := (fun h5 => hna h5.symm); have hnb : ¬ g6 = g12 := (by have h5 := blk_lt K67.out; omega); have hnb2 : ¬ g12 = g6 := (fun h5 => hnb h5.symm); clear zaz0 zcz0; have zaz0 := cz7 hk3; have zcz0 := cz7 hk6; have zdz0 := cz2 hbox12; clear hk3 hk6 hbox12 hb12 hg12; have HGW : Aside0 (w.heap.size ≤ g6 ∧ w.heap.size ≤ g3 ∧ w.heap.size ≤ g12) := ⟨by have h5 := HB3.out.size; have h6 := HG6.out; have h7 := HG3.out; have h8 := HG12.out; have h9 := HB6.out.size; have h10 := HB7.out.size; exact ⟨by omega, by omega, by omega⟩⟩; have HBX : Aside0 (Below w.heap.size w ((w12.setCell ⟨g12, 0, none⟩ (.string nm)).setCell ⟨g12, 1, none⟩ (.string vl))) := ⟨((below_step (below_step (below_step HB3.out HB6.out) HB7.out) HB12.out).setCell (p := ⟨g12, 0, none⟩) HGW.out.2.2 _).setCell (p := ⟨g12, 1, none⟩) HGW.out.2.2 _⟩)
     | ((with_reducible refine gate_builtin (b := .append) (xs := #[.tmp 61, .tmp 63]) rfl ?_); at_builtin; go_loud (refine Kd.R_append fldK (w0 := w0) base rfl (.tmp 61) (.tmp 63) 22 45 (.agg #[.string ⟨#[]⟩, .string ⟨#[]⟩]) 32 rfl Tryz.underlying22 info_fld rfl (by decide) (by omega) (.slice A n c) h.f6 (⟨nm, vl⟩ : Fld) [.string nm, .string vl] (fun k => ok k ∧ k ≠ g3 ∧ k ≠ g6) (fun _ => False) rfl (by rw [set_size'_, set_size'_]; rfl) (P.k45_mkM _ _ _ (⟨nm, vl⟩ : Fld)) (fun _ hk => hk.elim) (fun k hk => by have h5 := HBX.out.size; have h6 := HGW.out; have h7 := blk_lt K312.out; have h8 := blk_lt K612.out; rw [set_size'_, set_size'_] at hk; exact ⟨HFr.out k (by omega), by omega, by omega⟩) (Kd.R_mono (Kd.R_bound (Kd.R_below HRow.out HBX.out) |> fun hh => Kd.R_mono (Kd.R_step (Kd.R_bound HRow.out) (fun k hk hl => HBX.out.block k hk.2.2.1)) (fun k hk => hk)) (fun k hk => ⟨hk.1, by have := hk.2.2.1; have := HGW.out; omega, by have := hk.2.2.1; have := HGW.out; omega⟩)) (HBw.out.trans (below_weak_ HBX.out Hbs.out)) (Nat.le_trans Hbs.out HBX.out.size) (by have := HNl.out; have := HN.out; omega) ?_; intro v13 w13 hR13 hb13 hg13 hat13; have HR13 := Aside0.mk hR13; have HB13 := Aside0.mk hb13; have HG13 := Aside0.mk hg13; obtain ⟨A13, c13, e13⟩ := Kd.R_slice hR13; rw [List.length_append, List.length_singleton] at e13; have hk3 : w13.heap[g3]? = some (.cells #[.bool h.f0, .string h.f1, .string h.f2, .int .i64 h.f3, .int .i64 h.f4, .string h.f5, .slice A n c] 24 (0, 0)) := (hg13.block g3 (by rw [set_size'_, set_size'_]; exact blk_lt K312.out) (fun e => by have h5 := own_lt_ HRow.out g3 e.symm; have := HGW.out; omega)).trans ((Below.heap_setCell _ _ _ _ hna).trans ((Below.heap_setCell _ _ _ _ hna).trans K312.out)); have hk6 : w13.heap[g6]? = some (.cells #[.bool false, .string ⟨#[]⟩, .string ⟨#[]⟩, .int .i64 0, .int .i64 0, .string ⟨#[]⟩, .slice none 0 0] 24 (0, 0)) := (hg13.block g6 (by rw [set_size'_, set_size'_]; exact blk_lt K612.out) (fun e => by have h5 := own_lt_ HRow.out g6 e.symm; have := HGW.out; omega)).trans ((Below.heap_setCell _ _ _ _ hnb).trans ((Below.heap_setCell _ _ _ _ hnb).trans K612.out)); have K313 := Aside0.mk hk3; have K613 := Aside0.mk hk6; clear zaz0 zcz0 zdz0; have zaz0 := cz7 hk3; have zcz0 := cz7 hk6; clear hk3 hk6 hR13 hb13 hg13 hat13; subst e13)))
    refine bodyPost_ret (results_ctt rfl _ _ g6 24 #[.bool h.f0, .string h.f1, .string h.f2, .int .i64 h.f3, .int .i64 h.f4, .string h.f5, .slice A13 (h.f6.length + 1) c13] (0, 0) _ rfl (blk7 ((Below.heap_setCell _ _ _ _ hne2).trans K613.out)) Tryz.underlying24 rfl (by kernel_rfl)) rfl ?_
    exact LineP.grown Hbs.out HR13.out rfl HB13.out HBX.out HG13.out HG13.out.size (by first | exact HXE.out | exact fun _ => HXE.out trivial) HGW.out.2.1 HGW.out.1
   ·skip
    subst h6
    go_enter Tryz.func29, Tryz.ntmps29
    go_wp2_with (first
     | (refine bx 3 #[.bool h.f0, .string h.f1, .string h.f2, .int .i64 h.f3, .int .i64 h.f4, .string h.f5, .slice A n c] 24 ?_; intro g3 hg3 w3 hbox3 hb3; have HK3 := Aside0.mk hbox3; have HB3 := Aside0.mk hb3; have HG3 := Aside0.mk hg3;  clear hbox3 hb3 hg3)
     | (refine bx 6 #[.bool false, .string ⟨#[]⟩, .string ⟨#[]⟩, .int .i64 0, .int .i64 0, .string ⟨#[]⟩, .slice none 0 0] 24 ?_; intro g6 hg6 w6 hbox6 hb6; have HK6 := Aside0.mk hbox6; have HB6 := Aside0.mk hb6; have HG6 := Aside0.mk hg6; have hk3 := (hb6.block g3 (blk_lt HK3.out)).trans HK3.out; have K3 := Aside0.mk hk3; have hne : ¬ g3 = g6 := (by have h5 := blk_lt HK3.out; omega); have hne2 : ¬ g6 = g3 := (fun h5 => hne h5.symm); have zaz0 := cz7 hk3; have zcz0 := cz7 hbox6; clear hk3; clear hbox6 hb6 hg6)
     | (go_at_call 45; go_loud (refine (HF.out _).mono ?_; rintro e w7 ⟨rfl, hb7⟩; have HB7 := Aside0.mk hb7; have hk3 := (hb7.block g3 (blk_lt K3.out)).trans K3.out; have hk6 := (hb7.block g6 (blk_lt HK6.out)).trans HK6.out; have K37 := Aside0.mk hk3; have K67 := Aside0.mk hk6; clear zaz0 zcz0; have zaz0 := cz7 hk3; have zcz0 := cz7 hk6; clear hk3 hk6 hb7))
     | (refine bx 12 #[.string (⟨#[]⟩ : ByteArray), .string (⟨#[]⟩ : ByteArray)] 45 ?_; intro g12 hg12 w12 hbox12 hb12; have HK12 := Aside0.mk hbox12; have HB12 := Aside0.mk hb12; have HG12 := Aside0.mk hg12; have hk3 := (hb12.block g3 (blk_lt K37.out)).trans K37.out; have hk6 := (hb12.block g6 (blk_lt K67.out)).trans K67.out; have K312 := Aside0.mk hk3; have K612 := Aside0.mk hk6; have hna : ¬ g3 = g12 := (by have h5 := blk_lt K37.out; omega); have hna2 : ¬ g12 = g3 := (fun h5 => hna h5.symm); have hnb : ¬ g6 = g12 := (by have h5 := blk_lt K67.out; omega); have hnb2 : ¬ g12 = g6 := (fun h5 => hnb h5.symm); clear zaz0 zcz0; have zaz0 := cz7 hk3; have zcz0 := cz7 hk6; have zdz0 := cz2 hbox12; clear hk3 hk6 hbox12 hb12 hg12; have HGW : Aside0 (w.heap.size ≤ g6 ∧ w.heap.size ≤ g3 ∧ w.heap.size ≤ g12) := ⟨by have h5 := HB3.out.size; have h6 := HG6.out; have h7 := HG3.out; have h8 := HG12.out; have h9 := HB6.out.size; have h10 := HB7.out.size; exact ⟨by omega, by omega, by omega⟩⟩; have HBX : Aside0 (Below w.heap.size w ((w12.setCell ⟨g12, 0, none⟩ (.string nm)).setCell ⟨g12, 1, none⟩ (.string vl))) := ⟨((below_step (below_step (below_step HB3.out HB6.out) HB7.out) HB12.out).setCell (p := ⟨g12, 0, none⟩) HGW.out.2.2 _).setCell (p := ⟨g12, 1, none⟩) HGW.out.2.2 _⟩)
     | ((with_reducible refine gate_builtin (b := .append) (xs := #[.tmp 61, .tmp 63]) rfl ?_); at_builtin; go_loud (refine Kd.R_append fldK (w0 := w0) base rfl (.tmp 61) (.tmp 63) 22 45 (.agg #[.string ⟨#[]⟩, .string ⟨#[]⟩]) 32 rfl Tryz.underlying22 info_fld rfl (by decide) (by omega) (.slice A n c) h.f6 (⟨nm, vl⟩ : Fld) [.string nm, .string vl] (fun k => ok k ∧ k ≠ g3 ∧ k ≠ g6) (fun _ => False) rfl (by rw [set_size'_, set_size'_]; rfl) (P.k45_mkM _ _ _ (⟨nm, vl⟩ : Fld)) (fun _ hk => hk.elim) (fun k hk => by have h5 := HBX.out.size; have h6 := HGW.out; have h7 := blk_lt K312.out; have h8 := blk_lt K612.out; rw [set_size'_, set_size'_] at hk; exact ⟨HFr.out k (by omega), by omega, by omega⟩) (Kd.R_mono (Kd.R_bound (Kd.R_below HRow.out HBX.out) |> fun hh => Kd.R_mono (Kd.R_step (Kd.R_bound HRow.out) (fun k hk hl => HBX.out.block k hk.2.2.1)) (fun k hk => hk)) (fun k hk => ⟨hk.1, by have := hk.2.2.1; have := HGW.out; omega, by have := hk.2.2.1; have := HGW.out; omega⟩)) (HBw.out.trans (below_weak_ HBX.out Hbs.out)) (Nat.le_trans Hbs.out HBX.out.size) (by have := HNl.out; have := HN.out; omega) ?_; intro v13 w13 hR13 hb13 hg13 hat13; have HR13 := Aside0.mk hR13; have HB13 := Aside0.mk hb13; have HG13 := Aside0.mk hg13; obtain ⟨A13, c13, e13⟩ := Kd.R_slice hR13; rw [List.length_append, List.length_singleton] at e13; have hk3 : w13.heap[g3]? = some (.cells #[.bool h.f0, .string h.f1, .string h.f2, .int .i64 h.f3, .int .i64 h.f4, .string h.f5, .slice A n c] 24 (0, 0)) := (hg13.block g3 (by rw [set_size'_, set_size'_]; exact blk_lt K312.out) (fun e => by have h5 := own_lt_ HRow.out g3 e.symm; have := HGW.out; omega)).trans ((Below.heap_setCell _ _ _ _ hna).trans ((Below.heap_setCell _ _ _ _ hna).trans K312.out)); have hk6 : w13.heap[g6]? = some (.cells #[.bool false, .string ⟨#[]⟩, .string ⟨#[]⟩, .int .i64 0, .int .i64 0, .string ⟨#[]⟩, .slice none 0 0] 24 (0, 0)) := (hg13.block g6 (by rw [set_size'_, set_size'_]; exact blk_lt K612.out) (fun e => by have h5 := own_lt_ HRow.out g6 e.symm; have := HGW.out; omega)).trans ((Below.heap_setCell _ _ _ _ hnb).trans ((Below.heap_setCell _ _ _ _ hnb).trans K612.out)); have K313 := Aside0.mk hk3; have K613 := Aside0.mk hk6; clear zaz0 zcz0 zdz0; have zaz0 := cz7 hk3; have zcz0 := cz7 hk6; clear hk3 hk6 hR13 hb13 hg13 hat13; subst e13)))
    refine bodyPost_ret (results_ctt rfl _ _ g6 24 #[.bool h.f0, .string h.f1, .string h.f2, .int .i64 h.f3, .int .i64 h.f4, .string h.f5, .slice A13 (h.f6.length + 1) c13] (0, 0) _ rfl (blk7 ((Below.heap_setCell _ _ _ _ hne2).trans K613.out)) Tryz.underlying24 rfl (by kernel_rfl)) rfl ?_
    exact LineP.grown Hbs.out HR13.out rfl HB13.out HBX.out HG13.out HG13.out.size (by first | exact HXE.out | exact fun _ => HXE.out trivial) HGW.out.2.1 HGW.out.1
   ·skip
    have h6' : (er == 0) = false := by simpa using h6
    have h6'' : (er != 0) = true := by simpa using h6
    go_enter Tryz.func29, Tryz.ntmps29
    go_wp2_with (first
     | (refine bx 3 #[.bool h.f0, .string h.f1, .string h.f2, .int .i64 h.f3, .int .i64 h.f4, .string h.f5, .slice A n c] 24 ?_; intro g3 hg3 w3 hbox3 hb3; have HK3 := Aside0.mk hbox3; have HB3 := Aside0.mk hb3; have HG3 := Aside0.mk hg3;  clear hbox3 hb3 hg3)
     | (refine bx 6 #[.bool false, .string ⟨#[]⟩, .string ⟨#[]⟩, .int .i64 0, .int .i64 0, .string ⟨#[]⟩, .slice none 0 0] 24 ?_; intro g6 hg6 w6 hbox6 hb6; have HK6 := Aside0.mk hbox6; have HB6 := Aside0.mk hb6; have HG6 := Aside0.mk hg6; have hk3 := (hb6.block g3 (blk_lt HK3.out)).trans HK3.out; have K3 := Aside0.mk hk3; have hne : ¬ g3 = g6 := (by have h5 := blk_lt HK3.out; omega); have hne2 : ¬ g6 = g3 := (fun h5 => hne h5.symm); have zaz0 := cz7 hk3; have zcz0 := cz7 hbox6; clear hk3; clear hbox6 hb6 hg6)
     | (go_at_call 45; go_loud (refine (HF.out _).mono ?_; rintro e w7 ⟨rfl, hb7⟩; have HB7 := Aside0.mk hb7; have hk3 := (hb7.block g3 (blk_lt K3.out)).trans K3.out; have hk6 := (hb7.block g6 (blk_lt HK6.out)).trans HK6.out; have K37 := Aside0.mk hk3; have K67 := Aside0.mk hk6; clear zaz0 zcz0; have zaz0 := cz7 hk3; have zcz0 := cz7 hk6; clear hk3 hk6 hb7))
     | (refine bx 12 #[.string (⟨#[]⟩ : ByteArray), .string (⟨#[]⟩ : ByteArray)] 45 ?_; intro g12 hg12 w12 hbox12 hb12; have HK12 := Aside0.mk hbox12; have HB12 := Aside0.mk hb12; have HG12 := Aside0.mk hg12; have hk3 := (hb12.block g3 (blk_lt K37.out)).trans K37.out; have hk6 := (hb12.block g6 (blk_lt K67.out)).trans K67.out; have K312 := Aside0.mk hk3; have K612 := Aside0.mk hk6; have hna : ¬ g3 = g12 := (by have h5 := blk_lt K37.out; omega); have hna2 : ¬ g12 = g3 := (fun h5 => hna h5.symm); have hnb : ¬ g6 = g12 := (by have h5 := blk_lt K67.out; omega); have hnb2 : ¬ g12 = g6 := (fun h5 => hnb h5.symm); clear zaz0 zcz0; have zaz0 := cz7 hk3; have zcz0 := cz7 hk6; have zdz0 := cz2 hbox12; clear hk3 hk6 hbox12 hb12 hg12; have HGW : Aside0 (w.heap.size ≤ g6 ∧ w.heap.size ≤ g3 ∧ w.heap.size ≤ g12) := ⟨by have h5 := HB3.out.size; have h6 := HG6.out; have h7 := HG3.out; have h8 := HG12.out; have h9 := HB6.out.size; have h10 := HB7.out.size; exact ⟨by omega, by omega, by omega⟩⟩; have HBX : Aside0 (Below w.heap.size w ((w12.setCell ⟨g12, 0, none⟩ (.string nm)).setCell ⟨g12, 1, none⟩ (.string vl))) := ⟨((below_step (below_step (below_step HB3.out HB6.out) HB7.out) HB12.out).setCell (p := ⟨g12, 0, none⟩) HGW.out.2.2 _).setCell (p := ⟨g12, 1, none⟩) HGW.out.2.2 _⟩)
     | ((with_reducible refine gate_builtin (b := .append) (xs := #[.tmp 61, .tmp 63]) rfl ?_); at_builtin; go_loud (refine Kd.R_append fldK (w0 := w0) base rfl (.tmp 61) (.tmp 63) 22 45 (.agg #[.string ⟨#[]⟩, .string ⟨#[]⟩]) 32 rfl Tryz.underlying22 info_fld rfl (by decide) (by omega) (.slice A n c) h.f6 (⟨nm, vl⟩ : Fld) [.string nm, .string vl] (fun k => ok k ∧ k ≠ g3 ∧ k ≠ g6) (fun _ => False) rfl (by rw [set_size'_, set_size'_]; rfl) (P.k45_mkM _ _ _ (⟨nm, vl⟩ : Fld)) (fun _ hk => hk.elim) (fun k hk => by have h5 := HBX.out.size; have h6 := HGW.out; have h7 := blk_lt K312.out; have h8 := blk_lt K612.out; rw [set_size'_, set_size'_] at hk; exact ⟨HFr.out k (by omega), by omega, by omega⟩) (Kd.R_mono (Kd.R_bound (Kd.R_below HRow.out HBX.out) |> fun hh => Kd.R_mono (Kd.R_step (Kd.R_bound HRow.out) (fun k hk hl => HBX.out.block k hk.2.2.1)) (fun k hk => hk)) (fun k hk => ⟨hk.1, by have := hk.2.2.1; have := HGW.out; omega, by have := hk.2.2.1; have := HGW.out; omega⟩)) (HBw.out.trans (below_weak_ HBX.out Hbs.out)) (Nat.le_trans Hbs.out HBX.out.size) (by have := HNl.out; have := HN.out; omega) ?_; intro v13 w13 hR13 hb13 hg13 hat13; have HR13 := Aside0.mk hR13; have HB13 := Aside0.mk hb13; have HG13 := Aside0.mk hg13; obtain ⟨A13, c13, e13⟩ := Kd.R_slice hR13; rw [List.length_append, List.length_singleton] at e13; have hk3 : w13.heap[g3]? = some (.cells #[.bool h.f0, .string h.f1, .string h.f2, .int .i64 h.f3, .int .i64 h.f4, .string h.f5, .slice A n c] 24 (0, 0)) := (hg13.block g3 (by rw [set_size'_, set_size'_]; exact blk_lt K312.out) (fun e => by have h5 := own_lt_ HRow.out g3 e.symm; have := HGW.out; omega)).trans ((Below.heap_setCell _ _ _ _ hna).trans ((Below.heap_setCell _ _ _ _ hna).trans K312.out)); have hk6 : w13.heap[g6]? = some (.cells #[.bool false, .string ⟨#[]⟩, .string ⟨#[]⟩, .int .i64 0, .int .i64 0, .string ⟨#[]⟩, .slice none 0 0] 24 (0, 0)) := (hg13.block g6 (by rw [set_size'_, set_size'_]; exact blk_lt K612.out) (fun e => by have h5 := own_lt_ HRow.out g6 e.symm; have := HGW.out; omega)).trans ((Below.heap_setCell _ _ _ _ hnb).trans ((Below.heap_setCell _ _ _ _ hnb).trans K612.out)); have K313 := Aside0.mk hk3; have K613 := Aside0.mk hk6; clear zaz0 zcz0 zdz0; have zaz0 := cz7 hk3; have zcz0 := cz7 hk6; clear hk3 hk6 hR13 hb13 hg13 hat13; subst e13)))
    refine bodyPost_ret (results_ctt rfl _ _ g6 24 #[.bool h.f0, .string h.f1, .string h.f2, .int .i64 h.f3, .int .i64 h.f4, .string h.f5, .slice A13 (h.f6.length + 1) c13] (0, 0) _ rfl (blk7 ((Below.heap_setCell _ _ _ _ hne2).trans K613.out)) Tryz.underlying24 rfl (by kernel_rfl)) rfl ?_
    exact LineP.grown Hbs.out HR13.out rfl HB13.out HBX.out HG13.out HG13.out.size (by first | exact HXE.out | exact fun _ => HXE.out trivial) HGW.out.2.1 HGW.out.1
  ·have e1 : h.f1.toList.isEmpty = false := Lex.emptyB_no h1
   rcases her with ⟨h6, h7, rfl⟩ | ⟨h6, h7, rfl⟩ | ⟨h6, rfl⟩
   ·skip
    subst h6
    go_enter Tryz.func29, Tryz.ntmps29
    go_wp2_with (first
     | (refine bx 3 #[.bool h.f0, .string h.f1, .string h.f2, .int .i64 h.f3, .int .i64 h.f4, .string h.f5, .slice A n c] 24 ?_; intro g3 hg3 w3 hbox3 hb3; have HK3 := Aside0.mk hbox3; have HB3 := Aside0.mk hb3; have HG3 := Aside0.mk hg3;  clear hbox3 hb3 hg3)
     | (refine bx 6 #[.bool false, .string ⟨#[]⟩, .string ⟨#[]⟩, .int .i64 0, .int .i64 0, .string ⟨#[]⟩, .slice none 0 0] 24 ?_; intro g6 hg6 w6 hbox6 hb6; have HK6 := Aside0.mk hbox6; have HB6 := Aside0.mk hb6; have HG6 := Aside0.mk hg6; have hk3 := (hb6.block g3 (blk_lt HK3.out)).trans HK3.out; have K3 := Aside0.mk hk3; have hne : ¬ g3 = g6 := (by have h5 := blk_lt HK3.out; omega); have hne2 : ¬ g6 = g3 := (fun h5 => hne h5.symm); have zaz0 := cz7 hk3; have zcz0 := cz7 hbox6; clear hk3; clear hbox6 hb6 hg6)
     | (go_at_call 45; go_loud (refine (HF.out _).mono ?_; rintro e w7 ⟨rfl, hb7⟩; have HB7 := Aside0.mk hb7; have hk3 := (hb7.block g3 (blk_lt K3.out)).trans K3.out; have hk6 := (hb7.block g6 (blk_lt HK6.out)).trans HK6.out; have K37 := Aside0.mk hk3; have K67 := Aside0.mk hk6; clear zaz0 zcz0; have zaz0 := cz7 hk3; have zcz0 := cz7 hk6; clear hk3 hk6 hb7))
     | (refine bx 12 #[.string (⟨#[]⟩ : ByteArray), .string (⟨#[]⟩ : ByteArray)] 45 ?_; intro g12 hg12 w12 hbox12 hb12; have HK12 := Aside0.mk hbox12; have HB12 := Aside0.mk hb12; have HG12 := Aside0.mk hg12; have hk3 := (hb12.block g3 (blk_lt K37.out)).trans K37.out; have hk6 := (hb12.block g6 (blk_lt K67.out)).trans K67.out; have K312 := Aside0.mk hk3; have K612 := Aside0.mk hk6; have hna : ¬ g3 = g12 := (by have h5 := blk_lt K37.out; omega); have hna2 : ¬ g12 = g3 := (fun h5 => hna h5.symm); have hnb : ¬ g6 = g12 := (by have h5 := blk_lt K67.out; omega); have hnb2 : ¬ g12 = g6 := (fun h5 => hnb h5.symm); clear zaz0 zcz0; have zaz0 := cz7 hk3; have zcz0 := cz7 hk6; have zdz0 := cz2 hbox12; clear hk3 hk6 hbox12 hb12 hg12; have HGW : Aside0 (w.heap.size ≤ g6 ∧ w.heap.size ≤ g3 ∧ w.heap.size ≤ g12) := ⟨by have h5 := HB3.out.size; have h6 := HG6.out; have h7 := HG3.out; have h8 := HG12.out; have h9 := HB6.out.size; have h10 := HB7.out.size; exact ⟨by omega, by omega, by omega⟩⟩; have HBX : Aside0 (Below w.heap.size w ((w12.setCell ⟨g12, 0, none⟩ (.string nm)).setCell ⟨g12, 1, none⟩ (.string vl))) := ⟨((below_step (below_step (below_step HB3.out HB6.out) HB7.out) HB12.out).setCell (p := ⟨g12, 0, none⟩) HGW.out.2.2 _).setCell (p := ⟨g12, 1, none⟩) HGW.out.2.2 _⟩)
     | ((with_reducible refine gate_builtin (b := .append) (xs := #[.tmp 61, .tmp 63]) rfl ?_); at_builtin; go_loud (refine Kd.R_append fldK (w0 := w0) base rfl (.tmp 61) (.tmp 63) 22 45 (.agg #[.string ⟨#[]⟩, .string ⟨#[]⟩]) 32 rfl Tryz.underlying22 info_fld rfl (by decide) (by omega) (.slice A n c) h.f6 (⟨nm, vl⟩ : Fld) [.string nm, .string vl] (fun k => ok k ∧ k ≠ g3 ∧ k ≠ g6) (fun _ => False) rfl (by rw [set_size'_, set_size'_]; rfl) (P.k45_mkM _ _ _ (⟨nm, vl⟩ : Fld)) (fun _ hk => hk.elim) (fun k hk => by have h5 := HBX.out.size; have h6 := HGW.out; have h7 := blk_lt K312.out; have h8 := blk_lt K612.out; rw [set_size'_, set_size'_] at hk; exact ⟨HFr.out k (by omega), by omega, by omega⟩) (Kd.R_mono (Kd.R_bound (Kd.R_below HRow.out HBX.out) |> fun hh => Kd.R_mono (Kd.R_step (Kd.R_bound HRow.out) (fun k hk hl => HBX.out.block k hk.2.2.1)) (fun k hk => hk)) (fun k hk => ⟨hk.1, by have := hk.2.2.1; have := HGW.out; omega, by have := hk.2.2.1; have := HGW.out; omega⟩)) (HBw.out.trans (below_weak_ HBX.out Hbs.out)) (Nat.le_trans Hbs.out HBX.out.size) (by have := HNl.out; have := HN.out; omega) ?_; intro v13 w13 hR13 hb13 hg13 hat13; have HR13 := Aside0.mk hR13; have HB13 := Aside0.mk hb13; have HG13 := Aside0.mk hg13; obtain ⟨A13, c13, e13⟩ := Kd.R_slice hR13; rw [List.length_append, List.length_singleton] at e13; have hk3 : w13.heap[g3]? = some (.cells #[.bool h.f0, .string h.f1, .string h.f2, .int .i64 h.f3, .int .i64 h.f4, .string h.f5, .slice A n c] 24 (0, 0)) := (hg13.block g3 (by rw [set_size'_, set_size'_]; exact blk_lt K312.out) (fun e => by have h5 := own_lt_ HRow.out g3 e.symm; have := HGW.out; omega)).trans ((Below.heap_setCell _ _ _ _ hna).trans ((Below.heap_setCell _ _ _ _ hna).trans K312.out)); have hk6 : w13.heap[g6]? = some (.cells #[.bool false, .string ⟨#[]⟩, .string ⟨#[]⟩, .int .i64 0, .int .i64 0, .string ⟨#[]⟩, .slice none 0 0] 24 (0, 0)) := (hg13.block g6 (by rw [set_size'_, set_size'_]; exact blk_lt K612.out) (fun e => by have h5 := own_lt_ HRow.out g6 e.symm; have := HGW.out; omega)).trans ((Below.heap_setCell _ _ _ _ hnb).trans ((Below.heap_setCell _ _ _ _ hnb).trans K612.out)); have K313 := Aside0.mk hk3; have K613 := Aside0.mk hk6; clear zaz0 zcz0 zdz0; have zaz0 := cz7 hk3; have zcz0 := cz7 hk6; clear hk3 hk6 hR13 hb13 hg13 hat13; subst e13)))
    refine bodyPost_ret (results_ctt rfl _ _ g6 24 #[.bool h.f0, .string h.f1, .string h.f2, .int .i64 h.f3, .int .i64 h.f4, .string h.f5, .slice A13 (h.f6.length + 1) c13] (0, 0) _ rfl (blk7 ((Below.heap_setCell _ _ _ _ hne2).trans K613.out)) Tryz.underlying24 rfl (by kernel_rfl)) rfl ?_
    exact LineP.grown Hbs.out HR13.out rfl HB13.out HBX.out HG13.out HG13.out.size (by first | exact HXE.out | exact fun _ => HXE.out trivial) HGW.out.2.1 HGW.out.1
   ·skip
    subst h6
    go_enter Tryz.func29, Tryz.ntmps29
    go_wp2_with (first
     | (refine bx 3 #[.bool h.f0, .string h.f1, .string h.f2, .int .i64 h.f3, .int .i64 h.f4, .string h.f5, .slice A n c] 24 ?_; intro g3 hg3 w3 hbox3 hb3; have HK3 := Aside0.mk hbox3; have HB3 := Aside0.mk hb3; have HG3 := Aside0.mk hg3;  clear hbox3 hb3 hg3)
     | (refine bx 6 #[.bool false, .string ⟨#[]⟩, .string ⟨#[]⟩, .int .i64 0, .int .i64 0, .string ⟨#[]⟩, .slice none 0 0] 24 ?_; intro g6 hg6 w6 hbox6 hb6; have HK6 := Aside0.mk hbox6; have HB6 := Aside0.mk hb6; have HG6 := Aside0.mk hg6; have hk3 := (hb6.block g3 (blk_lt HK3.out)).trans HK3.out; have K3 := Aside0.mk hk3; have hne : ¬ g3 = g6 := (by have h5 := blk_lt HK3.out; omega); have hne2 : ¬ g6 = g3 := (fun h5 => hne h5.symm); have zaz0 := cz7 hk3; have zcz0 := cz7 hbox6; clear hk3; clear hbox6 hb6 hg6)
     | (go_at_call 45; go_loud (refine (HF.out _).mono ?_; rintro e w7 ⟨rfl, hb7⟩; have HB7 := Aside0.mk hb7; have hk3 := (hb7.block g3 (blk_lt K3.out)).trans K3.out; have hk6 := (hb7.block g6 (blk_lt HK6.out)).trans HK6.out; have K37 := Aside0.mk hk3; have K67 := Aside0.mk hk6; clear zaz0 zcz0; have zaz0 := cz7 hk3; have zcz0 := cz7 hk6; clear hk3 hk6 hb7))
     | (refine bx 12 #[.string (⟨#[]⟩ : ByteArray), .string (⟨#[]⟩ : ByteArray)] 45 ?_; intro g12 hg12 w12 hbox12 hb12; have HK12 := Aside0.mk hbox12; have HB12 := Aside0.mk hb12; have HG12 := Aside0.mk hg12; have hk3 := (hb12.block g3 (blk_lt K37.out)).trans K37.out; have hk6 := (hb12.block g6 (blk_lt K67.out)).trans K67.out; have K312 := Aside0.mk hk3; have K612 := Aside0.mk hk6; have hna : ¬ g3 = g12 := (by have h5 := blk_lt K37.out; omega); have hna2 : ¬ g12 = g3 := (fun h5 => hna h5.symm); have hnb : ¬ g6 = g12 := (by have h5 := blk_lt K67.out; omega); have hnb2 : ¬ g12 = g6 := (fun h5 => hnb h5.symm); clear zaz0 zcz0; have zaz0 := cz7 hk3; have zcz0 := cz7 hk6; have zdz0 := cz2 hbox12; clear hk3 hk6 hbox12 hb12 hg12; have HGW : Aside0 (w.heap.size ≤ g6 ∧ w.heap.size ≤ g3 ∧ w.heap.size ≤ g12) := ⟨by have h5 := HB3.out.size; have h6 := HG6.out; have h7 := HG3.out; have h8 := HG12.out; have h9 := HB6.out.size; have h10 := HB7.out.size; exact ⟨by omega, by omega, by omega⟩⟩; have HBX : Aside0 (Below w.heap.size w ((w12.setCell ⟨g12, 0, none⟩ (.string nm)).setCell ⟨g12, 1, none⟩ (.string vl))) := ⟨((below_step (below_step (below_step HB3.out HB6.out) HB7.out) HB12.out).setCell (p := ⟨g12, 0, none⟩) HGW.out.2.2 _).setCell (p := ⟨g12, 1, none⟩) HGW.out.2.2 _⟩)
     | ((with_reducible refine gate_builtin (b := .append) (xs := #[.tmp 61, .tmp 63]) rfl ?_); at_builtin; go_loud (refine Kd.R_append fldK (w0 := w0) base rfl (.tmp 61) (.tmp 63) 22 45 (.agg #[.string ⟨#[]⟩, .string ⟨#[]⟩]) 32 rfl Tryz.underlying22 info_fld rfl (by decide) (by omega) (.slice A n c) h.f6 (⟨nm, vl⟩ : Fld) [.string nm, .string vl] (fun k => ok k ∧ k ≠ g3 ∧ k ≠ g6) (fun _ => False) rfl (by rw [set_size'_, set_size'_]; rfl) (P.k45_mkM _ _ _ (⟨nm, vl⟩ : Fld)) (fun _ hk => hk.elim) (fun k hk => by have h5 := HBX.out.size; have h6 := HGW.out; have h7 := blk_lt K312.out; have h8 := blk_lt K612.out; rw [set_size'_, set_size'_] at hk; exact ⟨HFr.out k (by omega), by omega, by omega⟩) (Kd.R_mono (Kd.R_bound (Kd.R_below HRow.out HBX.out) |> fun hh => Kd.R_mono (Kd.R_step (Kd.R_bound HRow.out) (fun k hk hl => HBX.out.block k hk.2.2.1)) (fun k hk => hk)) (fun k hk => ⟨hk.1, by have := hk.2.2.1; have := HGW.out; omega, by have := hk.2.2.1; have := HGW.out; omega⟩)) (HBw.out.trans (below_weak_ HBX.out Hbs.out)) (Nat.le_trans Hbs.out HBX.out.size) (by have := HNl.out; have := HN.out; omega) ?_; intro v13 w13 hR13 hb13 hg13 hat13; have HR13 := Aside0.mk hR13; have HB13 := Aside0.mk hb13; have HG13 := Aside0.mk hg13; obtain ⟨A13, c13, e13⟩ := Kd.R_slice hR13; rw [List.length_append, List.length_singleton] at e13; have hk3 : w13.heap[g3]? = some (.cells #[.bool h.f0, .string h.f1, .string h.f2, .int .i64 h.f3, .int .i64 h.f4, .string h.f5, .slice A n c] 24 (0, 0)) := (hg13.block g3 (by rw [set_size'_, set_size'_]; exact blk_lt K312.out) (fun e => by have h5 := own_lt_ HRow.out g3 e.symm; have := HGW.out; omega)).trans ((Below.heap_setCell _ _ _ _ hna).trans ((Below.heap_setCell _ _ _ _ hna).trans K312.out)); have hk6 : w13.heap[g6]? = some (.cells #[.bool false, .string ⟨#[]⟩, .string ⟨#[]⟩, .int .i64 0, .int .i64 0, .string ⟨#[]⟩, .slice none 0 0] 24 (0, 0)) := (hg13.block g6 (by rw [set_size'_, set_size'_]; exact blk_lt K612.out) (fun e => by have h5 := own_lt_ HRow.out g6 e.symm; have := HGW.out; omega)).trans ((Below.heap_setCell _ _ _ _ hnb).trans ((Below.heap_setCell _ _ _ _ hnb).trans K612.out)); have K313 := Aside0.mk hk3; have K613 := Aside0.mk hk6; clear zaz0 zcz0 zdz0; have zaz0 := cz7 hk3; have zcz0 := cz7 hk6; clear hk3 hk6 hR13 hb13 hg13 hat13; subst e13)))
    refine bodyPost_ret (results_ctt rfl _ _ g6 24 #[.bool h.f0, .string h.f1, .string h.f2, .int .i64 h.f3, .int .i64 h.f4, .string h.f5, .slice A13 (h.f6.length + 1) c13] (0, 0) _ rfl (blk7 ((Below.heap_setCell _ _ _ _ hne2).trans K613.out)) Tryz.underlying24 rfl (by kernel_rfl)) rfl ?_
    exact LineP.grown Hbs.out HR13.out rfl HB13.out HBX.out HG13.out HG13.out.size (by first | exact HXE.out | exact fun _ => HXE.out trivial) HGW.out.2.1 HGW.out.1
   ·skip
    have h6' : (er == 0) = false := by simpa using h6
    have h6'' : (er != 0) = true := by simpa using h6
    go_enter Tryz.func29, Tryz.ntmps29
    go_wp2_with (first
     | (refine bx 3 #[.bool h.f0, .string h.f1, .string h.f2, .int .i64 h.f3, .int .i64 h.f4, .string h.f5, .slice A n c] 24 ?_; intro g3 hg3 w3 hbox3 hb3; have HK3 := Aside0.mk hbox3; have HB3 := Aside0.mk hb3; have HG3 := Aside0.mk hg3;  clear hbox3 hb3 hg3)
     | (refine bx 6 #[.bool false, .string ⟨#[]⟩, .string ⟨#[]⟩, .int .i64 0, .int .i64 0, .string ⟨#[]⟩, .slice none 0 0] 24 ?_; intro g6 hg6 w6 hbox6 hb6; have HK6 := Aside0.mk hbox6; have HB6 := Aside0.mk hb6; have HG6 := Aside0.mk hg6; have hk3 := (hb6.block g3 (blk_lt HK3.out)).trans HK3.out; have K3 := Aside0.mk hk3; have hne : ¬ g3 = g6 := (by have h5 := blk_lt HK3.out; omega); have hne2 : ¬ g6 = g3 := (fun h5 => hne h5.symm); have zaz0 := cz7 hk3; have zcz0 := cz7 hbox6; clear hk3; clear hbox6 hb6 hg6)
     | (go_at_call 45; go_loud (refine (HF.out _).mono ?_; rintro e w7 ⟨rfl, hb7⟩; have HB7 := Aside0.mk hb7; have hk3 := (hb7.block g3 (blk_lt K3.out)).trans K3.out; have hk6 := (hb7.block g6 (blk_lt HK6.out)).trans HK6.out; have K37 := Aside0.mk hk3; have K67 := Aside0.mk hk6; clear zaz0 zcz0; have zaz0 := cz7 hk3; have zcz0 := cz7 hk6; clear hk3 hk6 hb7))
     | (refine bx 12 #[.string (⟨#[]⟩ : ByteArray), .string (⟨#[]⟩ : ByteArray)] 45 ?_; intro g12 hg12 w12 hbox12 hb12; have HK12 := Aside0.mk hbox12; have HB12 := Aside0.mk hb12; have HG12 := Aside0.mk hg12; have hk3 := (hb12.block g3 (blk_lt K37.out)).trans K37.out; have hk6 := (hb12.block g6 (blk_lt K67.out)).trans K67.out; have K312 := Aside0.mk hk3; have K612 := Aside0.mk hk6; have hna : ¬ g3 = g12 := (by have h5 := blk_lt K37.out; omega); have hna2 : ¬ g12 = g3 := (fun h5 => hna h5.symm); have hnb : ¬ g6 = g12 := (by have h5 := blk_lt K67.out; omega); have hnb2 : ¬ g12 = g6 := (fun h5 => hnb h5.symm); clear zaz0 zcz0; have zaz0 := cz7 hk3; have zcz0 := cz7 hk6; have zdz0 := cz2 hbox12; clear hk3 hk6 hbox12 hb12 hg12; have HGW : Aside0 (w.heap.size ≤ g6 ∧ w.heap.size ≤ g3 ∧ w.heap.size ≤ g12) := ⟨by have h5 := HB3.out.size; have h6 := HG6.out; have h7 := HG3.out; have h8 := HG12.out; have h9 := HB6.out.size; have h10 := HB7.out.size; exact ⟨by omega, by omega, by omega⟩⟩; have HBX : Aside0 (Below w.heap.size w ((w12.setCell ⟨g12, 0, none⟩ (.string nm)).setCell ⟨g12, 1, none⟩ (.string vl))) := ⟨((below_step (below_step (below_step HB3.out HB6.out) HB7.out) HB12.out).setCell (p := ⟨g12, 0, none⟩) HGW.out.2.2 _).setCell (p := ⟨g12, 1, none⟩) HGW.out.2.2 _⟩)
     | ((with_reducible refine gate_builtin (b := .append) (xs := #[.tmp 61, .tmp 63]) rfl ?_); at_builtin; go_loud (refine Kd.R_append fldK (w0 := w0) base rfl (.tmp 61) (.tmp 63) 22 45 (.agg #[.string ⟨#[]⟩, .string ⟨#[]⟩]) 32 rfl Tryz.underlying22 info_fld rfl (by decide) (by omega) (.slice A n c) h.f6 (⟨nm, vl⟩ : Fld) [.string nm, .string vl] (fun k => ok k ∧ k ≠ g3 ∧ k ≠ g6) (fun _ => False) rfl (by rw [set_size'_, set_size'_]; rfl) (P.k45_mkM _ _ _ (⟨nm, vl⟩ : Fld)) (fun _ hk => hk.elim) (fun k hk => by have h5 := HBX.out.size; have h6 := HGW.out; have h7 := blk_lt K312.out; have h8 := blk_lt K612.out; rw [set_size'_, set_size'_] at hk; exact ⟨HFr.out k (by omega), by omega, by omega⟩) (Kd.R_mono (Kd.R_bound (Kd.R_below HRow.out HBX.out) |> fun hh => Kd.R_mono (Kd.R_step (Kd.R_bound HRow.out) (fun k hk hl => HBX.out.block k hk.2.2.1)) (fun k hk => hk)) (fun k hk => ⟨hk.1, by have := hk.2.2.1; have := HGW.out; omega, by have := hk.2.2.1; have := HGW.out; omega⟩)) (HBw.out.trans (below_weak_ HBX.out Hbs.out)) (Nat.le_trans Hbs.out HBX.out.size) (by have := HNl.out; have := HN.out; omega) ?_; intro v13 w13 hR13 hb13 hg13 hat13; have HR13 := Aside0.mk hR13; have HB13 := Aside0.mk hb13; have HG13 := Aside0.mk hg13; obtain ⟨A13, c13, e13⟩ := Kd.R_slice hR13; rw [List.length_append, List.length_singleton] at e13; have hk3 : w13.heap[g3]? = some (.cells #[.bool h.f0, .string h.f1, .string h.f2, .int .i64 h.f3, .int .i64 h.f4, .string h.f5, .slice A n c] 24 (0, 0)) := (hg13.block g3 (by rw [set_size'_, set_size'_]; exact blk_lt K312.out) (fun e => by have h5 := own_lt_ HRow.out g3 e.symm; have := HGW.out; omega)).trans ((Below.heap_setCell _ _ _ _ hna).trans ((Below.heap_setCell _ _ _ _ hna).trans K312.out)); have hk6 : w13.heap[g6]? = some (.cells #[.bool false, .string ⟨#[]⟩, .string ⟨#[]⟩, .int .i64 0, .int .i64 0, .string ⟨#[]⟩, .slice none 0 0] 24 (0, 0)) := (hg13.block g6 (by rw [set_size'_, set_size'_]; exact blk_lt K612.out) (fun e => by have h5 := own_lt_ HRow.out g6 e.symm; have := HGW.out; omega)).trans ((Below.heap_setCell _ _ _ _ hnb).trans ((Below.heap_setCell _ _ _ _ hnb).trans K612.out)); have K313 := Aside0.mk hk3; have K613 := Aside0.mk hk6; clear zaz0 zcz0 zdz0; have zaz0 := cz7 hk3; have zcz0 := cz7 hk6; clear hk3 hk6 hR13 hb13 hg13 hat13; subst e13)))
    refine bodyPost_ret (results_ctt rfl _ _ g6 24 #[.bool h.f0, .string h.f1, .string h.f2, .int .i64 h.f3, .int .i64 h.f4, .string h.f5, .slice A13 (h.f6.length + 1) c13] (0, 0) _ rfl (blk7 ((Below.heap_setCell _ _ _ _ hne2).trans K613.out)) Tryz.underlying24 rfl (by kernel_rfl)) rfl ?_
    exact LineP.grown Hbs.out HR13.out rfl HB13.out HBX.out HG13.out HG13.out.size (by first | exact HXE.out | exact fun _ => HXE.out trivial) HGW.out.2.1 HGW.out.1
 have hn := HN.out
 by_cases hc : fe = 0 ∧ 100 ≤ h.f6.length
 ·rw [if_pos hc]
  exact main 85 (.inl ⟨hc.1, by omega, rfl⟩)
 ·rw [if_neg hc]
  by_cases h0 : fe = 0
  ·exact main fe (.inr (.inl ⟨h0, by have : ¬ 100 ≤ h.f6.length := fun h5 => hc ⟨h0, h5⟩; omega, h0⟩))
  ·exact main fe (.inr (.inr ⟨h0, rfl⟩))
/-- A line is read: as the parser reads it. -/
theorem rline_calls (w0 w : World) (base : Nat) (ok : Nat → Prop) (rq : Bool) (p : Par) (A : Option Addr) (n c : Nat) (s : ByteArray) (hR : fldK.R 45 w base ok (.slice A n c) p.hd.f6) (hB : Below base w0 w) (hbase : base ≤ w.heap.size) (hfresh : ∀ k, w.heap.size ≤ k → ok k) (hsl : s.size ≤ 1099511627776) (hw : p.whole = false)
  (hst : (p.st = (if rq then 0 else 1) ∧ p.hd = head0 rq) ∨ (p.st = 2 ∧ (¬ p.hd.f1.size = 0 ∨ ¬ p.hd.f4 = 0) ∧ p.hd.f6.length ≤ 100)) :
  Calls Tryz.prog 29 #[hdV p.hd (.slice A n c), .int .i64 p.lines, .string s] w (LineP w0 w base ok (.slice A n c) (lineS p s.data.toList).1.hd (decide ((lineS p s.data.toList).2 = 0) && (lineS p s.data.toList).1.whole) (lineS p s.data.toList).2) := by
 have hz : s.size = s.data.toList.length := sz s
 rcases hst with ⟨h1, h2⟩ | ⟨h1, h2, h3⟩
 ·have f1 : p.hd.f1.size = 0 := by rw [h2]; rfl
  have f4 : p.hd.f4 = 0 := by rw [h2]; rfl
  have f0 : p.hd.f0 = rq := by rw [h2]; rfl
  by_cases hno : rq = true ∧ s.data.toList = [] ∧ p.lines ≤ 4
  ·have e : lineS p s.data.toList = (p, 0) := by
    unfold lineS
    rw [h1, hno.1]
    show reqS p s.data.toList = _
    unfold reqS
    rw [if_pos hno.2]
   rw [e]
   simp only [hw, Bool.and_false]
   exact line_same w0 w base ok p.hd A n c p.lines s hR hB hbase hsl f1 f4 (f0.trans hno.1) (by rw [hz, hno.2.1]; rfl) hno.2.2
  ·obtain ⟨x, hev, hx6, hx⟩ := ev_rfirst rq s (by omega) p h1 h2 hw hno
   obtain ⟨kk, hkk⟩ := hev.rounds
   have hwh : (decide ((lineS p s.data.toList).2 = 0) && (lineS p s.data.toList).1.whole) = false := by
    by_cases h0 : (lineS p s.data.toList).2 = 0
    ·rw [(hx h0).2.2, Bool.and_false]
    ·rw [decide_eq_false h0, Bool.false_and]
   rw [hwh]
   refine line_first w0 w base ok p.hd A n c p.lines s hR hB hbase hsl hfresh f1 f4 (fun h => hno ⟨f0.symm.trans h.1, ?_, h.2.2⟩) x _ _ kk (by rw [f0]; exact hkk) (fun h0 => (hx h0).1)
   exact List.length_eq_zero_iff.1 (by rw [← hz]; exact h.2.1)
 ·have eS : lineS p s.data.toList = fldS p s.data.toList := by unfold lineS; rw [h1]; rfl
  rw [eS]
  unfold fldS
  by_cases hs : s.data.toList = []
  ·rw [if_pos hs]
   exact line_end w0 w base ok p.hd A n c p.lines s hR hB hbase hsl h2 (by rw [hz, hs]; rfl)
  ·rw [if_neg hs]
   obtain ⟨nm, vl, hev, hff⟩ := ev_rfield s (by omega) hs
   obtain ⟨kk, hkk⟩ := hev.rounds
   have hmain := line_fld w0 w base ok p.hd A n c p.lines s hR hB hbase hsl hfresh h2 (fun h => hs (List.length_eq_zero_iff.1 (by rw [← hz]; exact h))) h3 nm vl (fieldE s.data.toList) kk hkk (⟨p.hd.f0, p.hd.f1, p.hd.f2, p.hd.f3, p.hd.f4, p.hd.f5, p.hd.f6 ++ [fieldF s.data.toList]⟩ : Head) (fun h0 _ => by rw [hff h0])
   by_cases h0 : fieldE s.data.toList = 0
   ·rw [if_neg (fun h => h h0)]
    by_cases h100 : p.hd.f6.length = 100
    ·rw [if_pos h100]
     rw [if_pos ⟨h0, by omega⟩] at hmain
     refine hmain.mono ?_
     rintro e w' ⟨x, v', h5, h6, h7⟩
     exact ⟨x, v', h5, fun h8 => absurd (show (85 : Int) = 0 from h8) (by decide), h7⟩
    ·rw [if_neg h100]
     rw [if_neg (fun h => by have := h.2; omega), h0] at hmain
     simp only [decide_true, hw, Bool.and_false]
     exact hmain
   ·rw [if_pos h0]
    rw [if_neg (fun h => h0 h.1)] at hmain
    simp only [decide_eq_false h0, Bool.false_and]
    refine hmain.mono ?_
    rintro e w' ⟨x, v', h5, h6, h7⟩
    exact ⟨x, v', h5, fun h8 => absurd h8 h0, h7⟩
end Go.Proofs.YtmlgejgnjfbblaaGreatDoor.Hd
