/- headraceref08.Read, by hand; own text of this session (gen_rh5.py). -/
import Derived.Test.YtmlgejgnjfbblaaGreatDoorRh4
namespace Go.Proofs.YtmlgejgnjfbblaaGreatDoor.Hd
open Go.RowKit Go.Proofs.YtmlgejgnjfbblaaGreatDoorW.PrintWords Go.Proofs.YtmlgejgnjfbblaaGreatDoorW.PrintLast Chk Px Hr
set_option linter.unusedVariables false
set_option linter.unusedSimpArgs false
theorem results_cttt {P : Program} {fn : Func} {p u v x : Tmp} {ty : TypeId} (h : fn.results = #[.cell p ty, .tmp u, .tmp v, .tmp x]) (tmps : Array Value) (w : World) (g : Nat) (t : TypeId) (cs : Array Value) (fr : Nat × Nat) (d : TypeDesc)
  (hp : tmps.getD p undef = .pointer (some ⟨g, 0, none⟩)) (hg : w.heap[g]? = some (.cells cs t fr))
  (hu : P.underlying ty = some d) (hd : (match d with | .struct _ | .array _ _ => true | _ => false) = true) (hi : (P.info? ty).map (·.size) = some cs.size) :
  (results fn tmps).run P w = .ok (.tuple #[.agg cs, tmps.getD u undef, tmps.getD v undef, tmps.getD x undef]) w := by
 have hp' : tmps[p]?.getD undef = .pointer (some ⟨g, 0, none⟩) := by simpa using hp
 simp [results, h, hp', asAddr, run_loadVar_row w g t ty cs fr d hg hu hd hi]
def ReadPost (r : Head × Int × Bool × Int) (w : World) (e : Ending) (w' : World) : Prop :=
 ∃ v : Value, e = .returned (.tuple #[hdV r.1 v, .int .i64 r.2.1, .bool r.2.2.1, .int .i64 r.2.2.2]) ∧ fldK.R 45 w' w.heap.size (fun _ => True) v r.1.f6 ∧ Below w.heap.size w w'
def hdC (h : Head) (v : Value) : Array Value := #[.bool h.f0, .string h.f1, .string h.f2, .int .i64 h.f3, .int .i64 h.f4, .string h.f5, v]
/-- What a walk from wr keeps: all blocks but one, and all of w's. -/
structure KeepR (own : Option Nat) (w wr wd : World) : Prop where
 size : wr.heap.size ≤ wd.heap.size
 keep : ∀ k, k < wr.heap.size → some k ≠ own → wd.heap[k]? = wr.heap[k]?
 below : Below w.heap.size w wd
theorem KeepR.step {own : Option Nat} {w wr wd we : World} (h : KeepR own w wr wd) (hb : Below wd.heap.size wd we) : KeepR own w wr we :=
 ⟨Nat.le_trans h.size hb.size, fun k hk hn => (hb.block k (Nat.lt_of_lt_of_le hk h.size)).trans (h.keep k hk hn), below_step h.below hb⟩
theorem KeepR.line {own : Option Nat} {w wr wd we : World} (h : KeepR own w wr wd) (hb : Below w.heap.size w we) (hs : wd.heap.size ≤ we.heap.size) (hk : ∀ k, k < wd.heap.size → some k ≠ own → we.heap[k]? = wd.heap[k]?) : KeepR own w wr we :=
 ⟨Nat.le_trans h.size hs, fun k hl hn => (hk k (Nat.lt_of_lt_of_le hl h.size) hn).trans (h.keep k hl hn), hb⟩
theorem KeepR.set {own : Option Nat} {w wr wd : World} (h : KeepR own w wr wd) (hw : w.heap.size ≤ wr.heap.size) {g i : Nat} (hg : wr.heap.size ≤ g) (u : Value) : KeepR own w wr (wd.setCell ⟨g, i, none⟩ u) :=
 ⟨by rw [set_size'_]; exact h.size, fun k hk hn => (Below.heap_setCell _ _ _ _ (show ¬ k = g by omega)).trans (h.keep k hk hn), h.below.setCell (p := ⟨g, i, none⟩) (Nat.le_trans hw hg) _⟩
theorem KeepR.set7 {own : Option Nat} {w wr wd : World} (h : KeepR own w wr wd) (hw : w.heap.size ≤ wr.heap.size) {g : Nat} (hg : wr.heap.size ≤ g) {v0 v1 v2 v3 v4 v5 v6 : Value} : KeepR own w wr (((((((wd.setCell ⟨g, 0, none⟩ v0).setCell ⟨g, 1, none⟩ v1).setCell ⟨g, 2, none⟩ v2).setCell ⟨g, 3, none⟩ v3).setCell ⟨g, 4, none⟩ v4).setCell ⟨g, 5, none⟩ v5).setCell ⟨g, 6, none⟩ v6) :=
 ((((((h.set hw hg v0).set hw hg v1).set hw hg v2).set hw hg v3).set hw hg v4).set hw hg v5).set hw hg v6
theorem rd_put {own : Option Nat} {w wr wf : World} {g g6 g10 : Nat} {er : Int} {x y : Head} {v9 : Value} (hz : wf.heap[g]? = some (.cells #[.bool false, .string ⟨#[]⟩, .string ⟨#[]⟩, .int .i64 0, .int .i64 0, .string ⟨#[]⟩, .slice none 0 0] 24 (0, 0))) (hk : KeepR own w wr wf) (hg : wr.heap.size ≤ g) (hw : w.heap.size ≤ wr.heap.size) (hx : er = 0 → x = y ∧ fldK.R 45 wf w.heap.size (fun k => k ≠ g6 ∧ k ≠ g10 ∧ k ≠ g) v9 x.f6) :
  ∃ W9, W9 = (((((((wf.setCell ⟨g, 0, none⟩ (.bool x.f0)).setCell ⟨g, 1, none⟩ (.string x.f1)).setCell ⟨g, 2, none⟩ (.string x.f2)).setCell ⟨g, 3, none⟩ (.int .i64 x.f3)).setCell ⟨g, 4, none⟩ (.int .i64 x.f4)).setCell ⟨g, 5, none⟩ (.string x.f5)).setCell ⟨g, 6, none⟩ v9) ∧ W9.heap[g]? = some (.cells (hdC x v9) 24 (0, 0)) ∧ KeepR own w wr W9 ∧ (er = 0 → x = y ∧ fldK.R 45 W9 w.heap.size (fun k => k ≠ g6 ∧ k ≠ g10 ∧ k ≠ g) v9 x.f6) :=
 ⟨_, rfl, blk7 hz, hk.set7 hw hg, fun he => ⟨(hx he).1, Kd.R_step (hx he).2 (fun k hk _ => far7 hk.2.2)⟩⟩
/-- A line's text, as the conversion gives it. -/
theorem line_conv {W : World} {A : Option Addr} {b : List Int} (hC : (Kd.int .u8).C W A b.length b) (c o i1 : Nat) (hc : b.length ≤ c) (hoi : o ≤ i1) (hi : i1 ≤ b.length) :
  (convert 33 9 (.slice (if c = o then A else A.map (·.add o)) (i1 - o) (c - o))).run Tryz.prog W = .ok (.string (strOfNums ((b.drop o).take (i1 - o)))) W := by
 have h1 : (Kd.int .u8).C W (if c = o then A else A.map (·.add o)) (b.length - o) (b.drop o) := Kd.C_of_reads (d := (0 : Int)) (h1 := fun _ => rfl) (ReadsOf.drop_ (Kd.reads_of_C (enc := Value.int .u8) (d := (0 : Int)) (h1 := fun _ => rfl) hC) o (by omega) hc)
 have h2 : (Kd.int .u8).C W (if c = o then A else A.map (·.add o)) (i1 - o) ((b.drop o).take (i1 - o)) := Kd.C_of_reads (d := (0 : Int)) (h1 := fun _ => rfl) (ReadsOf.take_ (Kd.reads_of_C (enc := Value.int .u8) (d := (0 : Int)) (h1 := fun _ => rfl) h1) (i1 - o) (by omega))
 exact Kd.C_string Tryz.underlying33 Tryz.underlying5 Tryz.underlying9 h2
theorem R_new {wd we : World} {base g g6 g10 : Nat} {v : Value} {l : List Fld} (h : fldK.R 45 wd base (fun k => k ≠ g6 ∧ k ≠ g10) v l) (hb : Below wd.heap.size wd we) (hg : wd.heap.size ≤ g) : fldK.R 45 we base (fun k => k ≠ g6 ∧ k ≠ g10 ∧ k ≠ g) v l := by
 refine Kd.R_step (Kd.R_mono (Kd.R_bound h) (fun k hk => ⟨hk.1.1, hk.1.2, ?_⟩)) (fun k _ hl => hb.block k hl)
 have := hk.2.2.1
 omega
/-- What is handed back at an end. -/
theorem read_post {r : Head × Int × Bool × Int} {w w' : World} {n e : Int} {wh : Bool} {x : Head} (hr : r = (x, n, wh, e)) (v : Value) (hR : fldK.R 45 w' w.heap.size (fun _ => True) v x.f6) (hb : Below w.heap.size w w') : ReadPost r w (.returned (.tuple #[hdV x v, .int .i64 n, .bool wh, .int .i64 e])) w' := by
 subst hr
 exact ⟨v, rfl, hR, hb⟩
theorem At.begun {rq : Bool} {most : Int} {b : List Int} {i o : Nat} {p : Par} (h : At rq most b i o p) : (p.st = (if rq then 0 else 1) ∧ p.hd = head0 rq) ∨ (p.st = 2 ∧ (¬ p.hd.f1.size = 0 ∨ ¬ p.hd.f4 = 0) ∧ p.hd.f6.length ≤ 100) := by
 rcases h.inv.st with ⟨h1, h2, _⟩ | ⟨h1, h2, _⟩
 ·exact .inl ⟨h1, h2⟩
 ·refine .inr ⟨h1, ?_, h2.few⟩
  rcases h2.first with ⟨_, ht, _⟩ | ⟨_, _, _, h5, _⟩
  ·refine .inl (fun hz => ?_)
   have h6 := (token_mem ht).2
   exact h6 (List.length_eq_zero_iff.1 (by rw [← sz]; exact hz))
  ·exact .inr (by omega)
set_option maxHeartbeats 16000000 in
set_option maxRecDepth 100000 in
theorem read_ref (rq : Bool) (most : Int) (b : List Int) (hbl : b.length ≤ 1073741824) (A : Option Addr) (c : Nat) (w : World) (hr : (Kd.int .u8).C w A b.length b) (hc : b.length ≤ c) :
  Calls Tryz.prog 22 #[.bool rq, .int .i64 most, .slice A b.length c] w (ReadPost (readS rq most b) w) := by
 have HBS : Aside0 (b.length ≤ 1073741824) := ⟨hbl⟩
 have HCb := Aside0.mk hr
 have Hc := Aside0.mk hc
 obtain ⟨L, hL⟩ : ∃ L, L = b.length := ⟨_, rfl⟩
 have HL := Aside0.mk hL
 have hLle : (L : Int) ≤ 1073741824 := by omega
 rw [← hL]
 clear hbl hr hc hL
 go_enter Tryz.func22, Tryz.ntmps22
 go_wp2_with (first
  | (refine bx 6 #[.bool false, .string ⟨#[]⟩, .string ⟨#[]⟩, .int .i64 0, .int .i64 0, .string ⟨#[]⟩, .slice none 0 0] 24 ?_; intro g6 hg6 w6 hbox6 hb6; have HK6' := Aside0.mk hbox6; have HB6' := Aside0.mk hb6; have HG6 := Aside0.mk hg6;  clear hbox6 hb6 hg6)
  | (refine bx 10 #[.bool false, .string ⟨#[]⟩, .string ⟨#[]⟩, .int .i64 0, .int .i64 0, .string ⟨#[]⟩, .slice none 0 0] 24 ?_; intro g10 hg10 w10 hbox10 hb10; have HK10' := Aside0.mk hbox10; have HB10' := Aside0.mk hb10; have HG10 := Aside0.mk hg10; have zsz0 := cz7 hbox10; clear hbox10 hb10 hg10))
 have hne2 : ¬ g6 = g10 := by rw [HG10.out]; have h5 := blk_lt HK6'.out; omega
 have hne1 : ¬ g10 = g6 := fun h => hne2 h.symm
 have HGE6 : Aside0 (w.heap.size ≤ g6) := ⟨by rw [HG6.out]; exact Nat.le_refl _⟩
 have HGE10 : Aside0 (w.heap.size ≤ g10) := ⟨by rw [HG10.out]; exact HB6'.out.size⟩
 have HS10 : Aside0 ((((((((w10.setCell ⟨g10, 0, none⟩ (.bool rq)).setCell ⟨g10, 1, none⟩ (.string ⟨#[]⟩)).setCell ⟨g10, 2, none⟩ (.string ⟨#[]⟩)).setCell ⟨g10, 3, none⟩ (.int .i64 0)).setCell ⟨g10, 4, none⟩ (.int .i64 0)).setCell ⟨g10, 5, none⟩ (.string ⟨#[]⟩)).setCell ⟨g10, 6, none⟩ (.slice none 0 0)).heap[g10]? = some (.cells (hdC (head0 rq) (.slice none 0 0)) 24 (0, 0))) := ⟨blk7 HK10'.out⟩
 have HS6 : Aside0 ((((((((w10.setCell ⟨g10, 0, none⟩ (.bool rq)).setCell ⟨g10, 1, none⟩ (.string ⟨#[]⟩)).setCell ⟨g10, 2, none⟩ (.string ⟨#[]⟩)).setCell ⟨g10, 3, none⟩ (.int .i64 0)).setCell ⟨g10, 4, none⟩ (.int .i64 0)).setCell ⟨g10, 5, none⟩ (.string ⟨#[]⟩)).setCell ⟨g10, 6, none⟩ (.slice none 0 0)).heap[g6]? = some (.cells #[.bool false, .string ⟨#[]⟩, .string ⟨#[]⟩, .int .i64 0, .int .i64 0, .string ⟨#[]⟩, .slice none 0 0] 24 (0, 0))) := ⟨(far7 hne2).trans ((HB10'.out.block g6 (blk_lt HK6'.out)).trans HK6'.out)⟩
 have HBS6 : Aside0 (Below w.heap.size w (((((((w10.setCell ⟨g10, 0, none⟩ (.bool rq)).setCell ⟨g10, 1, none⟩ (.string ⟨#[]⟩)).setCell ⟨g10, 2, none⟩ (.string ⟨#[]⟩)).setCell ⟨g10, 3, none⟩ (.int .i64 0)).setCell ⟨g10, 4, none⟩ (.int .i64 0)).setCell ⟨g10, 5, none⟩ (.string ⟨#[]⟩)).setCell ⟨g10, 6, none⟩ (.slice none 0 0))) := ⟨below7 (below_step HB6'.out HB10'.out) HGE10.out⟩
 clear HK6' HB6' HG6 HK10' HB10' HG10 zsz0
 generalize (((((((w10.setCell ⟨g10, 0, none⟩ (.bool rq)).setCell ⟨g10, 1, none⟩ (.string ⟨#[]⟩)).setCell ⟨g10, 2, none⟩ (.string ⟨#[]⟩)).setCell ⟨g10, 3, none⟩ (.int .i64 0)).setCell ⟨g10, 4, none⟩ (.int .i64 0)).setCell ⟨g10, 5, none⟩ (.string ⟨#[]⟩)).setCell ⟨g10, 6, none⟩ (.slice none 0 0)) = W6 at HS10 HS6 HBS6 ⊢
 go_loopw [11, 12, 23] (fun x11 x12 x23 wr => ∃ (i o : Nat) (p : Par) (v : Value), x11 = .int .i64 (o : Int) ∧ x12 = .int .i64 p.lines ∧ x23 = .int .i64 (i : Int) ∧ Aside0 (wr.heap[g6]? = some (.cells #[.bool false, .string ⟨#[]⟩, .string ⟨#[]⟩, .int .i64 0, .int .i64 0, .string ⟨#[]⟩, .slice none 0 0] 24 (0, 0))) ∧ Aside0 (wr.heap[g10]? = some (.cells (hdC p.hd v) 24 (0, 0))) ∧ Aside0 (fldK.R 45 wr w.heap.size (fun k => k ≠ g6 ∧ k ≠ g10) v p.hd.f6) ∧ Aside0 (Below w.heap.size w wr) ∧ Aside0 (At rq most b i o p) ∧ Aside0 (readS rq most b = outS (feedP p (b.drop i) i) b.length)) (fun _ _ x23 _ => b.length - (intOf x23).toNat)
 case atStart => exact ⟨0, 0, newPar rq most, .slice none 0 0, rfl, rfl, rfl, HS6, HS10, ⟨Kd.R_nil _ _ _ _ _⟩, HBS6, ⟨At.new rq most b⟩, ⟨rfl⟩⟩
 case round =>
  obtain ⟨i, o, p, v, rfl, rfl, rfl, HK6, HK10, HRo, HB, HAt, HFe⟩ := hrel
  clear HS6 HS10 HBS6
  obtain ⟨A1, c1, rfl, _⟩ := Kd.R_reads HRo.out
  obtain ⟨n, hn⟩ : ∃ n, n = p.hd.f6.length := ⟨_, rfl⟩
  rw [← hn] at HK10 HRo
  clear hn
  have hk6 := HK6.out
  have hk10 := HK10.out
  have zcz0 := cz7 hk6
  have zaz0 := cz7 hk10
  clear hk6 hk10
  have hil : (i : Int) ≤ L := by have := HAt.out.ib; have := HL.out; omega
  have hoi : (o : Int) ≤ (i : Int) := by have := HAt.out.oi; omega
  by_cases hlt : (i : Int) < L
  ·have HLT : Aside0 (i < b.length) := ⟨by have := HL.out; omega⟩
   obtain ⟨c5, hc5⟩ : ∃ c5, c5 = rd b (i : Int) := ⟨_, rfl⟩
   have HCc := Aside0.mk hc5
   have hCw := Kd.C_below HCb.out HB.out
   have hltb : (i : Int) < (b.length : Int) := by have := HLT.out; omega
   obtain ⟨ad, eA, hx⟩ := Kd.at_int hCw (i : Int) (by omega) hltb
   cases eA
   rw [Int.toNat_natCast, ← hc5] at hx
   clear hc5
   by_cases hlt' : o < i
   ·have hlt2 : (o : Int) < (i : Int) := by omega
    obtain ⟨im, him⟩ : ∃ im, im = i - 1 := ⟨_, rfl⟩
    have hsub0 : IntKind.i64.wrap ((i : Int) - 1) = (im : Int) := by rw [IntWalk.i64_in _ (by omega)]; omega
    have him0 : (0 : Int) ≤ (im : Int) := by omega
    have e1 : (i : Int) - 1 = (im : Int) := by omega
    obtain ⟨ad2, eA2, hx2⟩ := Kd.at_int hCw (im : Int) (by omega) (by omega)
    clear hltb
    cases eA2
    obtain ⟨q13, hq13'⟩ : ∃ q13, q13 = rd b (im : Int) := ⟨_, rfl⟩
    rw [Int.toNat_natCast, ← hq13'] at hx2
    have himl : (im : Int) < L := by omega
    have HIm := Aside0.mk him
    have HQ13 : Aside0 (rd b ((i : Int) - 1) = q13) := ⟨by rw [e1, ← hq13']⟩
    clear hCw hq13' e1
    by_cases h13q : q13 = 13
    ·have b13q : (q13 == 13) = true := by simpa using h13q
     have HAf : Aside0 ((decide (o < i) && (rd b ((i : Int) - 1) == 13)) = true) := ⟨by rw [decide_eq_true hlt', HQ13.out, b13q]; rfl⟩
     clear him
     by_cases h10 : c5 = 10
     ·have b10 : (c5 == 10) = true := by simpa using h10
      have n10 : (c5 != 10) = false := by rw [h10]; rfl
      by_cases hov : (i : Int) + 1 > most
      ·have hov2 : most < (i : Int) + 1 := hov
       have HOv := Aside0.mk hov
       have HRES : Aside0 (readS rq most b = (head0 false, (i : Int) + 1, false, 85)) := ⟨HFe.out.trans (HAt.out.over HLT.out (by rw [← HCc.out, HAf.out, b10]; decide) (.inl HOv.out))⟩
       go_wp2
       refine bodyPost_ret (results_cttt rfl _ _ g6 24 #[.bool false, .string ⟨#[]⟩, .string ⟨#[]⟩, .int .i64 0, .int .i64 0, .string ⟨#[]⟩, .slice none 0 0] (0, 0) _ rfl (blk7 (HK6.out)) Tryz.underlying24 rfl (by kernel_rfl)) rfl ?_
       exact read_post (x := head0 false) (HRES.out) (.slice none 0 0) (Kd.R_nil _ _ _ _ _) (below7 (HB.out) HGE6.out)
      ·have hov2 : ¬ most < (i : Int) + 1 := hov
       have HNL : Aside0 (¬ ((i : Int) + 1 > most ∨ (¬ c5 = 10 ∧ ¬ c5 = 13 ∧ (i : Int) - (o : Int) + 1 > 8192))) := ⟨by rintro (h5 | h5); exact hov h5; exact h5.1 h10⟩
       clear hov
       obtain ⟨p1, hp1h, hp1s, hp1l, hp1w, he1, he2, he3⟩ := (HAt.out.endl (N := b.length) HLT.out (by rw [← HCc.out, HAf.out, b10]; decide) (by rw [← HCc.out]; exact HNL.out) (by rw [← HCc.out]; exact h10)).2
       have hoi1 : o + 1 ≤ i := by omega
       have him1 := HIm.out
       have hoi2 : o ≤ im := by omega
       have hic : im ≤ c := by have := Hc.out; have := HLT.out; omega
       obtain ⟨tx, htx⟩ : ∃ tx, tx = strOfNums ((b.drop o).take (im - o)) := ⟨_, rfl⟩
       have etx : bytesS (lineTx b o i) = tx.data.toList := by rw [htx]; unfold bytesS lineTx; rw [him1]
       rw [etx] at he1 he2 he3
       have hst := HAt.out.begun
       have HCv : Aside0 (∀ W, Below w.heap.size w W → (convert 33 9 (.slice (if c = o then some ad else some (ad.add o)) (im - o) (c - o))).run Tryz.prog W = .ok (.string tx) W) := ⟨fun W hW => by rw [htx]; exact line_conv (Kd.C_below HCb.out hW) c o im Hc.out (by omega) (by have := HLT.out; omega)⟩
       have htl : tx.size ≤ 1099511627776 := by rw [htx, strOfNums_size, List.length_take, List.length_drop]; have := HBS.out; omega
       obtain ⟨own, hown⟩ : ∃ own, own = (Value.slice A1 n c1).ownBlock := ⟨_, rfl⟩
       have HOw : Aside0 ((Value.slice A1 n c1).ownBlock = own) := ⟨hown.symm⟩
       have HOwn : Aside0 (∀ k, some k = own → (k = g10 ∨ wr.heap.size ≤ k) → False) := ⟨fun k hk hkk => by
        have h5 := HRo.out.1 k (by rw [← hown]; exact hk.symm)
        have h6 := own_lt_ HRo.out k (by rw [← hown]; exact hk.symm)
        rcases hkk with h7 | h7
        ·exact h5.2 h7
        ·omega⟩
       have HOw6 : Aside0 (some g6 ≠ own) := ⟨fun e => (HRo.out.1 g6 (by rw [← hown]; exact e.symm)).1 rfl⟩
       have HOw10 : Aside0 (some g10 ≠ own) := ⟨fun e => HOwn.out g10 e (.inl rfl)⟩
       have HLn0 : ∀ (W : World) (ok : Nat → Prop), Below wr.heap.size wr W → (∀ k, k < wr.heap.size → k ≠ g6 → k ≠ g10 → ok k) → (∀ k, W.heap.size ≤ k → ok k) → Calls Tryz.prog 29 #[.agg #[.bool p.hd.f0, .string p.hd.f1, .string p.hd.f2, .int .i64 p.hd.f3, .int .i64 p.hd.f4, .string p.hd.f5, .slice A1 n c1], .int .i64 (p.lines + 1), .string tx] W (LineP W W w.heap.size ok (.slice A1 n c1) (lineS p1 tx.data.toList).1.hd (decide ((lineS p1 tx.data.toList).2 = 0) && (lineS p1 tx.data.toList).1.whole) (lineS p1 tx.data.toList).2) := fun W ok hW hok hfr => by
        have h5 := rline_calls W W w.heap.size ok rq p1 A1 n c1 tx (by rw [hp1h]; exact Kd.R_mono (Kd.R_step (Kd.R_bound HRo.out) (fun k hk hl => hW.block k hl)) (fun k hk => hok k hk.2.2.1 hk.1.1 hk.1.2)) (Below.refl _ _) (Nat.le_trans HB.out.size hW.size) hfr htl hp1w (by rw [hp1s, hp1h]; exact hst)
        rw [hp1h, hp1l] at h5
        exact h5
       obtain ⟨y, hy⟩ : ∃ y, y = (lineS p1 tx.data.toList).1.hd := ⟨_, rfl⟩
       obtain ⟨er, her⟩ : ∃ er, er = (lineS p1 tx.data.toList).2 := ⟨_, rfl⟩
       obtain ⟨wh, hwh⟩ : ∃ wh, wh = (lineS p1 tx.data.toList).1.whole := ⟨_, rfl⟩
       rw [← hy, ← her, ← hwh] at HLn0
       rw [← her] at he1 he2 he3
       rw [← hwh] at he2 he3
       rw [← hy] at he2 he3
       have HLi : Aside0 (0 ≤ p.lines ∧ p.lines ≤ (i : Int)) := ⟨HAt.out.inv.li⟩
       have hli : IntKind.i64.wrap (p.lines + 1) = p.lines + 1 := IntWalk.i64_in _ (by have := HLi.out; omega)
       have Hp1l := Aside0.mk hp1l
       clear hst htx etx hown hp1h hp1s hp1w hp1l hy htl him1
       by_cases he : er = 0
       ·have he3' := he3 he
        have he2' := he2 he
        have HE0 := Aside0.mk he
        have bne : (er != 0) = false := by rw [he]; rfl
        simp only [decide_eq_true he, Bool.true_and] at HLn0
        clear he1 he2 he3 he
        cases wh with
        | true =>
         have HRes : Aside0 (readS rq most b = (y, (i : Int) + 1, true, 0)) := ⟨HFe.out.trans (he2' rfl)⟩
         have HLn := Aside0.mk HLn0
         clear he2' he3' HLn0 hwh her
         go_wp2_with fail
         have FB : Aside0 (Below wr.heap.size wr wr.drew) := ⟨below_drew (Below.refl _ _)⟩
         refine start_ (n := 17) (S := fun w' => w'.cell? ⟨g10, 0, none⟩ = some (.bool p.hd.f0) ∧ w'.cell? ⟨g10, 1, none⟩ = some (.string p.hd.f1) ∧ w'.cell? ⟨g10, 2, none⟩ = some (.string p.hd.f2) ∧ w'.cell? ⟨g10, 3, none⟩ = some (.int .i64 p.hd.f3) ∧ w'.cell? ⟨g10, 4, none⟩ = some (.int .i64 p.hd.f4) ∧ w'.cell? ⟨g10, 5, none⟩ = some (.string p.hd.f5) ∧ w'.cell? ⟨g10, 6, none⟩ = some (.slice A1 n c1) ∧ (convert 33 9 (.slice (if c = o then some ad else some (ad.add o)) (im - o) (c - o))).run Tryz.prog w' = .ok (.string tx) w') (ds := []) (lb 17 0) (by kernel_rfl) rfl rfl ((by have hk := (FB.out.block g10 (blk_lt HK10.out)).trans HK10.out; exact ⟨(blk_cell hk 0).trans rfl, (blk_cell hk 1).trans rfl, (blk_cell hk 2).trans rfl, (blk_cell hk 3).trans rfl, (blk_cell hk 4).trans rfl, (blk_cell hk 5).trans rfl, (blk_cell hk 6).trans rfl, HCv.out _ (below_step HB.out FB.out)⟩)) (fun hHeld => ?_)
         generalize wr.drew = wa at FB hHeld ⊢
         refine pv 1 74 (lb 17 2) ?_
         refine pv 2 75 (lb 17 6) ?_
         refine pv 3 76 (lb 17 14) ?_
         refine pv 4 77 (lb 17 30) ?_
         refine pv 5 78 (lb 17 62) ?_
         refine pv 6 79 (lb 17 126) ?_
         refine tv hHeld 0 73 (lb 17 127) ?_
         refine tv hHeld 7 80 (lb 17 255) ?_
         refine join_ (σ := Nat × Head × Option Addr × Nat × Nat) 3 (lb 17 16383) (fun s_ => [(81, .tuple #[.agg #[.bool s_.2.1.f0, .string s_.2.1.f1, .string s_.2.1.f2, .int .i64 s_.2.1.f3, .int .i64 s_.2.1.f4, .string s_.2.1.f5, .slice s_.2.2.1 s_.2.2.2.1 s_.2.2.2.2], .bool true, .int .i64 er]), (72, .tuple #[.agg #[.bool s_.2.1.f0, .string s_.2.1.f1, .string s_.2.1.f2, .int .i64 s_.2.1.f3, .int .i64 s_.2.1.f4, .string s_.2.1.f5, .slice s_.2.2.1 s_.2.2.2.1 s_.2.2.2.2], .bool true, .int .i64 er]), (82, .agg #[.bool s_.2.1.f0, .string s_.2.1.f1, .string s_.2.1.f2, .int .i64 s_.2.1.f3, .int .i64 s_.2.1.f4, .string s_.2.1.f5, .slice s_.2.2.1 s_.2.2.2.1 s_.2.2.2.2]), (83, .bool true), (84, .int .i64 er), (16, .pointer (some ⟨s_.1, 0, none⟩))]) (fun s_ w' => w'.heap[s_.1]? = some (.cells #[.bool false, .string ⟨#[]⟩, .string ⟨#[]⟩, .int .i64 0, .int .i64 0, .string ⟨#[]⟩, .slice none 0 0] 24 (0, 0)) ∧ (er = 0 → s_.2.1 = y ∧ fldK.R 45 w' w.heap.size (fun k => k ≠ g6 ∧ k ≠ g10 ∧ k ≠ s_.1) (.slice s_.2.2.1 s_.2.2.2.1 s_.2.2.2.2) s_.2.1.f6) ∧ KeepR own w wr w' ∧ wr.heap.size ≤ s_.1) ?_ ?_
         rotate_left
         ·intro hCont
          refine two_ (i := 8) (j := 13) (Ni := some 81) (Nj := some 16) (lb 17 511) (lb 17 8447) rfl rfl rfl rfl (by kernel_rfl) (by decide) (by decide) (fun K hK => ?_) (fun K hK => ?_)
          ·skip
           refine goes_ Tryz.func29 (by kernel_rfl) rfl #[.agg #[.bool p.hd.f0, .string p.hd.f1, .string p.hd.f2, .int .i64 p.hd.f3, .int .i64 p.hd.f4, .string p.hd.f5, .slice A1 n c1], .int .i64 (p.lines + 1), .string tx] (by rfl) rfl rfl (by (try simp only [List.map_toArray, List.map_cons, List.map_nil]); first | done | rfl) ?_
           with_reducible refine (HLn.out _ (fun k => k ≠ g6 ∧ k ≠ g10) FB.out (fun k hk h6 h10 => ⟨h6, h10⟩) (fun k hk => by have h5 := blk_lt HK6.out; have h6 := blk_lt HK10.out; have h7 := FB.out.size; exact ⟨by omega, by omega⟩)).mono ?_
           rintro e wd ⟨x, v9, rfl, hx, ⟨A9, n9, c9, rfl⟩, hb, hsz, hkp⟩
           refine ⟨_, rfl, ?_⟩
           have FC : Aside0 (KeepR own w wr wd) := ⟨KeepR.line ⟨FB.out.size, fun k hk _ => FB.out.block k hk, below_step HB.out FB.out⟩ ((below_step HB.out FB.out).trans hb) hsz (fun k hk hn => hkp k hk (by rw [HOw.out]; exact hn))⟩
           have FX := Aside0.mk hx
           clear FB hx hb hsz hkp
           refine hK.out _ _ ((by have hk := (FC.out.keep g10 (blk_lt HK10.out) (fun e => HOwn.out g10 e (Or.inl rfl))).trans HK10.out; exact ⟨(blk_cell hk 0).trans rfl, (blk_cell hk 1).trans rfl, (blk_cell hk 2).trans rfl, (blk_cell hk 3).trans rfl, (blk_cell hk 4).trans rfl, (blk_cell hk 5).trans rfl, (blk_cell hk 6).trans rfl, HCv.out _ FC.out.below⟩)) (fun hHeld => ?_)
           clear hK K
           refine norm_ (a' := ?_) ?_ ?_
           rotate_left
           ·show Act.put _ (some 81) _ = _
            simp only [Act.put, List.setIfInBounds_toArray, List.set_cons_zero, List.set_cons_succ, i64_w, i32_w]
            rfl
           refine pv 9 72 (lb 17 1023) ?_
           refine pv 10 82 (lb 17 2047) ?_
           refine pv 11 83 (lb 17 4095) ?_
           refine pv 12 84 (lb 17 8191) ?_
           refine one_ (i := 13) (N := some 16) (lb 17 16383) rfl rfl (by kernel_rfl) (by decide) (fun K hK => ?_)
           refine box_step ?hg (N := 16) ?hd (cs := #[.bool false, .string ⟨#[]⟩, .string ⟨#[]⟩, .int .i64 0, .int .i64 0, .string ⟨#[]⟩, .slice none 0 0]) (t := 24) ?hr ?_; (case hd => rfl); (case hg => rfl); (case hr => first | (go_simp; done) | (go_simp; rfl))
           intro g hg we hbox hb
           have FG : Aside0 (wr.heap.size ≤ g) := ⟨by have h5 := FC.out.size; omega⟩
           have FX2 : Aside0 (er = 0 → x = y ∧ fldK.R 45 we w.heap.size (fun k => k ≠ g6 ∧ k ≠ g10 ∧ k ≠ g) (.slice A9 n9 c9) x.f6) := ⟨fun he => ⟨(FX.out he).1, R_new (FX.out he).2 hb (by omega)⟩⟩
           have FC2 := Aside0.mk (FC.out.step hb)
           clear FC FX
           have FC := FC2
           have FX := FX2
           clear FC2 FX2
           have FZ := Aside0.mk hbox
           clear hg hbox hb
           refine hK.out _ _ ((by have hk := (FC.out.keep g10 (blk_lt HK10.out) (fun e => HOwn.out g10 e (Or.inl rfl))).trans HK10.out; exact ⟨(blk_cell hk 0).trans rfl, (blk_cell hk 1).trans rfl, (blk_cell hk 2).trans rfl, (blk_cell hk 3).trans rfl, (blk_cell hk 4).trans rfl, (blk_cell hk 5).trans rfl, (blk_cell hk 6).trans rfl, HCv.out _ FC.out.below⟩)) (fun hHeld => ?_)
           clear hK K
           refine norm_ (a' := ?_) ?_ ?_
           rotate_left
           ·show Act.put _ (some 16) _ = _
            simp only [Act.put, List.setIfInBounds_toArray, List.set_cons_zero, List.set_cons_succ, i64_w, i32_w]
            rfl
           exact norm_ (by simp only [putAll, Act.put, List.setIfInBounds_toArray, List.set_cons_zero, List.set_cons_succ]; try rfl) (hCont (g, x, A9, n9, c9) _ ⟨FZ.out, FX.out, FC.out, FG.out⟩)
          ·skip
           refine box_step ?hg (N := 16) ?hd (cs := #[.bool false, .string ⟨#[]⟩, .string ⟨#[]⟩, .int .i64 0, .int .i64 0, .string ⟨#[]⟩, .slice none 0 0]) (t := 24) ?hr ?_; (case hd => rfl); (case hg => rfl); (case hr => first | (go_simp; done) | (go_simp; rfl))
           intro g hg we hbox hb
           have FG : Aside0 (wr.heap.size ≤ g) := ⟨by have h5 := FB.out.size; omega⟩
           have FB2 := Aside0.mk (below_step FB.out hb)
           clear FB
           have FB := FB2
           clear FB2
           have FZ := Aside0.mk hbox
           clear hg hbox hb
           refine hK.out _ _ ((by have hk := (FB.out.block g10 (blk_lt HK10.out)).trans HK10.out; exact ⟨(blk_cell hk 0).trans rfl, (blk_cell hk 1).trans rfl, (blk_cell hk 2).trans rfl, (blk_cell hk 3).trans rfl, (blk_cell hk 4).trans rfl, (blk_cell hk 5).trans rfl, (blk_cell hk 6).trans rfl, HCv.out _ (below_step HB.out FB.out)⟩)) (fun hHeld => ?_)
           clear hK K
           refine norm_ (a' := ?_) ?_ ?_
           rotate_left
           ·show Act.put _ (some 16) _ = _
            simp only [Act.put, List.setIfInBounds_toArray, List.set_cons_zero, List.set_cons_succ, i64_w, i32_w]
            rfl
           refine one_ (i := 8) (N := some 81) (lb 17 8703) rfl rfl (by kernel_rfl) (by decide) (fun K hK => ?_)
           refine goes_ Tryz.func29 (by kernel_rfl) rfl #[.agg #[.bool p.hd.f0, .string p.hd.f1, .string p.hd.f2, .int .i64 p.hd.f3, .int .i64 p.hd.f4, .string p.hd.f5, .slice A1 n c1], .int .i64 (p.lines + 1), .string tx] (by rfl) rfl rfl (by (try simp only [List.map_toArray, List.map_cons, List.map_nil]); first | done | rfl) ?_
           with_reducible refine (HLn.out _ (fun k => k ≠ g6 ∧ k ≠ g10 ∧ k ≠ g) FB.out (fun k hk h6 h10 => ⟨h6, h10, by have := FG.out; omega⟩) (fun k hk => by have h5 := blk_lt HK6.out; have h6 := blk_lt HK10.out; have h7 := FB.out.size; have h8 := blk_lt FZ.out; exact ⟨by omega, by omega, by omega⟩)).mono ?_
           rintro e wd ⟨x, v9, rfl, hx, ⟨A9, n9, c9, rfl⟩, hb, hsz, hkp⟩
           refine ⟨_, rfl, ?_⟩
           have FC : Aside0 (KeepR own w wr wd) := ⟨KeepR.line ⟨FB.out.size, fun k hk _ => FB.out.block k hk, below_step HB.out FB.out⟩ ((below_step HB.out FB.out).trans hb) hsz (fun k hk hn => hkp k hk (by rw [HOw.out]; exact hn))⟩
           have FX := Aside0.mk hx
           have FZ2 := Aside0.mk ((hkp g (blk_lt FZ.out) (fun e => HOwn.out g (by rw [← HOw.out]; exact e) (Or.inr FG.out))).trans FZ.out)
           clear FZ
           have FZ := FZ2
           clear FZ2
           clear FB hx hb hsz hkp
           refine hK.out _ _ ((by have hk := (FC.out.keep g10 (blk_lt HK10.out) (fun e => HOwn.out g10 e (Or.inl rfl))).trans HK10.out; exact ⟨(blk_cell hk 0).trans rfl, (blk_cell hk 1).trans rfl, (blk_cell hk 2).trans rfl, (blk_cell hk 3).trans rfl, (blk_cell hk 4).trans rfl, (blk_cell hk 5).trans rfl, (blk_cell hk 6).trans rfl, HCv.out _ FC.out.below⟩)) (fun hHeld => ?_)
           clear hK K
           refine norm_ (a' := ?_) ?_ ?_
           rotate_left
           ·show Act.put _ (some 81) _ = _
            simp only [Act.put, List.setIfInBounds_toArray, List.set_cons_zero, List.set_cons_succ, i64_w, i32_w]
            rfl
           refine pv 9 72 (lb 17 9215) ?_
           refine pv 10 82 (lb 17 10239) ?_
           refine pv 11 83 (lb 17 12287) ?_
           refine pv 12 84 (lb 17 16383) ?_
           exact norm_ (by simp only [putAll, Act.put, List.setIfInBounds_toArray, List.set_cons_zero, List.set_cons_succ]; try rfl) (hCont (g, x, A9, n9, c9) _ ⟨FZ.out, FX.out, FC.out, FG.out⟩)
         rintro ⟨g, x, A9, n9, c9⟩ wf ⟨hz, hx, hk, hg⟩
         simp only at hz hx hk hg ⊢
         clear FB
         have FC := Aside0.mk hk
         have FX := Aside0.mk hx
         have FG := Aside0.mk hg
         have hHeld : (fun w' => w'.cell? ⟨g10, 0, none⟩ = some (.bool p.hd.f0) ∧ w'.cell? ⟨g10, 1, none⟩ = some (.string p.hd.f1) ∧ w'.cell? ⟨g10, 2, none⟩ = some (.string p.hd.f2) ∧ w'.cell? ⟨g10, 3, none⟩ = some (.int .i64 p.hd.f3) ∧ w'.cell? ⟨g10, 4, none⟩ = some (.int .i64 p.hd.f4) ∧ w'.cell? ⟨g10, 5, none⟩ = some (.string p.hd.f5) ∧ w'.cell? ⟨g10, 6, none⟩ = some (.slice A1 n c1) ∧ (convert 33 9 (.slice (if c = o then some ad else some (ad.add o)) (im - o) (c - o))).run Tryz.prog w' = .ok (.string tx) w') wf := (by have hk := (FC.out.keep g10 (blk_lt HK10.out) (fun e => HOwn.out g10 e (Or.inl rfl))).trans HK10.out; exact ⟨(blk_cell hk 0).trans rfl, (blk_cell hk 1).trans rfl, (blk_cell hk 2).trans rfl, (blk_cell hk 3).trans rfl, (blk_cell hk 4).trans rfl, (blk_cell hk 5).trans rfl, (blk_cell hk 6).trans rfl, HCv.out _ FC.out.below⟩)
         have zz0 := cz7 hz
         have FZ := Aside0.mk hz
         clear hz hx hk hg
         try dsimp only
         refine norm_ (a' := ?_) ?_ ?_
         rotate_left
         ·simp only [putAll, Act.put, List.setIfInBounds_toArray, List.set_cons_zero, List.set_cons_succ]
          rfl
         refine one_ (i := 14) (N := none) (lb 17 32767) rfl rfl (by kernel_rfl) (by decide) (fun K hK => ?_)
         refine skip_ (w1 := ?_) (by rfl) rfl ?_ ?_
         rotate_left
         ·go_simp
          rfl
         obtain ⟨w9, hw9, hz, hk, hx⟩ := rd_put (er := er) (g6 := g6) (g10 := g10) (y := y) FZ.out FC.out FG.out HB.out.size FX.out
         rw [← hw9]
         clear hw9 FC FX FZ hHeld zz0
         have FC := Aside0.mk hk
         have FZ := Aside0.mk hz
         have FX := Aside0.mk hx
         clear hz hk hx
         refine hK.out _ _ ((by have hk := (FC.out.keep g10 (blk_lt HK10.out) (fun e => HOwn.out g10 e (Or.inl rfl))).trans HK10.out; exact ⟨(blk_cell hk 0).trans rfl, (blk_cell hk 1).trans rfl, (blk_cell hk 2).trans rfl, (blk_cell hk 3).trans rfl, (blk_cell hk 4).trans rfl, (blk_cell hk 5).trans rfl, (blk_cell hk 6).trans rfl, HCv.out _ FC.out.below⟩)) (fun hHeld => ?_)
         clear hK K
         refine pv 15 17 (lb 17 65535) ?_
         refine pv 16 18 (lb 17 131071) ?_
         refine done_ (by kernel_rfl) ?_
         have hk9 := FZ.out
         have hk6 := (FC.out.keep g6 (blk_lt HK6.out) HOw6.out).trans HK6.out
         have K6 := Aside0.mk hk6
         have hng : ¬ g6 = g := by have := blk_lt HK6.out; have := FG.out; omega
         have hng2 : ¬ g = g6 := fun e => hng e.symm
         clear hHeld zaz0 zcz0
         have zcz0 := cz7 hk6
         have zdz0 := cz7 hk9
         clear hk6 hk9
         go_wp2
         all_goals
                   refine bodyPost_ret (results_cttt rfl _ _ g6 24 (hdC x (.slice A9 n9 c9)) (0, 0) _ rfl (blk7 K6.out) Tryz.underlying24 rfl (by kernel_rfl)) rfl ?_
                   have hxy := (FX.out HE0.out).1
                   refine read_post (x := x) (by rw [HRes.out, hxy]) (.slice A9 n9 c9) (Kd.R_mono (Kd.R_step (FX.out HE0.out).2 (fun k hk _ => far7 hk.1)) (fun _ _ => trivial)) (below7 FC.out.below HGE6.out)
        | false =>
         obtain ⟨q, hqh, hqs, hql, hqF, hqA⟩ := he3' rfl
         have HRes := Aside0.mk (HFe.out.trans hqF)
         have Hqh := Aside0.mk hqh
         have Hql := Aside0.mk hql
         have HqA := Aside0.mk hqA
         have HLn := Aside0.mk HLn0
         clear he2' he3' HLn0 hwh her hqh hqs hql hqF hqA
         go_wp2_with fail
         have FB : Aside0 (Below wr.heap.size wr wr.drew) := ⟨below_drew (Below.refl _ _)⟩
         refine start_ (n := 17) (S := fun w' => w'.cell? ⟨g10, 0, none⟩ = some (.bool p.hd.f0) ∧ w'.cell? ⟨g10, 1, none⟩ = some (.string p.hd.f1) ∧ w'.cell? ⟨g10, 2, none⟩ = some (.string p.hd.f2) ∧ w'.cell? ⟨g10, 3, none⟩ = some (.int .i64 p.hd.f3) ∧ w'.cell? ⟨g10, 4, none⟩ = some (.int .i64 p.hd.f4) ∧ w'.cell? ⟨g10, 5, none⟩ = some (.string p.hd.f5) ∧ w'.cell? ⟨g10, 6, none⟩ = some (.slice A1 n c1) ∧ (convert 33 9 (.slice (if c = o then some ad else some (ad.add o)) (im - o) (c - o))).run Tryz.prog w' = .ok (.string tx) w') (ds := []) (lb 17 0) (by kernel_rfl) rfl rfl ((by have hk := (FB.out.block g10 (blk_lt HK10.out)).trans HK10.out; exact ⟨(blk_cell hk 0).trans rfl, (blk_cell hk 1).trans rfl, (blk_cell hk 2).trans rfl, (blk_cell hk 3).trans rfl, (blk_cell hk 4).trans rfl, (blk_cell hk 5).trans rfl, (blk_cell hk 6).trans rfl, HCv.out _ (below_step HB.out FB.out)⟩)) (fun hHeld => ?_)
         generalize wr.drew = wa at FB hHeld ⊢
         refine pv 1 74 (lb 17 2) ?_
         refine pv 2 75 (lb 17 6) ?_
         refine pv 3 76 (lb 17 14) ?_
         refine pv 4 77 (lb 17 30) ?_
         refine pv 5 78 (lb 17 62) ?_
         refine pv 6 79 (lb 17 126) ?_
         refine tv hHeld 0 73 (lb 17 127) ?_
         refine tv hHeld 7 80 (lb 17 255) ?_
         refine join_ (σ := Nat × Head × Option Addr × Nat × Nat) 3 (lb 17 16383) (fun s_ => [(81, .tuple #[.agg #[.bool s_.2.1.f0, .string s_.2.1.f1, .string s_.2.1.f2, .int .i64 s_.2.1.f3, .int .i64 s_.2.1.f4, .string s_.2.1.f5, .slice s_.2.2.1 s_.2.2.2.1 s_.2.2.2.2], .bool false, .int .i64 er]), (72, .tuple #[.agg #[.bool s_.2.1.f0, .string s_.2.1.f1, .string s_.2.1.f2, .int .i64 s_.2.1.f3, .int .i64 s_.2.1.f4, .string s_.2.1.f5, .slice s_.2.2.1 s_.2.2.2.1 s_.2.2.2.2], .bool false, .int .i64 er]), (82, .agg #[.bool s_.2.1.f0, .string s_.2.1.f1, .string s_.2.1.f2, .int .i64 s_.2.1.f3, .int .i64 s_.2.1.f4, .string s_.2.1.f5, .slice s_.2.2.1 s_.2.2.2.1 s_.2.2.2.2]), (83, .bool false), (84, .int .i64 er), (16, .pointer (some ⟨s_.1, 0, none⟩))]) (fun s_ w' => w'.heap[s_.1]? = some (.cells #[.bool false, .string ⟨#[]⟩, .string ⟨#[]⟩, .int .i64 0, .int .i64 0, .string ⟨#[]⟩, .slice none 0 0] 24 (0, 0)) ∧ (er = 0 → s_.2.1 = y ∧ fldK.R 45 w' w.heap.size (fun k => k ≠ g6 ∧ k ≠ g10 ∧ k ≠ s_.1) (.slice s_.2.2.1 s_.2.2.2.1 s_.2.2.2.2) s_.2.1.f6) ∧ KeepR own w wr w' ∧ wr.heap.size ≤ s_.1) ?_ ?_
         rotate_left
         ·intro hCont
          refine two_ (i := 8) (j := 13) (Ni := some 81) (Nj := some 16) (lb 17 511) (lb 17 8447) rfl rfl rfl rfl (by kernel_rfl) (by decide) (by decide) (fun K hK => ?_) (fun K hK => ?_)
          ·skip
           refine goes_ Tryz.func29 (by kernel_rfl) rfl #[.agg #[.bool p.hd.f0, .string p.hd.f1, .string p.hd.f2, .int .i64 p.hd.f3, .int .i64 p.hd.f4, .string p.hd.f5, .slice A1 n c1], .int .i64 (p.lines + 1), .string tx] (by rfl) rfl rfl (by (try simp only [List.map_toArray, List.map_cons, List.map_nil]); first | done | rfl) ?_
           with_reducible refine (HLn.out _ (fun k => k ≠ g6 ∧ k ≠ g10) FB.out (fun k hk h6 h10 => ⟨h6, h10⟩) (fun k hk => by have h5 := blk_lt HK6.out; have h6 := blk_lt HK10.out; have h7 := FB.out.size; exact ⟨by omega, by omega⟩)).mono ?_
           rintro e wd ⟨x, v9, rfl, hx, ⟨A9, n9, c9, rfl⟩, hb, hsz, hkp⟩
           refine ⟨_, rfl, ?_⟩
           have FC : Aside0 (KeepR own w wr wd) := ⟨KeepR.line ⟨FB.out.size, fun k hk _ => FB.out.block k hk, below_step HB.out FB.out⟩ ((below_step HB.out FB.out).trans hb) hsz (fun k hk hn => hkp k hk (by rw [HOw.out]; exact hn))⟩
           have FX := Aside0.mk hx
           clear FB hx hb hsz hkp
           refine hK.out _ _ ((by have hk := (FC.out.keep g10 (blk_lt HK10.out) (fun e => HOwn.out g10 e (Or.inl rfl))).trans HK10.out; exact ⟨(blk_cell hk 0).trans rfl, (blk_cell hk 1).trans rfl, (blk_cell hk 2).trans rfl, (blk_cell hk 3).trans rfl, (blk_cell hk 4).trans rfl, (blk_cell hk 5).trans rfl, (blk_cell hk 6).trans rfl, HCv.out _ FC.out.below⟩)) (fun hHeld => ?_)
           clear hK K
           refine norm_ (a' := ?_) ?_ ?_
           rotate_left
           ·show Act.put _ (some 81) _ = _
            simp only [Act.put, List.setIfInBounds_toArray, List.set_cons_zero, List.set_cons_succ, i64_w, i32_w]
            rfl
           refine pv 9 72 (lb 17 1023) ?_
           refine pv 10 82 (lb 17 2047) ?_
           refine pv 11 83 (lb 17 4095) ?_
           refine pv 12 84 (lb 17 8191) ?_
           refine one_ (i := 13) (N := some 16) (lb 17 16383) rfl rfl (by kernel_rfl) (by decide) (fun K hK => ?_)
           refine box_step ?hg (N := 16) ?hd (cs := #[.bool false, .string ⟨#[]⟩, .string ⟨#[]⟩, .int .i64 0, .int .i64 0, .string ⟨#[]⟩, .slice none 0 0]) (t := 24) ?hr ?_; (case hd => rfl); (case hg => rfl); (case hr => first | (go_simp; done) | (go_simp; rfl))
           intro g hg we hbox hb
           have FG : Aside0 (wr.heap.size ≤ g) := ⟨by have h5 := FC.out.size; omega⟩
           have FX2 : Aside0 (er = 0 → x = y ∧ fldK.R 45 we w.heap.size (fun k => k ≠ g6 ∧ k ≠ g10 ∧ k ≠ g) (.slice A9 n9 c9) x.f6) := ⟨fun he => ⟨(FX.out he).1, R_new (FX.out he).2 hb (by omega)⟩⟩
           have FC2 := Aside0.mk (FC.out.step hb)
           clear FC FX
           have FC := FC2
           have FX := FX2
           clear FC2 FX2
           have FZ := Aside0.mk hbox
           clear hg hbox hb
           refine hK.out _ _ ((by have hk := (FC.out.keep g10 (blk_lt HK10.out) (fun e => HOwn.out g10 e (Or.inl rfl))).trans HK10.out; exact ⟨(blk_cell hk 0).trans rfl, (blk_cell hk 1).trans rfl, (blk_cell hk 2).trans rfl, (blk_cell hk 3).trans rfl, (blk_cell hk 4).trans rfl, (blk_cell hk 5).trans rfl, (blk_cell hk 6).trans rfl, HCv.out _ FC.out.below⟩)) (fun hHeld => ?_)
           clear hK K
           refine norm_ (a' := ?_) ?_ ?_
           rotate_left
           ·show Act.put _ (some 16) _ = _
            simp only [Act.put, List.setIfInBounds_toArray, List.set_cons_zero, List.set_cons_succ, i64_w, i32_w]
            rfl
           exact norm_ (by simp only [putAll, Act.put, List.setIfInBounds_toArray, List.set_cons_zero, List.set_cons_succ]; try rfl) (hCont (g, x, A9, n9, c9) _ ⟨FZ.out, FX.out, FC.out, FG.out⟩)
          ·skip
           refine box_step ?hg (N := 16) ?hd (cs := #[.bool false, .string ⟨#[]⟩, .string ⟨#[]⟩, .int .i64 0, .int .i64 0, .string ⟨#[]⟩, .slice none 0 0]) (t := 24) ?hr ?_; (case hd => rfl); (case hg => rfl); (case hr => first | (go_simp; done) | (go_simp; rfl))
           intro g hg we hbox hb
           have FG : Aside0 (wr.heap.size ≤ g) := ⟨by have h5 := FB.out.size; omega⟩
           have FB2 := Aside0.mk (below_step FB.out hb)
           clear FB
           have FB := FB2
           clear FB2
           have FZ := Aside0.mk hbox
           clear hg hbox hb
           refine hK.out _ _ ((by have hk := (FB.out.block g10 (blk_lt HK10.out)).trans HK10.out; exact ⟨(blk_cell hk 0).trans rfl, (blk_cell hk 1).trans rfl, (blk_cell hk 2).trans rfl, (blk_cell hk 3).trans rfl, (blk_cell hk 4).trans rfl, (blk_cell hk 5).trans rfl, (blk_cell hk 6).trans rfl, HCv.out _ (below_step HB.out FB.out)⟩)) (fun hHeld => ?_)
           clear hK K
           refine norm_ (a' := ?_) ?_ ?_
           rotate_left
           ·show Act.put _ (some 16) _ = _
            simp only [Act.put, List.setIfInBounds_toArray, List.set_cons_zero, List.set_cons_succ, i64_w, i32_w]
            rfl
           refine one_ (i := 8) (N := some 81) (lb 17 8703) rfl rfl (by kernel_rfl) (by decide) (fun K hK => ?_)
           refine goes_ Tryz.func29 (by kernel_rfl) rfl #[.agg #[.bool p.hd.f0, .string p.hd.f1, .string p.hd.f2, .int .i64 p.hd.f3, .int .i64 p.hd.f4, .string p.hd.f5, .slice A1 n c1], .int .i64 (p.lines + 1), .string tx] (by rfl) rfl rfl (by (try simp only [List.map_toArray, List.map_cons, List.map_nil]); first | done | rfl) ?_
           with_reducible refine (HLn.out _ (fun k => k ≠ g6 ∧ k ≠ g10 ∧ k ≠ g) FB.out (fun k hk h6 h10 => ⟨h6, h10, by have := FG.out; omega⟩) (fun k hk => by have h5 := blk_lt HK6.out; have h6 := blk_lt HK10.out; have h7 := FB.out.size; have h8 := blk_lt FZ.out; exact ⟨by omega, by omega, by omega⟩)).mono ?_
           rintro e wd ⟨x, v9, rfl, hx, ⟨A9, n9, c9, rfl⟩, hb, hsz, hkp⟩
           refine ⟨_, rfl, ?_⟩
           have FC : Aside0 (KeepR own w wr wd) := ⟨KeepR.line ⟨FB.out.size, fun k hk _ => FB.out.block k hk, below_step HB.out FB.out⟩ ((below_step HB.out FB.out).trans hb) hsz (fun k hk hn => hkp k hk (by rw [HOw.out]; exact hn))⟩
           have FX := Aside0.mk hx
           have FZ2 := Aside0.mk ((hkp g (blk_lt FZ.out) (fun e => HOwn.out g (by rw [← HOw.out]; exact e) (Or.inr FG.out))).trans FZ.out)
           clear FZ
           have FZ := FZ2
           clear FZ2
           clear FB hx hb hsz hkp
           refine hK.out _ _ ((by have hk := (FC.out.keep g10 (blk_lt HK10.out) (fun e => HOwn.out g10 e (Or.inl rfl))).trans HK10.out; exact ⟨(blk_cell hk 0).trans rfl, (blk_cell hk 1).trans rfl, (blk_cell hk 2).trans rfl, (blk_cell hk 3).trans rfl, (blk_cell hk 4).trans rfl, (blk_cell hk 5).trans rfl, (blk_cell hk 6).trans rfl, HCv.out _ FC.out.below⟩)) (fun hHeld => ?_)
           clear hK K
           refine norm_ (a' := ?_) ?_ ?_
           rotate_left
           ·show Act.put _ (some 81) _ = _
            simp only [Act.put, List.setIfInBounds_toArray, List.set_cons_zero, List.set_cons_succ, i64_w, i32_w]
            rfl
           refine pv 9 72 (lb 17 9215) ?_
           refine pv 10 82 (lb 17 10239) ?_
           refine pv 11 83 (lb 17 12287) ?_
           refine pv 12 84 (lb 17 16383) ?_
           exact norm_ (by simp only [putAll, Act.put, List.setIfInBounds_toArray, List.set_cons_zero, List.set_cons_succ]; try rfl) (hCont (g, x, A9, n9, c9) _ ⟨FZ.out, FX.out, FC.out, FG.out⟩)
         rintro ⟨g, x, A9, n9, c9⟩ wf ⟨hz, hx, hk, hg⟩
         simp only at hz hx hk hg ⊢
         clear FB
         have FC := Aside0.mk hk
         have FX := Aside0.mk hx
         have FG := Aside0.mk hg
         have hHeld : (fun w' => w'.cell? ⟨g10, 0, none⟩ = some (.bool p.hd.f0) ∧ w'.cell? ⟨g10, 1, none⟩ = some (.string p.hd.f1) ∧ w'.cell? ⟨g10, 2, none⟩ = some (.string p.hd.f2) ∧ w'.cell? ⟨g10, 3, none⟩ = some (.int .i64 p.hd.f3) ∧ w'.cell? ⟨g10, 4, none⟩ = some (.int .i64 p.hd.f4) ∧ w'.cell? ⟨g10, 5, none⟩ = some (.string p.hd.f5) ∧ w'.cell? ⟨g10, 6, none⟩ = some (.slice A1 n c1) ∧ (convert 33 9 (.slice (if c = o then some ad else some (ad.add o)) (im - o) (c - o))).run Tryz.prog w' = .ok (.string tx) w') wf := (by have hk := (FC.out.keep g10 (blk_lt HK10.out) (fun e => HOwn.out g10 e (Or.inl rfl))).trans HK10.out; exact ⟨(blk_cell hk 0).trans rfl, (blk_cell hk 1).trans rfl, (blk_cell hk 2).trans rfl, (blk_cell hk 3).trans rfl, (blk_cell hk 4).trans rfl, (blk_cell hk 5).trans rfl, (blk_cell hk 6).trans rfl, HCv.out _ FC.out.below⟩)
         have zz0 := cz7 hz
         have FZ := Aside0.mk hz
         clear hz hx hk hg
         try dsimp only
         refine norm_ (a' := ?_) ?_ ?_
         rotate_left
         ·simp only [putAll, Act.put, List.setIfInBounds_toArray, List.set_cons_zero, List.set_cons_succ]
          rfl
         refine one_ (i := 14) (N := none) (lb 17 32767) rfl rfl (by kernel_rfl) (by decide) (fun K hK => ?_)
         refine skip_ (w1 := ?_) (by rfl) rfl ?_ ?_
         rotate_left
         ·go_simp
          rfl
         obtain ⟨w9, hw9, hz, hk, hx⟩ := rd_put (er := er) (g6 := g6) (g10 := g10) (y := y) FZ.out FC.out FG.out HB.out.size FX.out
         rw [← hw9]
         clear hw9 FC FX FZ hHeld zz0
         have FC := Aside0.mk hk
         have FZ := Aside0.mk hz
         have FX := Aside0.mk hx
         clear hz hk hx
         refine hK.out _ _ ((by have hk := (FC.out.keep g10 (blk_lt HK10.out) (fun e => HOwn.out g10 e (Or.inl rfl))).trans HK10.out; exact ⟨(blk_cell hk 0).trans rfl, (blk_cell hk 1).trans rfl, (blk_cell hk 2).trans rfl, (blk_cell hk 3).trans rfl, (blk_cell hk 4).trans rfl, (blk_cell hk 5).trans rfl, (blk_cell hk 6).trans rfl, HCv.out _ FC.out.below⟩)) (fun hHeld => ?_)
         clear hK K
         refine pv 15 17 (lb 17 65535) ?_
         refine pv 16 18 (lb 17 131071) ?_
         refine done_ (by kernel_rfl) ?_
         have hk9 := FZ.out
         have hk6 := (FC.out.keep g6 (blk_lt HK6.out) HOw6.out).trans HK6.out
         have hk10 := (FC.out.keep g10 (blk_lt HK10.out) HOw10.out).trans HK10.out
         have K6 := Aside0.mk hk6
         have K10 := Aside0.mk hk10
         have hng : ¬ g10 = g := by have := blk_lt HK10.out; have := FG.out; omega
         have hng2 : ¬ g = g10 := fun e => hng e.symm
         clear hHeld zaz0 zcz0
         have zaz0 := cz7 hk10
         have zdz0 := cz7 hk9
         clear hk6 hk9 hk10
         go_wp2
         go_roundw
         case rel =>
          have hxy := (FX.out HE0.out).1
          refine ⟨i + 1, i + 1, q, .slice A9 n9 c9, by go_num, by rw [Hql.out, Hp1l.out], by go_num, ⟨(far7 hne2).trans K6.out⟩, ⟨?_⟩, ⟨?_⟩, ⟨below7 FC.out.below HGE10.out⟩, HqA, HRes⟩
          ·rw [Hqh.out, ← hxy]
           exact blk7 K10.out
          ·rw [Hqh.out, ← hxy]
           exact Kd.R_mono (Kd.R_step (FX.out HE0.out).2 (fun k hk _ => far7 hk.2.1)) (fun k hk => ⟨hk.1, hk.2.1⟩)
         case measure => have h1 := HLT.out; simp only [intOf]; omega
       ·have HRes : Aside0 (readS rq most b = (head0 false, (i : Int) + 1, false, er)) := ⟨HFe.out.trans (he1 he)⟩
        have bne : (er != 0) = true := by simpa using he
        simp only [decide_eq_false he, Bool.false_and] at HLn0
        have HLn := Aside0.mk HLn0
        clear he1 he2 he3 HLn0 hwh her
        go_wp2_with fail
        have FB : Aside0 (Below wr.heap.size wr wr.drew) := ⟨below_drew (Below.refl _ _)⟩
        refine start_ (n := 17) (S := fun w' => w'.cell? ⟨g10, 0, none⟩ = some (.bool p.hd.f0) ∧ w'.cell? ⟨g10, 1, none⟩ = some (.string p.hd.f1) ∧ w'.cell? ⟨g10, 2, none⟩ = some (.string p.hd.f2) ∧ w'.cell? ⟨g10, 3, none⟩ = some (.int .i64 p.hd.f3) ∧ w'.cell? ⟨g10, 4, none⟩ = some (.int .i64 p.hd.f4) ∧ w'.cell? ⟨g10, 5, none⟩ = some (.string p.hd.f5) ∧ w'.cell? ⟨g10, 6, none⟩ = some (.slice A1 n c1) ∧ (convert 33 9 (.slice (if c = o then some ad else some (ad.add o)) (im - o) (c - o))).run Tryz.prog w' = .ok (.string tx) w') (ds := []) (lb 17 0) (by kernel_rfl) rfl rfl ((by have hk := (FB.out.block g10 (blk_lt HK10.out)).trans HK10.out; exact ⟨(blk_cell hk 0).trans rfl, (blk_cell hk 1).trans rfl, (blk_cell hk 2).trans rfl, (blk_cell hk 3).trans rfl, (blk_cell hk 4).trans rfl, (blk_cell hk 5).trans rfl, (blk_cell hk 6).trans rfl, HCv.out _ (below_step HB.out FB.out)⟩)) (fun hHeld => ?_)
        generalize wr.drew = wa at FB hHeld ⊢
        refine pv 1 74 (lb 17 2) ?_
        refine pv 2 75 (lb 17 6) ?_
        refine pv 3 76 (lb 17 14) ?_
        refine pv 4 77 (lb 17 30) ?_
        refine pv 5 78 (lb 17 62) ?_
        refine pv 6 79 (lb 17 126) ?_
        refine tv hHeld 0 73 (lb 17 127) ?_
        refine tv hHeld 7 80 (lb 17 255) ?_
        refine join_ (σ := Nat × Head × Option Addr × Nat × Nat) 3 (lb 17 16383) (fun s_ => [(81, .tuple #[.agg #[.bool s_.2.1.f0, .string s_.2.1.f1, .string s_.2.1.f2, .int .i64 s_.2.1.f3, .int .i64 s_.2.1.f4, .string s_.2.1.f5, .slice s_.2.2.1 s_.2.2.2.1 s_.2.2.2.2], .bool false, .int .i64 er]), (72, .tuple #[.agg #[.bool s_.2.1.f0, .string s_.2.1.f1, .string s_.2.1.f2, .int .i64 s_.2.1.f3, .int .i64 s_.2.1.f4, .string s_.2.1.f5, .slice s_.2.2.1 s_.2.2.2.1 s_.2.2.2.2], .bool false, .int .i64 er]), (82, .agg #[.bool s_.2.1.f0, .string s_.2.1.f1, .string s_.2.1.f2, .int .i64 s_.2.1.f3, .int .i64 s_.2.1.f4, .string s_.2.1.f5, .slice s_.2.2.1 s_.2.2.2.1 s_.2.2.2.2]), (83, .bool false), (84, .int .i64 er), (16, .pointer (some ⟨s_.1, 0, none⟩))]) (fun s_ w' => w'.heap[s_.1]? = some (.cells #[.bool false, .string ⟨#[]⟩, .string ⟨#[]⟩, .int .i64 0, .int .i64 0, .string ⟨#[]⟩, .slice none 0 0] 24 (0, 0)) ∧ (er = 0 → s_.2.1 = y ∧ fldK.R 45 w' w.heap.size (fun k => k ≠ g6 ∧ k ≠ g10 ∧ k ≠ s_.1) (.slice s_.2.2.1 s_.2.2.2.1 s_.2.2.2.2) s_.2.1.f6) ∧ KeepR own w wr w' ∧ wr.heap.size ≤ s_.1) ?_ ?_
        rotate_left
        ·intro hCont
         refine two_ (i := 8) (j := 13) (Ni := some 81) (Nj := some 16) (lb 17 511) (lb 17 8447) rfl rfl rfl rfl (by kernel_rfl) (by decide) (by decide) (fun K hK => ?_) (fun K hK => ?_)
         ·skip
          refine goes_ Tryz.func29 (by kernel_rfl) rfl #[.agg #[.bool p.hd.f0, .string p.hd.f1, .string p.hd.f2, .int .i64 p.hd.f3, .int .i64 p.hd.f4, .string p.hd.f5, .slice A1 n c1], .int .i64 (p.lines + 1), .string tx] (by rfl) rfl rfl (by (try simp only [List.map_toArray, List.map_cons, List.map_nil]); first | done | rfl) ?_
          with_reducible refine (HLn.out _ (fun k => k ≠ g6 ∧ k ≠ g10) FB.out (fun k hk h6 h10 => ⟨h6, h10⟩) (fun k hk => by have h5 := blk_lt HK6.out; have h6 := blk_lt HK10.out; have h7 := FB.out.size; exact ⟨by omega, by omega⟩)).mono ?_
          rintro e wd ⟨x, v9, rfl, hx, ⟨A9, n9, c9, rfl⟩, hb, hsz, hkp⟩
          refine ⟨_, rfl, ?_⟩
          have FC : Aside0 (KeepR own w wr wd) := ⟨KeepR.line ⟨FB.out.size, fun k hk _ => FB.out.block k hk, below_step HB.out FB.out⟩ ((below_step HB.out FB.out).trans hb) hsz (fun k hk hn => hkp k hk (by rw [HOw.out]; exact hn))⟩
          have FX := Aside0.mk hx
          clear FB hx hb hsz hkp
          refine hK.out _ _ ((by have hk := (FC.out.keep g10 (blk_lt HK10.out) (fun e => HOwn.out g10 e (Or.inl rfl))).trans HK10.out; exact ⟨(blk_cell hk 0).trans rfl, (blk_cell hk 1).trans rfl, (blk_cell hk 2).trans rfl, (blk_cell hk 3).trans rfl, (blk_cell hk 4).trans rfl, (blk_cell hk 5).trans rfl, (blk_cell hk 6).trans rfl, HCv.out _ FC.out.below⟩)) (fun hHeld => ?_)
          clear hK K
          refine norm_ (a' := ?_) ?_ ?_
          rotate_left
          ·show Act.put _ (some 81) _ = _
           simp only [Act.put, List.setIfInBounds_toArray, List.set_cons_zero, List.set_cons_succ, i64_w, i32_w]
           rfl
          refine pv 9 72 (lb 17 1023) ?_
          refine pv 10 82 (lb 17 2047) ?_
          refine pv 11 83 (lb 17 4095) ?_
          refine pv 12 84 (lb 17 8191) ?_
          refine one_ (i := 13) (N := some 16) (lb 17 16383) rfl rfl (by kernel_rfl) (by decide) (fun K hK => ?_)
          refine box_step ?hg (N := 16) ?hd (cs := #[.bool false, .string ⟨#[]⟩, .string ⟨#[]⟩, .int .i64 0, .int .i64 0, .string ⟨#[]⟩, .slice none 0 0]) (t := 24) ?hr ?_; (case hd => rfl); (case hg => rfl); (case hr => first | (go_simp; done) | (go_simp; rfl))
          intro g hg we hbox hb
          have FG : Aside0 (wr.heap.size ≤ g) := ⟨by have h5 := FC.out.size; omega⟩
          have FX2 : Aside0 (er = 0 → x = y ∧ fldK.R 45 we w.heap.size (fun k => k ≠ g6 ∧ k ≠ g10 ∧ k ≠ g) (.slice A9 n9 c9) x.f6) := ⟨fun he => ⟨(FX.out he).1, R_new (FX.out he).2 hb (by omega)⟩⟩
          have FC2 := Aside0.mk (FC.out.step hb)
          clear FC FX
          have FC := FC2
          have FX := FX2
          clear FC2 FX2
          have FZ := Aside0.mk hbox
          clear hg hbox hb
          refine hK.out _ _ ((by have hk := (FC.out.keep g10 (blk_lt HK10.out) (fun e => HOwn.out g10 e (Or.inl rfl))).trans HK10.out; exact ⟨(blk_cell hk 0).trans rfl, (blk_cell hk 1).trans rfl, (blk_cell hk 2).trans rfl, (blk_cell hk 3).trans rfl, (blk_cell hk 4).trans rfl, (blk_cell hk 5).trans rfl, (blk_cell hk 6).trans rfl, HCv.out _ FC.out.below⟩)) (fun hHeld => ?_)
          clear hK K
          refine norm_ (a' := ?_) ?_ ?_
          rotate_left
          ·show Act.put _ (some 16) _ = _
           simp only [Act.put, List.setIfInBounds_toArray, List.set_cons_zero, List.set_cons_succ, i64_w, i32_w]
           rfl
          exact norm_ (by simp only [putAll, Act.put, List.setIfInBounds_toArray, List.set_cons_zero, List.set_cons_succ]; try rfl) (hCont (g, x, A9, n9, c9) _ ⟨FZ.out, FX.out, FC.out, FG.out⟩)
         ·skip
          refine box_step ?hg (N := 16) ?hd (cs := #[.bool false, .string ⟨#[]⟩, .string ⟨#[]⟩, .int .i64 0, .int .i64 0, .string ⟨#[]⟩, .slice none 0 0]) (t := 24) ?hr ?_; (case hd => rfl); (case hg => rfl); (case hr => first | (go_simp; done) | (go_simp; rfl))
          intro g hg we hbox hb
          have FG : Aside0 (wr.heap.size ≤ g) := ⟨by have h5 := FB.out.size; omega⟩
          have FB2 := Aside0.mk (below_step FB.out hb)
          clear FB
          have FB := FB2
          clear FB2
          have FZ := Aside0.mk hbox
          clear hg hbox hb
          refine hK.out _ _ ((by have hk := (FB.out.block g10 (blk_lt HK10.out)).trans HK10.out; exact ⟨(blk_cell hk 0).trans rfl, (blk_cell hk 1).trans rfl, (blk_cell hk 2).trans rfl, (blk_cell hk 3).trans rfl, (blk_cell hk 4).trans rfl, (blk_cell hk 5).trans rfl, (blk_cell hk 6).trans rfl, HCv.out _ (below_step HB.out FB.out)⟩)) (fun hHeld => ?_)
          clear hK K
          refine norm_ (a' := ?_) ?_ ?_
          rotate_left
          ·show Act.put _ (some 16) _ = _
           simp only [Act.put, List.setIfInBounds_toArray, List.set_cons_zero, List.set_cons_succ, i64_w, i32_w]
           rfl
          refine one_ (i := 8) (N := some 81) (lb 17 8703) rfl rfl (by kernel_rfl) (by decide) (fun K hK => ?_)
          refine goes_ Tryz.func29 (by kernel_rfl) rfl #[.agg #[.bool p.hd.f0, .string p.hd.f1, .string p.hd.f2, .int .i64 p.hd.f3, .int .i64 p.hd.f4, .string p.hd.f5, .slice A1 n c1], .int .i64 (p.lines + 1), .string tx] (by rfl) rfl rfl (by (try simp only [List.map_toArray, List.map_cons, List.map_nil]); first | done | rfl) ?_
          with_reducible refine (HLn.out _ (fun k => k ≠ g6 ∧ k ≠ g10 ∧ k ≠ g) FB.out (fun k hk h6 h10 => ⟨h6, h10, by have := FG.out; omega⟩) (fun k hk => by have h5 := blk_lt HK6.out; have h6 := blk_lt HK10.out; have h7 := FB.out.size; have h8 := blk_lt FZ.out; exact ⟨by omega, by omega, by omega⟩)).mono ?_
          rintro e wd ⟨x, v9, rfl, hx, ⟨A9, n9, c9, rfl⟩, hb, hsz, hkp⟩
          refine ⟨_, rfl, ?_⟩
          have FC : Aside0 (KeepR own w wr wd) := ⟨KeepR.line ⟨FB.out.size, fun k hk _ => FB.out.block k hk, below_step HB.out FB.out⟩ ((below_step HB.out FB.out).trans hb) hsz (fun k hk hn => hkp k hk (by rw [HOw.out]; exact hn))⟩
          have FX := Aside0.mk hx
          have FZ2 := Aside0.mk ((hkp g (blk_lt FZ.out) (fun e => HOwn.out g (by rw [← HOw.out]; exact e) (Or.inr FG.out))).trans FZ.out)
          clear FZ
          have FZ := FZ2
          clear FZ2
          clear FB hx hb hsz hkp
          refine hK.out _ _ ((by have hk := (FC.out.keep g10 (blk_lt HK10.out) (fun e => HOwn.out g10 e (Or.inl rfl))).trans HK10.out; exact ⟨(blk_cell hk 0).trans rfl, (blk_cell hk 1).trans rfl, (blk_cell hk 2).trans rfl, (blk_cell hk 3).trans rfl, (blk_cell hk 4).trans rfl, (blk_cell hk 5).trans rfl, (blk_cell hk 6).trans rfl, HCv.out _ FC.out.below⟩)) (fun hHeld => ?_)
          clear hK K
          refine norm_ (a' := ?_) ?_ ?_
          rotate_left
          ·show Act.put _ (some 81) _ = _
           simp only [Act.put, List.setIfInBounds_toArray, List.set_cons_zero, List.set_cons_succ, i64_w, i32_w]
           rfl
          refine pv 9 72 (lb 17 9215) ?_
          refine pv 10 82 (lb 17 10239) ?_
          refine pv 11 83 (lb 17 12287) ?_
          refine pv 12 84 (lb 17 16383) ?_
          exact norm_ (by simp only [putAll, Act.put, List.setIfInBounds_toArray, List.set_cons_zero, List.set_cons_succ]; try rfl) (hCont (g, x, A9, n9, c9) _ ⟨FZ.out, FX.out, FC.out, FG.out⟩)
        rintro ⟨g, x, A9, n9, c9⟩ wf ⟨hz, hx, hk, hg⟩
        simp only at hz hx hk hg ⊢
        clear FB
        have FC := Aside0.mk hk
        have FX := Aside0.mk hx
        have FG := Aside0.mk hg
        have hHeld : (fun w' => w'.cell? ⟨g10, 0, none⟩ = some (.bool p.hd.f0) ∧ w'.cell? ⟨g10, 1, none⟩ = some (.string p.hd.f1) ∧ w'.cell? ⟨g10, 2, none⟩ = some (.string p.hd.f2) ∧ w'.cell? ⟨g10, 3, none⟩ = some (.int .i64 p.hd.f3) ∧ w'.cell? ⟨g10, 4, none⟩ = some (.int .i64 p.hd.f4) ∧ w'.cell? ⟨g10, 5, none⟩ = some (.string p.hd.f5) ∧ w'.cell? ⟨g10, 6, none⟩ = some (.slice A1 n c1) ∧ (convert 33 9 (.slice (if c = o then some ad else some (ad.add o)) (im - o) (c - o))).run Tryz.prog w' = .ok (.string tx) w') wf := (by have hk := (FC.out.keep g10 (blk_lt HK10.out) (fun e => HOwn.out g10 e (Or.inl rfl))).trans HK10.out; exact ⟨(blk_cell hk 0).trans rfl, (blk_cell hk 1).trans rfl, (blk_cell hk 2).trans rfl, (blk_cell hk 3).trans rfl, (blk_cell hk 4).trans rfl, (blk_cell hk 5).trans rfl, (blk_cell hk 6).trans rfl, HCv.out _ FC.out.below⟩)
        have zz0 := cz7 hz
        have FZ := Aside0.mk hz
        clear hz hx hk hg
        try dsimp only
        refine norm_ (a' := ?_) ?_ ?_
        rotate_left
        ·simp only [putAll, Act.put, List.setIfInBounds_toArray, List.set_cons_zero, List.set_cons_succ]
         rfl
        refine one_ (i := 14) (N := none) (lb 17 32767) rfl rfl (by kernel_rfl) (by decide) (fun K hK => ?_)
        refine skip_ (w1 := ?_) (by rfl) rfl ?_ ?_
        rotate_left
        ·go_simp
         rfl
        obtain ⟨w9, hw9, hz, hk, hx⟩ := rd_put (er := er) (g6 := g6) (g10 := g10) (y := y) FZ.out FC.out FG.out HB.out.size FX.out
        rw [← hw9]
        clear hw9 FC FX FZ hHeld zz0
        have FC := Aside0.mk hk
        have FZ := Aside0.mk hz
        have FX := Aside0.mk hx
        clear hz hk hx
        refine hK.out _ _ ((by have hk := (FC.out.keep g10 (blk_lt HK10.out) (fun e => HOwn.out g10 e (Or.inl rfl))).trans HK10.out; exact ⟨(blk_cell hk 0).trans rfl, (blk_cell hk 1).trans rfl, (blk_cell hk 2).trans rfl, (blk_cell hk 3).trans rfl, (blk_cell hk 4).trans rfl, (blk_cell hk 5).trans rfl, (blk_cell hk 6).trans rfl, HCv.out _ FC.out.below⟩)) (fun hHeld => ?_)
        clear hK K
        refine pv 15 17 (lb 17 65535) ?_
        refine pv 16 18 (lb 17 131071) ?_
        refine done_ (by kernel_rfl) ?_
        have hk6 := (FC.out.keep g6 (blk_lt HK6.out) HOw6.out).trans HK6.out
        have K6 := Aside0.mk hk6
        clear hHeld zaz0 zcz0
        have zcz0 := cz7 hk6
        clear hk6
        go_wp2
        all_goals
         refine bodyPost_ret (results_cttt rfl _ _ g6 24 #[.bool false, .string ⟨#[]⟩, .string ⟨#[]⟩, .int .i64 0, .int .i64 0, .string ⟨#[]⟩, .slice none 0 0] (0, 0) _ rfl (blk7 (K6.out)) Tryz.underlying24 rfl (by kernel_rfl)) rfl ?_
         exact read_post (x := head0 false) (HRes.out) (.slice none 0 0) (Kd.R_nil _ _ _ _ _) (below7 (FC.out.below) HGE6.out)
     ·have b10 : (c5 == 10) = false := by simpa using h10
      have n10 : (c5 != 10) = true := by simpa using h10
      have HRES : Aside0 (readS rq most b = (head0 false, (i : Int) + 1, false, 81)) := ⟨HFe.out.trans (HAt.out.bare HLT.out (by rw [← HCc.out, HAf.out, b10]; rfl))⟩
      go_wp2
      refine bodyPost_ret (results_cttt rfl _ _ g6 24 #[.bool false, .string ⟨#[]⟩, .string ⟨#[]⟩, .int .i64 0, .int .i64 0, .string ⟨#[]⟩, .slice none 0 0] (0, 0) _ rfl (blk7 (HK6.out)) Tryz.underlying24 rfl (by kernel_rfl)) rfl ?_
      exact read_post (x := head0 false) (HRES.out) (.slice none 0 0) (Kd.R_nil _ _ _ _ _) (below7 (HB.out) HGE6.out)
    ·have b13q : (q13 == 13) = false := by simpa using h13q
     have HAf : Aside0 ((decide (o < i) && (rd b ((i : Int) - 1) == 13)) = false) := ⟨by rw [HQ13.out, b13q, Bool.and_false]⟩
     clear him
     by_cases h10 : c5 = 10
     ·have b10 : (c5 == 10) = true := by simpa using h10
      have n10 : (c5 != 10) = false := by rw [h10]; rfl
      have HRES : Aside0 (readS rq most b = (head0 false, (i : Int) + 1, false, 81)) := ⟨HFe.out.trans (HAt.out.bare HLT.out (by rw [← HCc.out, HAf.out, b10]; rfl))⟩
      go_wp2
      refine bodyPost_ret (results_cttt rfl _ _ g6 24 #[.bool false, .string ⟨#[]⟩, .string ⟨#[]⟩, .int .i64 0, .int .i64 0, .string ⟨#[]⟩, .slice none 0 0] (0, 0) _ rfl (blk7 (HK6.out)) Tryz.underlying24 rfl (by kernel_rfl)) rfl ?_
      exact read_post (x := head0 false) (HRES.out) (.slice none 0 0) (Kd.R_nil _ _ _ _ _) (below7 (HB.out) HGE6.out)
     ·have b10 : (c5 == 10) = false := by simpa using h10
      have n10 : (c5 != 10) = true := by simpa using h10
      by_cases hov : (i : Int) + 1 > most
      ·have hov2 : most < (i : Int) + 1 := hov
       have HOv := Aside0.mk hov
       have HRES : Aside0 (readS rq most b = (head0 false, (i : Int) + 1, false, 85)) := ⟨HFe.out.trans (HAt.out.over HLT.out (by rw [← HCc.out, HAf.out, b10]; decide) (.inl HOv.out))⟩
       go_wp2
       refine bodyPost_ret (results_cttt rfl _ _ g6 24 #[.bool false, .string ⟨#[]⟩, .string ⟨#[]⟩, .int .i64 0, .int .i64 0, .string ⟨#[]⟩, .slice none 0 0] (0, 0) _ rfl (blk7 (HK6.out)) Tryz.underlying24 rfl (by kernel_rfl)) rfl ?_
       exact read_post (x := head0 false) (HRES.out) (.slice none 0 0) (Kd.R_nil _ _ _ _ _) (below7 (HB.out) HGE6.out)
      ·have hov2 : ¬ most < (i : Int) + 1 := hov
       by_cases h13 : c5 = 13
       ·have b13 : (c5 == 13) = true := by simpa using h13
        have n13 : (c5 != 13) = false := by rw [h13]; rfl
        have HNL : Aside0 (¬ ((i : Int) + 1 > most ∨ (¬ c5 = 10 ∧ ¬ c5 = 13 ∧ (i : Int) - (o : Int) + 1 > 8192))) := ⟨by rintro (h5 | h5); exact hov h5; exact h5.2.1 h13⟩
        clear hov
        obtain ⟨q, hqF, hqA, hqh, hqs, hql⟩ := HAt.out.char (N := b.length) HLT.out (by rw [← HCc.out, HAf.out, b10]; decide) (by rw [← HCc.out]; exact HNL.out) (by rw [← HCc.out]; exact h10)
        have HqF := Aside0.mk hqF
        have HqA := Aside0.mk hqA
        have Hqh := Aside0.mk hqh
        have Hql := Aside0.mk hql
        clear hqF hqA hqh hqs hql
        go_wp2
        go_roundw
        case rel => exact ⟨i + 1, o, q, .slice A1 n c1, rfl, by rw [Hql.out], by go_num, HK6, ⟨by rw [Hqh.out]; exact HK10.out⟩, ⟨by rw [Hqh.out]; exact HRo.out⟩, HB, HqA, ⟨HFe.out.trans HqF.out⟩⟩
        case measure => have h1 := HLT.out; simp only [intOf]; omega
       ·have b13 : (c5 == 13) = false := by simpa using h13
        have n13 : (c5 != 13) = true := by simpa using h13
        by_cases hln : (i : Int) - (o : Int) + 1 > 8192
        ·have hln2 : (8192 : Int) < (i : Int) - (o : Int) + 1 := hln
         have HOv := Aside0.mk (show ¬ c5 = 10 ∧ ¬ c5 = 13 ∧ (i : Int) - (o : Int) + 1 > 8192 from ⟨h10, h13, hln⟩)
         clear hln
         have HRES : Aside0 (readS rq most b = (head0 false, (i : Int) + 1, false, 85)) := ⟨HFe.out.trans (HAt.out.over HLT.out (by rw [← HCc.out, HAf.out, b10]; decide) (.inr (by rw [← HCc.out]; exact HOv.out)))⟩
         go_wp2
         refine bodyPost_ret (results_cttt rfl _ _ g6 24 #[.bool false, .string ⟨#[]⟩, .string ⟨#[]⟩, .int .i64 0, .int .i64 0, .string ⟨#[]⟩, .slice none 0 0] (0, 0) _ rfl (blk7 (HK6.out)) Tryz.underlying24 rfl (by kernel_rfl)) rfl ?_
         exact read_post (x := head0 false) (HRES.out) (.slice none 0 0) (Kd.R_nil _ _ _ _ _) (below7 (HB.out) HGE6.out)
        ·have hln2 : ¬ (8192 : Int) < (i : Int) - (o : Int) + 1 := hln
         have HNL : Aside0 (¬ ((i : Int) + 1 > most ∨ (¬ c5 = 10 ∧ ¬ c5 = 13 ∧ (i : Int) - (o : Int) + 1 > 8192))) := ⟨by rintro (h5 | h5); exact hov h5; exact hln h5.2.2⟩
         clear hov hln
         obtain ⟨q, hqF, hqA, hqh, hqs, hql⟩ := HAt.out.char (N := b.length) HLT.out (by rw [← HCc.out, HAf.out, b10]; decide) (by rw [← HCc.out]; exact HNL.out) (by rw [← HCc.out]; exact h10)
         have HqF := Aside0.mk hqF
         have HqA := Aside0.mk hqA
         have Hqh := Aside0.mk hqh
         have Hql := Aside0.mk hql
         clear hqF hqA hqh hqs hql
         go_wp2
         go_roundw
         case rel => exact ⟨i + 1, o, q, .slice A1 n c1, rfl, by rw [Hql.out], by go_num, HK6, ⟨by rw [Hqh.out]; exact HK10.out⟩, ⟨by rw [Hqh.out]; exact HRo.out⟩, HB, HqA, ⟨HFe.out.trans HqF.out⟩⟩
         case measure => have h1 := HLT.out; simp only [intOf]; omega
   ·have hlt2 : ¬ (o : Int) < (i : Int) := by omega
    have HAf : Aside0 ((decide (o < i) && (rd b ((i : Int) - 1) == 13)) = false) := ⟨by rw [decide_eq_false hlt', Bool.false_and]⟩
    clear hCw hltb
    by_cases h10 : c5 = 10
    ·have b10 : (c5 == 10) = true := by simpa using h10
     have n10 : (c5 != 10) = false := by rw [h10]; rfl
     have HRES : Aside0 (readS rq most b = (head0 false, (i : Int) + 1, false, 81)) := ⟨HFe.out.trans (HAt.out.bare HLT.out (by rw [← HCc.out, HAf.out, b10]; rfl))⟩
     go_wp2
     refine bodyPost_ret (results_cttt rfl _ _ g6 24 #[.bool false, .string ⟨#[]⟩, .string ⟨#[]⟩, .int .i64 0, .int .i64 0, .string ⟨#[]⟩, .slice none 0 0] (0, 0) _ rfl (blk7 (HK6.out)) Tryz.underlying24 rfl (by kernel_rfl)) rfl ?_
     exact read_post (x := head0 false) (HRES.out) (.slice none 0 0) (Kd.R_nil _ _ _ _ _) (below7 (HB.out) HGE6.out)
    ·have b10 : (c5 == 10) = false := by simpa using h10
     have n10 : (c5 != 10) = true := by simpa using h10
     by_cases hov : (i : Int) + 1 > most
     ·have hov2 : most < (i : Int) + 1 := hov
      have HOv := Aside0.mk hov
      have HRES : Aside0 (readS rq most b = (head0 false, (i : Int) + 1, false, 85)) := ⟨HFe.out.trans (HAt.out.over HLT.out (by rw [← HCc.out, HAf.out, b10]; decide) (.inl HOv.out))⟩
      go_wp2
      refine bodyPost_ret (results_cttt rfl _ _ g6 24 #[.bool false, .string ⟨#[]⟩, .string ⟨#[]⟩, .int .i64 0, .int .i64 0, .string ⟨#[]⟩, .slice none 0 0] (0, 0) _ rfl (blk7 (HK6.out)) Tryz.underlying24 rfl (by kernel_rfl)) rfl ?_
      exact read_post (x := head0 false) (HRES.out) (.slice none 0 0) (Kd.R_nil _ _ _ _ _) (below7 (HB.out) HGE6.out)
     ·have hov2 : ¬ most < (i : Int) + 1 := hov
      by_cases h13 : c5 = 13
      ·have b13 : (c5 == 13) = true := by simpa using h13
       have n13 : (c5 != 13) = false := by rw [h13]; rfl
       have HNL : Aside0 (¬ ((i : Int) + 1 > most ∨ (¬ c5 = 10 ∧ ¬ c5 = 13 ∧ (i : Int) - (o : Int) + 1 > 8192))) := ⟨by rintro (h5 | h5); exact hov h5; exact h5.2.1 h13⟩
       clear hov
       obtain ⟨q, hqF, hqA, hqh, hqs, hql⟩ := HAt.out.char (N := b.length) HLT.out (by rw [← HCc.out, HAf.out, b10]; decide) (by rw [← HCc.out]; exact HNL.out) (by rw [← HCc.out]; exact h10)
       have HqF := Aside0.mk hqF
       have HqA := Aside0.mk hqA
       have Hqh := Aside0.mk hqh
       have Hql := Aside0.mk hql
       clear hqF hqA hqh hqs hql
       go_wp2
       go_roundw
       case rel => exact ⟨i + 1, o, q, .slice A1 n c1, rfl, by rw [Hql.out], by go_num, HK6, ⟨by rw [Hqh.out]; exact HK10.out⟩, ⟨by rw [Hqh.out]; exact HRo.out⟩, HB, HqA, ⟨HFe.out.trans HqF.out⟩⟩
       case measure => have h1 := HLT.out; simp only [intOf]; omega
      ·have b13 : (c5 == 13) = false := by simpa using h13
       have n13 : (c5 != 13) = true := by simpa using h13
       by_cases hln : (i : Int) - (o : Int) + 1 > 8192
       ·exact absurd hln (by omega)
       ·have hln2 : ¬ (8192 : Int) < (i : Int) - (o : Int) + 1 := hln
        have HNL : Aside0 (¬ ((i : Int) + 1 > most ∨ (¬ c5 = 10 ∧ ¬ c5 = 13 ∧ (i : Int) - (o : Int) + 1 > 8192))) := ⟨by rintro (h5 | h5); exact hov h5; exact hln h5.2.2⟩
        clear hov hln
        obtain ⟨q, hqF, hqA, hqh, hqs, hql⟩ := HAt.out.char (N := b.length) HLT.out (by rw [← HCc.out, HAf.out, b10]; decide) (by rw [← HCc.out]; exact HNL.out) (by rw [← HCc.out]; exact h10)
        have HqF := Aside0.mk hqF
        have HqA := Aside0.mk hqA
        have Hqh := Aside0.mk hqh
        have Hql := Aside0.mk hql
        clear hqF hqA hqh hqs hql
        go_wp2
        go_roundw
        case rel => exact ⟨i + 1, o, q, .slice A1 n c1, rfl, by rw [Hql.out], by go_num, HK6, ⟨by rw [Hqh.out]; exact HK10.out⟩, ⟨by rw [Hqh.out]; exact HRo.out⟩, HB, HqA, ⟨HFe.out.trans HqF.out⟩⟩
        case measure => have h1 := HLT.out; simp only [intOf]; omega
  ·have HRES : Aside0 (readS rq most b = (head0 false, (L : Int), false, 0)) := ⟨HFe.out.trans (by rw [HAt.out.whole (by have := HL.out; omega), HL.out])⟩
   go_wp2
   refine bodyPost_ret (results_cttt rfl _ _ g6 24 #[.bool false, .string ⟨#[]⟩, .string ⟨#[]⟩, .int .i64 0, .int .i64 0, .string ⟨#[]⟩, .slice none 0 0] (0, 0) _ rfl (blk7 (HK6.out)) Tryz.underlying24 rfl (by kernel_rfl)) rfl ?_
   exact read_post (x := head0 false) (HRES.out) (.slice none 0 0) (Kd.R_nil _ _ _ _ _) (below7 (HB.out) HGE6.out)
end Go.Proofs.YtmlgejgnjfbblaaGreatDoor.Hd
