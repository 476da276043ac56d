/- Package chunked, by hand: what Last comes to; own text of this session. -/
import Derived.Test.YtnlicpihondmgaaDoorChC
import Derived.Lib.AppendStr
import Derived.Lib.SliceRun
namespace Go.Proofs.YtnlicpihondmgaaDoor.Chk
open Go.RowKit Go.Proofs.YtnlicpihondmgaaDoorW.PrintWords Go.Proofs.YtnlicpihondmgaaDoorW.PrintLast Go.Proofs.YtnlicpihondmgaaDoorW.PrintMore
set_option linter.unusedVariables false
set_option linter.unusedSimpArgs false
/-- A row of bytes of the call's own; or one of a constant's bytes, without room. -/
def RowOr (W : World) (base : Nat) (v : Value) (xs : List Int) : Prop :=
  (Kd.int .u8).R 5 W base (fun _ => True) v xs ∨ ∃ g, v = .slice (some ⟨g, 0, none⟩) xs.length xs.length ∧ base ≤ g ∧ (Kd.int .u8).C W (some ⟨g, 0, none⟩) xs.length xs
theorem RowOr.below {W W' : World} {base : Nat} {v : Value} {xs : List Int} (h : RowOr W base v xs) (hb : Below W.heap.size W W') : RowOr W' base v xs := by
  rcases h with h | ⟨g, h1, h2, h3⟩
  · exact .inl (Kd.R_below h hb)
  · exact .inr ⟨g, h1, h2, Kd.C_below h3 hb⟩
set_option maxRecDepth 100000 in
theorem append_or {ops : Array Oper} {rest : List Oper} {o : Oper} {a : Act} {Q : Exit → Act → World → Prop} {W : World} (base : Nat) (hgd : o.guard = none) (s x : Operand)
    (ho : o.op = .call { callee := .builtin .append, args := #[s, x], argTypes := #[22, 9] }) (v : Value) (xs : List Int) (y : ByteArray) (hs : a.eval s = v) (hx : a.eval x = .string y)
    (h : RowOr W base v xs) (hy : 0 < y.size) (hbase : base ≤ W.heap.size) (hl : xs.length + y.size ≤ 140737488355328)
    (hK : ∀ v1 w1, (Kd.int .u8).R 5 w1 base (fun _ => True) v1 (xs ++ bytesOf y) → Below base W w1 → wpList Tryd.prog ops Q rest (a.put o.dst v1) w1) : wpList Tryd.prog ops Q (o :: rest) a W := by
  rcases h with h | ⟨g, rfl, hg, hC⟩
  · refine print_append_str (w0 := W) base hgd s x 22 9 5 ho Tryd.underlying22 Tryd.underlying9 info_u8 v xs y hs hx (Kd.own_of_R h) (Below.refl _ _) hbase hl ?_
    intro v1 w1 h1 h2 h3
    exact hK v1 w1 (Kd.R_of_own (h1 := fun _ => rfl) h1 (fun _ _ => trivial)) h2
  · obtain ⟨i0, hi, hzz⟩ := Option.map_eq_some_iff.1 info_u8
    simp only [Prod.mk.injEq] at hzz
    obtain ⟨hz0, hz1, hz2⟩ := hzz
    have hlen : (nums .u8 xs).length = xs.length := nums_length _ _
    have hrd := Kd.reads_of_C (enc := Value.int .u8) (d := (0 : Int)) (h1 := fun _ => rfl) hC
    have holds : ∀ j u, (nums .u8 xs)[j]? = some u → W.cell? ((⟨g, 0, none⟩ : Addr).add j) = some u := by
      intro j u hu
      have hj : j < xs.length := by have := (List.getElem?_eq_some_iff.1 hu).1; rw [hlen] at this; exact this
      obtain ⟨ad, e, hc⟩ := hrd.2.2 (by omega)
      cases e
      rw [hc j hj, ← hu]
      simp [nums, hj, List.getD_eq_getElem?_getD]
    have h63 : xs.length + y.size ≤ maxLen := by simp only [maxLen]; omega
    have hr := Lib.run_append_grow_string (P := Tryd.prog) W 22 9 o.type 5 i0 (.int .u8 0) Tryd.underlying22 Tryd.underlying9 hi hz0 ⟨g, 0, none⟩ xs.length xs.length (nums .u8 xs) (by rw [hz1, hlen, Nat.mul_one]) holds y (by omega) (by omega) (by rw [hz2]; exact growslice_fits (by omega) (by omega))
    have hge := grownCap_ge W (xs.length + y.size) xs.length 5
    have hcm := grownCap_le_maxLen W (xs.length + y.size) xs.length 5 h63
    refine wpList_plain hgd fun K hK' => ?_
    unfold Oper.wp execOp
    simp only [ho, resolve, invoke, builtin, Sem.run_bind, Sem.run_pure, Result.andThen_ok, List.map_toArray, List.map_cons, List.map_nil, hs, hx, hr]
    refine hK' _ _ (hK _ _ (Kd.R_of_own (h1 := fun _ => rfl) ?_ (fun _ _ => trivial)) ((below_drew (Below.refl base W)).alloc hbase _))
    have hl2 : (xs ++ bytesOf y).length = xs.length + y.size := by rw [List.length_append, bytesOf_length]
    have hcs : nums .u8 (xs ++ bytesOf y) = nums .u8 xs ++ Lib.strCells y := by
      rw [nums_append]
      congr 1
      simp [nums, bytesOf, Lib.strCells]
    show World.ownsRow _ base 5 1 _ (xs ++ bytesOf y).length (nums .u8 (xs ++ bytesOf y))
    rw [hl2, hcs]
    refine ⟨by rw [List.length_append, hlen, Lib.strCells_length, Nat.mul_one], .inr ⟨W.heap.size, _, _, rfl, hbase, heap_alloc_new W.drew _, hge, hcm, ?_, ?_⟩⟩
    · have hc1 : (Value.int IntKind.u8 0).cells.size = 1 := rfl
      simp only [Array.size_append, List.size_toArray, size_zeroCells, hc1, Lib.strCells_length]
      omega
    · simp only [Array.toList_append, List.append_assoc]
      rw [← List.append_assoc, Nat.mul_one, show xs.length + y.size = (nums .u8 xs ++ Lib.strCells y).length from by rw [List.length_append, hlen, Lib.strCells_length]]
      exact List.take_left
/-- The last chunk, with trailers. -/
def fldB (f : Fld) : List Int := bytesOf (f.f0 ++ (⟨#[58, 32]⟩ : ByteArray) ++ f.f1 ++ (⟨#[13, 10]⟩ : ByteArray))
def lastS (l : List Fld) : List Int := [48, 13, 10] ++ l.flatMap fldB ++ [13, 10]
def fbz (l : List Fld) : Nat := (l.map fun f => f.f0.size + f.f1.size + 4).sum
theorem fldB_len (f : Fld) : (fldB f).length = f.f0.size + f.f1.size + 4 := by
  unfold fldB
  rw [bytesOf_length]
  simp only [ByteArray.size_append]
  show f.f0.size + 2 + f.f1.size + 2 = _
  omega
theorem flat_len (l : List Fld) : (l.flatMap fldB).length = fbz l := by
  unfold fbz
  induction l with
  | nil => rfl
  | cons f r ih => rw [List.flatMap_cons, List.length_append, fldB_len, ih]; simp
theorem fbz_mem {f : Fld} {l : List Fld} (h : f ∈ l) : f.f0.size + f.f1.size + 4 ≤ fbz l := by
  unfold fbz
  induction l with
  | nil => cases h
  | cons g r ih =>
    simp only [List.map_cons, List.sum_cons]
    rcases List.mem_cons.1 h with rfl | h
    · omega
    · have := ih h; omega
theorem fbz_take (l : List Fld) (k : Nat) : fbz (l.take k) ≤ fbz l := by
  have h : l = l.take k ++ l.drop k := (List.take_append_drop k l).symm
  have e : fbz l = fbz (l.take k) + fbz (l.drop k) := by
    conv => lhs; rw [h]
    unfold fbz
    rw [List.map_append, List.sum_append]
  omega
set_option maxHeartbeats 4000000 in
set_option maxRecDepth 100000 in
theorem last_no (l : List Fld) (A : Option Addr) (c : Nat) (w : World) (r : Int) (hr : Kd.C P.k49 w A l.length l) (hc : l.length ≤ c) (hs : fbz l ≤ 1073741824) (he : chkS l = r) (hne : ¬ r = 0) :
    Calls Tryd.prog 17 #[.slice A l.length c] w fun e w' => e = .returned (.tuple #[.slice none 0 0, .int .i64 r]) ∧ Below w.heap.size w w' := by
  have hk := check_calls l A c w hr hc (fun f hf => by have := fbz_mem hf; omega)
  rw [he] at hk
  have HK := Aside0.mk hk
  have bn : (r != 0) = true := by simpa using hne
  clear hr hc hs he hne hk
  go_enter Tryd.func17, Tryd.ntmps17
  go_wp2_with (go_at_call 33; refine HK.out.mono ?_; rintro e w1 ⟨rfl, hb⟩; have HB := Aside0.mk hb; clear hb)
  go_ret2
  exact ⟨rfl, HB.out⟩
def LastPost (l : List Fld) (w : World) (e : Ending) (w' : World) : Prop :=
  ∃ v, e = .returned (.tuple #[v, .int .i64 0]) ∧ (Kd.int .u8).R 5 w' w.heap.size (fun _ => True) v (lastS l) ∧ Below w.heap.size w w'
set_option maxHeartbeats 8000000 in
set_option maxRecDepth 100000 in
theorem last_ok (l : List Fld) (A : Option Addr) (c : Nat) (w : World) (hr : Kd.C P.k49 w A l.length l) (hc : l.length ≤ c) (hs : fbz l ≤ 1073741824) (he : chkS l = 0) :
    Calls Tryd.prog 17 #[.slice A l.length c] w (LastPost l w) := by
  have hk := check_calls l A c w hr hc (fun f hf => by have := fbz_mem hf; omega)
  rw [he] at hk
  have HK := Aside0.mk hk
  have HR := Aside0.mk hr
  have HS := Aside0.mk hs
  obtain ⟨N, hN⟩ : ∃ N, N = l.length := ⟨_, rfl⟩
  have HN := Aside0.mk hN
  have hNle : (N : Int) ≤ 1073741824 := by
    have h1 : l.length ≤ fbz l := by
      rw [← flat_len]
      clear hr hc hs he hk HK HR HS hN HN
      induction l with
      | nil => simp
      | cons f r ih => rw [List.flatMap_cons, List.length_append, fldB_len, List.length_cons]; omega
    omega
  rw [← hN] at HK ⊢
  have hcc : ∀ W : World, (convert 22 22 (.slice (some ⟨W.heap.size, 0, none⟩) 3 3)).run Tryd.prog (W.alloc (.cells #[.int .u8 48, .int .u8 13, .int .u8 10] 5)) = Result.ok (.slice (some ⟨W.heap.size, 0, none⟩) 3 3) (W.alloc (.cells #[.int .u8 48, .int .u8 13, .int .u8 10] 5 (3, 4))) := fun W => Lib.run_convert_bytes_const W _ _ #[.int .u8 48, .int .u8 13, .int .u8 10] 3 3 Tryd.underlying22 Tryd.underlying5
  clear hr hc hs he hk hN
  go_enter Tryd.func17, Tryd.ntmps17
  go_wp2_with (go_at_call 33; refine HK.out.mono ?_; rintro e w1 ⟨rfl, hb⟩; have HB := Aside0.mk hb; clear hb)
  go_loopw [5, 17] (fun v5 v17 wr => ∃ kk : Nat, kk ≤ N ∧ v17 = .int .i64 kk ∧ Aside0 (RowOr wr w.heap.size v5 ([48, 13, 10] ++ (l.take kk).flatMap fldB)) ∧ Aside0 (Below w.heap.size w wr)) (fun _ v17 _ => N - (intOf v17).toNat)
  case atStart =>
    refine ⟨0, Nat.zero_le _, rfl, ⟨.inr ⟨w1.heap.size, rfl, HB.out.size, ?_⟩⟩, ⟨below_alloc HB.out _⟩⟩
    exact C_of_block (xs := [48, 13, 10]) (blk_new w1 (.cells #[.int .u8 48, .int .u8 13, .int .u8 10] 5 (3, 4))) (fun i hi => by match i, hi with | 0, _ => rfl | 1, _ => rfl | 2, _ => rfl) (by simp)
  case round =>
    obtain ⟨kk, hkk, rfl, HRo, HBw⟩ := hrel
    by_cases hlt : kk < N
    · have hltz : (kk : Int) < (N : Int) := by omega
      obtain ⟨ad, eA, hx0, hx1⟩ := P.at_T49 (Kd.C_below HR.out HBw.out) (kk : Int) (by omega) (by rw [← HN.out]; exact hltz)
      cases eA
      rw [Int.toNat_natCast] at hx0 hx1
      have hkl : kk < l.length := by rw [← HN.out]; exact hlt
      have hdr := List.drop_eq_getElem_cons hkl
      rw [rd_fld hdr] at hx0 hx1
      have hmem : l[kk] ∈ l := List.getElem_mem hkl
      have hsz := fbz_mem hmem
      have hta : l.take (kk + 1) = l.take kk ++ [l[kk]] := by rw [List.take_succ_eq_append_getElem hkl]
      generalize l[kk] = f at hx0 hx1 hmem hsz hta hdr
      have HTA := Aside0.mk hta
      have hs0 : f.f0.size ≤ 1073741824 := by have := HS.out; omega
      have hs1 : f.f1.size ≤ 1073741824 := by have := HS.out; omega
      clear hdr hmem hsz hta
      go_wp2_with (first
        | ((with_reducible refine gate_dst (N := 7) rfl ?_); refine box_event ?hg (N := 7) ?hd (cs := #[.string (⟨#[]⟩ : ByteArray), .string (⟨#[]⟩ : ByteArray)]) (t := 49) ?hr ?_; (case hd => rfl); (case hg => rfl); (case hr => first | (go_simp; done) | (go_simp; rfl)); intro gb hg w4 hbox hb; have B4 := Aside0.mk hb; have GE : Aside0 (w.heap.size ≤ gb) := ⟨by { rw [hg]; exact HBw.out.size }⟩; have GEE := Aside0.mk hg; clear hb hg; have hc0 : w4.cell? ⟨gb, 0, none⟩ = some (.string (⟨#[]⟩ : ByteArray)) := (blk_cell hbox 0).trans rfl; have hc1 : w4.cell? ⟨gb, 1, none⟩ = some (.string (⟨#[]⟩ : ByteArray)) := (blk_cell hbox 1).trans rfl; have hfr0 := blk_frozen hbox 0; have hfr1 := blk_frozen hbox 1; clear hbox)
        | (at_builtin; refine append_or w.heap.size rfl (.tmp 21) (.tmp 28) rfl _ ([48, 13, 10] ++ (l.take kk).flatMap fldB) (f.f0 ++ (⟨#[58, 32]⟩ : ByteArray) ++ f.f1 ++ (⟨#[13, 10]⟩ : ByteArray)) rfl rfl ?aO ?aY ?aS ?aL ?_; (case aO => exact HRo.out.below ((B4.out.setCell (p := ⟨gb, 0, none⟩) (by rw [GEE.out]; exact Nat.le_refl _) _).setCell (p := ⟨gb, 1, none⟩) (by rw [GEE.out]; exact Nat.le_refl _) _)); (case aY => (simp only [ByteArray.size_append]; show 0 < f.f0.size + 2 + f.f1.size + 2; omega)); (case aS => exact (((below_then HBw.out HBw.out.size B4.out).setCell (p := ⟨gb, 0, none⟩) GE.out _).setCell (p := ⟨gb, 1, none⟩) GE.out _).size); (case aL => have h5 := fbz_take l kk; have h6 := HS.out; rw [List.length_append, flat_len]; simp only [ByteArray.size_append]; show 3 + fbz (l.take kk) + (f.f0.size + 2 + f.f1.size + 2) ≤ _; omega); intro v6 w6 hR6 hb6; have HR6 := Aside0.mk hR6; have HB6 := Aside0.mk ((((below_then HBw.out HBw.out.size B4.out).setCell (p := ⟨gb, 0, none⟩) GE.out (.string f.f0)).setCell (p := ⟨gb, 1, none⟩) GE.out (.string f.f1)).trans hb6); clear hR6 hb6))
      go_roundw
      case rel =>
        refine ⟨kk + 1, by omega, by go_num, ⟨.inl ?_⟩, HB6⟩
        rw [HTA.out, List.flatMap_append, List.flatMap_cons, List.flatMap_nil, List.append_nil, ← List.append_assoc]
        exact HR6.out
      case measure => simp [intOf]; omega
    · obtain rfl : kk = N := by omega
      go_wp2_with (at_builtin; refine append_or w.heap.size rfl (.tmp 31) (.const (.string ⟨#[13, 10]⟩)) rfl _ ([48, 13, 10] ++ (l.take kk).flatMap fldB) (⟨#[13, 10]⟩ : ByteArray) rfl rfl HRo.out (by decide) HBw.out.size ?aL ?_; (case aL => have h5 := fbz_take l kk; have h6 := HS.out; rw [List.length_append, flat_len]; show 3 + fbz (l.take kk) + 2 ≤ _; omega); intro v6 w6 hR6 hb6; have HR6 := Aside0.mk hR6; have HB6 := Aside0.mk (HBw.out.trans hb6); clear hR6 hb6)
      go_ret2
      refine ⟨_, rfl, ?_, HB6.out⟩
      unfold lastS
      have e1 : l.take kk = l := List.take_of_length_le (by rw [← HN.out]; exact Nat.le_refl _)
      have e2 := HR6.out
      rw [e1] at e2
      exact e2
end Go.Proofs.YtnlicpihondmgaaDoor.Chk
/- A decoder, plainly: chunks and the last one are read as they were written; own text of this session. -/
namespace Go.Proofs.YtnlicpihondmgaaDoor.Chk
open Go.RowKit Go.Proofs.YtnlicpihondmgaaDoorW.PrintWords Go.Proofs.YtnlicpihondmgaaDoorW.PrintLast
set_option linter.unusedVariables false
set_option linter.unusedSimpArgs false
/-- A decoder that is neither whole nor wrong. -/
abbrev D (left need : Int) (line : List Int) (st : Nat) (out : List Int) (tr : List Fld) : Dec := ⟨left, need, line, st, out, tr, false, 0⟩
/-- Some bytes lead from one decoder to another. -/
def Runs (d : Dec) (a : List Int) (d' : Dec) : Prop := ∀ (b : List Int) (n : Nat), feedGo d (a ++ b) n = feedGo d' b (n + a.length)
theorem Runs.nil (d : Dec) : Runs d [] d := fun b n => rfl
theorem Runs.trans {d d' d'' : Dec} {a a' : List Int} (h : Runs d a d') (k : Runs d' a' d'') : Runs d (a ++ a') d'' := fun b n => by
  rw [List.append_assoc, h, k, List.length_append, Nat.add_assoc]
theorem Runs.one {left need left' need' : Int} {line line' : List Int} {st st' : Nat} {out out' : List Int} {tr tr' : List Fld} {c : Int} (hs : stepE (D left need line st out tr) c = (D left' need' line' st' out' tr', 0)) :
    Runs (D left need line st out tr) [c] (D left' need' line' st' out' tr') := fun b n => by
  rw [List.singleton_append, feed_next _ _ _ _ rfl rfl, hs]
  rfl
theorem rd_last (l : List Int) (c : Int) : rd (l ++ [c]) (((l ++ [c]).length : Int) - 1) = c := by
  unfold rd
  have : ((((l ++ [c]).length : Nat) : Int) - 1).toNat = l.length := by rw [List.length_append]; simp
  rw [this]
  simp
theorem not_after (l : List Int) (hl : ∀ x ∈ l, x ≠ 13) : (decide (0 < l.length) && (rd l ((l.length : Int) - 1) == 13)) = false := by
  rcases List.eq_nil_or_concat l with rfl | ⟨a, x, rfl⟩
  · rfl
  · rw [List.concat_eq_append] at hl ⊢
    rw [rd_last]
    have := hl x (by simp)
    simp [this]
theorem lined_push (l : List Int) (c : Int) (hl : ∀ x ∈ l, x ≠ 13) (h10 : c ≠ 10) (h13 : c ≠ 13) (hn : l.length < 8192) : lined l c = (l ++ [c], none, 0) := by
  unfold lined
  have hb : (c == 10) = false := by simpa using h10
  rw [not_after l hl, hb, if_neg (by simp), if_neg h10, if_neg (by omega)]
theorem lined_cr (l : List Int) (hl : ∀ x ∈ l, x ≠ 13) : lined l 13 = (l ++ [13], none, 0) := by
  unfold lined
  rw [not_after l hl]
  rfl
theorem lined_lf (l : List Int) : lined (l ++ [13]) 10 = ([], some (strOfNums l), 0) := by
  unfold lined
  rw [rd_last]
  have h1 : decide (0 < (l ++ [13]).length) = true := by simp
  rw [h1]
  have h2 : (l ++ [13]).take ((l ++ [13]).length - 1) = l := by simp
  rw [h2]
  rfl
/-- A byte of a line that goes on. -/
theorem step_line {left need : Int} {line l' : List Int} {st : Nat} {out : List Int} {tr : List Fld} {c : Int} (hst : st = 0 ∨ st = 3) (h : lined line c = (l', none, 0)) :
    stepE (D left need line st out tr) c = (D left need l' st out tr, 0) := by
  rcases hst with rfl | rfl
  · show sizeS (D left need line 0 out tr) c = _
    unfold sizeS
    show (match (lined line c).2.1 with | none => _ | some s => _) = _
    rw [h]
  · show trailerS (D left need line 3 out tr) c = _
    unfold trailerS
    show (match (lined line c).2.1 with | none => _ | some s => _) = _
    rw [h]
theorem run_chars {left need : Int} {st : Nat} {out : List Int} {tr : List Fld} (hst : st = 0 ∨ st = 3) (a : List Int) : ∀ line : List Int, (∀ x ∈ line, x ≠ 13) → (∀ c ∈ a, c ≠ 10 ∧ c ≠ 13) → line.length + a.length ≤ 8192 →
    Runs (D left need line st out tr) a (D left need (line ++ a) st out tr) := by
  induction a with
  | nil => intro line _ _ _; rw [List.append_nil]; exact Runs.nil _
  | cons c r ih =>
    intro line hl ha hn
    have hc := ha c (by simp)
    simp only [List.length_cons] at hn
    have h1 := Runs.one (step_line (left := left) (need := need) (out := out) (tr := tr) hst (lined_push line c hl hc.1 hc.2 (by omega)))
    have h2 := ih (line ++ [c]) (fun x hx => by rcases List.mem_append.1 hx with hx | hx; exact hl x hx; rw [List.mem_singleton.1 hx]; exact hc.2) (fun x hx => ha x (by simp [hx])) (by rw [List.length_append, List.length_singleton]; omega)
    rw [List.append_assoc] at h2
    exact h1.trans h2
theorem run_cr {left need : Int} {line : List Int} {st : Nat} {out : List Int} {tr : List Fld} (hst : st = 0 ∨ st = 3) (hl : ∀ x ∈ line, x ≠ 13) : Runs (D left need line st out tr) [13] (D left need (line ++ [13]) st out tr) :=
  Runs.one (step_line hst (lined_cr line hl))
/-- The end of a size line. -/
theorem run_size {left need : Int} {line : List Int} {out : List Int} {tr : List Fld} {n : Int} (hs : sizeLine (strOfNums line) = some n) (hn : 0 < n) (hle : n ≤ left) :
    Runs (D left need (line ++ [13]) 0 out tr) [10] (D (left - n) n [] 1 out tr) := by
  refine Runs.one ?_
  show sizeS (D left need (line ++ [13]) 0 out tr) 10 = _
  unfold sizeS
  show (match (lined (line ++ [13]) 10).2.1 with | none => _ | some s => _) = _
  rw [lined_lf]
  show (match sizeLine (strOfNums line) with | none => _ | some n => _) = _
  rw [hs]
  show sizeN _ _ n = _
  unfold sizeN
  rw [if_neg (by show ¬ n > left; omega), if_neg (by omega)]
theorem run_zero {left need : Int} {line : List Int} {out : List Int} {tr : List Fld} (hs : sizeLine (strOfNums line) = some 0) (hle : 0 ≤ left) :
    Runs (D left need (line ++ [13]) 0 out tr) [10] (D left need [] 3 out tr) := by
  refine Runs.one ?_
  show sizeS (D left need (line ++ [13]) 0 out tr) 10 = _
  unfold sizeS
  show (match (lined (line ++ [13]) 10).2.1 with | none => _ | some s => _) = _
  rw [lined_lf]
  show (match sizeLine (strOfNums line) with | none => _ | some n => _) = _
  rw [hs]
  show sizeN _ _ 0 = _
  unfold sizeN
  rw [if_neg (by show ¬ (0 : Int) > left; omega), if_pos rfl]
/-- A chunk's bytes. -/
theorem run_data {left : Int} {tr : List Fld} (b : List Int) : ∀ (out : List Int), b ≠ [] → Runs (D left (b.length : Int) [] 1 out tr) b (D left 0 [] 2 (out ++ b) tr) := by
  induction b with
  | nil => intro out h; exact absurd rfl h
  | cons c r ih =>
    intro out _
    cases r with
    | nil =>
      refine Runs.one ?_
      show dataS _ c = _
      unfold dataS
      simp
    | cons c' r' =>
      have h1 : Runs (D left ((c :: c' :: r').length : Int) [] 1 out tr) [c] (D left (((c' :: r').length : Nat) : Int) [] 1 (out ++ [c]) tr) := by
        refine Runs.one ?_
        show dataS _ c = _
        unfold dataS
        have h2 : ((c :: c' :: r').length : Int) - 1 = (((c' :: r').length : Nat) : Int) := by simp only [List.length_cons]; omega
        have h3 : ¬ (((c' :: r').length : Nat) : Int) = 0 := by simp only [List.length_cons]; omega
        simp only [h2, if_neg h3]
      have h4 := ih (out ++ [c]) (by simp)
      rw [List.append_assoc] at h4
      exact h1.trans h4
theorem run_end {left : Int} {out : List Int} {tr : List Fld} : Runs (D left 0 [] 2 out tr) [13, 10] (D left 0 [] 0 out tr) :=
  Runs.trans (a := [13]) (a' := [10]) (Runs.one (line' := [13]) (by rfl)) (Runs.one (by rfl))
/-- A trailer's line. -/
theorem run_trailer {left need : Int} {line : List Int} {out : List Int} {tr : List Fld} (hs : ¬ (strOfNums line).size = 0) (hok : (Lib.cut (strOfNums line).data.toList [58]).2.2 = true) (hm : ¬ tr.length = 100) (he : fldE (trailerF (strOfNums line)) = 0) :
    Runs (D left need (line ++ [13]) 3 out tr) [10] (D left need [] 3 out (tr ++ [trailerF (strOfNums line)])) := by
  refine Runs.one ?_
  show trailerS (D left need (line ++ [13]) 3 out tr) 10 = _
  unfold trailerS
  show (match (lined (line ++ [13]) 10).2.1 with | none => _ | some s => _) = _
  rw [lined_lf]
  show (if (strOfNums line).size = 0 then _ else if (Lib.cut (strOfNums line).data.toList [58]).2.2 = false ∨ tr.length = 100 ∨ ¬ fldE (trailerF (strOfNums line)) = 0 then _ else _) = _
  rw [if_neg hs, if_neg (by rw [hok, he]; simp [hm])]
/-- The empty line: the body is whole. -/
theorem end_whole {left need : Int} {out : List Int} {tr : List Fld} (rest : List Int) (n : Nat) : feedGo (D left need [] 3 out tr) ([13, 10] ++ rest) n = (⟨left, need, [], 3, out, tr, true, 0⟩, n + 2) := by
  have h1 := run_cr (left := left) (need := need) (out := out) (tr := tr) (st := 3) (line := []) (.inr rfl) (by simp)
  show feedGo _ ([13] ++ (10 :: rest)) n = _
  rw [h1, feed_next _ _ _ _ rfl rfl]
  have h2 : stepE (D left need ([] ++ [13]) 3 out tr) 10 = (⟨left, need, [], 3, out, tr, true, 0⟩, 0) := by
    rfl
  rw [h2]
  exact feed_stop _ _ _ (.inr (.inl rfl))
/-! ### texts -/
theorem str_bytes (s : ByteArray) : strOfNums (bytesOf s) = s := by
  have h := Px.str_nums s.data.toList
  rw [Px.mkB_of] at h
  exact h
theorem bytes_append (a b : ByteArray) : bytesOf (a ++ b) = bytesOf a ++ bytesOf b := by
  unfold bytesOf
  rw [ByteArray.data_append, Array.toList_append, List.map_append]
theorem index_one (a b : List UInt8) (c : UInt8) (h : c ∉ a) : Lib.index (a ++ c :: b) [c] = (a.length : Int) := by
  induction a with
  | nil => simp [Lib.index]
  | cons x r ih =>
    have hx : ¬ c = x := fun e => h (by simp [e])
    have hr := ih (fun e => h (by simp [e]))
    show (if [c].isPrefixOf (x :: (r ++ c :: b)) then 0 else if Lib.index (r ++ c :: b) [c] == -1 then -1 else Lib.index (r ++ c :: b) [c] + 1) = _
    rw [hr]
    have hp : [c].isPrefixOf (x :: (r ++ c :: b)) = false := by simp [List.isPrefixOf, hx]
    rw [hp]
    have hn : ((r.length : Int) == -1) = false := by simp
    rw [hn]
    simp
theorem index_none (a : List UInt8) (c : UInt8) (h : c ∉ a) : Lib.index a [c] = -1 := by
  induction a with
  | nil => simp [Lib.index]
  | cons x r ih =>
    have hx : ¬ c = x := fun e => h (by simp [e])
    have hr := ih (fun e => h (by simp [e]))
    show (if [c].isPrefixOf (x :: r) then 0 else if Lib.index r [c] == -1 then -1 else Lib.index r [c] + 1) = _
    rw [hr]
    have hp : [c].isPrefixOf (x :: r) = false := by simp [List.isPrefixOf, hx]
    rw [hp]
    rfl
theorem cut_one (a b : List UInt8) (c : UInt8) (h : c ∉ a) : Lib.cut (a ++ c :: b) [c] = (a, b, true) := by
  unfold Lib.cut
  rw [index_one a b c h, if_pos (by omega)]
  simp
theorem cut_none (a : List UInt8) (c : UInt8) (h : c ∉ a) : Lib.cut a [c] = (a, [], false) := by
  unfold Lib.cut
  rw [index_none a c h]
  rfl
end Go.Proofs.YtnlicpihondmgaaDoor.Chk
/- A decoder, plainly: there and back; own text of this session. -/
namespace Go.Proofs.YtnlicpihondmgaaDoor.Chk
open Go.RowKit Go.Proofs.YtnlicpihondmgaaDoorW.PrintWords Go.Proofs.YtnlicpihondmgaaDoorW.PrintLast Go.Proofs.Hr
set_option linter.unusedVariables false
set_option linter.unusedSimpArgs false
theorem hexDigit_ch : ∀ d : Fin 16, Hr.hexDigit d.val ≠ 10 ∧ Hr.hexDigit d.val ≠ 13 ∧ Hr.hexDigit d.val ≠ 59 := by decide +kernel
theorem hexGo_ch (k : Nat) : ∀ (n : Nat) (acc : Bs), (∀ c ∈ acc, c ≠ 10 ∧ c ≠ 13 ∧ c ≠ 59) → ∀ c ∈ hexGo k n acc, c ≠ 10 ∧ c ≠ 13 ∧ c ≠ 59 := by
  induction k with
  | zero => intro n acc h; exact h
  | succ k ih =>
    intro n acc h
    unfold hexGo
    split
    · rename_i hn
      intro c hc
      rcases List.mem_cons.1 hc with rfl | hc
      · exact hexDigit_ch ⟨n, hn⟩
      · exact h c hc
    · refine ih _ _ (fun c hc => ?_)
      rcases List.mem_cons.1 hc with rfl | hc
      · exact hexDigit_ch ⟨n % 16, Nat.mod_lt _ (by decide)⟩
      · exact h c hc
theorem hex_ch (n : Nat) : ∀ c ∈ hex n, c ≠ 10 ∧ c ≠ 13 ∧ c ≠ 59 := hexGo_ch 17 n [] (fun c hc => by cases hc)
theorem nOf_ch (l : Bs) (h : ∀ c ∈ l, c ≠ 10 ∧ c ≠ 13) : ∀ c ∈ nOf l, c ≠ 10 ∧ c ≠ 13 := by
  intro c hc
  obtain ⟨x, hx, rfl⟩ := List.mem_map.1 hc
  obtain ⟨h1, h2⟩ := h x hx
  refine ⟨fun e => h1 ?_, fun e => h2 ?_⟩
  · exact UInt8.toNat_inj.1 (by show x.toNat = 10; omega)
  · exact UInt8.toNat_inj.1 (by show x.toNat = 13; omega)
theorem size_hex (n : Nat) (hn : n ≤ 9007199254740992) : sizeLine (strOfNums (nOf (hex n))) = some (n : Int) := by
  rw [strOfNums_nOf]
  have e : ((⟨(hex n).toArray⟩ : ByteArray).data.toList) = hex n := by simp
  unfold sizeLine
  rw [e, cut_none (hex n) 59 (fun h => (hex_ch n 59 h).2.2 rfl)]
  show (if (Hr.digits 16 (hex n)).2 = 0 ∧ Px.value ([97] ++ [] ++ [97]) = true then some (Hr.digits 16 (hex n)).1 else none) = _
  rw [Px.digits_hex n hn, if_pos ⟨rfl, by decide +kernel⟩]
def chunkB (b : List Int) : List Int := if b = [] then [] else nOf (hex b.length) ++ [13, 10] ++ b ++ [13, 10]
theorem run_chunk {left need : Int} {out : List Int} {tr : List Fld} (b : List Int) (hb : b ≠ []) (hle : (b.length : Int) ≤ left) (hmax : b.length ≤ 9007199254740992) :
    Runs (D left need [] 0 out tr) (nOf (hex b.length) ++ [13, 10] ++ b ++ [13, 10]) (D (left - b.length) 0 [] 0 (out ++ b) tr) := by
  have hlen : (nOf (hex b.length)).length ≤ 8192 := by
    rw [nOf_length]
    have := Px.hexGo_length 17 b.length []
    simp only [List.length_nil] at this
    show (hexGo 17 b.length []).length ≤ _
    omega
  have hch := nOf_ch (hex b.length) (fun c hc => ⟨(hex_ch b.length c hc).1, (hex_ch b.length c hc).2.1⟩)
  have h1 := run_chars (left := left) (need := need) (out := out) (tr := tr) (st := 0) (.inl rfl) (nOf (hex b.length)) [] (fun x hx => by cases hx) hch (by simpa using hlen)
  rw [List.nil_append] at h1
  have h2 := run_cr (left := left) (need := need) (out := out) (tr := tr) (st := 0) (line := nOf (hex b.length)) (.inl rfl) (fun x hx => (hch x hx).2)
  have hpos : 0 < (b.length : Int) := by have := List.length_pos_iff.2 hb; omega
  have h3 := run_size (left := left) (need := need) (out := out) (tr := tr) (size_hex b.length hmax) hpos hle
  have h4 := run_data (left := left - b.length) (tr := tr) b out hb
  have h5 := run_end (left := left - b.length) (out := out ++ b) (tr := tr)
  have h6 := (((h1.trans h2).trans h3).trans h4).trans h5
  rw [List.append_assoc (nOf (hex b.length)) [13] [10]] at h6
  exact h6
theorem run_chunks {tr : List Fld} (ps : List (List Int)) : ∀ (left need : Int) (out : List Int), (ps.flatten.length : Int) ≤ left → left ≤ 9007199254740992 → ∃ need', Runs (D left need [] 0 out tr) (ps.flatMap chunkB) (D (left - ps.flatten.length) need' [] 0 (out ++ ps.flatten) tr) := by
  induction ps with
  | nil => intro left need out _ _; exact ⟨need, by simp; exact Runs.nil _⟩
  | cons b r ih =>
    intro left need out h1 h2
    simp only [List.flatten_cons, List.length_append] at h1
    by_cases hb : b = []
    · subst hb
      obtain ⟨need', h3⟩ := ih left need out (by omega) h2
      exact ⟨need', by simpa [List.flatMap_cons, chunkB] using h3⟩
    · have h4 := run_chunk (left := left) (need := need) (out := out) (tr := tr) b hb (by omega) (by omega)
      obtain ⟨need', h3⟩ := ih (left - b.length) 0 (out ++ b) (by omega) (by omega)
      refine ⟨need', ?_⟩
      have h5 := h4.trans h3
      rw [List.flatMap_cons, List.flatten_cons, List.length_append, ← List.append_assoc]
      have e1 : chunkB b = nOf (hex b.length) ++ [13, 10] ++ b ++ [13, 10] := by unfold chunkB; rw [if_neg hb]
      rw [e1]
      have e2 : left - ((b.length + r.flatten.length : Nat) : Int) = left - b.length - r.flatten.length := by omega
      rw [e2]
      exact h5
theorem tch_ch (c : UInt8) : Px.tch c = true → c ≠ 10 ∧ c ≠ 13 ∧ c ≠ 58 := Px.byte_of (fun c => Px.tch c = true → c ≠ 10 ∧ c ≠ 13 ∧ c ≠ 58) (by decide +kernel) c
theorem val_ch (c : UInt8) : Px.valOk c = true → c ≠ 10 ∧ c ≠ 13 := Px.byte_of (fun c => Px.valOk c = true → c ≠ 10 ∧ c ≠ 13) (by decide +kernel) c
theorem fld_ok {f : Fld} (h : fldE f = 0) : (∀ c ∈ f.f0.data.toList, c ≠ 10 ∧ c ≠ 13 ∧ c ≠ 58) ∧ (∀ c ∈ f.f1.data.toList, c ≠ 10 ∧ c ≠ 13) ∧ Hr.trim f.f1.data.toList = f.f1.data.toList := by
  unfold fldE at h
  split at h
  · rename_i ht
    split at h
    · rename_i hv
      unfold Px.token at ht
      unfold Px.value at hv
      rw [Bool.and_eq_true] at ht hv
      exact ⟨fun c hc => tch_ch c (List.all_eq_true.1 ht.1 c hc), fun c hc => val_ch c (List.all_eq_true.1 hv.1 c hc), by simpa using hv.2⟩
    · cases h
  · cases h
theorem trim_blank (v : Bs) : Hr.trim (32 :: v) = Hr.trim v := by
  rw [Px.trim_eq, Px.trim_comm, Px.trim_eq v, Px.trim_comm v]
  rfl
theorem run_field {left need : Int} {out : List Int} {tr : List Fld} (f : Fld) (h : fldE f = 0) (hs : f.f0.size + f.f1.size ≤ 8190) (ht : tr.length < 100) : Runs (D left need [] 3 out tr) (fldB f) (D left need [] 3 out (tr ++ [f])) := by
  obtain ⟨h0, h1, h2⟩ := fld_ok h
  obtain ⟨s, hse⟩ : ∃ s : ByteArray, s = f.f0 ++ (⟨#[58, 32]⟩ : ByteArray) ++ f.f1 := ⟨_, rfl⟩
  have e : fldB f = bytesOf s ++ [13] ++ [10] := by
    unfold fldB
    rw [← hse, bytes_append, List.append_assoc]
    rfl
  have hl : s.data.toList = f.f0.data.toList ++ 58 :: (32 :: f.f1.data.toList) := by
    rw [hse, ByteArray.data_append, ByteArray.data_append, Array.toList_append, Array.toList_append, List.append_assoc]
    rfl
  have hsz : s.size = f.f0.size + f.f1.size + 2 := by
    rw [hse]
    simp only [ByteArray.size_append]
    show f.f0.size + 2 + f.f1.size = _
    omega
  have hch : ∀ c ∈ bytesOf s, c ≠ 10 ∧ c ≠ 13 := by
    refine nOf_ch s.data.toList (fun c hc => ?_)
    rw [hl] at hc
    rcases List.mem_append.1 hc with hc | hc
    · exact ⟨(h0 c hc).1, (h0 c hc).2.1⟩
    · rcases List.mem_cons.1 hc with rfl | hc
      · decide
      · rcases List.mem_cons.1 hc with rfl | hc
        · decide
        · exact h1 c hc
  have hc58 : Lib.cut s.data.toList [58] = (f.f0.data.toList, 32 :: f.f1.data.toList, true) := by
    rw [hl]
    exact cut_one _ _ 58 (fun hc => (h0 58 hc).2.2 rfl)
  have htf : trailerF (strOfNums (bytesOf s)) = f := by
    rw [str_bytes]
    unfold trailerF
    rw [hc58]
    show (⟨Px.mkB f.f0.data.toList, Px.mkB (Hr.trim (32 :: f.f1.data.toList))⟩ : Fld) = f
    rw [trim_blank, h2, Px.mkB_of, Px.mkB_of]
  have r1 := run_chars (left := left) (need := need) (out := out) (tr := tr) (st := 3) (.inr rfl) (bytesOf s) [] (fun x hx => by cases hx) hch (by rw [bytesOf_length]; simp only [List.length_nil]; omega)
  rw [List.nil_append] at r1
  have r2 := run_cr (left := left) (need := need) (out := out) (tr := tr) (st := 3) (line := bytesOf s) (.inr rfl) (fun x hx => (hch x hx).2)
  have r3 := run_trailer (left := left) (need := need) (line := bytesOf s) (out := out) (tr := tr) (by rw [str_bytes, hsz]; omega) (by rw [str_bytes, hc58]) (by omega) (by rw [htf]; exact h)
  rw [htf] at r3
  rw [e]
  exact (r1.trans r2).trans r3
theorem run_fields {left need : Int} {out : List Int} (l : List Fld) : ∀ tr : List Fld, (∀ f ∈ l, fldE f = 0 ∧ f.f0.size + f.f1.size ≤ 8190) → tr.length + l.length ≤ 100 → Runs (D left need [] 3 out tr) (l.flatMap fldB) (D left need [] 3 out (tr ++ l)) := by
  induction l with
  | nil => intro tr _ _; rw [List.append_nil]; exact Runs.nil _
  | cons f r ih =>
    intro tr h ht
    simp only [List.length_cons] at ht
    have h1 := run_field (left := left) (need := need) (out := out) (tr := tr) f (h f (by simp)).1 (h f (by simp)).2 (by omega)
    have h2 := ih (tr ++ [f]) (fun g hg => h g (by simp [hg])) (by rw [List.length_append, List.length_singleton]; omega)
    rw [List.append_assoc] at h2
    exact h1.trans h2
theorem chkGo_all (l : List Fld) (h : chkGo l = 0) : ∀ f ∈ l, fldE f = 0 := by
  induction l with
  | nil => intro f hf; cases hf
  | cons g r ih =>
    unfold chkGo at h
    split at h
    · rename_i hg
      intro f hf
      rcases List.mem_cons.1 hf with rfl | hf
      · exact hg
      · exact ih h f hf
    · rename_i hg; exact absurd h hg
theorem chk_ok (l : List Fld) (h : chkS l = 0) : l.length ≤ 100 ∧ ∀ f ∈ l, fldE f = 0 := by
  unfold chkS at h
  split at h
  · cases h
  · exact ⟨by omega, chkGo_all l h⟩
/-- There and back. -/
theorem back (ps : List (List Int)) (l : List Fld) (rest : List Int) (hp : ps.flatten.length ≤ 9007199254740992) (hl : chkS l = 0) (hs : ∀ f ∈ l, f.f0.size + f.f1.size ≤ 8190) :
    ∃ need left, feedGo (newDec (ps.flatten.length : Int)) (ps.flatMap chunkB ++ lastS l ++ rest) 0 = (⟨left, need, [], 3, ps.flatten, l, true, 0⟩, (ps.flatMap chunkB ++ lastS l).length) := by
  obtain ⟨hl1, hl2⟩ := chk_ok l hl
  obtain ⟨need, h1⟩ := run_chunks (tr := []) ps (ps.flatten.length : Int) 0 [] (Int.le_refl _) (by omega)
  rw [List.nil_append] at h1
  have z1 := run_chars (left := (ps.flatten.length : Int) - ps.flatten.length) (need := need) (out := ps.flatten) (tr := []) (st := 0) (.inl rfl) [48] [] (fun x hx => by cases hx) (fun c hc => by rw [List.mem_singleton.1 hc]; decide) (by simp)
  rw [List.nil_append] at z1
  have z2 := run_cr (left := (ps.flatten.length : Int) - ps.flatten.length) (need := need) (out := ps.flatten) (tr := []) (st := 0) (line := [48]) (.inl rfl) (fun x hx => by rw [List.mem_singleton.1 hx]; decide)
  have z3 := run_zero (left := (ps.flatten.length : Int) - ps.flatten.length) (need := need) (line := [48]) (out := ps.flatten) (tr := []) (by decide +kernel) (by omega)
  have z4 := run_fields (left := (ps.flatten.length : Int) - ps.flatten.length) (need := need) (out := ps.flatten) l [] (fun f hf => ⟨hl2 f hf, hs f hf⟩) (by simpa using hl1)
  rw [List.nil_append] at z4
  have z := (((h1.trans z1).trans z2).trans z3).trans z4
  refine ⟨need, (ps.flatten.length : Int) - ps.flatten.length, ?_⟩
  have e : ps.flatMap chunkB ++ lastS l ++ rest = (ps.flatMap chunkB ++ [48] ++ [13] ++ [10] ++ l.flatMap fldB) ++ ([13, 10] ++ rest) := by
    unfold lastS
    simp [List.append_assoc]
  rw [e]
  show feedGo (D (ps.flatten.length : Int) 0 [] 0 [] []) _ 0 = _
  rw [z, end_whole]
  congr 1
  unfold lastS
  simp [List.length_append]
  omega
end Go.Proofs.YtnlicpihondmgaaDoor.Chk
/- A decoder, plainly: bytes that come in two pieces; own text of this session. -/
namespace Go.Proofs.YtnlicpihondmgaaDoor.Chk
open Go.RowKit Go.Proofs.YtnlicpihondmgaaDoorW.PrintWords Go.Proofs.YtnlicpihondmgaaDoorW.PrintLast
set_option linter.unusedVariables false
set_option linter.unusedSimpArgs false
theorem feed_go (d : Dec) (c : Int) (r : List Int) (n : Nat) (h : ¬ (d.whole = true ∨ ¬ d.wrong = 0)) : feedGo d (c :: r) n = feedGo { (stepE d c).1 with wrong := (stepE d c).2 } r (n + 1) := by
  show (if d.whole = true ∨ ¬ d.wrong = 0 then (d, n) else _) = _
  rw [if_neg h]
theorem feed_append (a b : List Int) : ∀ (d : Dec) (n : Nat), feedGo d (a ++ b) n = if (feedGo d a n).2 = n + a.length then feedGo (feedGo d a n).1 b (n + a.length) else feedGo d a n := by
  induction a with
  | nil => intro d n; rw [List.nil_append]; show _ = if n = n + 0 then feedGo d b (n + 0) else (d, n); rw [Nat.add_zero, if_pos rfl]
  | cons c r ih =>
    intro d n
    rw [List.cons_append]
    by_cases h : d.whole = true ∨ ¬ d.wrong = 0
    · rw [feed_stop d (c :: (r ++ b)) n (.inr h), feed_stop d (c :: r) n (.inr h), if_neg (by simp only [List.length_cons]; omega)]
    · rw [feed_go _ _ _ _ h, feed_go _ _ _ _ h, ih, List.length_cons, show n + 1 + r.length = n + (r.length + 1) from by omega]
/-- Of bytes that are read whole, a beginning leaves the decoder neither whole nor wrong. -/
theorem feed_cut (d D : Dec) (a b : List Int) (hb : b ≠ []) (h : feedGo d (a ++ b) 0 = (D, (a ++ b).length)) :
    ∃ d1, feedGo d a 0 = (d1, a.length) ∧ d1.whole = false ∧ d1.wrong = 0 ∧ feedGo d1 b a.length = (D, (a ++ b).length) := by
  have hlen := List.length_pos_iff.2 hb
  have hl := feed_len a d 0
  rw [feed_append] at h
  have e : (feedGo d a 0).2 = 0 + a.length := by
    by_cases e : (feedGo d a 0).2 = 0 + a.length
    · exact e
    · rw [if_neg e] at h
      rw [h] at hl
      simp only [List.length_append] at hl
      omega
  rw [if_pos e, Nat.zero_add] at h
  rw [Nat.zero_add] at e
  refine ⟨(feedGo d a 0).1, by rw [← e], ?_, ?_, h⟩
  · cases hw : (feedGo d a 0).1.whole with
    | false => rfl
    | true =>
      rw [feed_stop _ _ _ (.inr (.inl hw))] at h
      have := congrArg Prod.snd h
      simp only [List.length_append] at this
      omega
  · by_cases hw : (feedGo d a 0).1.wrong = 0
    · exact hw
    · rw [feed_stop _ _ _ (.inr (.inr hw))] at h
      have := congrArg Prod.snd h
      simp only [List.length_append] at this
      omega
/-- Bytes that were read before change nothing. -/
def Dec.pre (p : List Int) (d : Dec) : Dec := { d with out := p ++ d.out }
theorem step_pre (p : List Int) (d : Dec) (c : Int) : stepE (d.pre p) c = ((stepE d c).1.pre p, (stepE d c).2) := by
  unfold stepE
  have hst : (d.pre p).st = d.st := rfl
  rw [hst]
  match d.st with
  | 0 =>
    show sizeS (d.pre p) c = ((sizeS d c).1.pre p, (sizeS d c).2)
    unfold sizeS
    have hl : (d.pre p).line = d.line := rfl
    rw [hl]
    cases (lined d.line c).2.1 with
    | none => rfl
    | some s =>
      cases hs : sizeLine s with
      | none => simp only [hs]; rfl
      | some n =>
        simp only [hs]
        unfold sizeN
        have hle : (d.pre p).left = d.left := rfl
        rw [hle]
        by_cases h1 : n > d.left
        · rw [if_pos h1, if_pos h1]; rfl
        · rw [if_neg h1, if_neg h1]
          by_cases h2 : n = 0
          · rw [if_pos h2, if_pos h2]; rfl
          · rw [if_neg h2, if_neg h2]; rfl
  | 1 =>
    show dataS (d.pre p) c = ((dataS d c).1.pre p, (dataS d c).2)
    unfold dataS Dec.pre
    simp only [List.append_assoc]
  | 2 =>
    show endS (d.pre p) c = ((endS d c).1.pre p, (endS d c).2)
    unfold endS
    have hl : (d.pre p).line = d.line := rfl
    rw [hl]
    by_cases h1 : c ≠ (if d.line.length = 1 then 10 else 13)
    · rw [if_pos h1, if_pos h1]
    · rw [if_neg h1, if_neg h1]
      by_cases h2 : c = 10
      · rw [if_pos h2, if_pos h2]; rfl
      · rw [if_neg h2, if_neg h2]; rfl
  | n + 3 =>
    show trailerS (d.pre p) c = ((trailerS d c).1.pre p, (trailerS d c).2)
    unfold trailerS
    have hl : (d.pre p).line = d.line := rfl
    have ht : (d.pre p).tr = d.tr := rfl
    rw [hl, ht]
    cases (lined d.line c).2.1 with
    | none => rfl
    | some s =>
      simp only
      by_cases h1 : s.size = 0
      · rw [if_pos h1, if_pos h1]; rfl
      · rw [if_neg h1, if_neg h1]
        by_cases h2 : (Lib.cut s.data.toList [58]).2.2 = false ∨ d.tr.length = 100 ∨ ¬ fldE (trailerF s) = 0
        · rw [if_pos h2, if_pos h2]; rfl
        · rw [if_neg h2, if_neg h2]; rfl
theorem feed_pre (p : List Int) (b : List Int) : ∀ (d : Dec) (n : Nat), feedGo (d.pre p) b n = ((feedGo d b n).1.pre p, (feedGo d b n).2) := by
  induction b with
  | nil => intro d n; rfl
  | cons c r ih =>
    intro d n
    by_cases h : d.whole = true ∨ ¬ d.wrong = 0
    · rw [feed_stop d (c :: r) n (.inr h), feed_stop (d.pre p) (c :: r) n (.inr h)]
    · rw [feed_go d c r n h, feed_go (d.pre p) c r n h, ← ih]
      congr 1
      rw [step_pre]
      rfl
theorem feed_shift (b : List Int) : ∀ (d : Dec) (n k : Nat), feedGo d b (n + k) = ((feedGo d b n).1, (feedGo d b n).2 + k) := by
  induction b with
  | nil => intro d n k; rfl
  | cons c r ih =>
    intro d n k
    by_cases h : d.whole = true ∨ ¬ d.wrong = 0
    · rw [feed_stop d (c :: r) _ (.inr h), feed_stop d (c :: r) _ (.inr h)]
    · rw [feed_go d c r _ h, feed_go d c r _ h, show n + k + 1 = n + 1 + k from by omega, ih]
/-- Bytes that are read whole, in two pieces. -/
theorem feed_two (d D : Dec) (a b : List Int) (hb : b ≠ []) (h : feedGo d (a ++ b) 0 = (D, (a ++ b).length)) :
    ∃ d1 d2, feedGo d a 0 = (d1, a.length) ∧ d1.whole = false ∧ d1.wrong = 0 ∧ feedGo { d1 with out := [] } b 0 = (d2, b.length) ∧ d2.whole = D.whole ∧ d2.wrong = D.wrong ∧ d1.out ++ d2.out = D.out ∧ d2.tr = D.tr := by
  obtain ⟨d1, h1, h2, h3, h4⟩ := feed_cut d D a b hb h
  have e : d1 = ({ d1 with out := [] } : Dec).pre d1.out := by unfold Dec.pre; simp
  have h5 := feed_pre d1.out b { d1 with out := [] } a.length
  rw [← e, h4] at h5
  have h6 := feed_shift b { d1 with out := [] } 0 a.length
  rw [Nat.zero_add] at h6
  rw [h6] at h5
  simp only [Prod.mk.injEq, List.length_append] at h5
  obtain ⟨h7, h8⟩ := h5
  refine ⟨d1, (feedGo { d1 with out := [] } b 0).1, h1, h2, h3, ?_, ?_, ?_, ?_, ?_⟩
  · rw [show b.length = (feedGo { d1 with out := [] } b 0).2 from by omega]
  · rw [h7]; rfl
  · rw [h7]; rfl
  · rw [h7]; rfl
  · rw [h7]; rfl
end Go.Proofs.YtnlicpihondmgaaDoor.Chk
/- Package chunked: Chunk, and rows of rows of bytes; own text of this session. -/
namespace Go.Proofs.YtnlicpihondmgaaDoor.Chk
open Go.RowKit Go.Proofs.YtnlicpihondmgaaDoorW.PrintWords Go.Proofs.YtnlicpihondmgaaDoorW.PrintLast
set_option linter.unusedVariables false
set_option linter.unusedSimpArgs false
/-- Numbers that are bytes. -/
def isB (b : List Int) : Bool := b.all fun x => decide (0 ≤ x) && decide (x ≤ 255)
theorem nums_str (b : List Int) (hw : isB b = true) : nOf (strOfNums b).data.toList = b := by
  unfold isB at hw
  rw [strOfNums_data]
  unfold nOf
  rw [List.map_map]
  refine (List.map_congr_left (g := id) (fun x hx => ?_)).trans (by simp)
  have h := List.all_eq_true.1 hw x hx
  simp only [Bool.and_eq_true, decide_eq_true_eq] at h
  have h2 : x.toNat < 256 := by omega
  simp only [Function.comp, id]
  rw [UInt8.toNat_ofNat', Nat.mod_eq_of_lt h2]
  omega
theorem hex_len (n : Nat) : (Hr.hex n).length ≤ 17 := by
  have := Px.hexGo_length 17 n []
  simp only [List.length_nil] at this
  show (Hr.hexGo 17 n []).length ≤ _
  omega
theorem nOf_app (a b : List UInt8) : nOf (a ++ b) = nOf a ++ nOf b := by unfold nOf; rw [List.map_append]
theorem chunk_f (b : List Int) (hw : isB b = true) (hn : b.length ≤ 1099511627776) : P.chunked_Chunk.f b = some (chunkB b) := by
  unfold P.chunked_Chunk.f chunkB
  by_cases hb : b = []
  · subst hb; rfl
  · have hp := List.length_pos_iff.2 hb
    rw [if_neg (by omega), if_neg hb, Px.lHexText, if_neg (by omega)]
    have hs : (Px.mkB (Hr.hex (b.length : Int).toNat)).size ≤ 17 := by rw [Px.mkB_size]; exact hex_len _
    have hs2 : (Px.mkB (Hr.hex (b.length : Int).toNat), (0 : Int)).1.size ≤ 17 := hs
    have hz : (⟨#[13, 10]⟩ : ByteArray).size = 2 := rfl
    show (if (Px.mkB (Hr.hex (b.length : Int).toNat)).size + 2 ≤ 9223372036854775807 then _ else _) = _
    rw [if_pos (by omega), if_pos (by rw [ByteArray.size_append, strOfNums_size, hz]; omega), if_pos (by rw [ByteArray.size_append, ByteArray.size_append, strOfNums_size, hz]; omega), if_pos (by rw [ByteArray.size_append, ByteArray.size_append, ByteArray.size_append, strOfNums_size, hz]; omega)]
    congr 1
    simp only [ByteArray.data_append, Array.toList_append, nOf_app, nums_str b hw, Px.mkB_data, Int.toNat_natCast]
    rfl
theorem chunk_calls (b : List Int) (A : Option Addr) (c : Nat) (w : World) (hr : Kd.C (Kd.int .u8) w A b.length b) (hc : b.length ≤ c) (hw : isB b = true) (hn : b.length ≤ 1099511627776) (hG : GInv w) :
    Calls Tryd.prog 19 #[.slice A b.length c] w fun e w' => ∃ (A1 : Option Addr) (c1 : Nat), e = .returned (.slice A1 (chunkB b).length c1) ∧ (Kd.int .u8).C w' A1 (chunkB b).length (chunkB b) ∧ Below w.heap.size w w' := by
  refine (P.chunked_Chunk.calls A c b (chunkB b) w hr hc (chunk_f b hw hn) hG).mono ?_
  rintro e w' ⟨v, rfl, ⟨A1, c1, e1, _, hF⟩, hb⟩
  subst e1
  exact ⟨A1, c1, rfl, hF w' (fun _ _ _ => rfl), hb⟩
theorem chunkB_len (b : List Int) : (chunkB b).length ≤ b.length + 21 := by
  unfold chunkB
  split
  · simp
  · have := hex_len b.length
    simp only [List.length_append, nOf_length, List.length_cons, List.length_nil]
    omega
theorem flat_chunk (ps : List (List Int)) : (ps.flatMap chunkB).length ≤ ps.flatten.length + 21 * ps.length := by
  induction ps with
  | nil => simp
  | cons b r ih =>
    have := chunkB_len b
    rw [List.flatMap_cons, List.flatten_cons, List.length_append, List.length_append, List.length_cons]
    omega
/-- An element of a row of rows. -/
theorem at_row {w : World} {A : Option Addr} {n : Nat} {ps : List (List Int)} (h : Kd.C (Kd.slice 5 (Kd.int .u8)) w A n ps) (kk : Nat) (hk : kk < ps.length) (hn : ps.length = n) :
    ∃ ad Ab cb, A = some ad ∧ w.cell? (ad.add kk) = some (.slice Ab (ps[kk]).length cb) ∧ (ps[kk]).length ≤ cb ∧ Kd.C (Kd.int .u8) w Ab (ps[kk]).length ps[kk] := by
  obtain ⟨ad, c, e, _, hK, hc⟩ := Kd.C_get h [] (kk : Int) (by omega) (by omega)
  rw [Int.toNat_natCast] at hK hc
  have hd : ps.getD kk [] = ps[kk] := by rw [List.getD_eq_getElem?_getD, List.getElem?_eq_getElem hk]; rfl
  rw [hd] at hK
  obtain ⟨Ab, cb, e2, h2, h3⟩ := hK
  subst e2
  have h4 := hc 0 _ rfl
  have h5 : (kk * (Kd.slice 5 (Kd.int .u8)).sz + 0) = kk := by show kk * 1 + 0 = kk; omega
  rw [h5] at h4
  exact ⟨ad, Ab, cb, e, h4, h2, h3⟩
theorem row_le (ps : List (List Int)) (kk : Nat) (h : kk < ps.length) : (ps.take kk).flatten.length + (ps[kk]).length ≤ ps.flatten.length := by
  have e : ps.flatten = (ps.take kk).flatten ++ (ps[kk] ++ (ps.drop (kk + 1)).flatten) := by
    rw [← List.flatten_cons, ← List.drop_eq_getElem_cons h, ← List.flatten_append, List.take_append_drop]
  rw [e, List.length_append, List.length_append]
  omega
/-- Two rows that are built side by side. -/
structure Two (w : World) (base : Nat) (v u : Value) (xs ys : List Int) : Prop where
  a : (Kd.int .u8).R 5 w base (fun k => some k ≠ u.ownBlock) v xs
  b : (Kd.int .u8).R 5 w base (fun k => some k ≠ v.ownBlock) u ys
theorem Two.below {w w1 : World} {base : Nat} {v u : Value} {xs ys : List Int} (h : Two w base v u xs ys) (hb : Below w.heap.size w w1) : Two w1 base v u xs ys := ⟨Kd.R_below h.a hb, Kd.R_below h.b hb⟩
theorem Two.nil (w : World) (base : Nat) : Two w base (.slice none 0 0) (.slice none 0 0) [] [] := ⟨Kd.R_nil _ _ _ _ _, Kd.R_nil _ _ _ _ _⟩
theorem Two.first {w w1 : World} {base : Nat} {v u v1 : Value} {xs ys xs1 : List Int} (h : Two w base v u xs ys) (hg : w.grownBy w1 v.ownBlock) (hat : v1.ownBlock = v.ownBlock ∨ ∃ b, v1.ownBlock = some b ∧ w.heap.size ≤ b)
    (hR : (Kd.int .u8).R 5 w1 base (fun k => some k ≠ u.ownBlock) v1 xs1) : Two w1 base v1 u xs1 ys :=
  ⟨hR, Kd.R_mono (Kd.R_after (ok := fun _ => True) (Kd.R_mono h.b (fun k hk => ⟨trivial, hk⟩)) hg hat) (fun k hk => hk.2)⟩
theorem Two.second {w w1 : World} {base : Nat} {v u u1 : Value} {xs ys ys1 : List Int} (h : Two w base v u xs ys) (hg : w.grownBy w1 u.ownBlock) (hat : u1.ownBlock = u.ownBlock ∨ ∃ b, u1.ownBlock = some b ∧ w.heap.size ≤ b)
    (hR : (Kd.int .u8).R 5 w1 base (fun k => some k ≠ v.ownBlock) u1 ys1) : Two w1 base v u1 xs ys1 :=
  ⟨Kd.R_mono (Kd.R_after (ok := fun _ => True) (Kd.R_mono h.a (fun k hk => ⟨trivial, hk⟩)) hg hat) (fun k hk => hk.2), hR⟩
end Go.Proofs.YtnlicpihondmgaaDoor.Chk
/- Package chunked, by hand: what Trailers comes to; own text of this session (NOT BUILT YET). -/
namespace Go.Proofs.YtnlicpihondmgaaDoor.Chk
open Go.RowKit Go.Proofs.YtnlicpihondmgaaDoorW.PrintWords Go.Proofs.YtnlicpihondmgaaDoorW.PrintLast
set_option linter.unusedVariables false
set_option linter.unusedSimpArgs false
def ClonePost (l : List Fld) (w : World) (e : Ending) (w' : World) : Prop :=
  ∃ (A1 : Option Addr) (c1 : Nat), e = .returned (.slice A1 l.length c1) ∧ Kd.C P.k49 w' A1 l.length l ∧ l.length ≤ c1 ∧ Below w.heap.size w w'
set_option maxHeartbeats 4000000 in
set_option maxRecDepth 100000 in
theorem clone_calls (l : List Fld) (A : Option Addr) (c : Nat) (w : World) (hr : Kd.C P.k49 w A l.length l) (hc : l.length ≤ c) (hl : l.length ≤ 4294960000) :
    Calls Tryd.prog 40 #[.slice A l.length c] w (ClonePost l w) := by
  cases A with
  | none =>
    have h0 : l = [] := by
      rcases l with _ | ⟨f, r⟩
      · rfl
      · obtain ⟨ad, h, _⟩ := hr.2.2 (by simp)
        cases h
    subst h0
    have hq : ∀ W, (binOp .eql 32 (.slice none 0 c) (.slice none 0 0)).run Tryd.prog W = .ok (.bool true) W := fun W => Go.Lib.run_eql_slice_nil W 32 49 none 0 c 0 0 Tryd.underlying32
    clear hr hl
    go_enter Tryd.func40, Tryd.ntmps40
    go_wp2
    go_ret
    exact ⟨none, 0, rfl, Kd.C_nil _ _, Nat.le_refl _, Below.refl _ _⟩
  | some ad =>
    have HR := Aside0.mk hr
    have HL := Aside0.mk hl
    obtain ⟨N, hN⟩ : ∃ N, N = l.length := ⟨_, rfl⟩
    have HN := Aside0.mk hN
    rw [← hN]
    have hOw : (w.alloc (.cells #[] 49)).ownsRow w.heap.size 49 2 (.slice (some ⟨w.heap.size, 0, none⟩) 0 0) 0 [] := by simpa using World.ownsRow_lit (base := w.heap.size) (e := 49) (size := 2) w #[] 0 (Nat.le_refl _) (by decide) (by rfl)
    have hO : fldK.R 49 (w.alloc (.cells #[] 49)) w.heap.size (fun _ => True) (.slice (some ⟨w.heap.size, 0, none⟩) 0 0) [] :=
      ⟨fun _ _ => trivial, [], hOw, Reps.none _ _⟩
    have HO := Aside0.mk hO
    have hq : ∀ W, (binOp .eql 32 (.slice (some ad) N c) (.slice none 0 0)).run Tryd.prog W = .ok (.bool false) W := fun W => Go.Lib.run_eql_slice_nil W 32 49 (some ad) N c 0 0 Tryd.underlying32
    clear hr hc hl hN hO hOw
    go_enter Tryd.func40, Tryd.ntmps40
    go_wp2_with (at_builtin; refine Kd.R_append_rows fldK (Rr := P.k49.K (w.alloc (.cells #[] 49))) (w0 := w.alloc (.cells #[] 49)) w.heap.size rfl (.tmp 5) (.tmp 6) 32 49 (.agg #[.string ⟨#[]⟩, .string ⟨#[]⟩]) 32 rfl Tryd.underlying32 info_fld rfl (by decide) (by omega) _ [] l (some ad) N c (fun _ => True) (fun _ => False) rfl rfl HO.out (by rw [HN.out]; exact Kd.C_alloc HR.out _) (fun x cs hx => by rw [P.k49_open hx]; exact P.k49_mkM _ _ _ x) (fun _ h => h.elim) (fun _ _ => trivial) (Below.refl _ _) (below_size (below_alloc (Below.refl _ _) _)) (by have := HL.out; have := HN.out; simp only [List.length_nil]; omega) ?_; intro v1 w1 hR hb hg hat; have HR1 := Aside0.mk hR; have HB1 := Aside0.mk ((below_alloc (Below.refl w.heap.size w) (.cells #[] 49)).trans hb); clear hR hb hg hat)
    go_ret
    obtain ⟨A1, c1, e1, h1, h2⟩ := Kd.R_reads HR1.out
    rw [List.nil_append] at e1 h1 h2
    subst e1
    exact ⟨A1, c1, rfl, h2, h1, HB1.out⟩
set_option maxHeartbeats 4000000 in
set_option maxRecDepth 100000 in
theorem trailers_calls (w : World) (F : Nat → Prop) (p : Nat) (vl vo vt : Value) (d : Dec) (h : Rep w F p vl vo vt d) (hw : d.whole = true) (hl : d.tr.length ≤ 4294960000) :
    Calls Tryd.prog 23 #[.pointer (some ⟨p, 0, none⟩)] w (ClonePost d.tr w) := by
  obtain ⟨A, c, hv, hcap, hC⟩ := Kd.R_reads h.tr
  subst hv
  have hz5 : w.cell? ⟨p, 5, none⟩ = some (.slice A d.tr.length c) := (blk_cell h.blk 5).trans rfl
  have hz6 : w.cell? ⟨p, 6, none⟩ = some (.bool true) := by rw [← hw]; exact (blk_cell h.blk 6).trans rfl
  have HK := Aside0.mk (clone_calls d.tr A c w hC hcap hl)
  clear h hw hl hC hcap
  go_enter Tryd.func23, Tryd.ntmps23
  go_wp2_with fail
  refine HK.out.mono ?_
  rintro e w1 ⟨A1, c1, rfl, h1, h2, h3⟩
  have H1 := Aside0.mk h1
  have H2 := Aside0.mk h2
  have H3 := Aside0.mk h3
  clear h1 h2 h3
  go_wp2
  go_ret
  exact ⟨A1, c1, rfl, H1.out, H2.out, H3.out⟩
end Go.Proofs.YtnlicpihondmgaaDoor.Chk
