/- Package chunked, by hand: what Last comes to; own text of this session. -/
import Derived.Test.YtnlicpihondmgaaDoorChk12
import Derived.Lib.AppendStr
namespace Go.Proofs.YtnlicpihondmgaaDoor.Chk
open Go.RowKit Go.Proofs.YtnlicpihondmgaaDoorW.PrintWords Go.Proofs.YtnlicpihondmgaaDoorW.PrintLast Go.Proofs.YtnlicpihondmgaaDoorW.PrintMore
set_option linter.unusedVariables false
set_option linter.unusedSimpArgs false
/-- A row of bytes of the call's own; or one of a constant's bytes, without room. -/
def RowOr (W : World) (base : Nat) (v : Value) (xs : List Int) : Prop :=
  (Kd.int .u8).R 5 W base (fun _ => True) v xs ∨ ∃ g, v = .slice (some ⟨g, 0, none⟩) xs.length xs.length ∧ base ≤ g ∧ (Kd.int .u8).C W (some ⟨g, 0, none⟩) xs.length xs
theorem RowOr.below {W W' : World} {base : Nat} {v : Value} {xs : List Int} (h : RowOr W base v xs) (hb : Below W.heap.size W W') : RowOr W' base v xs := by
  rcases h with h | ⟨g, h1, h2, h3⟩
  · exact .inl (Kd.R_below h hb)
  · exact .inr ⟨g, h1, h2, Kd.C_below h3 hb⟩
set_option maxRecDepth 100000 in
theorem append_or {ops : Array Oper} {rest : List Oper} {o : Oper} {a : Act} {Q : Exit → Act → World → Prop} {W : World} (base : Nat) (hgd : o.guard = none) (s x : Operand)
    (ho : o.op = .call { callee := .builtin .append, args := #[s, x], argTypes := #[22, 9] }) (v : Value) (xs : List Int) (y : ByteArray) (hs : a.eval s = v) (hx : a.eval x = .string y)
    (h : RowOr W base v xs) (hy : 0 < y.size) (hbase : base ≤ W.heap.size) (hl : xs.length + y.size ≤ 140737488355328)
    (hK : ∀ v1 w1, (Kd.int .u8).R 5 w1 base (fun _ => True) v1 (xs ++ bytesOf y) → Below base W w1 → wpList Tryd.prog ops Q rest (a.put o.dst v1) w1) : wpList Tryd.prog ops Q (o :: rest) a W := by
  rcases h with h | ⟨g, rfl, hg, hC⟩
  · refine print_append_str (w0 := W) base hgd s x 22 9 5 ho Tryd.underlying22 Tryd.underlying9 info_u8 v xs y hs hx (Kd.own_of_R h) (Below.refl _ _) hbase hl ?_
    intro v1 w1 h1 h2 h3
    exact hK v1 w1 (Kd.R_of_own (h1 := fun _ => rfl) h1 (fun _ _ => trivial)) h2
  · obtain ⟨i0, hi, hzz⟩ := Option.map_eq_some_iff.1 info_u8
    simp only [Prod.mk.injEq] at hzz
    obtain ⟨hz0, hz1, hz2⟩ := hzz
    have hlen : (nums .u8 xs).length = xs.length := nums_length _ _
    have hrd := Kd.reads_of_C (enc := Value.int .u8) (d := (0 : Int)) (h1 := fun _ => rfl) hC
    have holds : ∀ j u, (nums .u8 xs)[j]? = some u → W.cell? ((⟨g, 0, none⟩ : Addr).add j) = some u := by
      intro j u hu
      have hj : j < xs.length := by have := (List.getElem?_eq_some_iff.1 hu).1; rw [hlen] at this; exact this
      obtain ⟨ad, e, hc⟩ := hrd.2.2 (by omega)
      cases e
      rw [hc j hj, ← hu]
      simp [nums, hj, List.getD_eq_getElem?_getD]
    have h63 : xs.length + y.size ≤ maxLen := by simp only [maxLen]; omega
    have hr := Lib.run_append_grow_string (P := Tryd.prog) W 22 9 o.type 5 i0 (.int .u8 0) Tryd.underlying22 Tryd.underlying9 hi hz0 ⟨g, 0, none⟩ xs.length xs.length (nums .u8 xs) (by rw [hz1, hlen, Nat.mul_one]) holds y (by omega) (by omega) (by rw [hz2]; exact growslice_fits (by omega) (by omega))
    have hge := grownCap_ge W (xs.length + y.size) xs.length 5
    have hcm := grownCap_le_maxLen W (xs.length + y.size) xs.length 5 h63
    refine wpList_plain hgd fun K hK' => ?_
    unfold Oper.wp execOp
    simp only [ho, resolve, invoke, builtin, Sem.run_bind, Sem.run_pure, Result.andThen_ok, List.map_toArray, List.map_cons, List.map_nil, hs, hx, hr]
    refine hK' _ _ (hK _ _ (Kd.R_of_own (h1 := fun _ => rfl) ?_ (fun _ _ => trivial)) ((below_drew (Below.refl base W)).alloc hbase _))
    have hl2 : (xs ++ bytesOf y).length = xs.length + y.size := by rw [List.length_append, bytesOf_length]
    have hcs : nums .u8 (xs ++ bytesOf y) = nums .u8 xs ++ Lib.strCells y := by
      rw [nums_append]
      congr 1
      simp [nums, bytesOf, Lib.strCells]
    show World.ownsRow _ base 5 1 _ (xs ++ bytesOf y).length (nums .u8 (xs ++ bytesOf y))
    rw [hl2, hcs]
    refine ⟨by rw [List.length_append, hlen, Lib.strCells_length, Nat.mul_one], .inr ⟨W.heap.size, _, _, rfl, hbase, heap_alloc_new W.drew _, hge, hcm, ?_, ?_⟩⟩
    · have hc1 : (Value.int IntKind.u8 0).cells.size = 1 := rfl
      simp only [Array.size_append, List.size_toArray, size_zeroCells, hc1, Lib.strCells_length]
      omega
    · simp only [Array.toList_append, List.append_assoc]
      rw [← List.append_assoc, Nat.mul_one, show xs.length + y.size = (nums .u8 xs ++ Lib.strCells y).length from by rw [List.length_append, hlen, Lib.strCells_length]]
      exact List.take_left
/-- The last chunk, with trailers. -/
def fldB (f : Fld) : List Int := bytesOf (f.f0 ++ (⟨#[58, 32]⟩ : ByteArray) ++ f.f1 ++ (⟨#[13, 10]⟩ : ByteArray))
def lastS (l : List Fld) : List Int := [48, 13, 10] ++ l.flatMap fldB ++ [13, 10]
def fbz (l : List Fld) : Nat := (l.map fun f => f.f0.size + f.f1.size + 4).sum
theorem fldB_len (f : Fld) : (fldB f).length = f.f0.size + f.f1.size + 4 := by
  unfold fldB
  rw [bytesOf_length]
  simp only [ByteArray.size_append]
  show f.f0.size + 2 + f.f1.size + 2 = _
  omega
theorem flat_len (l : List Fld) : (l.flatMap fldB).length = fbz l := by
  unfold fbz
  induction l with
  | nil => rfl
  | cons f r ih => rw [List.flatMap_cons, List.length_append, fldB_len, ih]; simp
theorem fbz_mem {f : Fld} {l : List Fld} (h : f ∈ l) : f.f0.size + f.f1.size + 4 ≤ fbz l := by
  unfold fbz
  induction l with
  | nil => cases h
  | cons g r ih =>
    simp only [List.map_cons, List.sum_cons]
    rcases List.mem_cons.1 h with rfl | h
    · omega
    · have := ih h; omega
theorem fbz_take (l : List Fld) (k : Nat) : fbz (l.take k) ≤ fbz l := by
  have h : l = l.take k ++ l.drop k := (List.take_append_drop k l).symm
  have e : fbz l = fbz (l.take k) + fbz (l.drop k) := by
    conv => lhs; rw [h]
    unfold fbz
    rw [List.map_append, List.sum_append]
  omega
set_option maxHeartbeats 4000000 in
set_option maxRecDepth 100000 in
theorem last_no (l : List Fld) (A : Option Addr) (c : Nat) (w : World) (r : Int) (hr : Kd.C P.k49 w A l.length l) (hc : l.length ≤ c) (hs : fbz l ≤ 1073741824) (he : chkS l = r) (hne : ¬ r = 0) :
    Calls Tryd.prog 17 #[.slice A l.length c] w fun e w' => e = .returned (.tuple #[.slice none 0 0, .int .i64 r]) ∧ Below w.heap.size w w' := by
  have hk := check_calls l A c w hr hc (fun f hf => by have := fbz_mem hf; omega)
  rw [he] at hk
  have HK := Aside0.mk hk
  have bn : (r != 0) = true := by simpa using hne
  clear hr hc hs he hne hk
  go_enter Tryd.func17, Tryd.ntmps17
  go_wp2_with (go_at_call 33; refine HK.out.mono ?_; rintro e w1 ⟨rfl, hb⟩; have HB := Aside0.mk hb; clear hb)
  go_ret2
  exact ⟨rfl, HB.out⟩
def LastPost (l : List Fld) (w : World) (e : Ending) (w' : World) : Prop :=
  ∃ v, e = .returned (.tuple #[v, .int .i64 0]) ∧ (Kd.int .u8).R 5 w' w.heap.size (fun _ => True) v (lastS l) ∧ Below w.heap.size w w'
set_option maxHeartbeats 8000000 in
set_option maxRecDepth 100000 in
theorem last_ok (l : List Fld) (A : Option Addr) (c : Nat) (w : World) (hr : Kd.C P.k49 w A l.length l) (hc : l.length ≤ c) (hs : fbz l ≤ 1073741824) (he : chkS l = 0) :
    Calls Tryd.prog 17 #[.slice A l.length c] w (LastPost l w) := by
  have hk := check_calls l A c w hr hc (fun f hf => by have := fbz_mem hf; omega)
  rw [he] at hk
  have HK := Aside0.mk hk
  have HR := Aside0.mk hr
  have HS := Aside0.mk hs
  obtain ⟨N, hN⟩ : ∃ N, N = l.length := ⟨_, rfl⟩
  have HN := Aside0.mk hN
  have hNle : (N : Int) ≤ 1073741824 := by
    have h1 : l.length ≤ fbz l := by
      rw [← flat_len]
      clear hr hc hs he hk HK HR HS hN HN
      induction l with
      | nil => simp
      | cons f r ih => rw [List.flatMap_cons, List.length_append, fldB_len, List.length_cons]; omega
    omega
  rw [← hN] at HK ⊢
  have hcc : ∀ W : World, (convert 22 22 (.slice (some ⟨W.heap.size, 0, none⟩) 3 3)).run Tryd.prog (W.alloc (.cells #[.int .u8 48, .int .u8 13, .int .u8 10] 5)) = Result.ok (.slice (some ⟨W.heap.size, 0, none⟩) 3 3) (W.alloc (.cells #[.int .u8 48, .int .u8 13, .int .u8 10] 5 (3, 4))) := fun W => Lib.run_convert_bytes_const W _ _ #[.int .u8 48, .int .u8 13, .int .u8 10] 3 3 Tryd.underlying22 Tryd.underlying5
  clear hr hc hs he hk hN
  go_enter Tryd.func17, Tryd.ntmps17
  go_wp2_with (go_at_call 33; refine HK.out.mono ?_; rintro e w1 ⟨rfl, hb⟩; have HB := Aside0.mk hb; clear hb)
  go_loopw [5, 17] (fun v5 v17 wr => ∃ kk : Nat, kk ≤ N ∧ v17 = .int .i64 kk ∧ Aside0 (RowOr wr w.heap.size v5 ([48, 13, 10] ++ (l.take kk).flatMap fldB)) ∧ Aside0 (Below w.heap.size w wr)) (fun _ v17 _ => N - (intOf v17).toNat)
  case atStart =>
    refine ⟨0, Nat.zero_le _, rfl, ⟨.inr ⟨w1.heap.size, rfl, HB.out.size, ?_⟩⟩, ⟨below_alloc HB.out _⟩⟩
    exact C_of_block (xs := [48, 13, 10]) (blk_new w1 (.cells #[.int .u8 48, .int .u8 13, .int .u8 10] 5 (3, 4))) (fun i hi => by match i, hi with | 0, _ => rfl | 1, _ => rfl | 2, _ => rfl) (by simp)
  case round =>
    obtain ⟨kk, hkk, rfl, HRo, HBw⟩ := hrel
    by_cases hlt : kk < N
    · have hltz : (kk : Int) < (N : Int) := by omega
      obtain ⟨ad, eA, hx0, hx1⟩ := P.at_T49 (Kd.C_below HR.out HBw.out) (kk : Int) (by omega) (by rw [← HN.out]; exact hltz)
      cases eA
      rw [Int.toNat_natCast] at hx0 hx1
      have hkl : kk < l.length := by rw [← HN.out]; exact hlt
      have hdr := List.drop_eq_getElem_cons hkl
      rw [rd_fld hdr] at hx0 hx1
      have hmem : l[kk] ∈ l := List.getElem_mem hkl
      have hsz := fbz_mem hmem
      have hta : l.take (kk + 1) = l.take kk ++ [l[kk]] := by rw [List.take_succ_eq_append_getElem hkl]
      generalize l[kk] = f at hx0 hx1 hmem hsz hta hdr
      have HTA := Aside0.mk hta
      have hs0 : f.f0.size ≤ 1073741824 := by have := HS.out; omega
      have hs1 : f.f1.size ≤ 1073741824 := by have := HS.out; omega
      clear hdr hmem hsz hta
      go_wp2_with (first
        | ((with_reducible refine gate_dst (N := 7) rfl ?_); refine box_event ?hg (N := 7) ?hd (cs := #[.string (⟨#[]⟩ : ByteArray), .string (⟨#[]⟩ : ByteArray)]) (t := 49) ?hr ?_; (case hd => rfl); (case hg => rfl); (case hr => first | (go_simp; done) | (go_simp; rfl)); intro gb hg w4 hbox hb; have B4 := Aside0.mk hb; have GE : Aside0 (w.heap.size ≤ gb) := ⟨by { rw [hg]; exact HBw.out.size }⟩; have GEE := Aside0.mk hg; clear hb hg; have hc0 : w4.cell? ⟨gb, 0, none⟩ = some (.string (⟨#[]⟩ : ByteArray)) := (blk_cell hbox 0).trans rfl; have hc1 : w4.cell? ⟨gb, 1, none⟩ = some (.string (⟨#[]⟩ : ByteArray)) := (blk_cell hbox 1).trans rfl; have hfr0 := blk_frozen hbox 0; have hfr1 := blk_frozen hbox 1; clear hbox)
        | (at_builtin; refine append_or w.heap.size rfl (.tmp 21) (.tmp 28) rfl _ ([48, 13, 10] ++ (l.take kk).flatMap fldB) (f.f0 ++ (⟨#[58, 32]⟩ : ByteArray) ++ f.f1 ++ (⟨#[13, 10]⟩ : ByteArray)) rfl rfl ?aO ?aY ?aS ?aL ?_; (case aO => exact HRo.out.below ((B4.out.setCell (p := ⟨gb, 0, none⟩) (by rw [GEE.out]; exact Nat.le_refl _) _).setCell (p := ⟨gb, 1, none⟩) (by rw [GEE.out]; exact Nat.le_refl _) _)); (case aY => (simp only [ByteArray.size_append]; show 0 < f.f0.size + 2 + f.f1.size + 2; omega)); (case aS => exact (((below_then HBw.out HBw.out.size B4.out).setCell (p := ⟨gb, 0, none⟩) GE.out _).setCell (p := ⟨gb, 1, none⟩) GE.out _).size); (case aL => have h5 := fbz_take l kk; have h6 := HS.out; rw [List.length_append, flat_len]; simp only [ByteArray.size_append]; show 3 + fbz (l.take kk) + (f.f0.size + 2 + f.f1.size + 2) ≤ _; omega); intro v6 w6 hR6 hb6; have HR6 := Aside0.mk hR6; have HB6 := Aside0.mk ((((below_then HBw.out HBw.out.size B4.out).setCell (p := ⟨gb, 0, none⟩) GE.out (.string f.f0)).setCell (p := ⟨gb, 1, none⟩) GE.out (.string f.f1)).trans hb6); clear hR6 hb6))
      go_roundw
      case rel =>
        refine ⟨kk + 1, by omega, by go_num, ⟨.inl ?_⟩, HB6⟩
        rw [HTA.out, List.flatMap_append, List.flatMap_cons, List.flatMap_nil, List.append_nil, ← List.append_assoc]
        exact HR6.out
      case measure => simp [intOf]; omega
    · obtain rfl : kk = N := by omega
      go_wp2_with (at_builtin; refine append_or w.heap.size rfl (.tmp 31) (.const (.string ⟨#[13, 10]⟩)) rfl _ ([48, 13, 10] ++ (l.take kk).flatMap fldB) (⟨#[13, 10]⟩ : ByteArray) rfl rfl HRo.out (by decide) HBw.out.size ?aL ?_; (case aL => have h5 := fbz_take l kk; have h6 := HS.out; rw [List.length_append, flat_len]; show 3 + fbz (l.take kk) + 2 ≤ _; omega); intro v6 w6 hR6 hb6; have HR6 := Aside0.mk hR6; have HB6 := Aside0.mk (HBw.out.trans hb6); clear hR6 hb6)
      go_ret2
      refine ⟨_, rfl, ?_, HB6.out⟩
      unfold lastS
      have e1 : l.take kk = l := List.take_of_length_le (by rw [← HN.out]; exact Nat.le_refl _)
      have e2 := HR6.out
      rw [e1] at e2
      exact e2
end Go.Proofs.YtnlicpihondmgaaDoor.Chk
