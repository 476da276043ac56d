/- The reference's world with any connections: Open; own text of this session. -/
import Derived.Test.YtnhhcmnjfaeliaaVs10
namespace Go.Proofs.Ytnhhcmnjfaeliaa.Vm
open Wld hiding St Ft Next cellsQ cellsP ReadPost ptrE ptrE_none ptrE_some law zeroP Key key_of info_u8 info_int ne_t ne_blk ne_map grown_below
open Go.RowKit Go.Proofs.YtnhhcmnjfaeliaaW.PrintWords Go.Proofs.YtnhhcmnjfaeliaaW.PrintLast Go.Maps
set_option linter.unusedVariables false
set_option linter.unusedSimpArgs false
section
variable {P : Program} {ops : Array Oper} {rest : List Oper} {o : Oper} {a : Act} {Q : Exit → Act → World → Prop}
/-- append of one struct, just built, onto a row of one's own. -/
theorem append_q {W : World} (hgd : o.guard = none) (s x : Operand) (t e : TypeId) (z : Value) (size bytes : Nat)
    (ho : o.op = .call { callee := .builtin .append, args := #[s, x], argTypes := #[t, t] })
    (ht : P.underlying t = some (.slice e)) (hinfo : (P.info? e).map (fun i => (i.zero, i.size, i.bytes)) = some (some z, size, bytes)) (hzs : z.cells.size = size) (hs0 : 0 < size) (hb0 : 0 < bytes)
    (v : Value) (n : Nat) (xs cs : List Value) (hs : a.eval s = v) (hx : a.eval x = .slice (some ⟨W.heap.size, 0, none⟩) 1 1)
    (h : QRow W 0 e size v n xs) (hcs : cs.length = size) (h1 : ∀ u ∈ cs, u.oneCell' = true) (hl : (n + 1) * bytes ≤ 140737488355328)
    (hK : ∀ v1 w1, QRow w1 0 e size v1 (n + 1) (xs ++ cs) → W.grownBy w1 v.ownBlock → (v1.ownBlock = v.ownBlock ∨ ∃ i, v1.ownBlock = some i ∧ W.heap.size ≤ i) → wpList P ops Q rest (a.put o.dst v1) w1) :
    wpList P ops Q (o :: rest) a (W.alloc (.cells cs.toArray e)) := by
  obtain ⟨i0, hi, hzz⟩ := Option.map_eq_some_iff.1 hinfo
  simp only [Prod.mk.injEq] at hzz
  obtain ⟨hz0, hz1, hz2⟩ := hzz
  have hlen : n + 1 ≤ 140737488355328 := Nat.le_trans (Nat.le_mul_of_pos_right _ hb0) hl
  have hq : QRow (W.alloc (.cells cs.toArray e)) 0 e size v n xs := q_move h (fun k hk => Below.heap_alloc W _ k (q_lt h k hk))
  obtain ⟨v1, w1, hr, hq1, hg1, hat⟩ := q_append (P := P) (W.alloc (.cells cs.toArray e)) 0 t o.type e i0 z size bytes ht hi hz0 hz1 hz2 hzs hs0 v n xs hq ⟨W.heap.size, 0, none⟩ 1 1 cs (by rw [hcs, Nat.one_mul])
    (by simpa using World.news_of_block (cs := cs.toArray) (t := e) (fr := (0, 0)) (heap_alloc_new W (.cells cs.toArray e))) h1 (by omega) (by simp only [maxLen]; omega) hl (Nat.zero_le _)
  refine wpList_plain hgd fun K hK' => ?_
  unfold Oper.wp execOp
  simp only [ho, resolve, invoke, builtin, Sem.run_bind, Sem.run_pure, Result.andThen_ok, List.map_toArray, List.map_cons, List.map_nil, hs, hx, hr]
  exact hK' _ _ (hK v1 w1 hq1 (World.grownBy.trans (World.grownBy_alloc W _ _) hg1) (hat.imp id (fun ⟨i, e, hi⟩ => ⟨i, e, Nat.le_trans (below_alloc (Below.refl W.heap.size W) _).size hi⟩)))
end
/-- A connection that was opened just now. -/
def rfresh (c : Int) : Rc := ⟨c, true, false, .slice none 0 0, .slice none 0 0, [], [], 0⟩
theorem rfresh_own {c : Int} {k : Nat} (h : (rfresh c).own k) : False := by
  rcases h with h | h <;> simp [rfresh, Value.ownBlock] at h
section
variable {w w1 w2 : World} {x n cap : Nat} {vL vD : Value} {L A B : List Rc} {y : Rc} {ds : List Int} {ad : Addr} {c : Int}
/-- One connection more. -/
theorem RW.add {v1 : Value} (h : RW w x vL vD L ds) (hn : ∀ y ∈ L, y.c ≠ c) (hq : QRow w1 0 38 6 v1 (L.length + 1) (lcells L ++ (rfresh c).cells)) (hg : w.grownBy w1 vL.ownBlock) (hat : v1.ownBlock = vL.ownBlock ∨ ∃ i, v1.ownBlock = some i ∧ w.heap.size ≤ i) :
    w1.heap[x]? = some (.cells #[vL, vD] 29 (0, 0)) ∧ RW (w1.setCell ⟨x, 0, none⟩ v1) x v1 vD (L ++ [rfresh c]) ds ∧ (∀ k, RFt x v1 vD (L ++ [rfresh c]) k → RFt x vL vD L k ∨ w.heap.size ≤ k) ∧ Stay (RFt x vL vD L) w (w1.setCell ⟨x, 0, none⟩ v1) := by
  have hx : w1.heap[x]? = some (.cells #[vL, vD] 29 (0, 0)) := (hg.block x (blk_lt h.blk) (fun e => (h.neL e.symm).1 rfl)).trans h.blk
  have off : ∀ k, k ≠ x → (w1.setCell ⟨x, 0, none⟩ v1).heap[k]? = w1.heap[k]? := fun k hk => Below.heap_setCell w1 ⟨x, 0, none⟩ v1 k hk
  have split : ∀ z, z ∈ L ++ [rfresh c] → z ∈ L ∨ z = rfresh c := fun z hz => by simpa using hz
  have keep : ∀ z ∈ L, ∀ k, z.own k → (w1.setCell ⟨x, 0, none⟩ v1).heap[k]? = w.heap[k]? := fun z hz k hk => by
    obtain ⟨C, hC⟩ := h.typed hz hk
    exact (off k (h.neY hz hk)).trans (hg.block k (blk_lt hC) (fun e => (h.neL e.symm).2.2 z hz hk))
  refine ⟨hx, ⟨blk_put hx 0 _ rfl, ?_, ?_, ?_, ?_, ?_, ?_, ?_⟩, ?_, (Stay.grown hg (fun k hk => .inr (.inl hk))).set (.inl rfl) _⟩
  · have e : lcells (L ++ [rfresh c]) = lcells L ++ (rfresh c).cells := by unfold lcells; rw [List.flatMap_append]; simp
    rw [e, List.length_append]
    exact q_move hq (fun k hk => off k (by
      obtain ⟨_, C, hC⟩ := q_typed hq k hk
      exact ne_blk hC hx (Ne.symm ne_r.1)))
  · intro z hz
    rcases split z hz with hz | rfl
    · exact (h.rw z hz).keep (fun i hi _ => keep z hz i (.inl hi))
    · exact Row.nil _ _ _
  · intro z hz
    rcases split z hz with hz | rfl
    · exact (h.rs z hz).keep (fun i hi _ => keep z hz i (.inr hi))
    · exact Row.nil _ _ _
  · exact h.rd.keep (fun i hi hl => (off i (h.neD hi).1).trans (hg.block i hl (fun e => (h.neL e.symm).2.1 hi)))
  · intro z hz k h1 h2
    rcases split z hz with hz | rfl
    · exact h.self z hz k h1 h2
    · exact rfresh_own (.inl h1)
  · intro z1 h1 z2 h2 hne k hk1 hk2
    rcases split z1 h1 with h1 | rfl
    · rcases split z2 h2 with h2 | rfl
      · exact h.apart z1 h1 z2 h2 hne k hk1 hk2
      · exact rfresh_own hk2
    · exact rfresh_own hk1
  · rw [List.pairwise_append]
    refine ⟨h.keys, List.pairwise_singleton _ _, fun z hz z2 hz2 => ?_⟩
    rw [List.mem_singleton] at hz2
    subst hz2
    exact hn z hz
  · rintro k (hk | hk | hk | ⟨z, hz, hk⟩)
    · exact .inl (.inl hk)
    · exact (own_at hat k hk).imp (fun h5 => .inr (.inl h5)) id
    · exact .inl (.inr (.inr (.inl hk)))
    · rcases split z hz with hz | rfl
      · exact .inl (.inr (.inr (.inr ⟨z, hz, hk⟩)))
      · exact (rfresh_own hk).elim
set_option maxRecDepth 100000 in
theorem ropen_has (h : RW w x vL vD (A ++ y :: B) ds) (hyc : y.c = c) (h0 : ¬ c < 0) (hl : (A ++ y :: B).length ≤ 1000000000) :
    Calls Try.prog 20 #[.pointer (some ⟨x, 0, none⟩), .int .i64 c] w fun e w' => e = .returned (.int .i64 7) ∧ Below w.heap.size w w' := by
  have HF := Aside0.mk (rfind_calls h c (A.length : Int) (.inr ⟨A, y, B, rfl, rfl, hyc⟩) hl)
  obtain ⟨i, hi2⟩ : ∃ i, i = A.length := ⟨_, rfl⟩
  rw [← hi2] at HF
  have hi0 : (0 : Int) ≤ (i : Int) := by omega
  clear h hyc hl hi2
  go_enter Try.func20, Try.ntmps20
  go_wp2_with (go_at_call 34; refine HF.out.mono ?_; rintro e w1 ⟨rfl, hb⟩; have HB := Aside0.mk hb; clear hb)
  go_ret
  exact ⟨rfl, by repeat (first | exact HB.out | apply below_drew1 | apply pw_below_drewN)⟩
set_option maxRecDepth 100000 in
theorem ropen_full (h : RW w x vL vD L ds) (hn : ∀ y ∈ L, y.c ≠ c) (h0 : ¬ c < 0) (hl : L.length ≤ 1000000000) (hf : 1024 ≤ (ropens L).length) :
    Calls Try.prog 20 #[.pointer (some ⟨x, 0, none⟩), .int .i64 c] w fun e w' => e = .returned (.int .i64 5) ∧ Below w.heap.size w w' := by
  have HF := Aside0.mk (rfind_calls h c (-1) (.inl ⟨rfl, hn⟩) hl)
  have HA := Aside0.mk (fun w1 (hb : Below w.heap.size w w1) => rall_calls (h.below hb) hl)
  obtain ⟨m, hm⟩ : ∃ m, m = (ropens L).length := ⟨_, rfl⟩
  rw [← hm] at HA hf
  have hfz : (1024 : Int) ≤ (m : Int) := by omega
  clear h hn hl hm
  go_enter Try.func20, Try.ntmps20
  go_wp2_with (first
    | (go_at_call 34; refine HF.out.mono ?_; rintro e w1 ⟨rfl, hb⟩; have HB := Aside0.mk hb; clear hb)
    | (go_at_call 13; refine (HA.out _ HB.out).mono ?_; rintro e w2 ⟨A1, c1, rfl, _, hb⟩; have HB2 := Aside0.mk (below_step HB.out hb); clear hb))
  go_ret
  exact ⟨rfl, by repeat (first | exact HB2.out | apply below_drew1 | apply pw_below_drewN)⟩
set_option maxHeartbeats 4000000 in
set_option maxRecDepth 100000 in
theorem ropen_ok (h : RW w x vL vD L ds) (hn : ∀ y ∈ L, y.c ≠ c) (h0 : ¬ c < 0) (hl : L.length ≤ 100000000) (hf : (ropens L).length < 1024) :
    Calls Try.prog 20 #[.pointer (some ⟨x, 0, none⟩), .int .i64 c] w fun e w' => e = .returned (.int .i64 0) ∧ RNext w x vL vD L ds (L ++ [rfresh c]) ds w' := by
  have HF := Aside0.mk (rfind_calls h c (-1) (.inl ⟨rfl, hn⟩) (by omega))
  have HA := Aside0.mk (fun w1 (hb : Below w.heap.size w w1) => rall_calls (h.below hb) (by omega))
  obtain ⟨m, hm⟩ : ∃ m, m = (ropens L).length := ⟨_, rfl⟩
  rw [← hm] at HA hf
  have hfz : ¬ (1024 : Int) ≤ (m : Int) := by omega
  obtain ⟨AL, cL, rfl, _⟩ := q_slice h.rl
  obtain ⟨n, hn5⟩ : ∃ n, n = L.length := ⟨_, rfl⟩
  have HNl := Aside0.mk hn5
  rw [← hn5] at h hl ⊢
  have H := Aside0.mk h
  have HN := Aside0.mk hn
  have HL := Aside0.mk hl
  clear h hn hl hm hf hn5
  go_enter Try.func20, Try.ntmps20
  go_wp2_with (first
    | (go_at_call 34; refine HF.out.mono ?_; rintro e w1 ⟨rfl, hb⟩; have HB := Aside0.mk hb; clear hb)
    | (go_at_call 13; refine (HA.out _ HB.out).mono ?_; rintro e w2 ⟨A1, c1, rfl, _, hb⟩; have HB2 := Aside0.mk (below_step HB.out hb); have H2 := Aside0.mk (H.out.below HB2.out); have hz0 : w2.cell? ⟨x, 0, none⟩ = some (.slice AL n cL) := (blk_cell H2.out.blk 0).trans rfl; clear hb)
    | ((with_reducible refine gate_builtin (b := .append) (xs := #[.tmp 19, .tmp 22]) rfl ?_); at_builtin; go_loud (refine append_q (cs := (rfresh c).cells) rfl (.tmp 19) (.tmp 22) 26 38 (.agg #[.int .i64 0, .bool false, .bool false, .slice none 0 0, .slice none 0 0, .int .i64 0]) 6 72 rfl Try.underlying26 info_conn rfl (by decide) (by decide) (.slice AL n cL) L.length (lcells L) rfl rfl H2.out.rl rfl (fun u hu => by simp only [rfresh, Rc.cells, List.mem_cons, List.not_mem_nil, or_false] at hu; rcases hu with rfl | rfl | rfl | rfl | rfl | rfl <;> rfl) (by rw [← HNl.out]; have := HL.out; omega) ?_; intro v1 w3 hQ hg hat; obtain ⟨A3, c3, e3, _⟩ := q_slice hQ; rw [← HNl.out] at e3; obtain ⟨hx, hrw, hft, hst⟩ := H2.out.add HN.out hQ hg hat; have hy0 : w3.cell? ⟨x, 0, none⟩ = some (.slice AL n cL) := (blk_cell hx 0).trans rfl; have hg0 := blk_frozen hx 0; have HRw := Aside0.mk hrw; have HFt := Aside0.mk hft; have HSt := Aside0.mk hst; clear hQ hg hat hx hrw hft hst; subst e3)))
  go_ret
  exact ⟨rfl, _, _, HRw.out, fun k hk => (HFt.out k hk).imp id (fun h5 => Nat.le_trans HB2.out.size h5), (Stay.below HB2.out).trans HSt.out (fun k hk => .inl hk)⟩
end
end Go.Proofs.Ytnhhcmnjfaeliaa.Vm
