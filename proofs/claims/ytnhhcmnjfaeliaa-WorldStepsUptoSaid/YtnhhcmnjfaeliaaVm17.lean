/- WorldApart: Write, Read, Draw; the reference's calls; asks of any step; own text of this session. -/
import Derived.Test.YtnhhcmnjfaeliaaVm16
namespace Go.Proofs.Ytnhhcmnjfaeliaa.Vm
open Wld hiding St Ft Next cellsQ cellsP ReadPost ptrE ptrE_none ptrE_some law zeroP Key key_of info_u8 info_int ne_t ne_blk ne_map grown_below
open Go.RowKit Go.Proofs.YtnhhcmnjfaeliaaW.PrintWords Go.Proofs.YtnhhcmnjfaeliaaW.PrintLast Go.Maps
set_option linter.unusedVariables false
set_option linter.unusedSimpArgs false
section
variable {w0 w w' : World} {p bm i sz x g : Nat} {x0 : Cn} {Dm : DataW Unit} {vd : Value} {L : List Cn} {K C N : Int} {A : Option Addr} {n cb : Nat}
theorem z_write (h : Zs w0 p bm x0 i x (stepB K C N A n cb) g w) (hc : (Key C).wf = true) (hne : C ≠ x0.c) {b : List Int} (hn : n = b.length) (hcb : n ≤ cb) (hb : (Kd.int .u8).C w0 A b.length b) (hi : i ≤ 100000000) :
    Calls Try.prog 19 #[.pointer (some ⟨p, 0, none⟩), .int .i64 C, .slice A n cb] w fun e w' => ∃ r s : Int, e = .returned (.tuple #[.int .i64 r, .int .i64 s]) ∧ Zs w0 p bm x0 (i + 1) x (stepB K C N A n cb) g w' := by
  obtain ⟨⟨sz, Dm, vd, L, hA⟩, hg, hx⟩ := id h
  rcases hA.at hc hne with ⟨A', y, B, rfl, hyc, hop⟩ | hno
  · have hy := hA.mw.all y (by simp)
    have hgo := hA.good y (by simp)
    obtain ⟨g1, ⟨g2, g3⟩, g4⟩ := hgo
    unfold Cn.St at hy
    rw [hop, hyc] at hy
    obtain ⟨m, hm⟩ : ∃ m : Nat, (m : Int) = min (b.length : Int) y.room := ⟨(min (b.length : Int) y.room).toNat, by omega⟩
    refine (write_calls hy hc A n cb b hn hcb (Kd.C_below hb hA.bel) m hm g2 g3 (by have h5 := Nat.mul_le_mul_right 1048576 hi; omega)).mono ?_
    rintro e w' ⟨rfl, vw', vs', vd', hst, hft, hs⟩
    refine ⟨m, 0, rfl, Zs.one (y' := ⟨y.q, vw', vs', C, true, y.en, y.ws, y.ss ++ b.take m, y.room - m⟩) hA hg hx hyc.symm rfl hst hft hs ⟨g1, by show 0 ≤ y.room - m ∧ y.room - m ≤ 1048576; omega, ?_⟩⟩
    show (y.ss ++ b.take m).length ≤ (i + 1) * 1048576
    rw [List.length_append, List.length_take, Nat.add_mul, Nat.one_mul]
    omega
  · refine (write_no hno _).mono ?_
    rintro e w' ⟨rfl, hb⟩
    exact ⟨0, 6, rfl, z_no h hb⟩
theorem z_draw (h : Zs w0 p bm x0 i x (stepB K C N A n cb) g w) :
    Calls Try.prog 31 #[.pointer (some ⟨p, 0, none⟩), .int .i64 N] w fun e w' => ∃ r s : Int, e = .returned (.tuple #[.int .i64 r, .int .i64 s]) ∧ Zs w0 p bm x0 (i + 1) x (stepB K C N A n cb) g w' := by
  obtain ⟨⟨sz, Dm, vd, L, hA⟩, hg, hx⟩ := id h
  by_cases hn : N < 1
  · refine (draw_neg N w p hn).mono ?_
    rintro e w' ⟨rfl, hb⟩
    exact ⟨0, 1, rfl, z_no h hb⟩
  · obtain ⟨Ad, cd, e, _⟩ := hA.mw.rd.slice
    have hP := hA.mw.blkP
    rw [e] at hP
    refine (draw_none hP N hn).mono ?_
    rintro e w' ⟨rfl, hb⟩
    exact ⟨0, 0, rfl, z_no h hb⟩
theorem z_read (h : Zs w0 p bm x0 i x (stepB K C N A n cb) g w) (hc : (Key C).wf = true) (hne : C ≠ x0.c) :
    Calls Try.prog 18 #[.pointer (some ⟨p, 0, none⟩), .int .i64 C, .int .i64 N] w fun e w' => ∃ (A1 : Option Addr) (m c1 : Nat) (r : Int), e = .returned (.tuple #[.slice A1 m c1, .int .i64 r]) ∧ Zs w0 p bm x0 (i + 1) x (stepB K C N A n cb) g w' ∧ ∀ W2, Below w'.heap.size w' W2 → ∃ s, (convert 30 9 (.slice A1 m c1)).run Try.prog W2 = Result.ok (.string s) W2 := by
  obtain ⟨⟨sz, Dm, vd, L, hA⟩, hg, hx⟩ := id h
  rcases hA.at hc hne with ⟨A', y, B, rfl, hyc, hop⟩ | hno
  · have hy := hA.mw.all y (by simp)
    have hgo := hA.good y (by simp)
    unfold Cn.St at hy
    rw [hop, hyc] at hy
    obtain ⟨m, hm⟩ : ∃ m : Nat, (m : Int) = max 0 (min N (y.ws.length : Int)) := ⟨(max 0 (min N (y.ws.length : Int))).toNat, by omega⟩
    refine (read_calls hy hc hgo.1 N m hm).mono ?_
    rintro e w' ⟨A1, c1, vw', rfl, hst, hft, hs, hrow, hro⟩
    exact ⟨A1, m, c1, 0, rfl, Zs.one (y' := ⟨y.q, vw', y.vs, C, true, y.en, y.ws.drop m, y.ss, y.room⟩) hA hg hx hyc.symm rfl hst (fun k hk => .inl (hft k hk)) hs ⟨by show (y.ws.drop m).length ≤ 1048576; rw [List.length_drop]; have := hgo.1; omega, hgo.mono.2⟩, fun W2 hb => ⟨_, Wld.row_str (hrow.below hb)⟩⟩
  · refine (read_no hno N).mono ?_
    rintro e w' ⟨rfl, hb⟩
    exact ⟨none, 0, 0, 6, rfl, z_no h hb, fun W2 _ => ⟨_, Wld.row_str (Row.nil _ _ _)⟩⟩
/-- The reference's world turned: nothing else did. -/
theorem Ap.off (h : Ap w0 w p bm x0 i sz Dm vd L) (hx : Emp w x) (hx0 : w0.heap.size ≤ x) (hs : Stay (fun k => k = x) w w') : Ap w0 w' p bm x0 i sz Dm vd L := by
  have typ : ∀ {k : Nat} {C : Array Value} {t : TypeId} {f : Nat × Nat}, w.heap[k]? = some (.cells C t f) → t ≠ 29 → w'.heap[k]? = w.heap[k]? := fun hk ht => hs.block _ (blk_lt hk) (fun e => by rw [e] at hk; exact ne_blk hk hx ht rfl)
  have hg : w.grownBy w' (some x) := ⟨hs.os, hs.tape, hs.output, hs.size, fun k hk hne => hs.block k hk (fun e => hne (by rw [e]))⟩
  have hown := h.mw.own.kept hg (fun e => by injection e with e; exact ne_map hx h.mw.own e.symm)
  have row : ∀ {k : IntKind} {e : TypeId} {v : Value} {xs : List Int}, Row k e w v xs → e ≠ 29 → Row k e w' v xs := fun hr he => hr.keep (fun j hj _ => by
    obtain ⟨C', hC'⟩ := hr.typed j hj
    exact typ hC' he)
  have t1 := ref_t
  have hP := (typ h.mw.blkP (Ne.symm t1.1)).trans h.mw.blkP
  have hD := row h.mw.rd (Ne.symm t1.2.2.2)
  refine ⟨⟨hP, hown, hD, fun y hy => ?_, h.mw.nokey, h.mw.has, h.mw.apart, h.mw.keys⟩, h.bP, h.bM, h.bO, h.bD, hs.out h.bel (fun k hk => by rw [hk]; exact hx0) h.bel.size, h.good, h.szi⟩
  have hS := h.mw.all y hy
  exact ⟨hP, hown, (typ hS.blkQ (Ne.symm t1.2.1)).trans hS.blkQ, row hS.rw (Ne.symm t1.2.2.1), row hS.rs (Ne.symm t1.2.2.1), hD, hS.apart, hS.look⟩
/-- Behind both calls. -/
def Zt (w0 : World) (p bm : Nat) (x0 : Cn) (i : Nat) (S : Obj) (g : Nat) (W : World) : Prop := (∃ sz Dm vd L, Ap w0 W p bm x0 i sz Dm vd L) ∧ W.heap[g]? = some S
theorem Zs.zt {S : Obj} (h : Zs w0 p bm x0 i x S g w) (hb : Below w.heap.size w w') : Zt w0 p bm x0 i S g w' := ⟨(h.low hb).1, (h.low hb).2.1⟩
set_option maxHeartbeats 1000000 in
/-- asks, of any step on another connection. -/
theorem asks_calls (hK : K < 7) (h : ∃ sz Dm vd L, Ap w0 w p bm x0 i sz Dm vd L) (hx : Emp w x) (hx0 : w0.heap.size ≤ x) (hc : (Key C).wf = true) (hne : C ≠ x0.c) {b : List Int} (hn : n = b.length) (hcb : n ≤ cb) (hb : (Kd.int .u8).C w0 A b.length b) (hi : i ≤ 100000000) :
    Calls Try.prog 6 #[.pointer (some ⟨p, 0, none⟩), .pointer (some ⟨x, 0, none⟩), .agg #[.int .i64 K, .int .i64 C, .int .i64 N, .slice A n cb]] w fun e w' => ∃ b : Bool, e = .returned (.bool b) ∧ ∃ sz Dm vd L, Ap w0 w' p bm x0 (i + 1) sz Dm vd L := by
  have h0 : Zs w0 p bm x0 i x (stepB K C N A n cb) w.heap.size (w.alloc (stepB K C N A n cb)) := by
    have hb := below_alloc (Below.refl w.heap.size w) (stepB K C N A n cb)
    obtain ⟨sz, Dm, vd, L, hA⟩ := h
    exact ⟨⟨sz, Dm, vd, L, hA.low hb⟩, blk_new w _, (hb.block x (blk_lt hx)).trans hx⟩
  have fin : ∀ (e : Ending) (w' : World), (∃ (b : Bool) (g : Nat), e = .returned (.bool b) ∧ Zt w0 p bm x0 (i + 1) (stepB K C N A n cb) g w') → ∃ b : Bool, e = .returned (.bool b) ∧ ∃ sz Dm vd L, Ap w0 w' p bm x0 (i + 1) sz Dm vd L := by
    rintro e w' ⟨b, g, rfl, hz⟩
    exact ⟨b, rfl, hz.1⟩
  have low : ∀ g W W', Zs w0 p bm x0 i x (stepB K C N A n cb) g W → Below W.heap.size W W' → Zs w0 p bm x0 i x (stepB K C N A n cb) g W' := fun g W W' h hb => h.low hb
  have s0 : ∀ g W, Zs w0 p bm x0 i x (stepB K C N A n cb) g W → W.heap[g]? = some (stepB K C N A n cb) := fun g W h => h.2.1
  have s1 : ∀ g W, Zs w0 p bm x0 (i + 1) x (stepB K C N A n cb) g W → W.heap[g]? = some (stepB K C N A n cb) := fun g W h => h.2.1
  have s2 : ∀ g W, Zt w0 p bm x0 (i + 1) (stepB K C N A n cb) g W → W.heap[g]? = some (stepB K C N A n cb) := fun g W h => h.2
  by_cases k0 : K = 0
  · subst k0
    refine (asks0 s0 s1 s2 low (fun g W hz => z_open hz hc hne hi) (fun g W hz => ?_) h0).mono fin
    by_cases hn : C < 0
    · refine (ropen_neg x W C hn).mono ?_
      rintro e w' ⟨rfl, rfl⟩
      exact ⟨1, rfl, hz.1, hz.2.1⟩
    · refine (ropen hz.2.2 C hn).mono ?_
      rintro e w' ⟨rfl, hs⟩
      obtain ⟨sz, Dm, vd, L, hA⟩ := hz.1
      exact ⟨0, rfl, ⟨sz, Dm, vd, L, hA.off hz.2.2 hx0 hs⟩, (hs.block g (blk_lt hz.2.1) (fun e => by have h5 := hz.2.1; rw [e] at h5; exact ne_blk h5 hz.2.2 ref_s rfl)).trans hz.2.1⟩
  by_cases k1 : K = 1
  · subst k1
    refine (asks1 s0 s1 s2 low (fun g W hz => z_close hz hc hne) (fun g W hz => (rclose hz.2.2 C).mono ?_) h0).mono fin
    rintro e w' ⟨rfl, hb⟩
    exact ⟨6, rfl, hz.zt hb⟩
  by_cases k2 : K = 2
  · subst k2
    refine (asks2 s0 s1 s2 low (fun g W hz => z_arrive hz hc hne hn hb) (fun g W hz => (rarrive hz.2.2 C _).mono ?_) h0).mono fin
    rintro e w' ⟨rfl, hb⟩
    exact ⟨6, rfl, hz.zt hb⟩
  by_cases k3 : K = 3
  · subst k3
    refine (asks3 s0 s1 s2 low (fun g W hz => z_end hz hc hne) (fun g W hz => (rend hz.2.2 C).mono ?_) h0).mono fin
    rintro e w' ⟨rfl, hb⟩
    exact ⟨6, rfl, hz.zt hb⟩
  by_cases k4 : K = 4
  · subst k4
    refine (asks4 (Z2 := Zt w0 p bm x0 (i + 1) (stepB 4 C N A n cb)) s1 (fun g W hz => z_read hz hc hne) (fun g W hz => (rread hz.2.2 C N).mono ?_) h0).mono fin
    rintro e w' ⟨rfl, hb⟩
    exact ⟨rfl, hz.zt hb, hb⟩
  by_cases k5 : K = 5
  · subst k5
    refine (asks5 s0 s1 s2 low (fun g W hz => z_room hz hc hne) (fun g W hz => (rroom hz.2.2 C N).mono ?_) h0).mono fin
    rintro e w' ⟨rfl, hb⟩
    exact ⟨6, rfl, hz.zt hb⟩
  by_cases k6 : K = 6
  · subst k6
    refine (asks6 (Z2 := Zt w0 p bm x0 (i + 1) (stepB 6 C N A n cb)) s1 (fun g W hz => z_write hz hc hne hn hcb hb hi) (fun g W hz => (rwrite hz.2.2 C _).mono ?_) h0).mono fin
    rintro e w' ⟨rfl, hb⟩
    exact ⟨0, 6, rfl, hz.zt hb⟩
  · refine (asksD (Z2 := Zt w0 p bm x0 (i + 1) (stepB K C N A n cb)) (by omega) s1 (fun g W hz => z_draw hz) (fun g W hz => ?_) h0).mono fin
    by_cases hn : N < 1
    · refine (rdraw0 N W x hn).mono ?_
      rintro e w' ⟨rfl, hb⟩
      exact ⟨0, 1, rfl, hz.zt hb⟩
    · refine (rdraw1 hz.2.2 N hn).mono ?_
      rintro e w' ⟨rfl, hb⟩
      exact ⟨0, 0, rfl, hz.zt hb⟩
end
end Go.Proofs.Ytnhhcmnjfaeliaa.Vm
