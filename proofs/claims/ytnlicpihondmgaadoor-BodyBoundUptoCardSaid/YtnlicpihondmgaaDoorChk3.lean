/- Package chunked, by hand: what a byte does in a decoder: in a chunk's bytes, and behind them; own text of this session. -/
import Derived.Test.YtnlicpihondmgaaDoorChk2
import Derived.Laws.EntriesVeiled
namespace Go.Proofs.YtnlicpihondmgaaDoor.Chk
open Go.RowKit Go.Proofs.YtnlicpihondmgaaDoorW.PrintWords Go.Proofs.YtnlicpihondmgaaDoorW.PrintLast
set_option linter.unusedVariables false
theorem lined_calls (w : World) (F : Nat → Prop) (p : Nat) (vl vo vt : Value) (d : Dec) (c : Int) (h : Rep w F p vl vo vt d) (hl : d.line.length ≤ 1099511627776) :
    Calls Tryd.prog 43 #[.pointer (some ⟨p, 0, none⟩), .int .u8 c] w (LinedPost w F p vo vt d (lined d.line c)) := by
  by_cases hn : d.line.length = 0
  · have hd : decide (0 < d.line.length) = false := decide_eq_false (by omega)
    by_cases hc : c = 10
    · rw [show lined d.line c = (d.line, none, 100) from by unfold lined; rw [hd, hc]; rfl]
      exact lined_e10 w F p vl vo vt d c h hl hn hc
    · have hb : (c == 10) = false := by simpa using hc
      have e : lined d.line c = (d.line ++ [c], none, 0) := by
        unfold lined
        rw [hd, hb, if_neg (by simp), if_neg hc, if_neg (by omega)]
      rw [e]
      by_cases hc3 : c = 13
      · subst hc3; exact lined_e13 w F p vl vo vt d 13 h hl hn rfl
      · exact lined_e w F p vl vo vt d c h hl hn hc hc3
  · have hp : 0 < d.line.length := by omega
    have hd : decide (0 < d.line.length) = true := decide_eq_true hp
    by_cases hx : rd d.line ((d.line.length : Int) - 1) = 13
    · by_cases hc : c = 10
      · have e : lined d.line c = ([], some (strOfNums (d.line.take (d.line.length - 1))), 0) := by
          unfold lined
          rw [hd, hx, hc]; rfl
        rw [e]
        exact lined_whole w F p vl vo vt d c h hl hp hx hc
      · have hb : (c == 10) = false := by simpa using hc
        have e : lined d.line c = (d.line, none, 100) := by
          unfold lined
          rw [hd, hx, hb]; rfl
        rw [e]
        exact lined_13 w F p vl vo vt d c h hl hp hx hc
    · have hxb : (rd d.line ((d.line.length : Int) - 1) == 13) = false := by simpa using hx
      by_cases hc : c = 10
      · have e : lined d.line c = (d.line, none, 100) := by
          unfold lined
          rw [hd, hxb, hc]; rfl
        rw [e]
        exact lined_10 w F p vl vo vt d c h hl _ hp rfl hx hc
      · have hb : (c == 10) = false := by simpa using hc
        by_cases hc3 : c = 13
        · have e : lined d.line c = (d.line ++ [13], none, 0) := by
            unfold lined
            rw [hd, hxb, hb, if_neg (by simp), if_neg hc, if_neg (by omega), hc3]
          rw [e]
          exact lined_n13 w F p vl vo vt d c h hl _ hp rfl hx hc3
        · by_cases hs : d.line.length < 8192
          · have e : lined d.line c = (d.line ++ [c], none, 0) := by
              unfold lined
              rw [hd, hxb, hb, if_neg (by simp), if_neg hc, if_neg (by omega)]
            rw [e]
            exact lined_n w F p vl vo vt d c h hl _ hp rfl hx hc hc3 hs
          · have e : lined d.line c = (d.line, none, 100) := by
              unfold lined
              rw [hd, hxb, hb, if_neg (by simp), if_neg hc, if_pos ⟨hc3, by omega⟩]
            rw [e]
            exact lined_long w F p vl vo vt d c h hl _ hp rfl hx hc hc3 (by omega)
/-- What a step leaves: what it tells, and the decoder. -/
def StepPost (w : World) (F : Nat → Prop) (p : Nat) (r : Dec × Int) (e : Ending) (w' : World) : Prop :=
  e = .returned (.int .i64 r.2) ∧ (∃ vl vo vt, Rep w' (fun k => F k ∨ w.heap.size ≤ k) p vl vo vt r.1) ∧ Stay F w w'
/-- The bytes of a chunk. -/
def dataS (d : Dec) (c : Int) : Dec × Int := ({ d with out := d.out ++ [c], need := d.need - 1, st := if d.need - 1 = 0 then 2 else d.st }, 0)
theorem Rep.outTo {w w1 : World} {F : Nat → Prop} {p : Nat} {vl vo vt : Value} {d : Dec} {v1 : Value} {l1 : List Int} (h : Rep w F p vl vo vt d) (hg : w.grownBy w1 vo.ownBlock) (hat : v1.ownBlock = vo.ownBlock ∨ ∃ b, v1.ownBlock = some b ∧ w.heap.size ≤ b)
    (hR : (Kd.int .u8).R 5 w1 0 (fun k => (F k ∨ w.heap.size ≤ k) ∧ some k ≠ vl.ownBlock) v1 l1) : w1.heap[p]? = some (.cells (cellsOf p d vl vo vt) 65 (0, 0)) ∧ Rep (w1.setCell ⟨p, 4, none⟩ v1) (fun k => F k ∨ w.heap.size ≤ k) p vl v1 vt { d with out := l1 } ∧ Stay F w (w1.setCell ⟨p, 4, none⟩ v1) := by
  have hp := R_neT h.out h.blk ne_dec.1
  have hb : w1.heap[p]? = some (.cells (cellsOf p d vl vo vt) 65 (0, 0)) := (hg.block p h.lt hp).trans h.blk
  refine ⟨hb, Rep.store hb rfl (.inl h.inF) (Kd.R_mono (Kd.R_after h.line hg hat) (fun k hk => ⟨.inl hk.1, hk.2⟩)) hR ?_, ?_⟩
  · refine Kd.R_mono (Kd.R_grown (row := vo.ownBlock) (Kd.R_bound h.tr) hg ?_) (fun k hk => .inl hk.1)
    rintro k ⟨_, _, _, q, hq, cells, hc⟩ he
    rcases List.mem_cons.1 hq with rfl | h2
    · exact R_neT h.out hc ne_dec.2.2.2 he
    · exact absurd h2 (by simp [fldK, P.k49, Kd.iso, Kd.pair, Kd.string, Kd.scalar])
  · exact (Stay.grown hg (fun k hk => (h.out.1 k hk).1)).set h.inF _
set_option maxHeartbeats 4000000 in
set_option maxRecDepth 100000 in
theorem data_calls (w : World) (F : Nat → Prop) (p : Nat) (vl vo vt : Value) (d : Dec) (c : Int) (h : Rep w F p vl vo vt d) (hl : d.out.length ≤ 1099511627776) (hn1 : 1 ≤ d.need) (hn2 : d.need ≤ 9007199254740992) :
    Calls Tryd.prog 48 #[.pointer (some ⟨p, 0, none⟩), .int .u8 c] w (StepPost w F p (dataS d c)) := by
  have hz4 : w.cell? ⟨p, 4, none⟩ = some vo := (blk_cell h.blk 4).trans rfl
  have hf4 := blk_frozen h.blk 4
  obtain ⟨A, n, hv, hcap, hC⟩ := Kd.R_reads h.out
  have HR := Aside0.mk h
  have HL := Aside0.mk hl
  obtain ⟨N, hN⟩ : ∃ N, N = d.out.length := ⟨_, rfl⟩
  rw [← hN] at hv hC hcap
  have HNN := Aside0.mk hN
  obtain ⟨M, hM⟩ : ∃ M, M = d.need := ⟨_, rfl⟩
  rw [← hM] at hn1 hn2
  have HM := Aside0.mk hM
  obtain ⟨r, hr⟩ : ∃ r, r = dataS d c := ⟨_, rfl⟩
  rw [← hr]
  have HQ := Aside0.mk hr
  clear h hl hN hM hr
  subst hv
  go_enter Tryd.func48, Tryd.ntmps48
  go_wp2_with (at_builtin; refine Kd.R_append (Kd.int .u8) (w0 := w) 0 rfl (.tmp 9) (.tmp 11) 22 5 (.int .u8 0) 1 rfl Tryd.underlying22 info_u8 rfl (by decide) (by omega) _ d.out c [.int .u8 c] (fun k => (F k ∨ w.heap.size ≤ k) ∧ some k ≠ vl.ownBlock) (fun _ => False) rfl rfl ?aP (fun _ hk => hk.elim) ?aF ?aO ?aB ?aS ?aL ?_)
  case aP => rfl
  case aF => exact fun k hk => ⟨.inr hk, R_fresh HR.out.line k hk⟩
  case aO => exact Kd.R_mono HR.out.out (fun k hk => ⟨.inl hk.1, hk.2⟩)
  case aB => exact Below.refl _ _
  try (case aS => omega)
  case aL => have := HL.out; omega
  intro v1 w1 hR hb hg hat
  obtain ⟨hb1, hrep, hst⟩ := HR.out.outTo hg hat hR
  obtain ⟨A1, c1, e1⟩ := Kd.R_slice hR
  rw [List.length_append, List.length_singleton] at e1
  have hz4 : w1.cell? ⟨p, 4, none⟩ = some (.slice A N n) := (blk_cell hb1 4).trans rfl
  have hf4 := blk_frozen hb1 4
  have hz3 : w1.cell? ⟨p, 3, none⟩ = some (.func (.func (stF d.st)) #[.pointer (some ⟨p, 0, none⟩)] #[]) := (blk_cell hb1 3).trans rfl
  have hf3 := blk_frozen hb1 3
  have hz1 : w1.cell? ⟨p, 1, none⟩ = some (.int .i64 M) := by rw [HM.out]; exact (blk_cell hb1 1).trans rfl
  have hf1 := blk_frozen hb1 1
  have HP := Aside0.mk hrep
  have HS := Aside0.mk hst
  clear hR hb hg hat hb1 hrep hst
  subst e1
  by_cases hM0 : M - 1 = 0
  · have bM : (M - 1 == 0) = true := by simpa using hM0
    have e : dataS d c = ({ d with out := d.out ++ [c], need := 0, st := 2 }, 0) := by unfold dataS; rw [← HM.out, if_pos hM0, hM0]
    have HE := Aside0.mk e
    have HP1 := Aside0.mk (HP.out.scal (i := 1) (v := .int .i64 0) (d' := { d with out := d.out ++ [c], need := 0 }) rfl rfl rfl rfl)
    have HP2 := Aside0.mk (HP1.out.scal (i := 3) (v := .func (.func (stF 2)) #[.pointer (some ⟨p, 0, none⟩)] #[]) (d' := { d with out := d.out ++ [c], need := 0, st := 2 }) rfl rfl rfl rfl)
    have HS2 := Aside0.mk ((HS.out.set (p := ⟨p, 1, none⟩) HR.out.inF (.int .i64 0)).set (p := ⟨p, 3, none⟩) HR.out.inF (.func (.func (stF 2)) #[.pointer (some ⟨p, 0, none⟩)] #[]))
    clear e
    go_wp2
    go_ret
    rw [HQ.out, HE.out]
    exact ⟨rfl, ⟨_, _, _, HP2.out⟩, HS2.out⟩
  · have bM : (M - 1 == 0) = false := by simpa using hM0
    have e : dataS d c = ({ d with out := d.out ++ [c], need := M - 1 }, 0) := by unfold dataS; rw [← HM.out, if_neg hM0]
    have HE := Aside0.mk e
    have HP1 := Aside0.mk (HP.out.scal (i := 1) (v := .int .i64 (M - 1)) (d' := { d with out := d.out ++ [c], need := M - 1 }) rfl rfl rfl rfl)
    have HS2 := Aside0.mk (HS.out.set (p := ⟨p, 1, none⟩) HR.out.inF (.int .i64 (M - 1)))
    clear e
    go_wp2
    go_ret
    rw [HQ.out, HE.out]
    exact ⟨rfl, ⟨_, _, _, HP1.out⟩, HS2.out⟩
end Go.Proofs.YtnlicpihondmgaaDoor.Chk
