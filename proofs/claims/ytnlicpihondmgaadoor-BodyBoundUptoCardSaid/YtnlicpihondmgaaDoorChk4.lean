/- Package chunked, by hand: what a byte behind a chunk's bytes does; own text of this session. -/
import Derived.Test.YtnlicpihondmgaaDoorChk3
namespace Go.Proofs.YtnlicpihondmgaaDoor.Chk
open Go.RowKit Go.Proofs.YtnlicpihondmgaaDoorW.PrintWords Go.Proofs.YtnlicpihondmgaaDoorW.PrintLast
set_option linter.unusedVariables false
/-- Behind a chunk's bytes. -/
def endS (d : Dec) (c : Int) : Dec × Int :=
  if c ≠ (if d.line.length = 1 then 10 else 13) then (d, 100)
  else if c = 10 then ({ d with line := [], st := 0 }, 0)
  else ({ d with line := d.line ++ [c] }, 0)
set_option maxHeartbeats 4000000 in
set_option maxRecDepth 100000 in
theorem end_1x (w : World) (F : Nat → Prop) (p : Nat) (vl vo vt : Value) (d : Dec) (c : Int) (h : Rep w F p vl vo vt d) (hl : d.line.length ≤ 1099511627776) (hn : d.line.length = 1) (hc : ¬ c = 10) :
    Calls Tryd.prog 59 #[.pointer (some ⟨p, 0, none⟩), .int .u8 c] w (StepPost w F p (d, 100)) := by
  have hz2 : w.cell? ⟨p, 2, none⟩ = some vl := (blk_cell h.blk 2).trans rfl
  have hf2 := blk_frozen h.blk 2
  obtain ⟨A, n, hv, hcap, hC⟩ := Kd.R_reads h.line
  have HR := Aside0.mk h
  have HL := Aside0.mk hl
  obtain ⟨N, hN⟩ : ∃ N, N = d.line.length := ⟨_, rfl⟩
  rw [← hN] at hv hC hcap hn
  have HNN := Aside0.mk hN
  clear h hl hN
  subst hv
  subst hn
  have bc : (c != 10) = true := by simpa using hc
  go_enter Tryd.func59, Tryd.ntmps59
  go_wp2
  go_ret
  exact ⟨rfl, ⟨_, _, _, HR.out.mono (fun _ hk => .inl hk)⟩, Stay.refl _ _⟩
set_option maxHeartbeats 4000000 in
set_option maxRecDepth 100000 in
theorem end_x (w : World) (F : Nat → Prop) (p : Nat) (vl vo vt : Value) (d : Dec) (c : Int) (h : Rep w F p vl vo vt d) (hl : d.line.length ≤ 1099511627776) (hn : ¬ d.line.length = 1) (hc : ¬ c = 13) :
    Calls Tryd.prog 59 #[.pointer (some ⟨p, 0, none⟩), .int .u8 c] w (StepPost w F p (d, 100)) := by
  have hz2 : w.cell? ⟨p, 2, none⟩ = some vl := (blk_cell h.blk 2).trans rfl
  have hf2 := blk_frozen h.blk 2
  obtain ⟨A, n, hv, hcap, hC⟩ := Kd.R_reads h.line
  have HR := Aside0.mk h
  have HL := Aside0.mk hl
  obtain ⟨N, hN⟩ : ∃ N, N = d.line.length := ⟨_, rfl⟩
  rw [← hN] at hv hC hcap hn
  have HNN := Aside0.mk hN
  clear h hl hN
  subst hv
  have bn : ((N : Int) == 1) = false := by simpa using (show ¬ (N : Int) = 1 from by omega)
  have bc : (c != 13) = true := by simpa using hc
  go_enter Tryd.func59, Tryd.ntmps59
  go_wp2
  go_ret
  exact ⟨rfl, ⟨_, _, _, HR.out.mono (fun _ hk => .inl hk)⟩, Stay.refl _ _⟩
set_option maxHeartbeats 4000000 in
set_option maxRecDepth 100000 in
theorem end_13 (w : World) (F : Nat → Prop) (p : Nat) (vl vo vt : Value) (d : Dec) (c : Int) (h : Rep w F p vl vo vt d) (hl : d.line.length ≤ 1099511627776) (hn : ¬ d.line.length = 1) (hc : c = 13) :
    Calls Tryd.prog 59 #[.pointer (some ⟨p, 0, none⟩), .int .u8 c] w (StepPost w F p ({ d with line := d.line ++ [13] }, 0)) := by
  have hz2 : w.cell? ⟨p, 2, none⟩ = some vl := (blk_cell h.blk 2).trans rfl
  have hf2 := blk_frozen h.blk 2
  obtain ⟨A, n, hv, hcap, hC⟩ := Kd.R_reads h.line
  have HR := Aside0.mk h
  have HL := Aside0.mk hl
  obtain ⟨N, hN⟩ : ∃ N, N = d.line.length := ⟨_, rfl⟩
  rw [← hN] at hv hC hcap hn
  have HNN := Aside0.mk hN
  clear h hl hN
  subst hv
  subst hc
  have bn : ((N : Int) == 1) = false := by simpa using (show ¬ (N : Int) = 1 from by omega)
  go_enter Tryd.func59, Tryd.ntmps59
  go_wp2_with (at_builtin; refine Kd.R_append (Kd.int .u8) (w0 := w) 0 rfl (.tmp 19) (.tmp 21) 22 5 (.int .u8 0) 1 rfl Tryd.underlying22 info_u8 rfl (by decide) (by omega) _ d.line 13 [.int .u8 13] (fun k => (F k ∨ w.heap.size ≤ k) ∧ some k ≠ vo.ownBlock) (fun _ => False) rfl rfl ?aP (fun _ hk => hk.elim) ?aF ?aO ?aB ?aS ?aL ?_)
  case aP => rfl
  case aF => exact fun k hk => ⟨.inr hk, R_fresh HR.out.out k hk⟩
  case aO => exact Kd.R_mono HR.out.line (fun k hk => ⟨.inl hk.1, hk.2⟩)
  case aB => exact Below.refl _ _
  try (case aS => omega)
  case aL => have := HL.out; omega
  intro v1 w1 hR hb hg hat
  obtain ⟨hb1, hrep, hst⟩ := HR.out.lineTo hg hat hR
  obtain ⟨A1, c1, e1⟩ := Kd.R_slice hR
  rw [List.length_append, List.length_singleton] at e1
  have hz2 : w1.cell? ⟨p, 2, none⟩ = some (.slice A N n) := (blk_cell hb1 2).trans rfl
  have hf2 := blk_frozen hb1 2
  have hz3 : w1.cell? ⟨p, 3, none⟩ = some (.func (.func (stF d.st)) #[.pointer (some ⟨p, 0, none⟩)] #[]) := (blk_cell hb1 3).trans rfl
  have hf3 := blk_frozen hb1 3
  have HP := Aside0.mk hrep
  have HS := Aside0.mk hst
  clear hR hb hg hat hb1 hrep hst
  subst e1
  go_wp2
  go_ret
  exact ⟨rfl, ⟨_, _, _, HP.out⟩, HS.out⟩
set_option maxHeartbeats 4000000 in
set_option maxRecDepth 100000 in
theorem end_10 (w : World) (F : Nat → Prop) (p : Nat) (vl vo vt : Value) (d : Dec) (c : Int) (h : Rep w F p vl vo vt d) (hl : d.line.length ≤ 1099511627776) (hn : d.line.length = 1) (hc : c = 10) :
    Calls Tryd.prog 59 #[.pointer (some ⟨p, 0, none⟩), .int .u8 c] w (StepPost w F p ({ d with line := [], st := 0 }, 0)) := by
  have hz2 : w.cell? ⟨p, 2, none⟩ = some vl := (blk_cell h.blk 2).trans rfl
  have hf2 := blk_frozen h.blk 2
  obtain ⟨A, n, hv, hcap, hC⟩ := Kd.R_reads h.line
  have HR := Aside0.mk h
  have HL := Aside0.mk hl
  obtain ⟨N, hN⟩ : ∃ N, N = d.line.length := ⟨_, rfl⟩
  rw [← hN] at hv hC hcap hn
  have HNN := Aside0.mk hN
  clear h hl hN
  subst hv
  subst hc
  subst hn
  go_enter Tryd.func59, Tryd.ntmps59
  go_wp2_with (at_builtin; refine Kd.R_append (Kd.int .u8) (w0 := w) 0 rfl (.tmp 19) (.tmp 21) 22 5 (.int .u8 0) 1 rfl Tryd.underlying22 info_u8 rfl (by decide) (by omega) _ d.line 10 [.int .u8 10] (fun k => (F k ∨ w.heap.size ≤ k) ∧ some k ≠ vo.ownBlock) (fun _ => False) rfl rfl ?aP (fun _ hk => hk.elim) ?aF ?aO ?aB ?aS ?aL ?_)
  case aP => rfl
  case aF => exact fun k hk => ⟨.inr hk, R_fresh HR.out.out k hk⟩
  case aO => exact Kd.R_mono HR.out.line (fun k hk => ⟨.inl hk.1, hk.2⟩)
  case aB => exact Below.refl _ _
  try (case aS => omega)
  case aL => have := HL.out; omega
  intro v1 w1 hR hb hg hat
  obtain ⟨hb1, hrep, hst⟩ := HR.out.lineTo hg hat hR
  obtain ⟨A1, c1, e1⟩ := Kd.R_slice hR
  rw [List.length_append, List.length_singleton] at e1
  have hz2 : w1.cell? ⟨p, 2, none⟩ = some (.slice A 1 n) := (blk_cell hb1 2).trans rfl
  have hf2 := blk_frozen hb1 2
  have hz3 : w1.cell? ⟨p, 3, none⟩ = some (.func (.func (stF d.st)) #[.pointer (some ⟨p, 0, none⟩)] #[]) := (blk_cell hb1 3).trans rfl
  have hf3 := blk_frozen hb1 3
  have HP := Aside0.mk hrep
  have HS := Aside0.mk hst
  clear hR hb hg hat hb1 hrep hst
  subst e1
  have HP1 := Aside0.mk HP.out.lineNil
  have HP2 := Aside0.mk (HP1.out.scal (i := 3) (v := .func (.func (stF 0)) #[.pointer (some ⟨p, 0, none⟩)] #[]) (d' := { d with line := [], st := 0 }) rfl rfl rfl rfl)
  have HS2 := Aside0.mk ((HS.out.set (p := ⟨p, 2, none⟩) HR.out.inF (.slice none 0 0)).set (p := ⟨p, 3, none⟩) HR.out.inF (.func (.func (stF 0)) #[.pointer (some ⟨p, 0, none⟩)] #[]))
  go_wp2
  go_ret
  exact ⟨rfl, ⟨_, _, _, HP2.out⟩, HS2.out⟩
theorem end_calls (w : World) (F : Nat → Prop) (p : Nat) (vl vo vt : Value) (d : Dec) (c : Int) (h : Rep w F p vl vo vt d) (hl : d.line.length ≤ 1099511627776) :
    Calls Tryd.prog 59 #[.pointer (some ⟨p, 0, none⟩), .int .u8 c] w (StepPost w F p (endS d c)) := by
  unfold endS
  by_cases hn : d.line.length = 1
  · rw [if_pos hn]
    by_cases hc : c = 10
    · rw [if_neg (by simpa using hc), if_pos hc]
      exact end_10 w F p vl vo vt d c h hl hn hc
    · rw [if_pos hc]
      exact end_1x w F p vl vo vt d c h hl hn hc
  · rw [if_neg hn]
    by_cases hc : c = 13
    · rw [if_neg (by simpa using hc), if_neg (by omega), hc]
      exact end_13 w F p vl vo vt d 13 h hl hn rfl
    · rw [if_pos hc]
      exact end_x w F p vl vo vt d c h hl hn hc
end Go.Proofs.YtnlicpihondmgaaDoor.Chk
