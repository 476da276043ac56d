/- WorldApart: each call of the script; own text of this session. -/
import Derived.Test.YtnhhcmnjfaeliaaVm15
namespace Go.Proofs.Ytnhhcmnjfaeliaa.Vm
open Wld hiding St Ft Next cellsQ cellsP ReadPost ptrE ptrE_none ptrE_some law zeroP Key key_of info_u8 info_int ne_t ne_blk ne_map grown_below
open Go.RowKit Go.Proofs.YtnhhcmnjfaeliaaW.PrintWords Go.Proofs.YtnhhcmnjfaeliaaW.PrintLast Go.Maps
set_option linter.unusedVariables false
set_option linter.unusedSimpArgs false
section
variable {w0 w w' : World} {p bm i sz x g : Nat} {x0 : Cn} {Dm : DataW Unit} {vd : Value} {L : List Cn} {K C N : Int} {A : Option Addr} {n cb : Nat}
theorem step_t : (32 : Nat) ≠ 55 ∧ (32 : Nat) ≠ 67 ∧ (32 : Nat) ≠ 5 ∧ (32 : Nat) ≠ 3 := by decide
theorem ref_t : (29 : Nat) ≠ 55 ∧ (29 : Nat) ≠ 67 ∧ (29 : Nat) ≠ 5 ∧ (29 : Nat) ≠ 3 := by decide
theorem ref_s : (32 : Nat) ≠ 29 := by decide
/-- What a call on one of the others leaves. -/
theorem Zs.one {A' B : List Cn} {y y' : Cn} {vd' : Value} (hA : Ap w0 w p bm x0 i sz Dm vd (A' ++ y :: B)) (hg : w.heap[g]? = some (stepB K C N A n cb)) (hx : Emp w x) (hc : y'.c = y.c) (hq : y'.q = y.q) (hy' : y'.St w' p bm sz Dm vd' [])
    (hft : ∀ k, Ft p bm y'.q y'.vw y'.vs vd' k → Ft p bm y.q y.vw y.vs vd k ∨ w.heap.size ≤ k) (hs : Stay (Ft p bm y.q y.vw y.vs vd) w w') (hgo : Good (i + 1) y') : Zs w0 p bm x0 (i + 1) x (stepB K C N A n cb) g w' := by
  have hy := hA.mw.all y (by simp)
  exact ⟨⟨_, _, _, _, hA.step hc hq hy' hft hs hgo⟩, keepT hy hs hg step_t, keepT hy hs hx ref_t⟩
theorem z_no (h : Zs w0 p bm x0 i x (stepB K C N A n cb) g w) (hb : Below w.heap.size w w') : Zs w0 p bm x0 (i + 1) x (stepB K C N A n cb) g w' := (h.low hb).next
theorem z_close (h : Zs w0 p bm x0 i x (stepB K C N A n cb) g w) (hc : (Key C).wf = true) (hne : C ≠ x0.c) :
    Calls Try.prog 21 #[.pointer (some ⟨p, 0, none⟩), .int .i64 C] w fun e w' => ∃ r : Int, e = .returned (.int .i64 r) ∧ Zs w0 p bm x0 (i + 1) x (stepB K C N A n cb) g w' := by
  obtain ⟨⟨sz, Dm, vd, L, hA⟩, hg, hx⟩ := id h
  rcases hA.at hc hne with ⟨A', y, B, rfl, hyc, hop⟩ | hno
  · have hy := hA.mw.all y (by simp)
    have hgo := hA.good y (by simp)
    unfold Cn.St at hy
    rw [hop, hyc] at hy
    refine (close_calls hy hc).mono ?_
    rintro e w' ⟨rfl, vw', vs', vd', hst, hft, hs⟩
    exact ⟨0, rfl, Zs.one (y' := ⟨y.q, vw', vs', C, false, y.en, y.ws, y.ss, y.room⟩) hA hg hx hyc.symm rfl hst hft hs hgo.mono⟩
  · refine (close_no hno).mono ?_
    rintro e w' ⟨rfl, hb⟩
    exact ⟨6, rfl, z_no h hb⟩
theorem z_end (h : Zs w0 p bm x0 i x (stepB K C N A n cb) g w) (hc : (Key C).wf = true) (hne : C ≠ x0.c) :
    Calls Try.prog 24 #[.pointer (some ⟨p, 0, none⟩), .int .i64 C] w fun e w' => ∃ r : Int, e = .returned (.int .i64 r) ∧ Zs w0 p bm x0 (i + 1) x (stepB K C N A n cb) g w' := by
  obtain ⟨⟨sz, Dm, vd, L, hA⟩, hg, hx⟩ := id h
  rcases hA.at hc hne with ⟨A', y, B, rfl, hyc, hop⟩ | hno
  · have hy := hA.mw.all y (by simp)
    have hgo := hA.good y (by simp)
    unfold Cn.St at hy
    rw [hop, hyc] at hy
    refine (end_calls hy hc).mono ?_
    rintro e w' ⟨rfl, vw', vs', vd', hst, hft, hs⟩
    exact ⟨0, rfl, Zs.one (y' := ⟨y.q, vw', vs', C, true, true, y.ws, y.ss, y.room⟩) hA hg hx hyc.symm rfl hst hft hs hgo.mono⟩
  · refine (end_no hno).mono ?_
    rintro e w' ⟨rfl, hb⟩
    exact ⟨6, rfl, z_no h hb⟩
theorem z_room (h : Zs w0 p bm x0 i x (stepB K C N A n cb) g w) (hc : (Key C).wf = true) (hne : C ≠ x0.c) :
    Calls Try.prog 16 #[.pointer (some ⟨p, 0, none⟩), .int .i64 C, .int .i64 N] w fun e w' => ∃ r : Int, e = .returned (.int .i64 r) ∧ Zs w0 p bm x0 (i + 1) x (stepB K C N A n cb) g w' := by
  obtain ⟨⟨sz, Dm, vd, L, hA⟩, hg, hx⟩ := id h
  rcases hA.at hc hne with ⟨A', y, B, rfl, hyc, hop⟩ | hno
  · have hy := hA.mw.all y (by simp)
    have hgo := hA.good y (by simp)
    unfold Cn.St at hy
    rw [hop, hyc] at hy
    by_cases hn : N < 0
    · refine (room_neg hy hc N hn).mono ?_
      rintro e w' ⟨rfl, hb⟩
      exact ⟨1, rfl, z_no h hb⟩
    · refine (room_calls hy hc N (by omega) hgo.2.1.1 hgo.2.1.2).mono ?_
      rintro e w' ⟨rfl, vw', vs', vd', hst, hft, hs⟩
      exact ⟨0, rfl, Zs.one (y' := ⟨y.q, vw', vs', C, true, y.en, y.ws, y.ss, y.room + min N (1048576 - y.room)⟩) hA hg hx hyc.symm rfl hst hft hs ⟨hgo.mono.1, by have := hgo.2.1; show 0 ≤ y.room + min N (1048576 - y.room) ∧ y.room + min N (1048576 - y.room) ≤ 1048576; omega, hgo.mono.2.2⟩⟩
  · refine (room_no hno N).mono ?_
    rintro e w' ⟨rfl, hb⟩
    exact ⟨6, rfl, z_no h hb⟩
theorem z_arrive (h : Zs w0 p bm x0 i x (stepB K C N A n cb) g w) (hc : (Key C).wf = true) (hne : C ≠ x0.c) {b : List Int} (hn : n = b.length) (hb : (Kd.int .u8).C w0 A b.length b) :
    Calls Try.prog 17 #[.pointer (some ⟨p, 0, none⟩), .int .i64 C, .slice A n cb] w fun e w' => ∃ r : Int, e = .returned (.int .i64 r) ∧ Zs w0 p bm x0 (i + 1) x (stepB K C N A n cb) g w' := by
  obtain ⟨⟨sz, Dm, vd, L, hA⟩, hg, hx⟩ := id h
  rcases hA.at hc hne with ⟨A', y, B, rfl, hyc, hop⟩ | hno
  · have hy := hA.mw.all y (by simp)
    have hgo := hA.good y (by simp)
    unfold Cn.St at hy
    rw [hop, hyc] at hy
    rcases hen : y.en with _ | _
    · rw [hen] at hy
      by_cases hl : b.length + y.ws.length ≤ 1048576
      · refine (arrive_ok hy hc A n cb b hn (Kd.C_below hb hA.bel) hl).mono ?_
        rintro e w' ⟨rfl, vw', vs', vd', hst, hft, hs⟩
        exact ⟨0, rfl, Zs.one (y' := ⟨y.q, vw', vs', C, true, false, y.ws ++ b, y.ss, y.room⟩) hA hg hx hyc.symm rfl hst hft hs ⟨by show (y.ws ++ b).length ≤ 1048576; rw [List.length_append]; omega, hgo.mono.2⟩⟩
      · refine (arrive_long hy hc A n cb hgo.1 (by omega)).mono ?_
        rintro e w' ⟨rfl, rfl⟩
        exact ⟨2, rfl, h.next⟩
    · rw [hen] at hy
      refine (arrive_ended hy hc _).mono ?_
      rintro e w' ⟨rfl, hb⟩
      exact ⟨7, rfl, z_no h hb⟩
  · refine (arrive_no hno _).mono ?_
    rintro e w' ⟨rfl, hb⟩
    exact ⟨6, rfl, z_no h hb⟩
theorem z_open (h : Zs w0 p bm x0 i x (stepB K C N A n cb) g w) (hc : (Key C).wf = true) (hne : C ≠ x0.c) (hi : i ≤ 100000000) :
    Calls Try.prog 15 #[.pointer (some ⟨p, 0, none⟩), .int .i64 C] w fun e w' => ∃ r : Int, e = .returned (.int .i64 r) ∧ Zs w0 p bm x0 (i + 1) x (stepB K C N A n cb) g w' := by
  obtain ⟨⟨sz, Dm, vd, L, hA⟩, hg, hx⟩ := id h
  by_cases h0 : C < 0
  · refine (open_neg p w h0).mono ?_
    rintro e w' ⟨rfl, rfl⟩
    exact ⟨1, rfl, h.next⟩
  rcases find_or L C with ⟨A', y, B, rfl, hyc⟩ | hn
  · refine (open_has hA.mw hc h0 (x := y) (by simp) hyc).mono ?_
    rintro e w' ⟨rfl, rfl⟩
    exact ⟨7, rfl, h.next⟩
  · have hn' : ∀ y ∈ x0 :: L, y.c ≠ C := by
      intro y hy
      rw [List.mem_cons] at hy
      rcases hy with rfl | hy
      · exact fun e => hne e.symm
      · exact hn y hy
    refine (open_new hA.mw (by have := hA.szi; omega) hc h0 hn').mono ?_
    rintro e w' (⟨rfl, _, hb⟩ | ⟨rfl, q, hq, hmw, hs⟩)
    · exact ⟨5, rfl, z_no h hb⟩
    · refine ⟨0, rfl, ⟨sz + 1, Dm.put (Key C) (.lit (.int .i64 (q : Int))), vd, L ++ [fresh C q], ?_⟩, (hs.block g (blk_lt hg) (fun e => ne_map hg hA.mw.own e)).trans hg, (hs.block x (blk_lt hx) (fun e => ne_map hx hA.mw.own e)).trans hx⟩
      refine ⟨hmw, hA.bP, hA.bM, ?_, hA.bD, hs.out hA.bel (fun k hk => by rw [hk]; exact hA.bM) hA.bel.size, ?_, by have := hA.szi; omega⟩
      · intro z hz k hk
        rw [List.mem_cons, List.mem_append, List.mem_singleton] at hz
        rcases hz with h1 | h1 | h1
        · exact hA.bO z (by simp [h1]) k hk
        · exact hA.bO z (by simp [h1]) k hk
        · rw [h1] at hk
          rw [fresh_own hk]
          exact Nat.le_trans hA.bel.size hq
      · intro z hz
        rw [List.mem_append, List.mem_singleton] at hz
        rcases hz with h1 | h1
        · exact (hA.good z h1).mono
        · rw [h1]
          exact ⟨Nat.zero_le _, ⟨Int.le_refl _, by show (0 : Int) ≤ 1048576; decide⟩, Nat.zero_le _⟩
end
end Go.Proofs.Ytnhhcmnjfaeliaa.Vm
