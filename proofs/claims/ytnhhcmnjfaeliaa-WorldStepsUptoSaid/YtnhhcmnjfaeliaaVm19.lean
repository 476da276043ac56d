/- WorldApart: what was read, kept beside what is written; own text of this session. -/
import Derived.Test.YtnhhcmnjfaeliaaVm18
namespace Go.Proofs.Ytnhhcmnjfaeliaa.Vm
open Wld hiding St Ft Next cellsQ cellsP ReadPost ptrE ptrE_none ptrE_some law zeroP Key key_of info_u8 info_int ne_t ne_blk ne_map grown_below
open Go.RowKit Go.Proofs.YtnhhcmnjfaeliaaW.PrintWords Go.Proofs.YtnhhcmnjfaeliaaW.PrintLast Go.Maps
set_option linter.unusedVariables false
set_option linter.unusedSimpArgs false
section
variable {w0 w w' : World} {p bm i sz x g : Nat} {x0 : Cn} {Dm : DataW Unit} {vd : Value} {L : List Cn} {c : Int} {ws ss : List Int} {room : Int} {v : Value} {xs : List Int}
/-- The connection that is looked at, and a row beside it. -/
def LookX (w0 w : World) (p bm i : Nat) (c : Int) (ws ss : List Int) (room : Int) (v : Value) (xs : List Int) : Prop := ∃ x0 sz Dm vd L, Ap w0 w p bm x0 i sz Dm vd L ∧ (x0.c = c ∧ x0.op = true ∧ x0.en = false ∧ x0.ws = ws ∧ x0.ss = ss ∧ x0.room = room) ∧ Row .u8 5 w v xs ∧ ∀ k, v.ownBlock = some k → ¬ x0.own k
theorem LookX.look (h : LookX w0 w p bm i c ws ss room v xs) : Look w0 w p bm i c ws ss room := by
  obtain ⟨x0, sz, Dm, vd, L, hA, r, _⟩ := h
  exact ⟨x0, sz, Dm, vd, L, hA, r⟩
theorem LookX.row (h : LookX w0 w p bm i c ws ss room v xs) : Row .u8 5 w v xs := by
  obtain ⟨x0, sz, Dm, vd, L, hA, r, h1, _⟩ := h
  exact h1
theorem LookX.low (h : LookX w0 w p bm i c ws ss room v xs) (hb : Below w.heap.size w w') : LookX w0 w' p bm i c ws ss room v xs := by
  obtain ⟨x0, sz, Dm, vd, L, hA, r, h1, h2⟩ := h
  exact ⟨x0, sz, Dm, vd, L, hA.low hb, r, h1.below hb, h2⟩
theorem LookX.St (h : LookX w0 w p bm i c ws ss room v xs) : ∃ sz Dm q vw vs vd, Vm.St w p bm sz Dm q vw vs vd c true false ws ss room [] ∧ ∀ w' (vw' vs' vd' : Value) (ws' ss' : List Int) (room' : Int), Vm.St w' p bm sz Dm q vw' vs' vd' c true false ws' ss' room' [] → (∀ k, Ft p bm q vw' vs' vd' k → Ft p bm q vw vs vd k ∨ w.heap.size ≤ k) → Stay (Ft p bm q vw vs vd) w w' → LookX w0 w' p bm i c ws' ss' room' v xs := by
  obtain ⟨x0, sz, Dm, vd, L, hA, ⟨rfl, h1, h2, rfl, rfl, rfl⟩, hrow, hno⟩ := h
  have hS := hA.mw.all x0 (by simp)
  have hSt : x0.St w p bm sz Dm vd [] := hS
  unfold Cn.St at hS
  rw [h1, h2] at hS
  have hF : ∀ k, v.ownBlock = some k → ¬ Ft p bm x0.q x0.vw x0.vs vd k := by
    intro k hk h5
    obtain ⟨C', hC'⟩ := hrow.typed k hk
    rcases h5 with e | e | e | e | e | e
    · rw [e] at hC'; exact ne_blk hC' hSt.blkP ne_t.1 rfl
    · rw [e] at hC'; exact ne_map hC' hSt.own rfl
    · exact hno k hk (.inl e)
    · exact hno k hk (.inr (.inl e))
    · exact hno k hk (.inr (.inr e))
    · obtain ⟨C2, hC2⟩ := hSt.rd.typed k e; exact ne_blk hC2 hC' ne_t.2.2.2.2.1 rfl
  refine ⟨sz, Dm, x0.q, x0.vw, x0.vs, vd, hS, fun w' vw' vs' vd' ws' ss' room' hst hft hs => ?_⟩
  refine ⟨⟨x0.q, vw', vs', x0.c, true, false, ws', ss', room'⟩, sz, Dm, vd', L, hA.self (x1 := ⟨x0.q, vw', vs', x0.c, true, false, ws', ss', room'⟩) rfl rfl hst hft hs, ⟨rfl, rfl, rfl, rfl, rfl, rfl⟩, hrow.keep (fun k hk hl => hs.block k hl (hF k hk)), fun k hk ho => ?_⟩
  have h6 : Ft p bm x0.q vw' vs' vd' k := by
    rcases ho with e | e | e
    · exact .inr (.inr (.inl e))
    · exact .inr (.inr (.inr (.inl e)))
    · exact .inr (.inr (.inr (.inr (.inl e))))
  rcases hft k h6 with h7 | h7
  · exact hF k hk h7
  · have := hrow.lt k hk
    omega
theorem lookx_read (h : Look w0 w p bm i c ws ss room) (hc : (Key c).wf = true) (hw : ws.length ≤ 1048576) (n : Int) (m : Nat) (hm : (m : Int) = max 0 (min n ws.length)) :
    Calls Try.prog 18 #[.pointer (some ⟨p, 0, none⟩), .int .i64 c, .int .i64 n] w fun e w' => ∃ (A1 : Option Addr) (c1 : Nat), e = .returned (.tuple #[.slice A1 m c1, .int .i64 0]) ∧ LookX w0 w' p bm i c (ws.drop m) ss room (.slice A1 m c1) (ws.take m) := by
  obtain ⟨x0, sz, Dm, vd, L, hA, rfl, h1, h2, rfl, rfl, rfl⟩ := h
  have hS := hA.mw.all x0 (by simp)
  have hSt : x0.St w p bm sz Dm vd [] := hS
  unfold Cn.St at hS
  rw [h1, h2] at hS
  refine (read_calls hS hc hw n m hm).mono ?_
  rintro e w' ⟨A1, c1, vw', rfl, hst, hft, hs, hrow, hro⟩
  refine ⟨A1, c1, rfl, ⟨x0.q, vw', x0.vs, x0.c, true, false, x0.ws.drop m, x0.ss, x0.room⟩, sz, Dm, vd, L, hA.self (x1 := ⟨x0.q, vw', x0.vs, x0.c, true, false, x0.ws.drop m, x0.ss, x0.room⟩) rfl rfl hst (fun k hk => .inl (hft k hk)) hs, ⟨rfl, rfl, rfl, rfl, rfl, rfl⟩, hrow, fun k hk ho => ?_⟩
  have h6 : Ft p bm x0.q vw' x0.vs vd k := by
    rcases ho with e | e | e
    · exact .inr (.inr (.inl e))
    · exact .inr (.inr (.inr (.inl e)))
    · exact .inr (.inr (.inr (.inr (.inl e))))
  have h7 := hSt.lt k (hft k h6)
  have h8 := hro k hk
  omega
theorem lookx_write (h : LookX w0 w p bm i c ws ss room v xs) (hc : (Key c).wf = true) (A : Option Addr) (N cb : Nat) (b : List Int) (hN : N = b.length) (hcb : N ≤ cb) (hb : (Kd.int .u8).C w A b.length b) (n : Nat) (hn : (n : Int) = min (b.length : Int) room) (h0 : 0 ≤ room) (h1 : room ≤ 1048576) (hl : ss.length + n ≤ 140737488355328) :
    Calls Try.prog 19 #[.pointer (some ⟨p, 0, none⟩), .int .i64 c, .slice A N cb] w fun e w' => e = .returned (.tuple #[.int .i64 (n : Int), .int .i64 0]) ∧ LookX w0 w' p bm i c ws (ss ++ b.take n) (room - n) v xs := by
  obtain ⟨sz, Dm, q, vw, vs, vd, hS, hL⟩ := h.St
  refine (write_calls hS hc A N cb b hN hcb hb n hn h0 h1 hl).mono ?_
  rintro e w' ⟨rfl, vw', vs', vd', hst, hft, hs⟩
  exact ⟨rfl, hL w' vw' vs' vd' _ _ _ hst hft hs⟩
end
end Go.Proofs.Ytnhhcmnjfaeliaa.Vm
