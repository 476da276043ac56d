/- WorldApart: the connection that is looked at; own text of this session. -/
import Derived.Test.YtnhhcmnjfaeliaaVm17
namespace Go.Proofs.Ytnhhcmnjfaeliaa.Vm
open Wld hiding St Ft Next cellsQ cellsP ReadPost ptrE ptrE_none ptrE_some law zeroP Key key_of info_u8 info_int ne_t ne_blk ne_map grown_below
open Go.RowKit Go.Proofs.YtnhhcmnjfaeliaaW.PrintWords Go.Proofs.YtnhhcmnjfaeliaaW.PrintLast Go.Maps
set_option linter.unusedVariables false
set_option linter.unusedSimpArgs false
section
variable {w0 w w' : World} {p bm i sz x g : Nat} {x0 : Cn} {Dm : DataW Unit} {vd : Value} {L : List Cn}
set_option maxRecDepth 100000 in
theorem new_mw (w : World) : Calls Try.prog 5 #[] w fun e w' => ∃ p bm, e = .returned (.pointer (some ⟨p, 0, none⟩)) ∧ MW w' p bm 0 (.map []) (.slice none 0 0) [] [] ∧ w.heap.size ≤ p ∧ w.heap.size ≤ bm ∧ Below w.heap.size w w' := by
  have hmm := @run_makeMap Try.prog
  go_enter Try.func5, Try.ntmps5
  go_wp2
  go_ret
  exact ⟨w.heap.size + 1, w.heap.size, rfl, ⟨Wld.blk_two _ _ _, (World.ownsMap_made _ _ _ _).alloc _, Row.nil _ _ _, fun y hy => (by cases hy), fun c _ => rfl, fun k hk => (by simp [Maps.has] at hk), fun y hy => (by cases hy), List.Pairwise.nil⟩, Nat.le_succ _, Nat.le_refl _, below_alloc (below_alloc (Below.refl _ _) _) _⟩
theorem open_first (h : MW w p bm 0 (.map []) (.slice none 0 0) [] []) (hp : w0.heap.size ≤ p) (hm : w0.heap.size ≤ bm) (hb : Below w0.heap.size w0 w) (c : Int) (hc : (Key c).wf = true) (h0 : ¬ c < 0) :
    Calls Try.prog 15 #[.pointer (some ⟨p, 0, none⟩), .int .i64 c] w fun e w' => e = .returned (.int .i64 0) ∧ ∃ q sz Dm vd, Ap w0 w' p bm (fresh c q) 0 sz Dm vd [] := by
  refine (open_new h (Nat.zero_le _) hc h0 (fun y hy => by cases hy)).mono ?_
  rintro e w' (⟨rfl, hl, _⟩ | ⟨rfl, q, hq, hmw, hs⟩)
  · have : Maps.size (DataW.map [] : DataW Unit) = 0 := rfl
    omega
  · refine ⟨rfl, q, 1, (DataW.map []).put (Key c) (.lit (.int .i64 (q : Int))), .slice none 0 0, hmw, hp, hm, ?_, fun k hk => (by simp [Value.ownBlock] at hk), hs.out hb (fun k hk => by rw [hk]; exact hm) hb.size, fun y hy => (by cases hy), Nat.le_refl _⟩
    intro y hy k hk
    rw [List.mem_singleton] at hy
    rw [hy] at hk
    rw [fresh_own hk]
    exact Nat.le_trans hb.size hq
/-- A call on the connection that is looked at. -/
theorem Ap.self {x1 : Cn} {vd' : Value} (h : Ap w0 w p bm x0 i sz Dm vd L) (hc : x1.c = x0.c) (hq : x1.q = x0.q) (hy' : x1.St w' p bm sz Dm vd' [])
    (hft : ∀ k, Ft p bm x1.q x1.vw x1.vs vd' k → Ft p bm x0.q x0.vw x0.vs vd k ∨ w.heap.size ≤ k) (hs : Stay (Ft p bm x0.q x0.vw x0.vs vd) w w') : Ap w0 w' p bm x1 i sz Dm vd' L := by
  have hFt : ∀ k, Ft p bm x0.q x0.vw x0.vs vd k → w0.heap.size ≤ k := by
    rintro k (e | e | e | e | e | e)
    · rw [e]; exact h.bP
    · rw [e]; exact h.bM
    · exact h.bO x0 (by simp) k (.inl e)
    · exact h.bO x0 (by simp) k (.inr (.inl e))
    · exact h.bO x0 (by simp) k (.inr (.inr e))
    · exact h.bD k e
  have hFt' : ∀ k, Ft p bm x1.q x1.vw x1.vs vd' k → w0.heap.size ≤ k := fun k hk => (hft k hk).elim (hFt k) (fun h5 => Nat.le_trans h.bel.size h5)
  refine ⟨MW.step (A := []) h.mw hc hq hy' hft hs, h.bP, h.bM, ?_, fun k hk => hFt' k (.inr (.inr (.inr (.inr (.inr hk))))), hs.out h.bel hFt h.bel.size, h.good, h.szi⟩
  intro z hz k hk
  rw [List.mem_cons] at hz
  rcases hz with e | hz
  · rw [e] at hk
    rcases hk with e | e | e
    · exact hFt' k (.inr (.inr (.inl e)))
    · exact hFt' k (.inr (.inr (.inr (.inl e))))
    · exact hFt' k (.inr (.inr (.inr (.inr (.inl e)))))
  · exact h.bO z (by simp [hz]) k hk
/-- The connection that is looked at: open, not ended, with what waits and the room. -/
def Look (w0 w : World) (p bm i : Nat) (c : Int) (ws ss : List Int) (room : Int) : Prop := ∃ x0 sz Dm vd L, Ap w0 w p bm x0 i sz Dm vd L ∧ x0.c = c ∧ x0.op = true ∧ x0.en = false ∧ x0.ws = ws ∧ x0.ss = ss ∧ x0.room = room
variable {c : Int} {ws ss : List Int} {room : Int}
theorem Look.low (h : Look w0 w p bm i c ws ss room) (hb : Below w.heap.size w w') : Look w0 w' p bm i c ws ss room := by
  obtain ⟨x0, sz, Dm, vd, L, hA, r⟩ := h
  exact ⟨x0, sz, Dm, vd, L, hA.low hb, r⟩
theorem Look.bel (h : Look w0 w p bm i c ws ss room) : Below w0.heap.size w0 w := by
  obtain ⟨x0, sz, Dm, vd, L, hA, r⟩ := h
  exact hA.bel
theorem Look.St (h : Look w0 w p bm i c ws ss room) : ∃ sz Dm q vw vs vd, Vm.St w p bm sz Dm q vw vs vd c true false ws ss room [] ∧ ∀ w' (vw' vs' vd' : Value) (ws' ss' : List Int) (room' : Int), Vm.St w' p bm sz Dm q vw' vs' vd' c true false ws' ss' room' [] → (∀ k, Ft p bm q vw' vs' vd' k → Ft p bm q vw vs vd k ∨ w.heap.size ≤ k) → Stay (Ft p bm q vw vs vd) w w' → Look w0 w' p bm i c ws' ss' room' := by
  obtain ⟨x0, sz, Dm, vd, L, hA, rfl, h1, h2, rfl, rfl, rfl⟩ := h
  have hS := hA.mw.all x0 (by simp)
  unfold Cn.St at hS
  rw [h1, h2] at hS
  refine ⟨sz, Dm, x0.q, x0.vw, x0.vs, vd, hS, fun w' vw' vs' vd' ws' ss' room' hst hft hs => ?_⟩
  exact ⟨⟨x0.q, vw', vs', x0.c, true, false, ws', ss', room'⟩, sz, Dm, vd', L, hA.self (x1 := ⟨x0.q, vw', vs', x0.c, true, false, ws', ss', room'⟩) rfl rfl hst hft hs, rfl, rfl, rfl, rfl, rfl, rfl⟩
theorem look_first (h : MW w p bm 0 (.map []) (.slice none 0 0) [] []) (hp : w0.heap.size ≤ p) (hm : w0.heap.size ≤ bm) (hb : Below w0.heap.size w0 w) (c : Int) (hc : (Key c).wf = true) (h0 : ¬ c < 0) :
    Calls Try.prog 15 #[.pointer (some ⟨p, 0, none⟩), .int .i64 c] w fun e w' => e = .returned (.int .i64 0) ∧ Look w0 w' p bm 0 c [] [] 0 := by
  refine (open_first h hp hm hb c hc h0).mono ?_
  rintro e w' ⟨rfl, q, sz, Dm, vd, hA⟩
  exact ⟨rfl, _, sz, Dm, vd, _, hA, rfl, rfl, rfl, rfl, rfl, rfl⟩
theorem look_room (h : Look w0 w p bm i c ws ss room) (hc : (Key c).wf = true) (n : Int) (hn : 0 ≤ n) (h0 : 0 ≤ room) (h1 : room ≤ 1048576) :
    Calls Try.prog 16 #[.pointer (some ⟨p, 0, none⟩), .int .i64 c, .int .i64 n] w fun e w' => e = .returned (.int .i64 0) ∧ Look w0 w' p bm i c ws ss (room + min n (1048576 - room)) := by
  obtain ⟨sz, Dm, q, vw, vs, vd, hS, hL⟩ := h.St
  refine (room_calls hS hc n hn h0 h1).mono ?_
  rintro e w' ⟨rfl, vw', vs', vd', hst, hft, hs⟩
  exact ⟨rfl, hL w' vw' vs' vd' _ _ _ hst hft hs⟩
theorem look_arrive (h : Look w0 w p bm i c ws ss room) (hc : (Key c).wf = true) (A : Option Addr) (n cb : Nat) (b : List Int) (hn : n = b.length) (hb : (Kd.int .u8).C w0 A b.length b) (hl : b.length + ws.length ≤ 1048576) :
    Calls Try.prog 17 #[.pointer (some ⟨p, 0, none⟩), .int .i64 c, .slice A n cb] w fun e w' => e = .returned (.int .i64 0) ∧ Look w0 w' p bm i c (ws ++ b) ss room := by
  obtain ⟨sz, Dm, q, vw, vs, vd, hS, hL⟩ := h.St
  refine (arrive_ok hS hc A n cb b hn (Kd.C_below hb h.bel) hl).mono ?_
  rintro e w' ⟨rfl, vw', vs', vd', hst, hft, hs⟩
  exact ⟨rfl, hL w' vw' vs' vd' _ _ _ hst hft hs⟩
theorem look_waits (h : Look w0 w p bm i c ws ss room) (hc : (Key c).wf = true) :
    Calls Try.prog 7 #[.pointer (some ⟨p, 0, none⟩), .int .i64 c] w fun e w' => e = .returned (.tuple #[.int .i64 (ws.length : Int), .bool false]) ∧ Look w0 w' p bm i c ws ss room := by
  obtain ⟨sz, Dm, q, vw, vs, vd, hS, hL⟩ := h.St
  refine (waits_calls hS hc).mono ?_
  rintro e w' ⟨rfl, hb⟩
  exact ⟨rfl, h.low hb⟩
theorem look_read (h : Look w0 w p bm i c ws ss room) (hc : (Key c).wf = true) (hw : ws.length ≤ 1048576) (n : Int) (m : Nat) (hm : (m : Int) = max 0 (min n ws.length)) :
    Calls Try.prog 18 #[.pointer (some ⟨p, 0, none⟩), .int .i64 c, .int .i64 n] w fun e w' => ∃ (A1 : Option Addr) (c1 : Nat), e = .returned (.tuple #[.slice A1 m c1, .int .i64 0]) ∧ Look w0 w' p bm i c (ws.drop m) ss room ∧ Row .u8 5 w' (.slice A1 m c1) (ws.take m) := by
  obtain ⟨sz, Dm, q, vw, vs, vd, hS, hL⟩ := h.St
  refine (read_calls hS hc hw n m hm).mono ?_
  rintro e w' ⟨A1, c1, vw', rfl, hst, hft, hs, hrow, hro⟩
  exact ⟨A1, c1, rfl, hL w' vw' vs vd _ _ _ hst (fun k hk => .inl (hft k hk)) hs, hrow⟩
end
end Go.Proofs.Ytnhhcmnjfaeliaa.Vm
