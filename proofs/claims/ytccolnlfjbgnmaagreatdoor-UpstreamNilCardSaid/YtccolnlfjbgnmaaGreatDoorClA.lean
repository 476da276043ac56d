/- A client's connection, plainly: its bytes one by one; own text of this session. -/
import Derived.Test.YtccolnlfjbgnmaaGreatDoorBdZ
import Derived.Test.YtccolnlfjbgnmaaGreatDoorHdB
import Derived.Test.YtccolnlfjbgnmaaGreatDoorFrZ
import Derived.Laws.EntriesVeiled
import Derived.Test.YtccolnlfjbgnmaaGreatDoorHdR
import Derived.Deep.RegionWith
namespace Go.Proofs.YtccolnlfjbgnmaaGreatDoor.Cli
open Go.RowKit Go.Proofs.YtccolnlfjbgnmaaGreatDoorW.PrintWords Go.Proofs.YtccolnlfjbgnmaaGreatDoorW.PrintLast Chk Px Hr Hd
open Bod (Bd feedB byteB feedB_stop feedB_next feedB_count BFine newB)
set_option linter.unusedVariables false
set_option linter.unusedSimpArgs false
/-- A connection: a head's bound, a body's; what it reads (0: a head, 1: a body), the parser, the body's reader, the body; begun, waits, shut; the status of what is wrong. -/
structure Cl where
  most : Int
  room : Int
  st : Nat
  par : Par
  rdr : Option Bd
  data : List Int
  begun : Bool
  waits : Bool
  shut : Bool
  wrong : Int
def failC (c : Cl) (status : Int) : Cl := ⟨c.most, c.room, c.st, c.par, c.rdr, [], false, c.waits, true, status⟩
def againC (c : Cl) : Cl := ⟨c.most, c.room, 0, newPar true c.most, none, [], false, false, c.shut, c.wrong⟩
def newC (most room : Int) : Cl := ⟨most, room, 0, newPar true most, none, [], false, false, false, 0⟩
def framed (c : Cl) (r : Int × Int × Bool × Int) : Cl :=
  if ¬ r.2.2.2 = 0 then failC c 400
  else match newB r.1 r.2.1 c.room with
    | none => failC { c with rdr := none } 413
    | some b => ⟨c.most, c.room, 1, c.par, some b, c.data, c.begun, b.whole, c.shut, c.wrong⟩
/-- What is behind a piece of a head. -/
def headE (c : Cl) : Cl :=
  if codeOf c.par.err = 85 then failC c 431 else if ¬ codeOf c.par.err = 0 then failC c 400 else if c.par.whole = true then framed c (reqS c.par.hd.f0 c.par.hd.f3 c.par.hd.f6) else c
/-- What is behind a piece of a body. -/
def bodyE (c : Cl) (r : Bd) : Cl :=
  if r.wrong = 2 then failC c 413 else if ¬ r.wrong = 0 then failC c 400 else ⟨c.most, c.room, c.st, c.par, c.rdr, c.data, c.begun, r.whole, c.shut, c.wrong⟩
def Cl.rests (c : Cl) : Prop := c.waits = true ∨ c.shut = true
instance (c : Cl) : Decidable c.rests := inferInstanceAs (Decidable (_ ∨ _))
/-! ### a piece is its bytes -/
theorem feedP_shift (b : List Int) : ∀ (p : Par) (n k : Nat), feedP p b (n + k) = ((feedP p b n).1, (feedP p b n).2 + k) := by
  induction b with
  | nil => intro p n k; rfl
  | cons c r ih =>
    intro p n k
    by_cases hs : p.whole = true ∨ p.err.isSome = true
    · rw [feedP_stop p _ _ (.inr hs), feedP_stop p _ _ (.inr hs)]
    · have hw : p.whole = false := by cases hx : p.whole with | false => rfl | true => exact absurd (.inl hx) hs
      have he : p.err = none := by cases hx : p.err with | none => rfl | some y => exact absurd (.inr (by rw [hx]; rfl)) hs
      rw [feedP_next p c r _ hw he, feedP_next p c r _ hw he, show n + k + 1 = n + 1 + k by omega, ih]
def live (p : Par) : Prop := p.whole = false ∧ p.err = none
end Go.Proofs.YtccolnlfjbgnmaaGreatDoor.Cli
/- A client's connection: its memory, and its small functions; own text of this session. -/
namespace Go.Proofs.YtccolnlfjbgnmaaGreatDoor.Cli
open Go.RowKit Go.Proofs.YtccolnlfjbgnmaaGreatDoorW.PrintWords Go.Proofs.YtccolnlfjbgnmaaGreatDoorW.PrintLast Chk Px Hr Hd
open Bod (Bd feedB byteB feedB_stop feedB_next feedB_count BFine newB BRep)
set_option linter.unusedVariables false
set_option linter.unusedSimpArgs false
def stF : Nat → Nat
  | 0 => 80
  | _ => 137
def cellsC (q : Nat) (c : Cl) (pv rv vd : Value) : Array Value := #[.int .i64 c.most, .int .i64 c.room, .func (.func (stF c.st)) #[.pointer (some ⟨q, 0, none⟩)] #[], pv, rv, vd, .bool c.begun, .bool c.waits, .bool c.shut, .int .i64 c.wrong]
/-- A connection's memory: its block, the parser's, the reader's, the body's bytes. -/
structure CAt (w : World) (q : Nat) (c : Cl) (kp : Nat) (rv vd vl vf : Value) (Fp Fr Fd : Nat → Prop) : Prop where
  blk : w.heap[q]? = some (.cells (cellsC q c (.pointer (some ⟨kp, 0, none⟩)) rv vd) 119 (0, 0))
  par : Hd.Rep w Fp kp vl vf c.par
  rdr : (c.rdr = none ∧ rv = .pointer none) ∨ ∃ r p, c.rdr = some r ∧ rv = .pointer (some ⟨p, 0, none⟩) ∧ BRep w Fr p r
  data : (Kd.int .u8).R 5 w 0 Fd vd c.data
  hp : ∀ k, Fp k → k < w.heap.size ∧ k ≠ q ∧ ¬ Fr k ∧ ¬ Fd k
  hr : ∀ k, Fr k → k < w.heap.size ∧ k ≠ q ∧ ¬ Fd k
  hd : ∀ k, Fd k → k < w.heap.size ∧ k ≠ q
/-- The same, in a footprint. -/
def CRep (w : World) (F : Nat → Prop) (q : Nat) (c : Cl) : Prop :=
  F q ∧ ∃ kp rv vd vl vf Fp Fr Fd, CAt w q c kp rv vd vl vf Fp Fr Fd ∧ (∀ k, Fp k → F k) ∧ (∀ k, Fr k → F k) ∧ (∀ k, Fd k → F k)
section
variable {w w1 : World} {q : Nat} {c c' : Cl} {kp : Nat} {rv vd vl vf : Value} {Fp Fr Fd : Nat → Prop}
theorem CAt.lt (h : CAt w q c kp rv vd vl vf Fp Fr Fd) : q < w.heap.size := blk_lt h.blk
/-- Where its blocks are as they were. -/
theorem CAt.move (h : CAt w q c kp rv vd vl vf Fp Fr Fd) (hs : w.heap.size ≤ w1.heap.size) (hm : ∀ k, k = q ∨ Fp k ∨ Fr k ∨ Fd k → k < w.heap.size → w1.heap[k]? = w.heap[k]?) : CAt w1 q c kp rv vd vl vf Fp Fr Fd := by
  refine ⟨(hm q (.inl rfl) h.lt).trans h.blk, h.par.move (fun k hk hl => hm k (.inr (.inl hk)) hl), ?_, Kd.R_step h.data (fun k hk hl => hm k (.inr (.inr (.inr hk))) hl), fun k hk => ⟨Nat.lt_of_lt_of_le (h.hp k hk).1 hs, (h.hp k hk).2⟩, fun k hk => ⟨Nat.lt_of_lt_of_le (h.hr k hk).1 hs, (h.hr k hk).2⟩, fun k hk => ⟨Nat.lt_of_lt_of_le (h.hd k hk).1 hs, (h.hd k hk).2⟩⟩
  rcases h.rdr with h5 | ⟨r, p, e1, e2, h3⟩
  · exact .inl h5
  · exact .inr ⟨r, p, e1, e2, h3.move (fun k hk hl => hm k (.inr (.inr (.inl hk))) hl)⟩
theorem CAt.below (h : CAt w q c kp rv vd vl vf Fp Fr Fd) (hb : Below w.heap.size w w1) : CAt w1 q c kp rv vd vl vf Fp Fr Fd := h.move hb.size (fun k _ hk => hb.block k hk)
theorem set_other (v : Value) (i k : Nat) (hk : k ≠ q) : (w.setCell ⟨q, i, none⟩ v).heap[k]? = w.heap[k]? := Below.heap_setCell _ _ _ _ hk
/-- A store into its block. -/
theorem CAt.store {i : Nat} {v rv' vd' : Value} {Fr' Fd' : Nat → Prop} (h : CAt w q c kp rv vd vl vf Fp Fr Fd) (hi : (cellsC q c (.pointer (some ⟨kp, 0, none⟩)) rv vd).setIfInBounds i v = cellsC q c' (.pointer (some ⟨kp, 0, none⟩)) rv' vd') (e1 : c'.par = c.par)
    (hr : (c'.rdr = none ∧ rv' = .pointer none) ∨ ∃ r p, c'.rdr = some r ∧ rv' = .pointer (some ⟨p, 0, none⟩) ∧ BRep w Fr' p r) (hd : (Kd.int .u8).R 5 w 0 Fd' vd' c'.data) (hFr : ∀ k, Fr' k → k < w.heap.size ∧ k ≠ q ∧ ¬ Fp k ∧ ¬ Fd' k) (hFd : ∀ k, Fd' k → k < w.heap.size ∧ k ≠ q ∧ ¬ Fp k) :
    CAt (w.setCell ⟨q, i, none⟩ v) q c' kp rv' vd' vl vf Fp Fr' Fd' := by
  have hs : (w.setCell ⟨q, i, none⟩ v).heap.size = w.heap.size := Bod.set_size _ _ _
  refine ⟨by rw [blk_set h.blk, hi], ?_, ?_, Kd.R_step hd (fun k hk _ => set_other v i k (hFd k hk).2.1), ?_, ?_, ?_⟩
  · rw [e1]; exact h.par.move (fun k hk _ => set_other v i k (h.hp k hk).2.1)
  · rcases hr with h5 | ⟨r, p, g1, g2, h3⟩
    · exact .inl h5
    · exact .inr ⟨r, p, g1, g2, h3.move (fun k hk _ => set_other v i k (hFr k hk).2.1)⟩
  · intro k hk; rw [hs]; exact ⟨(h.hp k hk).1, (h.hp k hk).2.1, fun h5 => (hFr k h5).2.2.1 hk, fun h5 => (hFd k h5).2.2 hk⟩
  · intro k hk; rw [hs]; exact ⟨(hFr k hk).1, (hFr k hk).2.1, (hFr k hk).2.2.2⟩
  · intro k hk; rw [hs]; exact ⟨(hFd k hk).1, (hFd k hk).2.1⟩
theorem CAt.scal {i : Nat} {v : Value} (h : CAt w q c kp rv vd vl vf Fp Fr Fd) (hi : (cellsC q c (.pointer (some ⟨kp, 0, none⟩)) rv vd).setIfInBounds i v = cellsC q c' (.pointer (some ⟨kp, 0, none⟩)) rv vd) (e1 : c'.par = c.par) (e2 : c'.rdr = c.rdr) (e3 : c'.data = c.data) :
    CAt (w.setCell ⟨q, i, none⟩ v) q c' kp rv vd vl vf Fp Fr Fd :=
  h.store hi e1 (by rw [e2]; exact h.rdr) (by rw [e3]; exact h.data) (fun k hk => ⟨(h.hr k hk).1, (h.hr k hk).2.1, fun h5 => (h.hp k h5).2.2.1 hk, (h.hr k hk).2.2⟩) (fun k hk => ⟨(h.hd k hk).1, (h.hd k hk).2, fun h5 => (h.hp k h5).2.2.2 hk⟩)
theorem CAt.rdrSet {p : Nat} {r : Bd} {B : Nat} (h : CAt w q c kp rv vd vl vf Fp Fr Fd) (hB : ∀ k, k = q ∨ Fp k ∨ Fd k → k < B) (hr : BRep w (fun k => B ≤ k ∧ k < w.heap.size) p r) : CAt (w.setCell ⟨q, 4, none⟩ (.pointer (some ⟨p, 0, none⟩))) q { c with rdr := some r } kp (.pointer (some ⟨p, 0, none⟩)) vd vl vf Fp (fun k => B ≤ k ∧ k < w.heap.size) Fd :=
  h.store rfl rfl (.inr ⟨r, p, rfl, rfl, hr⟩) h.data (fun k hk => ⟨hk.2, fun e => by have := hB k (.inl e); omega, fun h5 => by have := hB k (.inr (.inl h5)); omega, fun h5 => by have := hB k (.inr (.inr h5)); omega⟩) (fun k hk => ⟨(h.hd k hk).1, (h.hd k hk).2, fun h5 => (h.hp k h5).2.2.2 hk⟩)
/-- A new parser is put in. -/
theorem CAt.parSet {k1 : Nat} {p : Par} {vl1 vf1 : Value} {B : Nat} (h : CAt w q c kp rv vd vl vf Fp Fr Fd) (hB : ∀ k, k = q ∨ Fr k ∨ Fd k → k < B) (hk : B ≤ k1) (hr : Hd.Rep w (fun k => k = k1) k1 vl1 vf1 p) : CAt (w.setCell ⟨q, 3, none⟩ (.pointer (some ⟨k1, 0, none⟩))) q { c with par := p } k1 rv vd vl1 vf1 (fun k => k = k1) Fr Fd := by
  have hs : (w.setCell ⟨q, 3, none⟩ (.pointer (some ⟨k1, 0, none⟩))).heap.size = w.heap.size := Bod.set_size _ _ _
  have hq : k1 ≠ q := fun e => by have := hB q (.inl rfl); omega
  refine ⟨by rw [blk_set h.blk]; rfl, hr.move (fun k hk _ => set_other _ _ k (by rw [hk]; exact hq)), ?_, Kd.R_step h.data (fun k hk _ => set_other _ _ k (h.hd k hk).2), ?_, ?_, ?_⟩
  · rcases h.rdr with h5 | ⟨r, p, g1, g2, h3⟩
    · exact .inl h5
    · exact .inr ⟨r, p, g1, g2, h3.move (fun k hk _ => set_other _ _ k (h.hr k hk).2.1)⟩
  · rintro k rfl; rw [hs]; exact ⟨hr.lt, hq, fun h5 => by have := hB k (.inr (.inl h5)); omega, fun h5 => by have := hB k (.inr (.inr h5)); omega⟩
  · intro k hk; rw [hs]; exact h.hr k hk
  · intro k hk; rw [hs]; exact h.hd k hk
/-- The parser read on. -/
theorem CAt.parTo {p : Par} {vl1 vf1 : Value} (h : CAt w q c kp rv vd vl vf Fp Fr Fd) (hr : Hd.Rep w1 (fun k => Fp k ∨ w.heap.size ≤ k) kp vl1 vf1 p) (hs : Stay Fp w w1) : CAt w1 q { c with par := p } kp rv vd vl1 vf1 (fun k => (Fp k ∨ w.heap.size ≤ k) ∧ k < w1.heap.size) Fr Fd := by
  refine ⟨(hs.block q h.lt (fun h5 => (h.hp q h5).2.1 rfl)).trans h.blk, ?_, ?_, Kd.R_step h.data (fun k hk hl => hs.block k hl (fun h5 => (h.hp k h5).2.2.2 hk)), ?_, ?_, ?_⟩
  · exact ⟨hr.blk, ⟨hr.inF, hr.lt⟩, Kd.R_mono (Kd.R_bound hr.line) (fun k hk => ⟨hk.1, hk.2.2.1⟩), Kd.R_mono (Kd.R_bound hr.flds) (fun k hk => ⟨hk.1, hk.2.2.1⟩)⟩
  · rcases h.rdr with h5 | ⟨r, p, g1, g2, h3⟩
    · exact .inl h5
    · exact .inr ⟨r, p, g1, g2, h3.move (fun k hk hl => hs.block k hl (fun h5 => (h.hp k h5).2.2.1 hk))⟩
  · rintro k ⟨hk, hl⟩
    refine ⟨hl, ?_, ?_, ?_⟩
    · rintro rfl; exact hk.elim (fun h5 => (h.hp k h5).2.1 rfl) (fun h5 => by have := h.lt; omega)
    · intro hf; exact hk.elim (fun h5 => (h.hp k h5).2.2.1 hf) (fun h5 => by have := (h.hr k hf).1; omega)
    · intro hf; exact hk.elim (fun h5 => (h.hp k h5).2.2.2 hf) (fun h5 => by have := (h.hd k hf).1; omega)
  · intro k hk; exact ⟨Nat.lt_of_lt_of_le (h.hr k hk).1 hs.size, (h.hr k hk).2⟩
  · intro k hk; exact ⟨Nat.lt_of_lt_of_le (h.hd k hk).1 hs.size, (h.hd k hk).2⟩
end
set_option maxHeartbeats 4000000 in
set_option maxRecDepth 100000 in
theorem again_raw (w : World) (q : Nat) (most room : Int) (x2 x3 x4 x5 x6 x7 : Value) (sh : Bool) (wr : Int) (hb : w.heap[q]? = some (.cells #[.int .i64 most, .int .i64 room, x2, x3, x4, x5, x6, x7, .bool sh, .int .i64 wr] 119 (0, 0))) (h0 : 16 ≤ most) (h1 : most ≤ 65536) :
    Calls Tryz.prog 62 #[.pointer (some ⟨q, 0, none⟩)] w fun e w' => e = .returned (.tuple #[]) ∧ (∃ k1, CAt w' q ⟨most, room, 0, newPar true most, none, [], false, false, sh, wr⟩ k1 (.pointer none) (.slice none 0 0) (.slice none 0 0) (.slice none 0 0) (fun k => k = k1) (fun _ => False) (fun _ => False) ∧ w.heap.size ≤ k1) ∧ Stay (fun k => k = q) w w' := by
  have hz0 : w.cell? ⟨q, 0, none⟩ = some (.int .i64 most) := (blk_cell hb 0).trans rfl
  have HN := Aside0.mk (fun W => new_calls true most W h0 h1)
  have H := Aside0.mk hb
  have hlt := blk_lt hb
  clear hb h0 h1
  go_enter Tryz.func62, Tryz.ntmps62
  go_wp2_with (go_at_call 50; refine (HN.out _).mono ?_; rintro e w1 ⟨k1, rfl, hk1, hrep, hb⟩; have HB := Aside0.mk hb; have HRep := Aside0.mk hrep; have HK := Aside0.mk hk1; have h1 := blk_below H.out hb; have H1 := Aside0.mk h1; have hf2 := blk_frozen h1 2; have hf3 := blk_frozen h1 3; have hf4 := blk_frozen h1 4; have hf5 := blk_frozen h1 5; have hf6 := blk_frozen h1 6; have hf7 := blk_frozen h1 7; have hy2 := (blk_cell h1 2); have hy3 := (blk_cell h1 3); have hy4 := (blk_cell h1 4); have hy5 := (blk_cell h1 5); have hy6 := (blk_cell h1 6); have hy7 := (blk_cell h1 7); clear hb hrep hk1 h1)
  go_end0
  have g1 := blk_set H1.out 3 (.pointer (some ⟨k1, 0, none⟩))
  have g2 := blk_set g1 4 (.pointer none)
  have g3 := blk_set g2 5 (.slice none 0 0)
  have g4 := blk_set g3 6 (.bool false)
  have g5 := blk_set g4 7 (.bool false)
  have g6 := blk_set g5 2 (.func (.func (stF 0)) #[.pointer (some ⟨q, 0, none⟩)] #[])
  have hq : k1 ≠ q := fun e => by have h5 := blk_lt H.out; have h6 := HK.out; omega
  have hs : ((((((w1.setCell ⟨q, 3, none⟩ (.pointer (some ⟨k1, 0, none⟩))).setCell ⟨q, 4, none⟩ (.pointer none)).setCell ⟨q, 5, none⟩ (.slice none 0 0)).setCell ⟨q, 6, none⟩ (.bool false)).setCell ⟨q, 7, none⟩ (.bool false)).setCell ⟨q, 2, none⟩ (.func (.func (stF 0)) #[.pointer (some ⟨q, 0, none⟩)] #[])).heap.size = w1.heap.size := by
    rw [Bod.set_size, Bod.set_size, Bod.set_size, Bod.set_size, Bod.set_size, Bod.set_size]
  refine ⟨rfl, ⟨k1, ⟨g6, ?_, .inl ⟨rfl, rfl⟩, Kd.R_nil _ _ _ _ _, ?_, fun k hk => hk.elim, fun k hk => hk.elim⟩, HK.out⟩, ((((((Stay.below (F := fun k => k = q) HB.out).set (p := ⟨q, 3, none⟩) rfl _).set (p := ⟨q, 4, none⟩) rfl _).set (p := ⟨q, 5, none⟩) rfl _).set (p := ⟨q, 6, none⟩) rfl _).set (p := ⟨q, 7, none⟩) rfl _).set (p := ⟨q, 2, none⟩) rfl _⟩
  · refine HRep.out.move (fun k hk _ => ?_)
    rw [hk, set_other _ _ _ hq, set_other _ _ _ hq, set_other _ _ _ hq, set_other _ _ _ hq, set_other _ _ _ hq, set_other _ _ _ hq]
  · rintro k rfl
    refine ⟨?_, hq, id, id⟩
    have h5 := hs
    have h6 := HRep.out.lt
    show k < (((((((w1.setCell _ _).setCell _ _).setCell _ _).setCell _ _).setCell _ _).setCell _ _).heap.size)
    rw [Bod.set_size, Bod.set_size, Bod.set_size, Bod.set_size, Bod.set_size, Bod.set_size]
    exact h6
theorem again_calls (w : World) (q : Nat) (c : Cl) (kp : Nat) (rv vd vl vf : Value) (Fp Fr Fd : Nat → Prop) (h : CAt w q c kp rv vd vl vf Fp Fr Fd) (h0 : 16 ≤ c.most) (h1 : c.most ≤ 65536) :
    Calls Tryz.prog 62 #[.pointer (some ⟨q, 0, none⟩)] w fun e w' => e = .returned (.tuple #[]) ∧ (∃ k1, CAt w' q (againC c) k1 (.pointer none) (.slice none 0 0) (.slice none 0 0) (.slice none 0 0) (fun k => k = k1) (fun _ => False) (fun _ => False) ∧ w.heap.size ≤ k1) ∧ Stay (fun k => k = q) w w' :=
  again_raw w q c.most c.room _ _ _ _ _ _ c.shut c.wrong h.blk h0 h1
end Go.Proofs.YtccolnlfjbgnmaaGreatDoor.Cli
/- A client's connection: what it reads of a head, of a body; own text of this session. -/
namespace Go.Proofs.YtccolnlfjbgnmaaGreatDoor.Cli
open Go.RowKit Go.Proofs.YtccolnlfjbgnmaaGreatDoorW.PrintWords Go.Proofs.YtccolnlfjbgnmaaGreatDoorW.PrintLast Chk Px Hr Hd
open Bod (Bd feedB byteB feedB_stop feedB_next feedB_count BFine newB BRep FeedB NewB newB_calls feedB_calls)
set_option linter.unusedVariables false
set_option linter.unusedSimpArgs false
/-! ### a framing's numbers -/
theorem digitsGo_le (base : Nat) (s : Bs) : ∀ (n : Nat) (b : Bool) (m : Nat), (b = false → n ≤ 9007199254740992) → digitsGo base s n b = some (m, false) → m ≤ 9007199254740992 := by
  induction s with
  | nil =>
    intro n b m h e
    unfold digitsGo at e
    obtain ⟨e1, e2⟩ := Prod.mk.inj (Option.some.inj e)
    subst e1 e2
    exact h rfl
  | cons c r ih =>
    intro n b m h e
    unfold digitsGo at e
    cases hd : digitOf base c with
    | none => rw [hd] at e; cases e
    | some d =>
      rw [hd] at e
      cases b with
      | true => exact ih n true m (fun h => by cases h) (by simpa using e)
      | false =>
        refine ih (n * base + d) (decide (9007199254740992 < n * base + d)) m (fun h5 => ?_) (by simpa using e)
        have := of_decide_eq_false h5
        omega
theorem digits_range (s : Bs) : 0 ≤ (digits 10 s).1 ∧ (digits 10 s).1 ≤ 9007199254740992 := by
  unfold digits
  cases h : digitsGo 10 s 0 false with
  | none => exact ⟨Int.le_refl _, (by decide : (0 : Int) ≤ 9007199254740992)⟩
  | some p =>
    obtain ⟨n, big⟩ := p
    simp only
    split
    · exact ⟨Int.le_refl _, (by decide : (0 : Int) ≤ 9007199254740992)⟩
    · cases big with
      | true => exact ⟨Int.le_refl _, (by decide : (0 : Int) ≤ 9007199254740992)⟩
      | false =>
        have := digitsGo_le 10 s 0 false n (fun _ => Nat.zero_le _) h
        simp only [Bool.false_eq_true, if_false]
        omega
theorem lenS_range (l : List ByteArray) : 0 ≤ (lenS l).1 ∧ (lenS l).1 ≤ 9007199254740992 := by
  unfold lenS
  split
  · exact ⟨Int.le_refl _, (by decide : (0 : Int) ≤ 9007199254740992)⟩
  · split
    · exact ⟨Int.le_refl _, (by decide : (0 : Int) ≤ 9007199254740992)⟩
    · exact digits_range _
theorem toldS_ok (minor : Int) (l : List Chk.Fld) (h : (toldS minor l).2.2.2 = 0) : ((toldS minor l).1 = 2 ∨ (toldS minor l).1 = 3 ∨ (toldS minor l).1 = 4) ∧ (0 ≤ (toldS minor l).2.1 ∧ (toldS minor l).2.1 ≤ 9007199254740992) ∧ (¬ (toldS minor l).1 = 2 → (toldS minor l).2.1 = 0) := by
  unfold toldS at h ⊢
  by_cases h1 : allS TE l = []
  · rw [if_pos h1] at h ⊢
    by_cases h2 : allS CL l = []
    · rw [if_pos h2]; exact ⟨.inr (.inr rfl), ⟨Int.le_refl _, (by decide : (0 : Int) ≤ 9007199254740992)⟩, fun _ => rfl⟩
    · rw [if_neg h2] at h ⊢
      by_cases h3 : (lenS (itemsS CL l)).2 = 0
      · rw [if_pos h3]; exact ⟨.inl rfl, lenS_range _, fun h => absurd rfl h⟩
      · rw [if_neg h3] at h; exact absurd h h3
  · rw [if_neg h1] at h ⊢
    by_cases h2 : allS CL l = []
    · rw [if_pos h2] at h ⊢
      by_cases h3 : minor = 1 ∧ (itemsS TE l).length = 1 ∧ (rdOf ByteArray.empty (itemsS TE l) 0).data.toList = CH
      · rw [if_pos h3]; exact ⟨.inr (.inl rfl), ⟨Int.le_refl _, (by decide : (0 : Int) ≤ 9007199254740992)⟩, fun _ => rfl⟩
      · rw [if_neg h3] at h; exact absurd (show (92 : Int) = 0 from h) (by decide)
    · rw [if_neg h2] at h; exact absurd (show (91 : Int) = 0 from h) (by decide)
/-- What a framing tells that is right. -/
structure FrOk (r : Int × Int × Bool × Int) : Prop where
  kind : r.1 = 1 ∨ r.1 = 2 ∨ r.1 = 3 ∨ r.1 = 4
  len : 0 ≤ r.2.1 ∧ r.2.1 ≤ 9007199254740992
  zero : ¬ r.1 = 2 → r.2.1 = 0
theorem rtoldS_ok (none minor : Int) (l : List Chk.Fld) (hn : none = 1 ∨ none = 4) (h : (rtoldS none minor l).2.2.2 = 0) : FrOk (rtoldS none minor l) := by
  unfold rtoldS at h ⊢
  by_cases h1 : (toldS minor l).1 = 4
  · rw [if_pos h1]
    exact ⟨hn.elim .inl (fun h => .inr (.inr (.inr h))), ⟨Int.le_refl _, (by decide : (0 : Int) ≤ 9007199254740992)⟩, fun _ => rfl⟩
  · rw [if_neg h1] at h ⊢
    obtain ⟨a, b, c⟩ := toldS_ok minor l h
    exact ⟨.inr a, b, c⟩
theorem fsz_wt (l : List Chk.Fld) : Px.fsz l ≤ wtF l := by
  induction l with
  | nil => exact Nat.le_refl _
  | cons f r ih =>
    unfold wtF at ih ⊢
    rw [fsz_cons, List.map_cons, List.sum_cons]
    omega
/-! ### a parser that reads -/
structure PFine (most : Int) (p : Par) : Prop where
  most_ : p.most = most
  inv : ∃ n, InvP true p n ∧ (n : Int) ≤ most
theorem PFine.new {most : Int} (h : 0 ≤ most) : PFine most (newPar true most) := ⟨rfl, 0, inv_new true most, h⟩
theorem PFine.sane {most : Int} {p : Par} (h : PFine most p) (h1 : most ≤ 65536) (m : Nat) (hm : m ≤ 4000000000) : SaneN m p := by
  obtain ⟨n, hI, hn⟩ := h.inv
  have hrd := hI.rd
  have hli := hI.li
  have hln := hI.line
  have hmo := h.most_
  have hf : p.hd.f6.length ≤ 100 := by
    rcases hI.st with ⟨_, e, _, _⟩ | ⟨_, ok, _⟩
    · rw [e]; decide
    · exact ok.few
  exact ⟨by omega, by omega, by omega, hli.1, by omega, by omega, by omega, by omega⟩
theorem PFine.take {most : Int} {p q : Par} (h : PFine most p) (hw : p.whole = false) (c : Int) (hq : takeS p c = (q, none)) : PFine most { q with err := none } := by
  obtain ⟨n, hI, hn⟩ := h.inv
  have h2 := inv_take hI hw c hq
  have hg := takeS_grow p c
  rw [hq] at hg
  have hle : p.rd + 1 ≤ p.most := by rcases take_none p q c hq with ⟨a, _⟩ | ⟨a, _⟩ <;> exact a
  have hrd := hI.rd
  have hmo := h.most_
  exact ⟨by show q.most = most; rw [hg.2.2.1]; exact h.most_, n + 1, h2, by omega⟩
theorem PFine.feed {most : Int} (b : List Int) : ∀ (p : Par) (n : Nat), p.err = none → PFine most p → (feedP p b n).1.err = none → PFine most (feedP p b n).1 := by
  induction b with
  | nil => intro p n _ h _; exact h
  | cons c r ih =>
    intro p n he h hf
    by_cases hs : p.whole = true
    · rw [feedP_stop p _ n (.inr (.inl hs))]; exact h
    · have hw : p.whole = false := by simpa using hs
      rw [feedP_next p c r n hw he] at hf ⊢
      obtain ⟨⟨q, er⟩, hq⟩ : ∃ q, q = takeS p c := ⟨_, rfl⟩
      rw [← hq] at hf ⊢
      cases er with
      | some y => rw [feedP_stop _ _ _ (.inr (.inr rfl))] at hf; cases hf
      | none => exact ih _ (n + 1) rfl (h.take hw c hq.symm) hf
theorem PFine.fields {most : Int} {p : Par} (h : PFine most p) (h1 : most ≤ 65536) : Px.fsz p.hd.f6 ≤ 4194304 ∧ p.hd.f6.length ≤ 100 := by
  obtain ⟨n, hI, hn⟩ := h.inv
  rcases hI.st with ⟨_, e, _, _⟩ | ⟨_, ok, _, _, hw⟩
  · rw [e]; exact ⟨by decide, by decide⟩
  · have := fsz_wt p.hd.f6
    exact ⟨by omega, ok.few⟩
theorem feedP_one (b : List Int) (p : Par) (hl : live p) (hb : b ≠ []) : 1 ≤ (feedP p b 0).2 := by
  cases b with
  | nil => exact absurd rfl hb
  | cons x t =>
    rw [feedP_next p x t 0 hl.1 hl.2]
    have := (feedP_count t { (takeS p x).1 with err := (takeS p x).2 } (0 + 1)).1
    omega
/-- Where a connection's blocks are in a footprint. -/
theorem CAt.rep {w : World} {F : Nat → Prop} {q : Nat} {c : Cl} {kp : Nat} {rv vd vl vf : Value} {Fp Fr Fd : Nat → Prop} (h : CAt w q c kp rv vd vl vf Fp Fr Fd) (hq : F q) (hp : ∀ k, Fp k → F k) (hr : ∀ k, Fr k → F k) (hd : ∀ k, Fd k → F k) : CRep w F q c := ⟨hq, kp, rv, vd, vl, vf, Fp, Fr, Fd, h, hp, hr, hd⟩
theorem CAt.whole {w : World} {q : Nat} {c : Cl} {kp p : Nat} {vd vl vf : Value} {Fp Fr Fd : Nat → Prop} {r : Bd} (h : CAt w q c kp (.pointer (some ⟨p, 0, none⟩)) vd vl vf Fp Fr Fd) (hr : c.rdr = some r) :
    Calls Tryz.prog 60 #[.pointer (some ⟨p, 0, none⟩)] w fun e w' => e = .returned (.bool r.whole) ∧ Below w.heap.size w w' := by
  rcases h.rdr with ⟨e, _⟩ | ⟨r', p', e1, e2, h3⟩
  · rw [hr] at e; cases e
  · rw [hr] at e1
    obtain rfl := Option.some.inj e1
    injection e2 with e2
    injection e2 with e2
    injection e2 with e2
    subst e2
    obtain ⟨dv, hrd, _⟩ := h3.rep
    exact Bod.whole_calls p w hrd
end Go.Proofs.YtccolnlfjbgnmaaGreatDoor.Cli
/- A client's connection, plainly: what stays true while it reads; own text of this session. -/
namespace Go.Proofs.YtccolnlfjbgnmaaGreatDoor.Cli
open Go.RowKit Go.Proofs.YtccolnlfjbgnmaaGreatDoorW.PrintWords Go.Proofs.YtccolnlfjbgnmaaGreatDoorW.PrintLast Chk Px Hr Hd
open Bod (Bd feedB byteB feedB_stop feedB_next feedB_count BFine newB BRep)
set_option linter.unusedVariables false
set_option linter.unusedSimpArgs false
theorem byteB_pot (r : Bd) (hf : BFine r) (x : Int) : (byteB r x).1.got + ((byteB r x).1.mass : Int) ≤ r.got + (r.mass : Int) + 1 ∧ (byteB r x).2.length + (byteB r x).1.mass ≤ r.mass + 1 := by
  unfold byteB
  by_cases k2 : r.kind = 2
  · rw [if_pos k2]
    refine ⟨?_, ?_⟩
    · show r.got + 1 + ((match r.dec with | none => 0 | some d => d.mass : Nat) : Int) ≤ r.got + ((match r.dec with | none => 0 | some d => d.mass : Nat) : Int) + 1
      omega
    · show 1 + (match r.dec with | none => 0 | some d => d.mass) ≤ (match r.dec with | none => 0 | some d => d.mass) + 1
      omega
  · rw [if_neg k2]
    by_cases k4 : r.kind = 4
    · rw [if_pos k4]
      by_cases hz : r.left = 0
      · rw [if_pos hz]
        refine ⟨?_, ?_⟩
        · show r.got + ((match r.dec with | none => 0 | some d => d.mass : Nat) : Int) ≤ r.got + ((match r.dec with | none => 0 | some d => d.mass : Nat) : Int) + 1
          omega
        · show 0 + (match r.dec with | none => 0 | some d => d.mass) ≤ (match r.dec with | none => 0 | some d => d.mass) + 1
          omega
      · rw [if_neg hz]
        refine ⟨?_, ?_⟩
        · show r.got + 1 + ((match r.dec with | none => 0 | some d => d.mass : Nat) : Int) ≤ r.got + ((match r.dec with | none => 0 | some d => d.mass : Nat) : Int) + 1
          omega
        · show 1 + (match r.dec with | none => 0 | some d => d.mass) ≤ (match r.dec with | none => 0 | some d => d.mass) + 1
          omega
    · rw [if_neg k4]
      cases hd : r.dec with
      | none =>
        refine ⟨?_, ?_⟩
        · show r.got + (r.mass : Int) ≤ _
          omega
        · show 0 + r.mass ≤ _
          omega
      | some d =>
        have hm := step_mass d x
        have e : r.mass = d.mass := by unfold Bd.mass; rw [hd]
        have e2 : (stepE d x).1.mass = (stepE d x).1.line.length + (stepE d x).1.out.length + (stepE d x).1.tr.length := rfl
        rw [e]
        refine ⟨?_, ?_⟩
        · show r.got + ((stepE d x).1.out.length : Int) + (((stepE d x).1.line.length + ([] : List Int).length + (stepE d x).1.tr.length : Nat) : Int) ≤ _
          simp only [List.length_nil]
          omega
        · show (stepE d x).1.out.length + ((stepE d x).1.line.length + ([] : List Int).length + (stepE d x).1.tr.length) ≤ _
          simp only [List.length_nil]
          omega
theorem feedB_potN (b : List Int) : ∀ (r : Bd), BFine r → (feedB r b).1.got + ((feedB r b).1.mass : Int) ≤ r.got + (r.mass : Int) + ((feedB r b).2.2 : Int) ∧ (feedB r b).2.1.length + (feedB r b).1.mass ≤ r.mass + (feedB r b).2.2 := by
  induction b with
  | nil => intro r _; exact ⟨by show r.got + (r.mass : Int) ≤ r.got + (r.mass : Int) + ((0 : Nat) : Int); omega, by show 0 + r.mass ≤ r.mass + 0; omega⟩
  | cons x t ih =>
    intro r hf
    by_cases ho : r.over
    · rw [feedB_stop r _ (.inr ho)]
      exact ⟨by show r.got + (r.mass : Int) ≤ r.got + (r.mass : Int) + ((0 : Nat) : Int); omega, by show 0 + r.mass ≤ r.mass + 0; omega⟩
    · rw [feedB_next r x t ho]
      obtain ⟨a1, a2⟩ := byteB_pot r hf x
      obtain ⟨b1, b2⟩ := ih (byteB r x).1 (hf.byte ho x)
      simp only [List.length_append]
      exact ⟨by push_cast; omega, by omega⟩
theorem feedB_pot (b : List Int) (r : Bd) (hf : BFine r) : (feedB r b).1.got + ((feedB r b).1.mass : Int) ≤ r.got + (r.mass : Int) + (b.length : Int) ∧ (feedB r b).2.1.length + (feedB r b).1.mass ≤ r.mass + b.length := by
  have h := feedB_potN b r hf
  have h2 := (feedB_count b r).1
  exact ⟨by omega, by omega⟩
/-- How much a connection bears. -/
structure CMass (T : Nat) (c : Cl) : Prop where
  data : c.data.length ≤ T
  rdr : ∀ r, c.rdr = some r → BFine r ∧ c.data.length + r.mass ≤ T ∧ r.got + (r.mass : Int) ≤ T
/-- What a connection is. -/
structure CInv (c : Cl) : Prop where
  most0 : 16 ≤ c.most
  most1 : c.most ≤ 65536
  room0 : 0 ≤ c.room
  room1 : c.room ≤ 1048576
  par : c.par.err = none → PFine c.most c.par
  reads : c.rests ∨ (c.st = 0 ∧ live c.par) ∨ (¬ c.st = 0 ∧ ∃ r, c.rdr = some r ∧ ¬ r.over)
  body : ¬ c.st = 0 → c.par.whole = true ∧ c.par.err = none
  wst : c.waits = true → ¬ c.st = 0
theorem CInv.new {most room : Int} (h0 : 16 ≤ most) (h1 : most ≤ 65536) (h2 : 0 ≤ room) (h3 : room ≤ 1048576) : CInv (newC most room) :=
  ⟨h0, h1, h2, h3, fun _ => PFine.new (show (0 : Int) ≤ most by omega), .inr (.inl ⟨rfl, rfl, rfl⟩), fun h => absurd rfl h, fun h => by cases h⟩
theorem CMass.new {most room : Int} : CMass 0 (newC most room) := ⟨Nat.le_refl _, fun r h => by cases h⟩
theorem newB_fine {kind length most : Int} (hk : kind = 1 ∨ kind = 2 ∨ kind = 3 ∨ kind = 4) (hl : 0 ≤ length ∧ length ≤ 9007199254740992) (h0 : 0 ≤ most) (h1 : most ≤ 9007199254740992) (r : Bd) (h : newB kind length most = some r) : BFine r ∧ r.mass = 0 ∧ r.got = 0 ∧ r.wrong = 0 := by
  unfold newB at h
  rcases hk with rfl | rfl | rfl | rfl
  · rw [if_neg (by decide), if_neg (by decide)] at h
    cases h
    exact ⟨⟨h0, h1, Int.le_refl _, .inl ⟨rfl, rfl, rfl, rfl⟩⟩, rfl, rfl, rfl⟩
  · rw [if_pos rfl] at h
    split at h
    · cases h
    · cases h
      exact ⟨⟨hl.1, hl.2, Int.le_refl _, .inr (.inl ⟨rfl, rfl, rfl, rfl⟩)⟩, rfl, rfl, rfl⟩
  · rw [if_neg (by decide), if_pos rfl] at h
    cases h
    exact ⟨⟨h0, h1, Int.le_refl _, .inr (.inr (.inr ⟨rfl, _, rfl, rfl, fine_new most h0 h1, rfl, rfl⟩))⟩, rfl, rfl, rfl⟩
  · rw [if_neg (by decide), if_neg (by decide)] at h
    cases h
    exact ⟨⟨h0, h1, Int.le_refl _, .inr (.inr (.inl ⟨rfl, rfl⟩))⟩, rfl, rfl, rfl⟩
end Go.Proofs.YtccolnlfjbgnmaaGreatDoor.Cli
