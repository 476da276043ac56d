/- A client's connection, plainly: its bytes one by one; own text of this session. -/
import Derived.Test.YtccolnlfjbgnmaaGreatDoorBdZ
import Derived.Test.YtccolnlfjbgnmaaGreatDoorHdB
import Derived.Test.YtccolnlfjbgnmaaGreatDoorFrZ
import Derived.Laws.EntriesVeiled
import Derived.Test.YtccolnlfjbgnmaaGreatDoorHdR
import Derived.Deep.RegionWith
namespace Go.Proofs.YtccolnlfjbgnmaaGreatDoor.Cli
open Go.RowKit Go.Proofs.YtccolnlfjbgnmaaGreatDoorW.PrintWords Go.Proofs.YtccolnlfjbgnmaaGreatDoorW.PrintLast Chk Px Hr Hd
open Bod (Bd feedB byteB feedB_stop feedB_next feedB_count BFine newB)
set_option linter.unusedVariables false
set_option linter.unusedSimpArgs false
/-- A connection: a head's bound, a body's; what it reads (0: a head, 1: a body), the parser, the body's reader, the body; begun, waits, shut; the status of what is wrong. -/
structure Cl where
  most : Int
  room : Int
  st : Nat
  par : Par
  rdr : Option Bd
  data : List Int
  begun : Bool
  waits : Bool
  shut : Bool
  wrong : Int
def failC (c : Cl) (status : Int) : Cl := ⟨c.most, c.room, c.st, c.par, c.rdr, [], false, c.waits, true, status⟩
def againC (c : Cl) : Cl := ⟨c.most, c.room, 0, newPar true c.most, none, [], false, false, c.shut, c.wrong⟩
def newC (most room : Int) : Cl := ⟨most, room, 0, newPar true most, none, [], false, false, false, 0⟩
def framed (c : Cl) (r : Int × Int × Bool × Int) : Cl :=
  if ¬ r.2.2.2 = 0 then failC c 400
  else match newB r.1 r.2.1 c.room with
    | none => failC { c with rdr := none } 413
    | some b => ⟨c.most, c.room, 1, c.par, some b, c.data, c.begun, b.whole, c.shut, c.wrong⟩
/-- What is behind a piece of a head. -/
def headE (c : Cl) : Cl :=
  if codeOf c.par.err = 85 then failC c 431 else if ¬ codeOf c.par.err = 0 then failC c 400 else if c.par.whole = true then framed c (reqS c.par.hd.f0 c.par.hd.f3 c.par.hd.f6) else c
def headP (c : Cl) (b : List Int) : Cl × Nat :=
  (headE ⟨c.most, c.room, c.st, (feedP c.par b 0).1, c.rdr, c.data, c.begun || decide (0 < (feedP c.par b 0).2), c.waits, c.shut, c.wrong⟩, (feedP c.par b 0).2)
/-- What is behind a piece of a body. -/
def bodyE (c : Cl) (r : Bd) : Cl :=
  if r.wrong = 2 then failC c 413 else if ¬ r.wrong = 0 then failC c 400 else ⟨c.most, c.room, c.st, c.par, c.rdr, c.data, c.begun, r.whole, c.shut, c.wrong⟩
def bodyP (c : Cl) (r : Bd) (b : List Int) : Cl × Nat :=
  (bodyE ⟨c.most, c.room, c.st, c.par, some (feedB r b).1, c.data ++ (feedB r b).2.1, c.begun, c.waits, c.shut, c.wrong⟩ (feedB r b).1, (feedB r b).2.2)
/-- What its state does with a piece: the connection then, how many bytes were read. -/
def stateP (c : Cl) (b : List Int) : Cl × Nat :=
  if c.st = 0 then headP c b else match c.rdr with | none => (c, 0) | some r => bodyP c r b
def byteC (c : Cl) (x : Int) : Cl := (stateP c [x]).1
def Cl.rests (c : Cl) : Prop := c.waits = true ∨ c.shut = true
instance (c : Cl) : Decidable c.rests := inferInstanceAs (Decidable (_ ∨ _))
def readC : Cl → List Int → Cl × Nat
  | c, [] => (c, 0)
  | c, x :: t => if c.rests then (c, 0) else ((readC (byteC c x) t).1, (readC (byteC c x) t).2 + 1)
theorem readC_stop (c : Cl) (b : List Int) (h : b = [] ∨ c.rests) : readC c b = (c, 0) := by
  cases b with
  | nil => rfl
  | cons x t =>
    have h : c.rests := h.elim (fun e => by cases e) id
    show (if c.rests then _ else _) = _
    rw [if_pos h]
theorem readC_next (c : Cl) (x : Int) (t : List Int) (h : ¬ c.rests) : readC c (x :: t) = ((readC (byteC c x) t).1, (readC (byteC c x) t).2 + 1) := by
  show (if c.rests then _ else _) = _
  rw [if_neg h]
theorem readC_count (b : List Int) : ∀ c : Cl, (readC c b).2 ≤ b.length ∧ ((readC c b).2 = b.length ∨ (readC c b).1.rests) := by
  induction b with
  | nil => intro c; exact ⟨Nat.le_refl _, .inl rfl⟩
  | cons x t ih =>
    intro c
    by_cases h : c.rests
    · rw [readC_stop c _ (.inr h)]; exact ⟨Nat.zero_le _, .inr h⟩
    · rw [readC_next c x t h]
      obtain ⟨h1, h2⟩ := ih (byteC c x)
      exact ⟨by show _ + 1 ≤ _ + 1; omega, h2.elim (fun e => .inl (by show _ + 1 = _ + 1; omega)) .inr⟩
theorem readC_append (a b : List Int) : ∀ c : Cl, readC c (a ++ b) = if (readC c a).2 = a.length then ((readC (readC c a).1 b).1, a.length + (readC (readC c a).1 b).2) else readC c a := by
  induction a with
  | nil => intro c; rw [List.nil_append, readC_stop c [] (.inl rfl)]; show _ = if 0 = 0 then (_, 0 + _) else _; rw [if_pos rfl, Nat.zero_add]
  | cons x t ih =>
    intro c
    rw [List.cons_append]
    by_cases h : c.rests
    · rw [readC_stop c (x :: (t ++ b)) (.inr h), readC_stop c (x :: t) (.inr h), if_neg (by simp)]
    · rw [readC_next c x _ h, readC_next c x _ h, ih]
      by_cases hc : (readC (byteC c x) t).2 = t.length
      · rw [if_pos hc, if_pos (by show _ + 1 = _ + 1; omega)]
        simp only [List.length_cons, Prod.mk.injEq, true_and]
        omega
      · rw [if_neg hc, if_neg (by show ¬ (_ + 1 = _ + 1); omega)]
/-! ### a piece is its bytes -/
theorem feedP_shift (b : List Int) : ∀ (p : Par) (n k : Nat), feedP p b (n + k) = ((feedP p b n).1, (feedP p b n).2 + k) := by
  induction b with
  | nil => intro p n k; rfl
  | cons c r ih =>
    intro p n k
    by_cases hs : p.whole = true ∨ p.err.isSome = true
    · rw [feedP_stop p _ _ (.inr hs), feedP_stop p _ _ (.inr hs)]
    · have hw : p.whole = false := by cases hx : p.whole with | false => rfl | true => exact absurd (.inl hx) hs
      have he : p.err = none := by cases hx : p.err with | none => rfl | some y => exact absurd (.inr (by rw [hx]; rfl)) hs
      rw [feedP_next p c r _ hw he, feedP_next p c r _ hw he, show n + k + 1 = n + 1 + k by omega, ih]
def live (p : Par) : Prop := p.whole = false ∧ p.err = none
/-- A code that is wrong is none of a parser that is live. -/
theorem headP_read (b : List Int) : ∀ (c : Cl), ¬ c.rests → c.st = 0 → live c.par → b ≠ [] → 1 ≤ (headP c b).2 ∧ (headP c b).2 ≤ b.length ∧ readC c b = ((readC (headP c b).1 (b.drop (headP c b).2)).1, (headP c b).2 + (readC (headP c b).1 (b.drop (headP c b).2)).2) := by
  induction b with
  | nil => intro c _ _ _ h; exact absurd rfl h
  | cons x t ih =>
    intro c hr hst hl _
    obtain ⟨p1, hp1⟩ : ∃ p1, p1 = { (takeS c.par x).1 with err := (takeS c.par x).2 } := ⟨_, rfl⟩
    have hn : ∀ l m, feedP c.par (x :: l) m = feedP p1 l (m + 1) := fun l m => by rw [feedP_next c.par x l m hl.1 hl.2, hp1]
    by_cases hs : p1.whole = true ∨ p1.err.isSome = true
    · have e : ∀ l, feedP c.par (x :: l) 0 = (p1, 1) := fun l => by rw [hn, feedP_stop p1 l _ (.inr hs)]
      have e2 : headP c (x :: t) = (byteC c x, 1) := by
        unfold byteC stateP
        rw [if_pos hst]
        unfold headP
        rw [e, e]
      rw [e2, readC_next c x t hr]
      refine ⟨Nat.le_refl _, by simp, ?_⟩
      show _ = (_, 1 + _)
      rw [Nat.add_comm 1]
      rfl
    · have hw1 : p1.whole = false := by cases hx : p1.whole with | false => rfl | true => exact absurd (.inl hx) hs
      have he1 : p1.err = none := by cases hx : p1.err with | none => rfl | some y => exact absurd (.inr (by rw [hx]; rfl)) hs
      have e1 : feedP c.par [x] 0 = (p1, 1) := by rw [hn]; rfl
      have eb : byteC c x = ⟨c.most, c.room, c.st, p1, c.rdr, c.data, true, c.waits, c.shut, c.wrong⟩ := by
        unfold byteC stateP
        rw [if_pos hst]
        unfold headP headE
        rw [e1]
        dsimp only
        rw [he1, if_neg (by decide), if_neg (by decide), if_neg (by rw [hw1]; decide)]
        simp
      by_cases ht : t = []
      · subst ht
        have e2 : headP c [x] = (byteC c x, 1) := by
          unfold byteC stateP
          rw [if_pos hst]
          unfold headP
          rw [e1]
        rw [e2]
        refine ⟨Nat.le_refl _, Nat.le_refl _, ?_⟩
        rw [readC_next c x [] hr]
        rfl
      · obtain ⟨c1, hc1⟩ : ∃ c1, c1 = byteC c x := ⟨_, rfl⟩
        have hr1 : ¬ c1.rests := by rw [hc1, eb]; exact hr
        have hst1 : c1.st = 0 := by rw [hc1, eb]; exact hst
        have hpar : c1.par = p1 := by rw [hc1, eb]
        have hl1 : live c1.par := by rw [hpar]; exact ⟨hw1, he1⟩
        obtain ⟨i1, i2, i3⟩ := ih c1 hr1 hst1 hl1 ht
        have e3 : headP c (x :: t) = ((headP c1 t).1, (headP c1 t).2 + 1) := by
          unfold headP
          rw [hn, hpar, show (0 + 1 : Nat) = 0 + 1 from rfl, feedP_shift t p1 0 1]
          have hb : c1.begun = true := by rw [hc1, eb]
          have f0 : c1.most = c.most ∧ c1.room = c.room ∧ c1.st = c.st ∧ c1.rdr = c.rdr ∧ c1.data = c.data ∧ c1.waits = c.waits ∧ c1.shut = c.shut ∧ c1.wrong = c.wrong := by rw [hc1, eb]; exact ⟨rfl, rfl, rfl, rfl, rfl, rfl, rfl, rfl⟩
          obtain ⟨g1, g2, g3, g4, g5, g6, g7, g8⟩ := f0
          rw [hb, g1, g2, g3, g4, g5, g6, g7, g8]
          simp
        rw [e3, readC_next c x t hr, ← hc1]
        refine ⟨by show 1 ≤ _ + 1; omega, by show _ + 1 ≤ _ + 1; omega, ?_⟩
        show _ = ((readC (headP c1 t).1 (List.drop ((headP c1 t).2 + 1) (x :: t))).1, (headP c1 t).2 + 1 + (readC (headP c1 t).1 (List.drop ((headP c1 t).2 + 1) (x :: t))).2)
        rw [List.drop_succ_cons, i3]
        simp only [Prod.mk.injEq, true_and]
        omega
theorem bodyP_read (b : List Int) : ∀ (c : Cl) (r : Bd), ¬ c.rests → ¬ c.st = 0 → c.rdr = some r → ¬ r.over → b ≠ [] → 1 ≤ (bodyP c r b).2 ∧ (bodyP c r b).2 ≤ b.length ∧ readC c b = ((readC (bodyP c r b).1 (b.drop (bodyP c r b).2)).1, (bodyP c r b).2 + (readC (bodyP c r b).1 (b.drop (bodyP c r b).2)).2) := by
  induction b with
  | nil => intro c r _ _ _ _ h; exact absurd rfl h
  | cons x t ih =>
    intro c r hr hst hrd ho _
    obtain ⟨⟨r1, o1⟩, hq⟩ : ∃ q, q = byteB r x := ⟨_, rfl⟩
    have hn : ∀ l, feedB r (x :: l) = ((feedB r1 l).1, o1 ++ (feedB r1 l).2.1, (feedB r1 l).2.2 + 1) := fun l => by rw [feedB_next r x l ho, ← hq]
    have e1 : feedB r [x] = (r1, o1, 1) := by rw [hn, feedB_stop r1 [] (.inl rfl)]; simp
    have eb0 : byteC c x = (bodyP c r [x]).1 := by unfold byteC stateP; rw [if_neg hst, hrd]
    by_cases hs : r1.over
    · have e : ∀ l, feedB r (x :: l) = (r1, o1, 1) := fun l => by rw [hn, feedB_stop r1 l (.inr hs)]; simp
      have e2 : bodyP c r (x :: t) = (byteC c x, 1) := by
        rw [eb0]
        unfold bodyP
        rw [e, e]
      rw [e2, readC_next c x t hr]
      refine ⟨Nat.le_refl _, by simp, ?_⟩
      show _ = (_, 1 + _)
      rw [Nat.add_comm 1]
      rfl
    · have hw1 : r1.whole = false := by cases hx : r1.whole with | false => rfl | true => exact absurd (.inl hx) hs
      have he1 : r1.wrong = 0 := by by_cases e : r1.wrong = 0; exact e; exact absurd (.inr e) hs
      have hcw : c.waits = false := by cases hx : c.waits with | false => rfl | true => exact absurd (.inl hx) hr
      have eb : byteC c x = ⟨c.most, c.room, c.st, c.par, some r1, c.data ++ o1, c.begun, c.waits, c.shut, c.wrong⟩ := by
        rw [eb0]
        unfold bodyP bodyE
        rw [e1]
        dsimp only
        rw [he1, if_neg (by decide), if_neg (by decide), hw1, hcw]
      by_cases ht : t = []
      · subst ht
        have e2 : bodyP c r [x] = (byteC c x, 1) := by
          rw [eb0]
          unfold bodyP
          rw [e1]
        rw [e2]
        refine ⟨Nat.le_refl _, Nat.le_refl _, ?_⟩
        rw [readC_next c x [] hr]
        rfl
      · obtain ⟨c1, hc1⟩ : ∃ c1, c1 = byteC c x := ⟨_, rfl⟩
        have hr1 : ¬ c1.rests := by rw [hc1, eb]; exact hr
        have hst1 : ¬ c1.st = 0 := by rw [hc1, eb]; exact hst
        have hrd1 : c1.rdr = some r1 := by rw [hc1, eb]
        obtain ⟨i1, i2, i3⟩ := ih c1 r1 hr1 hst1 hrd1 hs ht
        have e3 : bodyP c r (x :: t) = ((bodyP c1 r1 t).1, (bodyP c1 r1 t).2 + 1) := by
          unfold bodyP
          rw [hn]
          have f0 : c1.most = c.most ∧ c1.room = c.room ∧ c1.st = c.st ∧ c1.par = c.par ∧ c1.data = c.data ++ o1 ∧ c1.begun = c.begun ∧ c1.waits = c.waits ∧ c1.shut = c.shut ∧ c1.wrong = c.wrong := by rw [hc1, eb]; exact ⟨rfl, rfl, rfl, rfl, rfl, rfl, rfl, rfl, rfl⟩
          obtain ⟨g1, g2, g3, g4, g5, g6, g7, g8, g9⟩ := f0
          rw [g1, g2, g3, g4, g5, g6, g7, g8, g9, List.append_assoc]
        rw [e3, readC_next c x t hr, ← hc1]
        refine ⟨by show 1 ≤ _ + 1; omega, by show _ + 1 ≤ _ + 1; omega, ?_⟩
        show _ = ((readC (bodyP c1 r1 t).1 (List.drop ((bodyP c1 r1 t).2 + 1) (x :: t))).1, (bodyP c1 r1 t).2 + 1 + (readC (bodyP c1 r1 t).1 (List.drop ((bodyP c1 r1 t).2 + 1) (x :: t))).2)
        rw [List.drop_succ_cons, i3]
        simp only [Prod.mk.injEq, true_and]
        omega
end Go.Proofs.YtccolnlfjbgnmaaGreatDoor.Cli
/- A client's connection: its memory, and its small functions; own text of this session. -/
namespace Go.Proofs.YtccolnlfjbgnmaaGreatDoor.Cli
open Go.RowKit Go.Proofs.YtccolnlfjbgnmaaGreatDoorW.PrintWords Go.Proofs.YtccolnlfjbgnmaaGreatDoorW.PrintLast Chk Px Hr Hd
open Bod (Bd feedB byteB feedB_stop feedB_next feedB_count BFine newB BRep)
set_option linter.unusedVariables false
set_option linter.unusedSimpArgs false
def stF : Nat → Nat
  | 0 => 80
  | _ => 137
def cellsC (q : Nat) (c : Cl) (pv rv vd : Value) : Array Value := #[.int .i64 c.most, .int .i64 c.room, .func (.func (stF c.st)) #[.pointer (some ⟨q, 0, none⟩)] #[], pv, rv, vd, .bool c.begun, .bool c.waits, .bool c.shut, .int .i64 c.wrong]
/-- A connection's memory: its block, the parser's, the reader's, the body's bytes. -/
structure CAt (w : World) (q : Nat) (c : Cl) (kp : Nat) (rv vd vl vf : Value) (Fp Fr Fd : Nat → Prop) : Prop where
  blk : w.heap[q]? = some (.cells (cellsC q c (.pointer (some ⟨kp, 0, none⟩)) rv vd) 119 (0, 0))
  par : Hd.Rep w Fp kp vl vf c.par
  rdr : (c.rdr = none ∧ rv = .pointer none) ∨ ∃ r p, c.rdr = some r ∧ rv = .pointer (some ⟨p, 0, none⟩) ∧ BRep w Fr p r
  data : (Kd.int .u8).R 5 w 0 Fd vd c.data
  hp : ∀ k, Fp k → k < w.heap.size ∧ k ≠ q ∧ ¬ Fr k ∧ ¬ Fd k
  hr : ∀ k, Fr k → k < w.heap.size ∧ k ≠ q ∧ ¬ Fd k
  hd : ∀ k, Fd k → k < w.heap.size ∧ k ≠ q
/-- The same, in a footprint. -/
def CRep (w : World) (F : Nat → Prop) (q : Nat) (c : Cl) : Prop :=
  F q ∧ ∃ kp rv vd vl vf Fp Fr Fd, CAt w q c kp rv vd vl vf Fp Fr Fd ∧ (∀ k, Fp k → F k) ∧ (∀ k, Fr k → F k) ∧ (∀ k, Fd k → F k)
section
variable {w w1 : World} {q : Nat} {c c' : Cl} {kp : Nat} {rv vd vl vf : Value} {Fp Fr Fd : Nat → Prop}
theorem CAt.lt (h : CAt w q c kp rv vd vl vf Fp Fr Fd) : q < w.heap.size := blk_lt h.blk
/-- Where its blocks are as they were. -/
theorem CAt.move (h : CAt w q c kp rv vd vl vf Fp Fr Fd) (hs : w.heap.size ≤ w1.heap.size) (hm : ∀ k, k = q ∨ Fp k ∨ Fr k ∨ Fd k → k < w.heap.size → w1.heap[k]? = w.heap[k]?) : CAt w1 q c kp rv vd vl vf Fp Fr Fd := by
  refine ⟨(hm q (.inl rfl) h.lt).trans h.blk, h.par.move (fun k hk hl => hm k (.inr (.inl hk)) hl), ?_, Kd.R_step h.data (fun k hk hl => hm k (.inr (.inr (.inr hk))) hl), fun k hk => ⟨Nat.lt_of_lt_of_le (h.hp k hk).1 hs, (h.hp k hk).2⟩, fun k hk => ⟨Nat.lt_of_lt_of_le (h.hr k hk).1 hs, (h.hr k hk).2⟩, fun k hk => ⟨Nat.lt_of_lt_of_le (h.hd k hk).1 hs, (h.hd k hk).2⟩⟩
  rcases h.rdr with h5 | ⟨r, p, e1, e2, h3⟩
  · exact .inl h5
  · exact .inr ⟨r, p, e1, e2, h3.move (fun k hk hl => hm k (.inr (.inr (.inl hk))) hl)⟩
theorem CAt.below (h : CAt w q c kp rv vd vl vf Fp Fr Fd) (hb : Below w.heap.size w w1) : CAt w1 q c kp rv vd vl vf Fp Fr Fd := h.move hb.size (fun k _ hk => hb.block k hk)
theorem set_other (v : Value) (i k : Nat) (hk : k ≠ q) : (w.setCell ⟨q, i, none⟩ v).heap[k]? = w.heap[k]? := Below.heap_setCell _ _ _ _ hk
/-- A store into its block. -/
theorem CAt.store {i : Nat} {v rv' vd' : Value} {Fr' Fd' : Nat → Prop} (h : CAt w q c kp rv vd vl vf Fp Fr Fd) (hi : (cellsC q c (.pointer (some ⟨kp, 0, none⟩)) rv vd).setIfInBounds i v = cellsC q c' (.pointer (some ⟨kp, 0, none⟩)) rv' vd') (e1 : c'.par = c.par)
    (hr : (c'.rdr = none ∧ rv' = .pointer none) ∨ ∃ r p, c'.rdr = some r ∧ rv' = .pointer (some ⟨p, 0, none⟩) ∧ BRep w Fr' p r) (hd : (Kd.int .u8).R 5 w 0 Fd' vd' c'.data) (hFr : ∀ k, Fr' k → k < w.heap.size ∧ k ≠ q ∧ ¬ Fp k ∧ ¬ Fd' k) (hFd : ∀ k, Fd' k → k < w.heap.size ∧ k ≠ q ∧ ¬ Fp k) :
    CAt (w.setCell ⟨q, i, none⟩ v) q c' kp rv' vd' vl vf Fp Fr' Fd' := by
  have hs : (w.setCell ⟨q, i, none⟩ v).heap.size = w.heap.size := Bod.set_size _ _ _
  refine ⟨by rw [blk_set h.blk, hi], ?_, ?_, Kd.R_step hd (fun k hk _ => set_other v i k (hFd k hk).2.1), ?_, ?_, ?_⟩
  · rw [e1]; exact h.par.move (fun k hk _ => set_other v i k (h.hp k hk).2.1)
  · rcases hr with h5 | ⟨r, p, g1, g2, h3⟩
    · exact .inl h5
    · exact .inr ⟨r, p, g1, g2, h3.move (fun k hk _ => set_other v i k (hFr k hk).2.1)⟩
  · intro k hk; rw [hs]; exact ⟨(h.hp k hk).1, (h.hp k hk).2.1, fun h5 => (hFr k h5).2.2.1 hk, fun h5 => (hFd k h5).2.2 hk⟩
  · intro k hk; rw [hs]; exact ⟨(hFr k hk).1, (hFr k hk).2.1, (hFr k hk).2.2.2⟩
  · intro k hk; rw [hs]; exact ⟨(hFd k hk).1, (hFd k hk).2.1⟩
theorem CAt.scal {i : Nat} {v : Value} (h : CAt w q c kp rv vd vl vf Fp Fr Fd) (hi : (cellsC q c (.pointer (some ⟨kp, 0, none⟩)) rv vd).setIfInBounds i v = cellsC q c' (.pointer (some ⟨kp, 0, none⟩)) rv vd) (e1 : c'.par = c.par) (e2 : c'.rdr = c.rdr) (e3 : c'.data = c.data) :
    CAt (w.setCell ⟨q, i, none⟩ v) q c' kp rv vd vl vf Fp Fr Fd :=
  h.store hi e1 (by rw [e2]; exact h.rdr) (by rw [e3]; exact h.data) (fun k hk => ⟨(h.hr k hk).1, (h.hr k hk).2.1, fun h5 => (h.hp k h5).2.2.1 hk, (h.hr k hk).2.2⟩) (fun k hk => ⟨(h.hd k hk).1, (h.hd k hk).2, fun h5 => (h.hp k h5).2.2.2 hk⟩)
theorem CAt.dataNil (h : CAt w q c kp rv vd vl vf Fp Fr Fd) : CAt (w.setCell ⟨q, 5, none⟩ (.slice none 0 0)) q { c with data := [] } kp rv (.slice none 0 0) vl vf Fp Fr (fun _ => False) :=
  h.store rfl rfl h.rdr (Kd.R_nil _ _ _ _ _) (fun k hk => ⟨(h.hr k hk).1, (h.hr k hk).2.1, fun h5 => (h.hp k h5).2.2.1 hk, id⟩) (fun k hk => hk.elim)
theorem CAt.rdrNil (h : CAt w q c kp rv vd vl vf Fp Fr Fd) : CAt (w.setCell ⟨q, 4, none⟩ (.pointer none)) q { c with rdr := none } kp (.pointer none) vd vl vf Fp (fun _ => False) Fd :=
  h.store rfl rfl (.inl ⟨rfl, rfl⟩) h.data (fun k hk => hk.elim) (fun k hk => ⟨(h.hd k hk).1, (h.hd k hk).2, fun h5 => (h.hp k h5).2.2.2 hk⟩)
theorem CAt.rdrSet {p : Nat} {r : Bd} {B : Nat} (h : CAt w q c kp rv vd vl vf Fp Fr Fd) (hB : ∀ k, k = q ∨ Fp k ∨ Fd k → k < B) (hr : BRep w (fun k => B ≤ k ∧ k < w.heap.size) p r) : CAt (w.setCell ⟨q, 4, none⟩ (.pointer (some ⟨p, 0, none⟩))) q { c with rdr := some r } kp (.pointer (some ⟨p, 0, none⟩)) vd vl vf Fp (fun k => B ≤ k ∧ k < w.heap.size) Fd :=
  h.store rfl rfl (.inr ⟨r, p, rfl, rfl, hr⟩) h.data (fun k hk => ⟨hk.2, fun e => by have := hB k (.inl e); omega, fun h5 => by have := hB k (.inr (.inl h5)); omega, fun h5 => by have := hB k (.inr (.inr h5)); omega⟩) (fun k hk => ⟨(h.hd k hk).1, (h.hd k hk).2, fun h5 => (h.hp k h5).2.2.2 hk⟩)
/-- The parser read on. -/
theorem CAt.parTo {p : Par} {vl1 vf1 : Value} (h : CAt w q c kp rv vd vl vf Fp Fr Fd) (hr : Hd.Rep w1 (fun k => Fp k ∨ w.heap.size ≤ k) kp vl1 vf1 p) (hs : Stay Fp w w1) : CAt w1 q { c with par := p } kp rv vd vl1 vf1 (fun k => (Fp k ∨ w.heap.size ≤ k) ∧ k < w1.heap.size) Fr Fd := by
  refine ⟨(hs.block q h.lt (fun h5 => (h.hp q h5).2.1 rfl)).trans h.blk, ?_, ?_, Kd.R_step h.data (fun k hk hl => hs.block k hl (fun h5 => (h.hp k h5).2.2.2 hk)), ?_, ?_, ?_⟩
  · exact ⟨hr.blk, ⟨hr.inF, hr.lt⟩, Kd.R_mono (Kd.R_bound hr.line) (fun k hk => ⟨hk.1, hk.2.2.1⟩), Kd.R_mono (Kd.R_bound hr.flds) (fun k hk => ⟨hk.1, hk.2.2.1⟩)⟩
  · rcases h.rdr with h5 | ⟨r, p, g1, g2, h3⟩
    · exact .inl h5
    · exact .inr ⟨r, p, g1, g2, h3.move (fun k hk hl => hs.block k hl (fun h5 => (h.hp k h5).2.2.1 hk))⟩
  · rintro k ⟨hk, hl⟩
    refine ⟨hl, ?_, ?_, ?_⟩
    · rintro rfl; exact hk.elim (fun h5 => (h.hp k h5).2.1 rfl) (fun h5 => by have := h.lt; omega)
    · intro hf; exact hk.elim (fun h5 => (h.hp k h5).2.2.1 hf) (fun h5 => by have := (h.hr k hf).1; omega)
    · intro hf; exact hk.elim (fun h5 => (h.hp k h5).2.2.2 hf) (fun h5 => by have := (h.hd k hf).1; omega)
  · intro k hk; exact ⟨Nat.lt_of_lt_of_le (h.hr k hk).1 hs.size, (h.hr k hk).2⟩
  · intro k hk; exact ⟨Nat.lt_of_lt_of_le (h.hd k hk).1 hs.size, (h.hd k hk).2⟩
end
/-! ### the small functions -/
set_option maxHeartbeats 4000000 in
set_option maxRecDepth 100000 in
theorem fail_calls (w : World) (q : Nat) (c : Cl) (kp : Nat) (rv vd vl vf : Value) (Fp Fr Fd : Nat → Prop) (status : Int) (h : CAt w q c kp rv vd vl vf Fp Fr Fd) :
    Calls Tryz.prog 64 #[.pointer (some ⟨q, 0, none⟩), .int .i64 status] w fun e w' => e = .returned (.tuple #[]) ∧ CAt w' q (failC c status) kp rv (.slice none 0 0) vl vf Fp Fr (fun _ => False) ∧ Stay (fun k => k = q) w w' := by
  have hf9 := blk_frozen h.blk 9
  have hf8 := blk_frozen h.blk 8
  have hf5 := blk_frozen h.blk 5
  have hf6 := blk_frozen h.blk 6
  have hz9 : w.cell? ⟨q, 9, none⟩ = some (.int .i64 c.wrong) := (blk_cell h.blk 9).trans rfl
  have hz8 : w.cell? ⟨q, 8, none⟩ = some (.bool c.shut) := (blk_cell h.blk 8).trans rfl
  have hz5 : w.cell? ⟨q, 5, none⟩ = some vd := (blk_cell h.blk 5).trans rfl
  have hz6 : w.cell? ⟨q, 6, none⟩ = some (.bool c.begun) := (blk_cell h.blk 6).trans rfl
  have H := Aside0.mk h
  clear h
  go_enter Tryz.func64, Tryz.ntmps64
  go_wp2
  go_end0
  have h1 := H.out.scal (i := 9) (v := .int .i64 status) (c' := { c with wrong := status }) rfl rfl rfl rfl
  have h2 := h1.scal (i := 8) (v := .bool true) (c' := { c with wrong := status, shut := true }) rfl rfl rfl rfl
  have h3 := h2.dataNil
  have h4 := h3.scal (i := 6) (v := .bool false) (c' := failC c status) rfl rfl rfl rfl
  exact ⟨rfl, h4, ((((Stay.refl (fun k => k = q) w).set (p := ⟨q, 9, none⟩) rfl _).set (p := ⟨q, 8, none⟩) rfl _).set (p := ⟨q, 5, none⟩) rfl _).set (p := ⟨q, 6, none⟩) rfl _⟩
set_option maxRecDepth 100000 in
theorem wrong_nil (w : World) : Calls Tryz.prog 32 #[.pointer none] w fun e w' => e = .returned (.int .i64 0) ∧ Below w.heap.size w w' := by
  go_enter Tryz.func32, Tryz.ntmps32
  go_wp2
  go_ret
  exact ⟨rfl, Below.refl _ _⟩
set_option maxRecDepth 100000 in
theorem wrong_calls (w : World) (q : Nat) (c : Cl) (kp : Nat) (rv vd vl vf : Value) (Fp Fr Fd : Nat → Prop) (h : CAt w q c kp rv vd vl vf Fp Fr Fd) : Calls Tryz.prog 32 #[.pointer (some ⟨q, 0, none⟩)] w fun e w' => e = .returned (.int .i64 c.wrong) ∧ Below w.heap.size w w' := by
  have hz9 : w.cell? ⟨q, 9, none⟩ = some (.int .i64 c.wrong) := (blk_cell h.blk 9).trans rfl
  clear h
  go_enter Tryz.func32, Tryz.ntmps32
  go_wp2
  go_ret
  exact ⟨rfl, Below.refl _ _⟩
set_option maxRecDepth 100000 in
theorem shut_nil (w : World) : Calls Tryz.prog 33 #[.pointer none] w fun e w' => e = .returned (.bool true) ∧ Below w.heap.size w w' := by
  go_enter Tryz.func33, Tryz.ntmps33
  go_wp2
  go_ret
  exact ⟨rfl, Below.refl _ _⟩
set_option maxRecDepth 100000 in
theorem shut_calls (w : World) (q : Nat) (c : Cl) (kp : Nat) (rv vd vl vf : Value) (Fp Fr Fd : Nat → Prop) (h : CAt w q c kp rv vd vl vf Fp Fr Fd) : Calls Tryz.prog 33 #[.pointer (some ⟨q, 0, none⟩)] w fun e w' => e = .returned (.bool c.shut) ∧ Below w.heap.size w w' := by
  have hz8 : w.cell? ⟨q, 8, none⟩ = some (.bool c.shut) := (blk_cell h.blk 8).trans rfl
  clear h
  go_enter Tryz.func33, Tryz.ntmps33
  go_wp2
  go_ret
  exact ⟨rfl, Below.refl _ _⟩
set_option maxRecDepth 100000 in
theorem begun_nil (w : World) : Calls Tryz.prog 37 #[.pointer none] w fun e w' => e = .returned (.bool false) ∧ Below w.heap.size w w' := by
  go_enter Tryz.func37, Tryz.ntmps37
  go_wp2
  go_ret
  exact ⟨rfl, Below.refl _ _⟩
set_option maxRecDepth 100000 in
theorem begun_calls (w : World) (q : Nat) (c : Cl) (kp : Nat) (rv vd vl vf : Value) (Fp Fr Fd : Nat → Prop) (h : CAt w q c kp rv vd vl vf Fp Fr Fd) : Calls Tryz.prog 37 #[.pointer (some ⟨q, 0, none⟩)] w fun e w' => e = .returned (.bool (c.begun && !c.waits && !c.shut)) ∧ Below w.heap.size w w' := by
  have hz6 : w.cell? ⟨q, 6, none⟩ = some (.bool c.begun) := (blk_cell h.blk 6).trans rfl
  have hz7 : w.cell? ⟨q, 7, none⟩ = some (.bool c.waits) := (blk_cell h.blk 7).trans rfl
  have hz8 : w.cell? ⟨q, 8, none⟩ = some (.bool c.shut) := (blk_cell h.blk 8).trans rfl
  clear h
  obtain ⟨b6, e6⟩ : ∃ b, b = c.begun := ⟨_, rfl⟩
  obtain ⟨b7, e7⟩ : ∃ b, b = c.waits := ⟨_, rfl⟩
  obtain ⟨b8, e8⟩ : ∃ b, b = c.shut := ⟨_, rfl⟩
  rw [← e6] at hz6 ⊢
  rw [← e7] at hz7 ⊢
  rw [← e8] at hz8 ⊢
  clear e6 e7 e8
  cases b6 <;> cases b7 <;> cases b8 <;>
    (go_enter Tryz.func37, Tryz.ntmps37
     go_wp2
     go_ret
     exact ⟨rfl, Below.refl _ _⟩)
set_option maxHeartbeats 4000000 in
set_option maxRecDepth 100000 in
theorem again_raw (w : World) (q : Nat) (most room : Int) (x2 x3 x4 x5 x6 x7 : Value) (sh : Bool) (wr : Int) (hb : w.heap[q]? = some (.cells #[.int .i64 most, .int .i64 room, x2, x3, x4, x5, x6, x7, .bool sh, .int .i64 wr] 119 (0, 0))) (h0 : 16 ≤ most) (h1 : most ≤ 65536) :
    Calls Tryz.prog 62 #[.pointer (some ⟨q, 0, none⟩)] w fun e w' => e = .returned (.tuple #[]) ∧ (∃ k1, CAt w' q ⟨most, room, 0, newPar true most, none, [], false, false, sh, wr⟩ k1 (.pointer none) (.slice none 0 0) (.slice none 0 0) (.slice none 0 0) (fun k => k = k1) (fun _ => False) (fun _ => False) ∧ w.heap.size ≤ k1) ∧ Stay (fun k => k = q) w w' := by
  have hz0 : w.cell? ⟨q, 0, none⟩ = some (.int .i64 most) := (blk_cell hb 0).trans rfl
  have HN := Aside0.mk (fun W => new_calls true most W h0 h1)
  have H := Aside0.mk hb
  have hlt := blk_lt hb
  clear hb h0 h1
  go_enter Tryz.func62, Tryz.ntmps62
  go_wp2_with (go_at_call 50; refine (HN.out _).mono ?_; rintro e w1 ⟨k1, rfl, hk1, hrep, hb⟩; have HB := Aside0.mk hb; have HRep := Aside0.mk hrep; have HK := Aside0.mk hk1; have h1 := blk_below H.out hb; have H1 := Aside0.mk h1; have hf2 := blk_frozen h1 2; have hf3 := blk_frozen h1 3; have hf4 := blk_frozen h1 4; have hf5 := blk_frozen h1 5; have hf6 := blk_frozen h1 6; have hf7 := blk_frozen h1 7; have hy2 := (blk_cell h1 2); have hy3 := (blk_cell h1 3); have hy4 := (blk_cell h1 4); have hy5 := (blk_cell h1 5); have hy6 := (blk_cell h1 6); have hy7 := (blk_cell h1 7); clear hb hrep hk1 h1)
  go_end0
  have g1 := blk_set H1.out 3 (.pointer (some ⟨k1, 0, none⟩))
  have g2 := blk_set g1 4 (.pointer none)
  have g3 := blk_set g2 5 (.slice none 0 0)
  have g4 := blk_set g3 6 (.bool false)
  have g5 := blk_set g4 7 (.bool false)
  have g6 := blk_set g5 2 (.func (.func (stF 0)) #[.pointer (some ⟨q, 0, none⟩)] #[])
  have hq : k1 ≠ q := fun e => by have h5 := blk_lt H.out; have h6 := HK.out; omega
  have hs : ((((((w1.setCell ⟨q, 3, none⟩ (.pointer (some ⟨k1, 0, none⟩))).setCell ⟨q, 4, none⟩ (.pointer none)).setCell ⟨q, 5, none⟩ (.slice none 0 0)).setCell ⟨q, 6, none⟩ (.bool false)).setCell ⟨q, 7, none⟩ (.bool false)).setCell ⟨q, 2, none⟩ (.func (.func (stF 0)) #[.pointer (some ⟨q, 0, none⟩)] #[])).heap.size = w1.heap.size := by
    rw [Bod.set_size, Bod.set_size, Bod.set_size, Bod.set_size, Bod.set_size, Bod.set_size]
  refine ⟨rfl, ⟨k1, ⟨g6, ?_, .inl ⟨rfl, rfl⟩, Kd.R_nil _ _ _ _ _, ?_, fun k hk => hk.elim, fun k hk => hk.elim⟩, HK.out⟩, ((((((Stay.below (F := fun k => k = q) HB.out).set (p := ⟨q, 3, none⟩) rfl _).set (p := ⟨q, 4, none⟩) rfl _).set (p := ⟨q, 5, none⟩) rfl _).set (p := ⟨q, 6, none⟩) rfl _).set (p := ⟨q, 7, none⟩) rfl _).set (p := ⟨q, 2, none⟩) rfl _⟩
  · refine HRep.out.move (fun k hk _ => ?_)
    rw [hk, set_other _ _ _ hq, set_other _ _ _ hq, set_other _ _ _ hq, set_other _ _ _ hq, set_other _ _ _ hq, set_other _ _ _ hq]
  · rintro k rfl
    refine ⟨?_, hq, id, id⟩
    have h5 := hs
    have h6 := HRep.out.lt
    show k < (((((((w1.setCell _ _).setCell _ _).setCell _ _).setCell _ _).setCell _ _).setCell _ _).heap.size)
    rw [Bod.set_size, Bod.set_size, Bod.set_size, Bod.set_size, Bod.set_size, Bod.set_size]
    exact h6
theorem again_calls (w : World) (q : Nat) (c : Cl) (kp : Nat) (rv vd vl vf : Value) (Fp Fr Fd : Nat → Prop) (h : CAt w q c kp rv vd vl vf Fp Fr Fd) (h0 : 16 ≤ c.most) (h1 : c.most ≤ 65536) :
    Calls Tryz.prog 62 #[.pointer (some ⟨q, 0, none⟩)] w fun e w' => e = .returned (.tuple #[]) ∧ (∃ k1, CAt w' q (againC c) k1 (.pointer none) (.slice none 0 0) (.slice none 0 0) (.slice none 0 0) (fun k => k = k1) (fun _ => False) (fun _ => False) ∧ w.heap.size ≤ k1) ∧ Stay (fun k => k = q) w w' :=
  again_raw w q c.most c.room _ _ _ _ _ _ c.shut c.wrong h.blk h0 h1
end Go.Proofs.YtccolnlfjbgnmaaGreatDoor.Cli
/- A client's connection: what it reads of a head, of a body; own text of this session. -/
namespace Go.Proofs.YtccolnlfjbgnmaaGreatDoor.Cli
open Go.RowKit Go.Proofs.YtccolnlfjbgnmaaGreatDoorW.PrintWords Go.Proofs.YtccolnlfjbgnmaaGreatDoorW.PrintLast Chk Px Hr Hd
open Bod (Bd feedB byteB feedB_stop feedB_next feedB_count BFine newB BRep FeedB NewB newB_calls feedB_calls)
set_option linter.unusedVariables false
set_option linter.unusedSimpArgs false
/-! ### a framing's numbers -/
theorem digitsGo_le (base : Nat) (s : Bs) : ∀ (n : Nat) (b : Bool) (m : Nat), (b = false → n ≤ 9007199254740992) → digitsGo base s n b = some (m, false) → m ≤ 9007199254740992 := by
  induction s with
  | nil =>
    intro n b m h e
    unfold digitsGo at e
    obtain ⟨e1, e2⟩ := Prod.mk.inj (Option.some.inj e)
    subst e1 e2
    exact h rfl
  | cons c r ih =>
    intro n b m h e
    unfold digitsGo at e
    cases hd : digitOf base c with
    | none => rw [hd] at e; cases e
    | some d =>
      rw [hd] at e
      cases b with
      | true => exact ih n true m (fun h => by cases h) (by simpa using e)
      | false =>
        refine ih (n * base + d) (decide (9007199254740992 < n * base + d)) m (fun h5 => ?_) (by simpa using e)
        have := of_decide_eq_false h5
        omega
theorem digits_range (s : Bs) : 0 ≤ (digits 10 s).1 ∧ (digits 10 s).1 ≤ 9007199254740992 := by
  unfold digits
  cases h : digitsGo 10 s 0 false with
  | none => exact ⟨Int.le_refl _, (by decide : (0 : Int) ≤ 9007199254740992)⟩
  | some p =>
    obtain ⟨n, big⟩ := p
    simp only
    split
    · exact ⟨Int.le_refl _, (by decide : (0 : Int) ≤ 9007199254740992)⟩
    · cases big with
      | true => exact ⟨Int.le_refl _, (by decide : (0 : Int) ≤ 9007199254740992)⟩
      | false =>
        have := digitsGo_le 10 s 0 false n (fun _ => Nat.zero_le _) h
        simp only [Bool.false_eq_true, if_false]
        omega
theorem lenS_range (l : List ByteArray) : 0 ≤ (lenS l).1 ∧ (lenS l).1 ≤ 9007199254740992 := by
  unfold lenS
  split
  · exact ⟨Int.le_refl _, (by decide : (0 : Int) ≤ 9007199254740992)⟩
  · split
    · exact ⟨Int.le_refl _, (by decide : (0 : Int) ≤ 9007199254740992)⟩
    · exact digits_range _
theorem toldS_ok (minor : Int) (l : List Chk.Fld) (h : (toldS minor l).2.2.2 = 0) : ((toldS minor l).1 = 2 ∨ (toldS minor l).1 = 3 ∨ (toldS minor l).1 = 4) ∧ (0 ≤ (toldS minor l).2.1 ∧ (toldS minor l).2.1 ≤ 9007199254740992) ∧ (¬ (toldS minor l).1 = 2 → (toldS minor l).2.1 = 0) := by
  unfold toldS at h ⊢
  by_cases h1 : allS TE l = []
  · rw [if_pos h1] at h ⊢
    by_cases h2 : allS CL l = []
    · rw [if_pos h2]; exact ⟨.inr (.inr rfl), ⟨Int.le_refl _, (by decide : (0 : Int) ≤ 9007199254740992)⟩, fun _ => rfl⟩
    · rw [if_neg h2] at h ⊢
      by_cases h3 : (lenS (itemsS CL l)).2 = 0
      · rw [if_pos h3]; exact ⟨.inl rfl, lenS_range _, fun h => absurd rfl h⟩
      · rw [if_neg h3] at h; exact absurd h h3
  · rw [if_neg h1] at h ⊢
    by_cases h2 : allS CL l = []
    · rw [if_pos h2] at h ⊢
      by_cases h3 : minor = 1 ∧ (itemsS TE l).length = 1 ∧ (rdOf ByteArray.empty (itemsS TE l) 0).data.toList = CH
      · rw [if_pos h3]; exact ⟨.inr (.inl rfl), ⟨Int.le_refl _, (by decide : (0 : Int) ≤ 9007199254740992)⟩, fun _ => rfl⟩
      · rw [if_neg h3] at h; exact absurd (show (92 : Int) = 0 from h) (by decide)
    · rw [if_neg h2] at h; exact absurd (show (91 : Int) = 0 from h) (by decide)
/-- What a framing tells that is right. -/
structure FrOk (r : Int × Int × Bool × Int) : Prop where
  kind : r.1 = 1 ∨ r.1 = 2 ∨ r.1 = 3 ∨ r.1 = 4
  len : 0 ≤ r.2.1 ∧ r.2.1 ≤ 9007199254740992
  zero : ¬ r.1 = 2 → r.2.1 = 0
theorem rtoldS_ok (none minor : Int) (l : List Chk.Fld) (hn : none = 1 ∨ none = 4) (h : (rtoldS none minor l).2.2.2 = 0) : FrOk (rtoldS none minor l) := by
  unfold rtoldS at h ⊢
  by_cases h1 : (toldS minor l).1 = 4
  · rw [if_pos h1]
    exact ⟨hn.elim .inl (fun h => .inr (.inr (.inr h))), ⟨Int.le_refl _, (by decide : (0 : Int) ≤ 9007199254740992)⟩, fun _ => rfl⟩
  · rw [if_neg h1] at h ⊢
    obtain ⟨a, b, c⟩ := toldS_ok minor l h
    exact ⟨.inr a, b, c⟩
theorem reqS_ok (a : Bool) (minor : Int) (l : List Chk.Fld) (h : (Px.reqS a minor l).2.2.2 = 0) : FrOk (Px.reqS a minor l) := by
  unfold Px.reqS at h ⊢
  cases a with
  | true => simp only [if_true] at h ⊢; exact rtoldS_ok 1 minor l (.inl rfl) h
  | false => exact absurd (show (1 : Int) = 0 from h) (by decide)
theorem fsz_wt (l : List Chk.Fld) : Px.fsz l ≤ wtF l := by
  induction l with
  | nil => exact Nat.le_refl _
  | cons f r ih =>
    unfold wtF at ih ⊢
    rw [fsz_cons, List.map_cons, List.sum_cons]
    omega
/-! ### a parser that reads -/
structure PFine (most : Int) (p : Par) : Prop where
  most_ : p.most = most
  inv : ∃ n, InvP true p n ∧ (n : Int) ≤ most
theorem PFine.new {most : Int} (h : 0 ≤ most) : PFine most (newPar true most) := ⟨rfl, 0, inv_new true most, h⟩
theorem PFine.sane {most : Int} {p : Par} (h : PFine most p) (h1 : most ≤ 65536) (m : Nat) (hm : m ≤ 4000000000) : SaneN m p := by
  obtain ⟨n, hI, hn⟩ := h.inv
  have hrd := hI.rd
  have hli := hI.li
  have hln := hI.line
  have hmo := h.most_
  have hf : p.hd.f6.length ≤ 100 := by
    rcases hI.st with ⟨_, e, _, _⟩ | ⟨_, ok, _⟩
    · rw [e]; decide
    · exact ok.few
  exact ⟨by omega, by omega, by omega, hli.1, by omega, by omega, by omega, by omega⟩
theorem PFine.take {most : Int} {p q : Par} (h : PFine most p) (hw : p.whole = false) (c : Int) (hq : takeS p c = (q, none)) : PFine most { q with err := none } := by
  obtain ⟨n, hI, hn⟩ := h.inv
  have h2 := inv_take hI hw c hq
  have hg := takeS_grow p c
  rw [hq] at hg
  have hle : p.rd + 1 ≤ p.most := by rcases take_none p q c hq with ⟨a, _⟩ | ⟨a, _⟩ <;> exact a
  have hrd := hI.rd
  have hmo := h.most_
  exact ⟨by show q.most = most; rw [hg.2.2.1]; exact h.most_, n + 1, h2, by omega⟩
theorem PFine.feed {most : Int} (b : List Int) : ∀ (p : Par) (n : Nat), p.err = none → PFine most p → (feedP p b n).1.err = none → PFine most (feedP p b n).1 := by
  induction b with
  | nil => intro p n _ h _; exact h
  | cons c r ih =>
    intro p n he h hf
    by_cases hs : p.whole = true
    · rw [feedP_stop p _ n (.inr (.inl hs))]; exact h
    · have hw : p.whole = false := by simpa using hs
      rw [feedP_next p c r n hw he] at hf ⊢
      obtain ⟨⟨q, er⟩, hq⟩ : ∃ q, q = takeS p c := ⟨_, rfl⟩
      rw [← hq] at hf ⊢
      cases er with
      | some y => rw [feedP_stop _ _ _ (.inr (.inr rfl))] at hf; cases hf
      | none => exact ih _ (n + 1) rfl (h.take hw c hq.symm) hf
theorem PFine.fields {most : Int} {p : Par} (h : PFine most p) (h1 : most ≤ 65536) : Px.fsz p.hd.f6 ≤ 4194304 ∧ p.hd.f6.length ≤ 100 := by
  obtain ⟨n, hI, hn⟩ := h.inv
  rcases hI.st with ⟨_, e, _, _⟩ | ⟨_, ok, _, _, hw⟩
  · rw [e]; exact ⟨by decide, by decide⟩
  · have := fsz_wt p.hd.f6
    exact ⟨by omega, ok.few⟩
theorem feedP_one (b : List Int) (p : Par) (hl : live p) (hb : b ≠ []) : 1 ≤ (feedP p b 0).2 := by
  cases b with
  | nil => exact absurd rfl hb
  | cons x t =>
    rw [feedP_next p x t 0 hl.1 hl.2]
    have := (feedP_count t { (takeS p x).1 with err := (takeS p x).2 } (0 + 1)).1
    omega
/-- Where a connection's blocks are in a footprint. -/
theorem CAt.rep {w : World} {F : Nat → Prop} {q : Nat} {c : Cl} {kp : Nat} {rv vd vl vf : Value} {Fp Fr Fd : Nat → Prop} (h : CAt w q c kp rv vd vl vf Fp Fr Fd) (hq : F q) (hp : ∀ k, Fp k → F k) (hr : ∀ k, Fr k → F k) (hd : ∀ k, Fd k → F k) : CRep w F q c := ⟨hq, kp, rv, vd, vl, vf, Fp, Fr, Fd, h, hp, hr, hd⟩
theorem CAt.whole {w : World} {q : Nat} {c : Cl} {kp p : Nat} {vd vl vf : Value} {Fp Fr Fd : Nat → Prop} {r : Bd} (h : CAt w q c kp (.pointer (some ⟨p, 0, none⟩)) vd vl vf Fp Fr Fd) (hr : c.rdr = some r) :
    Calls Tryz.prog 60 #[.pointer (some ⟨p, 0, none⟩)] w fun e w' => e = .returned (.bool r.whole) ∧ Below w.heap.size w w' := by
  rcases h.rdr with ⟨e, _⟩ | ⟨r', p', e1, e2, h3⟩
  · rw [hr] at e; cases e
  · rw [hr] at e1
    obtain rfl := Option.some.inj e1
    injection e2 with e2
    injection e2 with e2
    injection e2 with e2
    subst e2
    obtain ⟨dv, hrd, _⟩ := h3.rep
    exact Bod.whole_calls p w hrd
set_option maxHeartbeats 8000000 in
set_option maxRecDepth 100000 in
theorem framed_calls (w : World) (q : Nat) (c : Cl) (kp : Nat) (rv vd vl vf : Value) (Fp Fr Fd : Nat → Prop) (h : CAt w q c kp rv vd vl vf Fp Fr Fd) (hG : GInv w) (hwh : c.par.whole = true) (hfs : Px.fsz c.par.hd.f6 ≤ 4194304) (hfl : c.par.hd.f6.length ≤ 100) (hr0 : 0 ≤ c.room) (hr1 : c.room ≤ 1048576) :
    Calls Tryz.prog 110 #[.pointer (some ⟨q, 0, none⟩)] w fun e w' => e = .returned (.tuple #[]) ∧ (∃ rv' vd' Fr' Fd', CAt w' q (framed c (Px.reqS c.par.hd.f0 c.par.hd.f3 c.par.hd.f6)) kp rv' vd' vl vf Fp Fr' Fd' ∧ (∀ k, Fr' k → Fr k ∨ w.heap.size ≤ k) ∧ (∀ k, Fd' k → Fd k)) ∧ Stay (fun k => k = q) w w' := by
  obtain ⟨⟨kd, ln, kp_, er⟩, hreq⟩ : ∃ r, r = Px.reqS c.par.hd.f0 c.par.hd.f3 c.par.hd.f6 := ⟨_, rfl⟩
  have hok := reqS_ok c.par.hd.f0 c.par.hd.f3 c.par.hd.f6
  obtain ⟨kk, hkk⟩ := (ev_Request c.par.hd.f0 c.par.hd.f1 c.par.hd.f2 c.par.hd.f3 c.par.hd.f4 c.par.hd.f5 c.par.hd.f6 hfs).rounds
  rw [← hreq] at hok hkk ⊢
  obtain ⟨x, hx⟩ : ∃ x, x = c.par.hd := ⟨_, rfl⟩
  rw [← hx] at hkk
  have HHd : Aside0 (∀ W, Below w.heap.size w W → Calls Tryz.prog 21 #[.pointer (some ⟨kp, 0, none⟩)] W fun e w1 => ∃ A1 c1, e = .returned (.agg #[.bool x.f0, .string x.f1, .string x.f2, .int .i64 x.f3, .int .i64 x.f4, .string x.f5, .slice A1 x.f6.length c1]) ∧ x.f6.length ≤ c1 ∧ Kd.C P.k37 w1 A1 x.f6.length x.f6 ∧ Below W.heap.size W w1) := ⟨fun W hW => by
    refine (head_yes W Fp kp vl vf c.par (h.par.below hW) hwh (by omega)).mono ?_
    rintro e w1 ⟨v, rfl, hR, hb⟩
    obtain ⟨A1, c1, e1, hc1, hC1⟩ := Kd.R_reads hR
    subst e1
    rw [hx]
    exact ⟨A1, c1, rfl, hc1, hC1, hb⟩⟩
  have HRq : Aside0 (∀ W A1 c1, GInv W → Kd.C P.k37 W A1 x.f6.length x.f6 → x.f6.length ≤ c1 → Calls Tryz.prog 136 #[.agg #[.bool x.f0, .string x.f1, .string x.f2, .int .i64 x.f3, .int .i64 x.f4, .string x.f5, .slice A1 x.f6.length c1]] W fun e w1 => e = .returned (.tuple #[.agg #[.int .i64 kd, .int .i64 ln, .bool kp_], .int .i64 er]) ∧ Below W.heap.size W w1) := ⟨fun W A1 c1 hG hC hc => P.framing_Request.calls kk _ _ _ _ _ _ A1 c1 _ _ _ _ _ W hC hc hkk hG⟩
  have hz3 : w.cell? ⟨q, 3, none⟩ = some (.pointer (some ⟨kp, 0, none⟩)) := (blk_cell h.blk 3).trans rfl
  have H := Aside0.mk h
  have HG := Aside0.mk hG
  have HOK := Aside0.mk hok
  have HR0 := Aside0.mk hr0
  have HR1 := Aside0.mk hr1
  clear hkk hok hreq hwh hfs hfl h hG hx hr0 hr1
  by_cases he : er = 0
  · have hok5 := HOK.out he
    subst he
    have hnb := fun W => newB_calls kd ln c.room kp_ W hok5.kind hok5.len hok5.zero HR0.out (by have := HR1.out; omega)
    cases hnew : newB kd ln c.room with
    | none =>
      have hfr : framed c (kd, ln, kp_, 0) = failC { c with rdr := none } 413 := by unfold framed; simp only; rw [if_neg (by simp), hnew]
      rw [hfr]
      rw [hnew] at hnb
      have HNB := Aside0.mk hnb
      clear hnb hok5 hfr hnew
      go_enter Tryz.func110, Tryz.ntmps110
      go_wp2_with fail
      refine (HHd.out _ (Below.refl _ _)).mono ?_
      rintro e w1 ⟨A1, c1, rfl, hc1, hC1, hb1⟩
      have HB1 := Aside0.mk hb1
      have HC1 := Aside0.mk hC1
      have Hc1 := Aside0.mk hc1
      clear hb1 hC1 hc1
      go_wp2_with fail
      refine (HRq.out _ _ _ (HG.out.below HB1.out) HC1.out Hc1.out).mono ?_
      rintro e w2 ⟨rfl, hb2⟩
      have HB2 := Aside0.mk (below_step HB1.out hb2)
      clear hb2
      have HW3 : Aside0 (Below w.heap.size w (w2.alloc (.cells #[.int .i64 kd, .int .i64 ln, .bool kp_] 50))) := ⟨below_alloc HB2.out _⟩
      have h3 := H.out.below HW3.out
      have H3 := Aside0.mk h3
      have hy1 : (w2.alloc (.cells #[.int .i64 kd, .int .i64 ln, .bool kp_] 50)).cell? ⟨q, 1, none⟩ = some (.int .i64 c.room) := (blk_cell h3.blk 1).trans rfl
      clear h3
      go_wp2_with fail
      go_region_with (go_at_call 103; refine (HNB.out _).mono ?_; rintro e w3 ⟨hb3, rfl⟩; have h4 := H3.out.below (below_step (by repeat (first | exact Below.refl _ _ | apply below_drew1 | apply pw_below_drewN)) hb3); have H4 := Aside0.mk h4; have HB4 : Aside0 (Below w.heap.size w w3) := ⟨below_step (by repeat (first | exact HW3.out | apply below_drew1 | apply pw_below_drewN)) hb3⟩; have hf4 := blk_frozen h4.blk 4; have hz4 : w3.cell? ⟨q, 4, none⟩ = some rv := (blk_cell h4.blk 4).trans rfl; clear hb3 h4)
      all_goals
        go_wp2_with fail
        refine (fail_calls _ q _ kp _ vd vl vf Fp _ Fd 413 H4.out.rdrNil).mono ?_
        rintro e w5 ⟨rfl, h5, hs5⟩
        have H5 := Aside0.mk h5
        have HS5 := Aside0.mk hs5
        clear h5 hs5
        go_wp2
        refine bodyPost_ret (results_none rfl _ _ _) rfl ?_
        exact ⟨rfl, ⟨_, _, _, _, H5.out, fun k hk => hk.elim, fun k hk => hk.elim⟩, ((Stay.below (F := fun k => k = q) HB4.out).set (p := ⟨q, 4, none⟩) rfl _).trans HS5.out (fun i hi => .inl hi)⟩
    | some r =>
      have hfr : framed c (kd, ln, kp_, 0) = ⟨c.most, c.room, 1, c.par, some r, c.data, c.begun, r.whole, c.shut, c.wrong⟩ := by unfold framed; simp only; rw [if_neg (by simp), hnew]
      rw [hfr]
      rw [hnew] at hnb
      have HNB := Aside0.mk hnb
      clear hnb hok5 hfr hnew
      go_enter Tryz.func110, Tryz.ntmps110
      go_wp2_with fail
      refine (HHd.out _ (Below.refl _ _)).mono ?_
      rintro e w1 ⟨A1, c1, rfl, hc1, hC1, hb1⟩
      have HB1 := Aside0.mk hb1
      have HC1 := Aside0.mk hC1
      have Hc1 := Aside0.mk hc1
      clear hb1 hC1 hc1
      go_wp2_with fail
      refine (HRq.out _ _ _ (HG.out.below HB1.out) HC1.out Hc1.out).mono ?_
      rintro e w2 ⟨rfl, hb2⟩
      have HB2 := Aside0.mk (below_step HB1.out hb2)
      clear hb2
      have HW3 : Aside0 (Below w.heap.size w (w2.alloc (.cells #[.int .i64 kd, .int .i64 ln, .bool kp_] 50))) := ⟨below_alloc HB2.out _⟩
      have h3 := H.out.below HW3.out
      have H3 := Aside0.mk h3
      have hy1 : (w2.alloc (.cells #[.int .i64 kd, .int .i64 ln, .bool kp_] 50)).cell? ⟨q, 1, none⟩ = some (.int .i64 c.room) := (blk_cell h3.blk 1).trans rfl
      clear h3
      go_wp2_with fail
      go_region_with (go_at_call 103; refine (HNB.out _).mono ?_; rintro e w3 ⟨hb3, pr, rfl, hbr⟩; have h4 := H3.out.below (below_step (by repeat (first | exact Below.refl _ _ | apply below_drew1 | apply pw_below_drewN)) hb3); have H4 := Aside0.mk h4; have HB4 : Aside0 (Below w.heap.size w w3) := ⟨below_step (by repeat (first | exact HW3.out | apply below_drew1 | apply pw_below_drewN)) hb3⟩; have HBR : Aside0 (BRep w3 (fun k => w2.heap.size + 1 ≤ k ∧ k < w3.heap.size) pr r) := ⟨hbr.mono (fun k hk => ⟨Nat.le_trans (by have h5 := World.size_alloc (w := w2) (o := .cells #[.int .i64 kd, .int .i64 ln, .bool kp_] 50); rw [← h5]; first | exact Nat.le_refl _ | exact (below_drew1 (Below.refl 0 _)).size | exact (pw_below_drewN (Below.refl 0 _)).size) hk.1, hk.2⟩)⟩; have hf4 := blk_frozen h4.blk 4; have hz4 : w3.cell? ⟨q, 4, none⟩ = some rv := (blk_cell h4.blk 4).trans rfl; have hf2 := blk_frozen h4.blk 2; have hz2 := blk_cell h4.blk 2; have hf7 := blk_frozen h4.blk 7; have hz7 := blk_cell h4.blk 7; clear hb3 h4 hbr)
      all_goals
        go_wp2_with fail
        have h5 := H4.out.rdrSet (B := w2.heap.size + 1) (fun k hk => by
          have h9 := HB2.out.size
          rcases hk with e | hk | hk
          · have := H.out.lt; omega
          · have := (H.out.hp k hk).1; omega
          · have := (H.out.hd k hk).1; omega) HBR.out
        have h6 := h5.scal (i := 2) (v := .func (.func (stF 1)) #[.pointer (some ⟨q, 0, none⟩)] #[]) (c' := { c with rdr := some r, st := 1 }) rfl rfl rfl rfl
        refine (h6.whole rfl).mono ?_
        rintro e w6 ⟨rfl, hb6⟩
        have h7 := h6.below hb6
        have hf7' := blk_frozen h7.blk 7
        have hz7' := blk_cell h7.blk 7
        have H7 := Aside0.mk h7
        have HS7 : Aside0 (Stay (fun k => k = q) w w6) := ⟨stay_low (((Stay.below (F := fun k => k = q) HB4.out).set (p := ⟨q, 4, none⟩) rfl _).set (p := ⟨q, 2, none⟩) rfl _) hb6⟩
        clear h5 h6 h7 hb6 hf4 hz4 hf2 hz2 hf7 hz7
        go_wp2
        go_end0
        refine ⟨rfl, ⟨_, _, _, _, H7.out.scal (i := 7) (v := .bool r.whole) (c' := ⟨c.most, c.room, 1, c.par, some r, c.data, c.begun, r.whole, c.shut, c.wrong⟩) rfl rfl rfl rfl, fun k hk => .inr (by have h9 := HB2.out.size; have := hk.1; omega), fun k hk => hk⟩, HS7.out.set (p := ⟨q, 7, none⟩) rfl _⟩
  · have hfr : framed c (kd, ln, kp_, er) = failC c 400 := by unfold framed; simp only; rw [if_pos he]
    rw [hfr]
    have be : (er != 0) = true := by simpa using he
    clear hfr he
    go_enter Tryz.func110, Tryz.ntmps110
    go_wp2_with fail
    refine (HHd.out _ (Below.refl _ _)).mono ?_
    rintro e w1 ⟨A1, c1, rfl, hc1, hC1, hb1⟩
    have HB1 := Aside0.mk hb1
    have HC1 := Aside0.mk hC1
    have Hc1 := Aside0.mk hc1
    clear hb1 hC1 hc1
    go_wp2_with fail
    refine (HRq.out _ _ _ (HG.out.below HB1.out) HC1.out Hc1.out).mono ?_
    rintro e w2 ⟨rfl, hb2⟩
    have HB2 := Aside0.mk (below_step HB1.out hb2)
    clear hb2
    have HW3 : Aside0 (Below w.heap.size w (w2.alloc (.cells #[.int .i64 kd, .int .i64 ln, .bool kp_] 50))) := ⟨below_alloc HB2.out _⟩
    go_wp2_with fail
    refine (fail_calls _ q c kp rv vd vl vf Fp Fr Fd 400 (H.out.below HW3.out)).mono ?_
    rintro e w4 ⟨rfl, h4, hs4⟩
    have H4 := Aside0.mk h4
    have HS4 := Aside0.mk hs4
    clear h4 hs4
    go_wp2
    refine bodyPost_ret (results_none rfl _ _ _) rfl ?_
    exact ⟨rfl, ⟨rv, _, Fr, _, H4.out, fun k hk => .inl hk, fun k hk => hk.elim⟩, (Stay.below (F := fun k => k = q) HW3.out).trans HS4.out (fun i hi => .inl hi)⟩
end Go.Proofs.YtccolnlfjbgnmaaGreatDoor.Cli
/- A client's connection, plainly: what stays true while it reads; own text of this session. -/
namespace Go.Proofs.YtccolnlfjbgnmaaGreatDoor.Cli
open Go.RowKit Go.Proofs.YtccolnlfjbgnmaaGreatDoorW.PrintWords Go.Proofs.YtccolnlfjbgnmaaGreatDoorW.PrintLast Chk Px Hr Hd
open Bod (Bd feedB byteB feedB_stop feedB_next feedB_count BFine newB BRep)
set_option linter.unusedVariables false
set_option linter.unusedSimpArgs false
theorem byteB_pot (r : Bd) (hf : BFine r) (x : Int) : (byteB r x).1.got + ((byteB r x).1.mass : Int) ≤ r.got + (r.mass : Int) + 1 ∧ (byteB r x).2.length + (byteB r x).1.mass ≤ r.mass + 1 := by
  unfold byteB
  by_cases k2 : r.kind = 2
  · rw [if_pos k2]
    refine ⟨?_, ?_⟩
    · show r.got + 1 + ((match r.dec with | none => 0 | some d => d.mass : Nat) : Int) ≤ r.got + ((match r.dec with | none => 0 | some d => d.mass : Nat) : Int) + 1
      omega
    · show 1 + (match r.dec with | none => 0 | some d => d.mass) ≤ (match r.dec with | none => 0 | some d => d.mass) + 1
      omega
  · rw [if_neg k2]
    by_cases k4 : r.kind = 4
    · rw [if_pos k4]
      by_cases hz : r.left = 0
      · rw [if_pos hz]
        refine ⟨?_, ?_⟩
        · show r.got + ((match r.dec with | none => 0 | some d => d.mass : Nat) : Int) ≤ r.got + ((match r.dec with | none => 0 | some d => d.mass : Nat) : Int) + 1
          omega
        · show 0 + (match r.dec with | none => 0 | some d => d.mass) ≤ (match r.dec with | none => 0 | some d => d.mass) + 1
          omega
      · rw [if_neg hz]
        refine ⟨?_, ?_⟩
        · show r.got + 1 + ((match r.dec with | none => 0 | some d => d.mass : Nat) : Int) ≤ r.got + ((match r.dec with | none => 0 | some d => d.mass : Nat) : Int) + 1
          omega
        · show 1 + (match r.dec with | none => 0 | some d => d.mass) ≤ (match r.dec with | none => 0 | some d => d.mass) + 1
          omega
    · rw [if_neg k4]
      cases hd : r.dec with
      | none =>
        refine ⟨?_, ?_⟩
        · show r.got + (r.mass : Int) ≤ _
          omega
        · show 0 + r.mass ≤ _
          omega
      | some d =>
        have hm := step_mass d x
        have e : r.mass = d.mass := by unfold Bd.mass; rw [hd]
        have e2 : (stepE d x).1.mass = (stepE d x).1.line.length + (stepE d x).1.out.length + (stepE d x).1.tr.length := rfl
        rw [e]
        refine ⟨?_, ?_⟩
        · show r.got + ((stepE d x).1.out.length : Int) + (((stepE d x).1.line.length + ([] : List Int).length + (stepE d x).1.tr.length : Nat) : Int) ≤ _
          simp only [List.length_nil]
          omega
        · show (stepE d x).1.out.length + ((stepE d x).1.line.length + ([] : List Int).length + (stepE d x).1.tr.length) ≤ _
          simp only [List.length_nil]
          omega
theorem feedB_potN (b : List Int) : ∀ (r : Bd), BFine r → (feedB r b).1.got + ((feedB r b).1.mass : Int) ≤ r.got + (r.mass : Int) + ((feedB r b).2.2 : Int) ∧ (feedB r b).2.1.length + (feedB r b).1.mass ≤ r.mass + (feedB r b).2.2 := by
  induction b with
  | nil => intro r _; exact ⟨by show r.got + (r.mass : Int) ≤ r.got + (r.mass : Int) + ((0 : Nat) : Int); omega, by show 0 + r.mass ≤ r.mass + 0; omega⟩
  | cons x t ih =>
    intro r hf
    by_cases ho : r.over
    · rw [feedB_stop r _ (.inr ho)]
      exact ⟨by show r.got + (r.mass : Int) ≤ r.got + (r.mass : Int) + ((0 : Nat) : Int); omega, by show 0 + r.mass ≤ r.mass + 0; omega⟩
    · rw [feedB_next r x t ho]
      obtain ⟨a1, a2⟩ := byteB_pot r hf x
      obtain ⟨b1, b2⟩ := ih (byteB r x).1 (hf.byte ho x)
      simp only [List.length_append]
      exact ⟨by push_cast; omega, by omega⟩
theorem feedB_pot (b : List Int) (r : Bd) (hf : BFine r) : (feedB r b).1.got + ((feedB r b).1.mass : Int) ≤ r.got + (r.mass : Int) + (b.length : Int) ∧ (feedB r b).2.1.length + (feedB r b).1.mass ≤ r.mass + b.length := by
  have h := feedB_potN b r hf
  have h2 := (feedB_count b r).1
  exact ⟨by omega, by omega⟩
/-- How much a connection bears. -/
structure CMass (T : Nat) (c : Cl) : Prop where
  data : c.data.length ≤ T
  rdr : ∀ r, c.rdr = some r → BFine r ∧ c.data.length + r.mass ≤ T ∧ r.got + (r.mass : Int) ≤ T
/-- What a connection is. -/
structure CInv (c : Cl) : Prop where
  most0 : 16 ≤ c.most
  most1 : c.most ≤ 65536
  room0 : 0 ≤ c.room
  room1 : c.room ≤ 1048576
  par : c.par.err = none → PFine c.most c.par
  reads : c.rests ∨ (c.st = 0 ∧ live c.par) ∨ (¬ c.st = 0 ∧ ∃ r, c.rdr = some r ∧ ¬ r.over)
  body : ¬ c.st = 0 → c.par.whole = true ∧ c.par.err = none
  wst : c.waits = true → ¬ c.st = 0
theorem CInv.new {most room : Int} (h0 : 16 ≤ most) (h1 : most ≤ 65536) (h2 : 0 ≤ room) (h3 : room ≤ 1048576) : CInv (newC most room) :=
  ⟨h0, h1, h2, h3, fun _ => PFine.new (show (0 : Int) ≤ most by omega), .inr (.inl ⟨rfl, rfl, rfl⟩), fun h => absurd rfl h, fun h => by cases h⟩
theorem CMass.new {most room : Int} : CMass 0 (newC most room) := ⟨Nat.le_refl _, fun r h => by cases h⟩
theorem newB_fine {kind length most : Int} (hk : kind = 1 ∨ kind = 2 ∨ kind = 3 ∨ kind = 4) (hl : 0 ≤ length ∧ length ≤ 9007199254740992) (h0 : 0 ≤ most) (h1 : most ≤ 9007199254740992) (r : Bd) (h : newB kind length most = some r) : BFine r ∧ r.mass = 0 ∧ r.got = 0 ∧ r.wrong = 0 := by
  unfold newB at h
  rcases hk with rfl | rfl | rfl | rfl
  · rw [if_neg (by decide), if_neg (by decide)] at h
    cases h
    exact ⟨⟨h0, h1, Int.le_refl _, .inl ⟨rfl, rfl, rfl, rfl⟩⟩, rfl, rfl, rfl⟩
  · rw [if_pos rfl] at h
    split at h
    · cases h
    · cases h
      exact ⟨⟨hl.1, hl.2, Int.le_refl _, .inr (.inl ⟨rfl, rfl, rfl, rfl⟩)⟩, rfl, rfl, rfl⟩
  · rw [if_neg (by decide), if_pos rfl] at h
    cases h
    exact ⟨⟨h0, h1, Int.le_refl _, .inr (.inr (.inr ⟨rfl, _, rfl, rfl, fine_new most h0 h1, rfl, rfl⟩))⟩, rfl, rfl, rfl⟩
  · rw [if_neg (by decide), if_neg (by decide)] at h
    cases h
    exact ⟨⟨h0, h1, Int.le_refl _, .inr (.inr (.inl ⟨rfl, rfl⟩))⟩, rfl, rfl, rfl⟩
/-- What is behind a piece of a head. -/
theorem headP_inv {c : Cl} {T : Nat} (h : CInv c) (hm : CMass T c) (hr : ¬ c.rests) (hst : c.st = 0) (hl : live c.par) (b : List Int) : CInv (headP c b).1 ∧ CMass T (headP c b).1 := by
  have hcw : c.waits = false := by cases hx : c.waits with | false => rfl | true => exact absurd (.inl hx) hr
  obtain ⟨p1, hp1⟩ : ∃ p, p = (feedP c.par b 0).1 := ⟨_, rfl⟩
  obtain ⟨n1, hn1⟩ : ∃ n, n = (feedP c.par b 0).2 := ⟨_, rfl⟩
  have hpf : p1.err = none → PFine c.most p1 := fun he => by rw [hp1] at he ⊢; exact (h.par hl.2).feed b c.par 0 hl.2 he
  have hcode : codeOf p1.err = 0 → p1.err = none := fun he => by rw [hp1] at he ⊢; exact feed_code b c.par 0 hl.2 he
  unfold headP
  rw [← hp1, ← hn1]
  simp only
  obtain ⟨bg, hbg⟩ : ∃ x, x = (c.begun || decide (0 < n1)) := ⟨_, rfl⟩
  rw [← hbg]
  have m1 : CMass T ⟨c.most, c.room, c.st, p1, c.rdr, c.data, bg, c.waits, c.shut, c.wrong⟩ := ⟨hm.data, hm.rdr⟩
  have shut : ∀ s, CInv (failC ⟨c.most, c.room, c.st, p1, c.rdr, c.data, bg, c.waits, c.shut, c.wrong⟩ s) ∧ CMass T (failC ⟨c.most, c.room, c.st, p1, c.rdr, c.data, bg, c.waits, c.shut, c.wrong⟩ s) := fun s =>
    ⟨⟨h.most0, h.most1, h.room0, h.room1, hpf, .inl (.inr rfl), fun h5 => absurd hst h5, fun h5 => absurd (show c.waits = true from h5) (by rw [hcw]; decide)⟩, ⟨Nat.zero_le _, fun r h5 => by obtain ⟨a, b, d⟩ := hm.rdr r h5; exact ⟨a, by show 0 + _ ≤ _; omega, d⟩⟩⟩
  unfold headE
  simp only
  by_cases e1 : codeOf p1.err = 85
  · rw [if_pos e1]; exact shut 431
  · rw [if_neg e1]
    by_cases e2 : codeOf p1.err = 0
    · rw [if_neg (fun h5 => h5 e2)]
      have hen := hcode e2
      cases hw : p1.whole with
      | true =>
        rw [if_pos rfl]
        have hok := reqS_ok p1.hd.f0 p1.hd.f3 p1.hd.f6
        unfold framed
        simp only
        by_cases he : (Px.reqS p1.hd.f0 p1.hd.f3 p1.hd.f6).2.2.2 = 0
        · rw [if_neg (fun h5 => h5 he)]
          have hok := hok he
          cases hn : newB (Px.reqS p1.hd.f0 p1.hd.f3 p1.hd.f6).1 (Px.reqS p1.hd.f0 p1.hd.f3 p1.hd.f6).2.1 c.room with
          | none => exact ⟨⟨h.most0, h.most1, h.room0, h.room1, hpf, .inl (.inr rfl), fun h5 => absurd hst h5, fun h5 => absurd (show c.waits = true from h5) (by rw [hcw]; decide)⟩, ⟨Nat.zero_le _, fun r h5 => by cases h5⟩⟩
          | some r0 =>
            obtain ⟨f1, f2, f3, f4⟩ := newB_fine hok.kind hok.len h.room0 (by have := h.room1; omega) r0 hn
            simp only
            refine ⟨⟨h.most0, h.most1, h.room0, h.room1, hpf, ?_, fun _ => ⟨hw, hen⟩, fun _ h5 => absurd (show (1 : Nat) = 0 from h5) (by decide)⟩, ⟨hm.data, fun r h5 => ?_⟩⟩
            · cases hb : r0.whole with
              | true => exact .inl (.inl rfl)
              | false => exact .inr (.inr ⟨fun h5 => absurd (show (1 : Nat) = 0 from h5) (by decide), r0, rfl, fun ho => ho.elim (fun e => by rw [hb] at e; cases e) (fun e => e f4)⟩)
            · obtain rfl := Option.some.inj h5
              have := hm.data
              exact ⟨f1, by show c.data.length + _ ≤ _; omega, by omega⟩
        · rw [if_pos he]; exact shut 400
      | false =>
        rw [if_neg (by decide)]
        refine ⟨⟨h.most0, h.most1, h.room0, h.room1, hpf, .inr (.inl ⟨hst, hw, hen⟩), fun h5 => absurd hst h5, fun h5 => absurd (show c.waits = true from h5) (by rw [hcw]; decide)⟩, m1⟩
    · rw [if_pos e2]; exact shut 400
theorem bodyP_inv {c : Cl} {T : Nat} {r : Bd} (h : CInv c) (hm : CMass T c) (hr : ¬ c.rests) (hst : ¬ c.st = 0) (hrd : c.rdr = some r) (ho : ¬ r.over) (b : List Int) : CInv (bodyP c r b).1 ∧ CMass (T + (bodyP c r b).2) (bodyP c r b).1 := by
  have hcw : c.waits = false := by cases hx : c.waits with | false => rfl | true => exact absurd (.inl hx) hr
  obtain ⟨f1, f2, f3⟩ := hm.rdr r hrd
  obtain ⟨g1, g2⟩ := feedB_potN b r f1
  have hfb := f1.feed b
  obtain ⟨⟨r1, o1, n1⟩, hq⟩ : ∃ q, q = feedB r b := ⟨_, rfl⟩
  unfold bodyP
  rw [← hq] at g1 g2 hfb ⊢
  simp only at g1 g2 hfb ⊢
  have shut : ∀ s, CInv (failC ⟨c.most, c.room, c.st, c.par, some r1, c.data ++ o1, c.begun, c.waits, c.shut, c.wrong⟩ s) ∧ CMass (T + n1) (failC ⟨c.most, c.room, c.st, c.par, some r1, c.data ++ o1, c.begun, c.waits, c.shut, c.wrong⟩ s) := fun s =>
    ⟨⟨h.most0, h.most1, h.room0, h.room1, h.par, .inl (.inr rfl), fun _ => h.body hst, fun _ => hst⟩, ⟨Nat.zero_le _, fun r' h5 => by obtain rfl := Option.some.inj h5; exact ⟨hfb, by show 0 + _ ≤ _; omega, by omega⟩⟩⟩
  unfold bodyE
  simp only
  by_cases e1 : r1.wrong = 2
  · rw [if_pos e1]; exact shut 413
  · rw [if_neg e1]
    by_cases e2 : r1.wrong = 0
    · rw [if_neg (fun h5 => h5 e2)]
      refine ⟨⟨h.most0, h.most1, h.room0, h.room1, h.par, ?_, fun _ => h.body hst, fun _ => hst⟩, ⟨?_, fun r' h5 => ?_⟩⟩
      · cases hb : r1.whole with
        | true => exact .inl (.inl rfl)
        | false => exact .inr (.inr ⟨hst, r1, rfl, fun ho => ho.elim (fun e => by rw [hb] at e; cases e) (fun e => e e2)⟩)
      · show (c.data ++ o1).length ≤ _
        rw [List.length_append]; omega
      · obtain rfl := Option.some.inj h5
        refine ⟨hfb, ?_, by omega⟩
        show (c.data ++ o1).length + _ ≤ _
        rw [List.length_append]; omega
    · rw [if_pos e2]; exact shut 400
end Go.Proofs.YtccolnlfjbgnmaaGreatDoor.Cli
