/- A host's connection (package upstream), plainly: its bytes one by one; own text of this session. -/
import Derived.Test.YtccolnlfjbgnmaaGreatDoorClA
import Derived.Laws.EntriesVeiled
import Derived.Deep.RegionWith
namespace Go.Proofs.YtccolnlfjbgnmaaGreatDoor.Ups
open Go.RowKit Go.Proofs.YtccolnlfjbgnmaaGreatDoorW.PrintWords Go.Proofs.YtccolnlfjbgnmaaGreatDoorW.PrintLast Chk Px Hr Hd
open Bod (Bd feedB byteB feedB_stop feedB_next feedB_count BFine newB)
open Cli (live feedP_shift FrOk rtoldS_ok fsz_wt feedP_one byteB_pot feedB_potN feedB_pot newB_fine)
set_option linter.unusedVariables false
set_option linter.unusedSimpArgs false
/-- A reader of a response: the method asked, a head's bound, the interim heads, what it reads (0: a head, 1: a body), the parser, the body's reader, the head, its framing, whether the connection ended, what is wrong. -/
structure Up where
  meth : ByteArray
  most : Int
  interim : Int
  st : Nat
  par : Par
  rdr : Option Bd
  hd : Head
  frm : Int × Int × Bool
  ended : Bool
  wrong : Int
def Up.whole (u : Up) : Bool := match u.rdr with | none => false | some r => r.whole
def newU (m : ByteArray) (most : Int) : Up := ⟨m, most, 0, 0, newPar false most, none, head0 false, (0, 0, false), false, 0⟩
/-- A head is taken. -/
def gotU (u : Up) (h : Head) : Up :=
  if h.f4 < 200 then
    if h.f4 = 101 ∨ 8 < u.interim + 1 then ⟨u.meth, u.most, u.interim + 1, u.st, u.par, u.rdr, u.hd, u.frm, u.ended, 80⟩
    else ⟨u.meth, u.most, u.interim + 1, u.st, newPar false u.most, u.rdr, u.hd, u.frm, u.ended, u.wrong⟩
  else if ¬ (resS h.f0 h.f3 h.f4 h.f6 u.meth.data.toList).2.2.2 = 0 then ⟨u.meth, u.most, u.interim, u.st, u.par, u.rdr, u.hd, u.frm, u.ended, (resS h.f0 h.f3 h.f4 h.f6 u.meth.data.toList).2.2.2⟩
  else ⟨u.meth, u.most, u.interim, 1, u.par, newB (resS h.f0 h.f3 h.f4 h.f6 u.meth.data.toList).1 (resS h.f0 h.f3 h.f4 h.f6 u.meth.data.toList).2.1 9007199254740992, h,
    ((resS h.f0 h.f3 h.f4 h.f6 u.meth.data.toList).1, (resS h.f0 h.f3 h.f4 h.f6 u.meth.data.toList).2.1, (resS h.f0 h.f3 h.f4 h.f6 u.meth.data.toList).2.2.1), u.ended, 0⟩
/-- The parser read a piece. -/
def parU (u : Up) (p : Par) : Up := ⟨u.meth, u.most, u.interim, u.st, p, u.rdr, u.hd, u.frm, u.ended, codeOf p.err⟩
def headE (u : Up) (p : Par) : Up := if p.whole = true then gotU (parU u p) p.hd else parU u p
def headU (u : Up) (b : List Int) : Up × List Int × Nat := (headE u (feedP u.par b 0).1, [], (feedP u.par b 0).2)
def bodyE (u : Up) (r : Bd) : Up := ⟨u.meth, u.most, u.interim, u.st, u.par, some r, u.hd, u.frm, u.ended, r.wrong⟩
def bodyU (u : Up) (r : Bd) (b : List Int) : Up × List Int × Nat := (bodyE u (feedB r b).1, (feedB r b).2.1, (feedB r b).2.2)
/-- What its state does with a piece. -/
def stateU (u : Up) (b : List Int) : Up × List Int × Nat :=
  if u.st = 0 then headU u b else match u.rdr with | none => (u, [], 0) | some r => bodyU u r b
def Up.rests (u : Up) : Prop := ¬ u.wrong = 0 ∨ u.whole = true
instance (u : Up) : Decidable u.rests := inferInstanceAs (Decidable (_ ∨ _))
def readU : Up → List Int → Up × List Int × Nat
  | u, [] => (u, [], 0)
  | u, x :: t => if u.rests then (u, [], 0) else ((readU (stateU u [x]).1 t).1, (stateU u [x]).2.1 ++ (readU (stateU u [x]).1 t).2.1, (readU (stateU u [x]).1 t).2.2 + 1)
theorem readU_stop (u : Up) (b : List Int) (h : b = [] ∨ u.rests) : readU u b = (u, [], 0) := by
  cases b with
  | nil => rfl
  | cons x t =>
    have h : u.rests := h.elim (fun e => by cases e) id
    show (if u.rests then _ else _) = _
    rw [if_pos h]
theorem readU_next (u : Up) (x : Int) (t : List Int) (h : ¬ u.rests) : readU u (x :: t) = ((readU (stateU u [x]).1 t).1, (stateU u [x]).2.1 ++ (readU (stateU u [x]).1 t).2.1, (readU (stateU u [x]).1 t).2.2 + 1) := by
  show (if u.rests then _ else _) = _
  rw [if_neg h]
/-! ### a piece is its bytes -/
/-- What is read in pieces. -/
def Pieced (u : Up) (b : List Int) (s : Up × List Int × Nat) : Prop :=
  1 ≤ s.2.2 ∧ s.2.2 ≤ b.length ∧ readU u b = ((readU s.1 (b.drop s.2.2)).1, s.2.1 ++ (readU s.1 (b.drop s.2.2)).2.1, s.2.2 + (readU s.1 (b.drop s.2.2)).2.2)
theorem Pieced.one {u : Up} {x : Int} {t : List Int} (h : ¬ u.rests) : Pieced u (x :: t) ((stateU u [x]).1, (stateU u [x]).2.1, 1) := by
  refine ⟨Nat.le_refl _, by simp, ?_⟩
  rw [readU_next u x t h]
  show _ = (_, _, 1 + _)
  rw [Nat.add_comm 1]
  rfl
theorem Pieced.cons {u : Up} {x : Int} {t : List Int} {s : Up × List Int × Nat} (h : ¬ u.rests) (hp : Pieced (stateU u [x]).1 t s) : Pieced u (x :: t) (s.1, (stateU u [x]).2.1 ++ s.2.1, s.2.2 + 1) := by
  obtain ⟨i1, i2, i3⟩ := hp
  refine ⟨by show 1 ≤ _ + 1; omega, by show _ + 1 ≤ _ + 1; omega, ?_⟩
  rw [readU_next u x t h, i3]
  show _ = ((readU s.1 (List.drop (s.2.2 + 1) (x :: t))).1, ((stateU u [x]).2.1 ++ s.2.1) ++ (readU s.1 (List.drop (s.2.2 + 1) (x :: t))).2.1, s.2.2 + 1 + (readU s.1 (List.drop (s.2.2 + 1) (x :: t))).2.2)
  rw [List.drop_succ_cons]
  simp only [Prod.mk.injEq, true_and, List.append_assoc]
  omega
theorem headU_read (b : List Int) : ∀ (u : Up), ¬ u.rests → u.st = 0 → live u.par → b ≠ [] → Pieced u b (headU u b) := by
  induction b with
  | nil => intro u _ _ _ h; exact absurd rfl h
  | cons x t ih =>
    intro u hr hst hl _
    obtain ⟨p1, hp1⟩ : ∃ p1, p1 = { (takeS u.par x).1 with err := (takeS u.par x).2 } := ⟨_, rfl⟩
    have hn : ∀ l m, feedP u.par (x :: l) m = feedP p1 l (m + 1) := fun l m => by rw [feedP_next u.par x l m hl.1 hl.2, hp1]
    have e1 : feedP u.par [x] 0 = (p1, 1) := by rw [hn]; rfl
    have es : stateU u [x] = (headE u p1, [], 1) := by
      unfold stateU
      rw [if_pos hst]
      unfold headU
      rw [e1]
    have h1 := Pieced.one (x := x) (t := t) hr
    by_cases hs : p1.whole = true ∨ p1.err.isSome = true
    · have e : ∀ l, feedP u.par (x :: l) 0 = (p1, 1) := fun l => by rw [hn, feedP_stop p1 l _ (.inr hs)]
      have e2 : headU u (x :: t) = ((stateU u [x]).1, (stateU u [x]).2.1, 1) := by
        rw [es]
        unfold headU
        rw [e]
      rw [e2]
      exact h1
    · have hw1 : p1.whole = false := by cases hx : p1.whole with | false => rfl | true => exact absurd (.inl hx) hs
      have he1 : p1.err = none := by cases hx : p1.err with | none => rfl | some y => exact absurd (.inr (by rw [hx]; rfl)) hs
      have eb : headE u p1 = ⟨u.meth, u.most, u.interim, u.st, p1, u.rdr, u.hd, u.frm, u.ended, 0⟩ := by
        unfold headE parU
        rw [if_neg (by rw [hw1]; decide), he1]
        rfl
      by_cases ht : t = []
      · subst ht
        have e2 : headU u [x] = ((stateU u [x]).1, (stateU u [x]).2.1, 1) := by
          rw [es]
          unfold headU
          rw [e1]
        rw [e2]
        exact h1
      · obtain ⟨u1, hu1⟩ : ∃ u1, u1 = headE u p1 := ⟨_, rfl⟩
        have hw0 : u.wrong = 0 := by by_cases e : u.wrong = 0; exact e; exact absurd (.inl e) hr
        have hr1 : ¬ u1.rests := by
          rw [hu1, eb]
          exact fun h5 => h5.elim (fun e => e rfl) (fun e => hr (.inr e))
        have hst1 : u1.st = 0 := by rw [hu1, eb]; exact hst
        have hpar : u1.par = p1 := by rw [hu1, eb]
        have hl1 : live u1.par := by rw [hpar]; exact ⟨hw1, he1⟩
        have h2 : Pieced u (x :: t) ((headU u1 t).1, (stateU u [x]).2.1 ++ (headU u1 t).2.1, (headU u1 t).2.2 + 1) := Pieced.cons hr (by rw [es]; exact hu1 ▸ ih u1 hr1 hst1 hl1 ht)
        have e3 : headU u (x :: t) = ((headU u1 t).1, (stateU u [x]).2.1 ++ (headU u1 t).2.1, (headU u1 t).2.2 + 1) := by
          rw [es]
          unfold headU
          rw [hn, hpar, feedP_shift t p1 0 1]
          have f0 : ∀ p, headE u1 p = headE u p := fun p => by
            unfold headE parU gotU
            rw [hu1, eb]
          rw [f0]
          rfl
        rw [e3]
        exact h2
theorem bodyU_read (b : List Int) : ∀ (u : Up) (r : Bd), ¬ u.rests → ¬ u.st = 0 → u.rdr = some r → ¬ r.over → b ≠ [] → Pieced u b (bodyU u r b) := by
  induction b with
  | nil => intro u r _ _ _ _ h; exact absurd rfl h
  | cons x t ih =>
    intro u r hr hst hrd ho _
    obtain ⟨⟨r1, o1⟩, hq⟩ : ∃ q, q = byteB r x := ⟨_, rfl⟩
    have hn : ∀ l, feedB r (x :: l) = ((feedB r1 l).1, o1 ++ (feedB r1 l).2.1, (feedB r1 l).2.2 + 1) := fun l => by rw [feedB_next r x l ho, ← hq]
    have e1 : feedB r [x] = (r1, o1, 1) := by rw [hn, feedB_stop r1 [] (.inl rfl)]; simp
    have es : stateU u [x] = (bodyE u r1, o1, 1) := by
      unfold stateU
      rw [if_neg hst, hrd]
      show bodyU u r [x] = _
      unfold bodyU
      rw [e1]
    have h1 := Pieced.one (x := x) (t := t) hr
    by_cases hs : r1.over
    · have e : ∀ l, feedB r (x :: l) = (r1, o1, 1) := fun l => by rw [hn, feedB_stop r1 l (.inr hs)]; simp
      have e2 : bodyU u r (x :: t) = ((stateU u [x]).1, (stateU u [x]).2.1, 1) := by
        rw [es]
        unfold bodyU
        rw [e]
      rw [e2]
      exact h1
    · have hw1 : r1.whole = false := by cases hx : r1.whole with | false => rfl | true => exact absurd (.inl hx) hs
      have he1 : r1.wrong = 0 := by by_cases e : r1.wrong = 0; exact e; exact absurd (.inr e) hs
      by_cases ht : t = []
      · subst ht
        have e2 : bodyU u r [x] = ((stateU u [x]).1, (stateU u [x]).2.1, 1) := by
          rw [es]
          unfold bodyU
          rw [e1]
        rw [e2]
        exact h1
      · obtain ⟨u1, hu1⟩ : ∃ u1, u1 = bodyE u r1 := ⟨_, rfl⟩
        have hrd1 : u1.rdr = some r1 := by rw [hu1]; rfl
        have hr1 : ¬ u1.rests := by
          intro h5
          rcases h5 with e | e
          · exact e (by rw [hu1]; exact he1)
          · unfold Up.whole at e
            rw [hrd1] at e
            exact absurd (show r1.whole = true from e) (by rw [hw1]; decide)
        have hst1 : ¬ u1.st = 0 := by rw [hu1]; exact hst
        have h2 : Pieced u (x :: t) ((bodyU u1 r1 t).1, (stateU u [x]).2.1 ++ (bodyU u1 r1 t).2.1, (bodyU u1 r1 t).2.2 + 1) := Pieced.cons hr (by rw [es]; exact hu1 ▸ ih u1 r1 hr1 hst1 hrd1 hs ht)
        have e3 : bodyU u r (x :: t) = ((bodyU u1 r1 t).1, (stateU u [x]).2.1 ++ (bodyU u1 r1 t).2.1, (bodyU u1 r1 t).2.2 + 1) := by
          rw [es]
          unfold bodyU
          rw [hn]
          have f0 : ∀ p, bodyE u1 p = bodyE u p := fun p => by
            unfold bodyE
            rw [hu1]
            rfl
          rw [f0]
        rw [e3]
        exact h2
/-! ### what stays true while it reads -/
structure PFineR (most : Int) (p : Par) : Prop where
  most_ : p.most = most
  inv : ∃ n, InvP false p n ∧ (n : Int) ≤ most
theorem PFineR.new {most : Int} (h : 0 ≤ most) : PFineR most (newPar false most) := ⟨rfl, 0, inv_new false most, h⟩
theorem PFineR.sane {most : Int} {p : Par} (h : PFineR most p) (h1 : most ≤ 65536) (m : Nat) (hm : m ≤ 4000000000) : SaneN m p := by
  obtain ⟨n, hI, hn⟩ := h.inv
  have hrd := hI.rd
  have hli := hI.li
  have hln := hI.line
  have hmo := h.most_
  have hf : p.hd.f6.length ≤ 100 := by
    rcases hI.st with ⟨_, e, _, _⟩ | ⟨_, ok, _⟩
    · rw [e]; decide
    · exact ok.few
  exact ⟨by omega, by omega, by omega, hli.1, by omega, by omega, by omega, by omega⟩
theorem PFineR.take {most : Int} {p q : Par} (h : PFineR most p) (hw : p.whole = false) (c : Int) (hq : takeS p c = (q, none)) : PFineR most { q with err := none } := by
  obtain ⟨n, hI, hn⟩ := h.inv
  have h2 := inv_take hI hw c hq
  have hg := takeS_grow p c
  rw [hq] at hg
  have hle : p.rd + 1 ≤ p.most := by rcases take_none p q c hq with ⟨a, _⟩ | ⟨a, _⟩ <;> exact a
  have hrd := hI.rd
  have hmo := h.most_
  exact ⟨by show q.most = most; rw [hg.2.2.1]; exact h.most_, n + 1, h2, by omega⟩
theorem PFineR.feed {most : Int} (b : List Int) : ∀ (p : Par) (n : Nat), p.err = none → PFineR most p → (feedP p b n).1.err = none → PFineR most (feedP p b n).1 := by
  induction b with
  | nil => intro p n _ h _; exact h
  | cons c r ih =>
    intro p n he h hf
    by_cases hs : p.whole = true
    · rw [feedP_stop p _ n (.inr (.inl hs))]; exact h
    · have hw : p.whole = false := by simpa using hs
      rw [feedP_next p c r n hw he] at hf ⊢
      obtain ⟨⟨q, er⟩, hq⟩ : ∃ q, q = takeS p c := ⟨_, rfl⟩
      rw [← hq] at hf ⊢
      cases er with
      | some y => rw [feedP_stop _ _ _ (.inr (.inr rfl))] at hf; cases hf
      | none => exact ih _ (n + 1) rfl (h.take hw c hq.symm) hf
theorem PFineR.fields {most : Int} {p : Par} (h : PFineR most p) (h1 : most ≤ 65536) : Px.fsz p.hd.f6 ≤ 4194304 ∧ p.hd.f6.length ≤ 100 := by
  obtain ⟨n, hI, hn⟩ := h.inv
  rcases hI.st with ⟨_, e, _, _⟩ | ⟨_, ok, _, _, hw⟩
  · rw [e]; exact ⟨by decide, by decide⟩
  · have := fsz_wt p.hd.f6
    exact ⟨by omega, ok.few⟩
theorem resS_ok (a : Bool) (minor status : Int) (l : List Chk.Fld) (m : Bs) (h : (resS a minor status l m).2.2.2 = 0) : FrOk (resS a minor status l m) := by
  unfold resS at h ⊢
  cases a with
  | true => exact absurd (show (1 : Int) = 0 from h) (by decide)
  | false =>
    simp only [Bool.false_eq_true, if_false] at h ⊢
    by_cases hb : bare status m = true
    · rw [if_pos hb]; exact ⟨.inl rfl, ⟨Int.le_refl _, (by decide : (0 : Int) ≤ 9007199254740992)⟩, fun _ => rfl⟩
    · rw [if_neg hb] at h ⊢
      exact rtoldS_ok 4 minor l (.inr rfl) h
theorem newB_some {r : Int × Int × Bool × Int} (h : FrOk r) : ∃ b, newB r.1 r.2.1 9007199254740992 = some b := by
  unfold newB
  have h2 := h.len
  split
  · rw [if_neg (by omega)]; exact ⟨_, rfl⟩
  · split <;> exact ⟨_, rfl⟩
theorem lineS_whole (p : Par) (l : Bs) (hw : p.whole = false) (h : (lineS p l).1.whole = true) : (lineS p l).2 = 0 := by
  unfold lineS at h ⊢
  split at h
  · exfalso
    unfold Hd.reqS at h
    split at h
    · rw [hw] at h; cases h
    · split at h
      · rw [hw] at h; cases h
      · split at h
        · rw [hw] at h; cases h
        · simp only at h; rw [hw] at h; cases h
  · exfalso
    unfold respS at h
    split at h
    · rw [hw] at h; cases h
    · split at h
      · rw [hw] at h; cases h
      · simp only at h; rw [hw] at h; cases h
  · unfold fldS at h ⊢
    by_cases e : l = []
    · rw [if_pos e]
    · exfalso
      rw [if_neg e] at h
      split at h
      · rw [hw] at h; cases h
      · split at h
        · rw [hw] at h; cases h
        · simp only at h; rw [hw] at h; cases h
theorem take_whole (p : Par) (c : Int) (hw : p.whole = false) (h : (takeS p c).1.whole = true) : (takeS p c).2 = none := by
  obtain ⟨q, hq⟩ : ∃ q, q = takeS p c := ⟨_, rfl⟩
  rw [← hq] at h ⊢
  unfold takeS at hq
  simp only at hq
  repeat' split at hq
  all_goals subst hq
  all_goals first | rfl | exact absurd (show p.whole = true from h) (by rw [hw]; decide) | exact absurd (lineS_whole { p with rd := p.rd + 1, line := [], lines := p.lines + 1 } _ hw h) (by assumption)
theorem feed_whole (b : List Int) : ∀ (p : Par) (n : Nat), p.whole = false → p.err = none → (feedP p b n).1.whole = true → (feedP p b n).1.err = none := by
  induction b with
  | nil => intro p n _ he _; exact he
  | cons c r ih =>
    intro p n hw he h
    rw [feedP_next p c r n hw he] at h ⊢
    by_cases h1 : (takeS p c).1.whole = true
    · rw [feedP_stop { (takeS p c).1 with err := (takeS p c).2 } _ _ (.inr (.inl h1))]
      exact take_whole p c hw h1
    · have hw1 : (takeS p c).1.whole = false := by simpa using h1
      cases he1 : (takeS p c).2 with
      | some y =>
        rw [he1, feedP_stop { (takeS p c).1 with err := some y } _ _ (.inr (.inr rfl))] at h
        exact absurd (show (takeS p c).1.whole = true from h) h1
      | none =>
        rw [he1] at h
        exact ih _ (n + 1) hw1 rfl h
/-- How much a reader bears, and how much was told of it. -/
def UMass (T o : Nat) (u : Up) : Prop := o ≤ T ∧ ∀ r, u.rdr = some r → BFine r ∧ o + r.mass ≤ T ∧ r.got + (r.mass : Int) ≤ T
/-- What a reader is. -/
structure UInv (u : Up) : Prop where
  most0 : 16 ≤ u.most
  most1 : u.most ≤ 65536
  int0 : 0 ≤ u.interim ∧ u.interim ≤ 9
  int8 : u.wrong = 0 ∨ ¬ u.st = 0 → u.interim ≤ 8
  par : u.par.err = none → PFineR u.most u.par
  reads : u.rests ∨ (u.st = 0 ∧ live u.par) ∨ (¬ u.st = 0 ∧ ∃ r, u.rdr = some r ∧ ¬ r.over)
  few : u.hd.f6.length ≤ 100
  norun : u.st = 0 → u.rdr = none
theorem UMass.le {T U o : Nat} {u : Up} (h : UMass T o u) (hl : T ≤ U) : UMass U o u := ⟨Nat.le_trans h.1 hl, fun r hr => by obtain ⟨a, b, d⟩ := h.2 r hr; exact ⟨a, by omega, by omega⟩⟩
theorem UMass.zero {T o : Nat} {u : Up} (h : UMass T o u) : UMass T 0 u := ⟨Nat.zero_le _, fun r hr => by obtain ⟨a, b, d⟩ := h.2 r hr; exact ⟨a, by omega, d⟩⟩
theorem UInv.new {m : ByteArray} {most : Int} (h0 : 16 ≤ most) (h1 : most ≤ 65536) : UInv (newU m most) :=
  ⟨h0, h1, ⟨Int.le_refl _, (by decide : (0 : Int) ≤ 9)⟩, fun _ => (by decide : (0 : Int) ≤ 8), fun _ => PFineR.new (show (0 : Int) ≤ most by omega), .inr (.inl ⟨rfl, rfl, rfl⟩), Nat.zero_le _, fun _ => rfl⟩
theorem UMass.new {m : ByteArray} {most : Int} : UMass 0 0 (newU m most) := ⟨Nat.le_refl _, fun r h => by cases h⟩
theorem headU_inv {u : Up} {T o : Nat} (h : UInv u) (hm : UMass T o u) (hr : ¬ u.rests) (hst : u.st = 0) (hl : live u.par) (b : List Int) : UInv (headU u b).1 ∧ UMass T o (headU u b).1 := by
  have hw0 : u.wrong = 0 := by by_cases e : u.wrong = 0; exact e; exact absurd (.inl e) hr
  have hnr := h.norun hst
  have hi := h.int0
  have hi8 := h.int8 (.inl hw0)
  obtain ⟨p1, hp1⟩ : ∃ p, p = (feedP u.par b 0).1 := ⟨_, rfl⟩
  have hpf : p1.err = none → PFineR u.most p1 := fun he => by rw [hp1] at he ⊢; exact (h.par hl.2).feed b u.par 0 hl.2 he
  have hcode : codeOf p1.err = 0 → p1.err = none := fun he => by rw [hp1] at he ⊢; exact feed_code b u.par 0 hl.2 he
  show UInv (headE u (feedP u.par b 0).1) ∧ UMass T o (headE u (feedP u.par b 0).1)
  rw [← hp1]
  have m1 : ∀ v : Up, v.rdr = u.rdr → UMass T o v := fun v e => ⟨hm.1, fun r hr => hm.2 r (by rw [← e]; exact hr)⟩
  unfold headE
  cases hwh : p1.whole with
  | false =>
    rw [if_neg (by decide)]
    refine ⟨⟨h.most0, h.most1, hi, fun _ => hi8, hpf, ?_, h.few, h.norun⟩, m1 _ rfl⟩
    by_cases e2 : codeOf p1.err = 0
    · exact .inr (.inl ⟨hst, hwh, hcode e2⟩)
    · exact .inl (.inl e2)
  | true =>
    rw [if_pos rfl]
    unfold gotU
    by_cases h1 : p1.hd.f4 < 200
    · rw [if_pos h1]
      by_cases h2 : p1.hd.f4 = 101 ∨ 8 < (parU u p1).interim + 1
      · rw [if_pos h2]
        exact ⟨⟨h.most0, h.most1, ⟨by show 0 ≤ u.interim + 1; omega, by show u.interim + 1 ≤ 9; omega⟩, fun e => e.elim (fun e => absurd (show (80 : Int) = 0 from e) (by decide)) (fun e => absurd hst e), hpf, .inl (.inl (show ¬ (80 : Int) = 0 by decide)), h.few, h.norun⟩, m1 _ rfl⟩
      · rw [if_neg h2]
        have h3 : ¬ 8 < u.interim + 1 := fun e => h2 (.inr e)
        refine ⟨⟨h.most0, h.most1, ⟨by show 0 ≤ u.interim + 1; omega, by show u.interim + 1 ≤ 9; omega⟩, fun e => by show u.interim + 1 ≤ 8; omega, fun _ => PFineR.new (by show (0 : Int) ≤ u.most; have := h.most0; omega), .inr (.inl ⟨hst, rfl, rfl⟩), h.few, h.norun⟩, m1 _ rfl⟩
    · rw [if_neg h1, show (parU u p1).meth = u.meth from rfl]
      by_cases h4 : (resS p1.hd.f0 p1.hd.f3 p1.hd.f4 p1.hd.f6 u.meth.data.toList).2.2.2 = 0
      · rw [if_neg (fun h5 => h5 h4)]
        have hok := resS_ok _ _ _ _ _ h4
        obtain ⟨r0, hn⟩ := newB_some hok
        obtain ⟨f1, f2, f3, f4⟩ := newB_fine hok.kind hok.len (by decide) (by decide) r0 hn
        have hfew : p1.hd.f6.length ≤ 100 := by
          have hw := hwh
          have he : p1.err = none := by rw [hp1] at hw ⊢; exact feed_whole b u.par 0 hl.1 hl.2 hw
          exact ((hpf he).fields h.most1).2
        refine ⟨⟨h.most0, h.most1, hi, fun _ => hi8, hpf, ?_, hfew, fun e => absurd (show (1 : Nat) = 0 from e) (by decide)⟩, hm.1, fun r hr5 => ?_⟩
        · cases hb : r0.whole with
          | true => exact .inl (.inr (by show (match newB (resS p1.hd.f0 p1.hd.f3 p1.hd.f4 p1.hd.f6 u.meth.data.toList).1 (resS p1.hd.f0 p1.hd.f3 p1.hd.f4 p1.hd.f6 u.meth.data.toList).2.1 9007199254740992 with | none => false | some r => r.whole) = true; rw [hn]; exact hb))
          | false => exact .inr (.inr ⟨fun h5 => absurd (show (1 : Nat) = 0 from h5) (by decide), r0, hn, fun ho => ho.elim (fun e => by rw [hb] at e; cases e) (fun e => e f4)⟩)
        · obtain rfl := Option.some.inj (hn.symm.trans hr5)
          exact ⟨f1, by have := hm.1; omega, by omega⟩
      · rw [if_pos h4]
        exact ⟨⟨h.most0, h.most1, hi, fun _ => hi8, hpf, .inl (.inl h4), h.few, h.norun⟩, m1 _ rfl⟩
theorem bodyU_inv {u : Up} {T o : Nat} {r : Bd} (h : UInv u) (hm : UMass T o u) (hst : ¬ u.st = 0) (hrd : u.rdr = some r) (b : List Int) : UInv (bodyU u r b).1 ∧ UMass (T + (bodyU u r b).2.2) (o + (bodyU u r b).2.1.length) (bodyU u r b).1 := by
  obtain ⟨f1, f2, f3⟩ := hm.2 r hrd
  obtain ⟨g1, g2⟩ := feedB_potN b r f1
  have hfb := f1.feed b
  unfold bodyU
  obtain ⟨⟨r1, o1, n1⟩, hq⟩ : ∃ q, q = feedB r b := ⟨_, rfl⟩
  rw [← hq] at g1 g2 hfb ⊢
  simp only at g1 g2 hfb ⊢
  refine ⟨⟨h.most0, h.most1, h.int0, fun _ => h.int8 (.inr hst), h.par, ?_, h.few, fun e => absurd e hst⟩, by omega, fun r' h5 => ?_⟩
  · by_cases ho : r1.over
    · exact .inl (ho.elim .inr .inl)
    · exact .inr (.inr ⟨hst, r1, rfl, ho⟩)
  · obtain rfl := Option.some.inj (show some r1 = some r' from h5)
    exact ⟨hfb, by omega, by omega⟩
end Go.Proofs.YtccolnlfjbgnmaaGreatDoor.Ups
/- A host's connection: its memory, and its small functions; own text of this session (gen_up2.py). -/
namespace Go.Proofs.YtccolnlfjbgnmaaGreatDoor.Ups
open Go.RowKit Go.Proofs.YtccolnlfjbgnmaaGreatDoorW.PrintWords Go.Proofs.YtccolnlfjbgnmaaGreatDoorW.PrintLast Chk Px Hr Hd
open Bod (Bd feedB byteB feedB_stop feedB_next feedB_count BFine newB BRep)
open Cli (live feedP_shift FrOk rtoldS_ok fsz_wt feedP_one byteB_pot feedB_potN feedB_pot newB_fine set_other)
set_option linter.unusedVariables false
set_option linter.unusedSimpArgs false
def stF : Nat → Nat
  | 0 => 59
  | _ => 104
def cellsU (q : Nat) (u : Up) (pv rv vh : Value) : Array Value := #[.string u.meth, .int .i64 u.most, .int .i64 u.interim, .func (.func (stF u.st)) #[.pointer (some ⟨q, 0, none⟩)] #[], pv, rv,
  .bool u.hd.f0, .string u.hd.f1, .string u.hd.f2, .int .i64 u.hd.f3, .int .i64 u.hd.f4, .string u.hd.f5, vh, .int .i64 u.frm.1, .int .i64 u.frm.2.1, .bool u.frm.2.2, .bool u.ended, .int .i64 u.wrong]
/-- A reader's memory: its block, the parser's, the body's reader's, the head's fields. -/
structure UAt (w : World) (q : Nat) (u : Up) (kp : Nat) (rv vh vl vf : Value) (Fp Fr Fh : Nat → Prop) : Prop where
  blk : w.heap[q]? = some (.cells (cellsU q u (.pointer (some ⟨kp, 0, none⟩)) rv vh) 113 (0, 0))
  par : Hd.Rep w Fp kp vl vf u.par
  rdr : (u.rdr = none ∧ rv = .pointer none) ∨ ∃ r p, u.rdr = some r ∧ rv = .pointer (some ⟨p, 0, none⟩) ∧ BRep w Fr p r
  flds : fldK.R 37 w 0 Fh vh u.hd.f6
  hp : ∀ k, Fp k → k < w.heap.size ∧ k ≠ q ∧ ¬ Fr k ∧ ¬ Fh k
  hr : ∀ k, Fr k → k < w.heap.size ∧ k ≠ q ∧ ¬ Fh k
  hh : ∀ k, Fh k → k < w.heap.size ∧ k ≠ q
/-- The same, in a footprint. -/
def URep (w : World) (F : Nat → Prop) (q : Nat) (u : Up) : Prop :=
  F q ∧ ∃ kp rv vh vl vf Fp Fr Fh, UAt w q u kp rv vh vl vf Fp Fr Fh ∧ (∀ k, Fp k → F k) ∧ (∀ k, Fr k → F k) ∧ (∀ k, Fh k → F k)
section
variable {w w1 : World} {q : Nat} {u u' : Up} {kp : Nat} {rv vh vl vf : Value} {Fp Fr Fh : Nat → Prop}
theorem UAt.lt (h : UAt w q u kp rv vh vl vf Fp Fr Fh) : q < w.heap.size := blk_lt h.blk
theorem UAt.rep {F : Nat → Prop} (h : UAt w q u kp rv vh vl vf Fp Fr Fh) (hq : F q) (hp : ∀ k, Fp k → F k) (hr : ∀ k, Fr k → F k) (hd : ∀ k, Fh k → F k) : URep w F q u := ⟨hq, kp, rv, vh, vl, vf, Fp, Fr, Fh, h, hp, hr, hd⟩
/-- Where its blocks are as they were. -/
theorem UAt.move (h : UAt w q u kp rv vh vl vf Fp Fr Fh) (hs : w.heap.size ≤ w1.heap.size) (hm : ∀ k, k = q ∨ Fp k ∨ Fr k ∨ Fh k → k < w.heap.size → w1.heap[k]? = w.heap[k]?) : UAt w1 q u kp rv vh vl vf Fp Fr Fh := by
  refine ⟨(hm q (.inl rfl) h.lt).trans h.blk, h.par.move (fun k hk hl => hm k (.inr (.inl hk)) hl), ?_, Kd.R_step h.flds (fun k hk hl => hm k (.inr (.inr (.inr hk))) hl), fun k hk => ⟨Nat.lt_of_lt_of_le (h.hp k hk).1 hs, (h.hp k hk).2⟩, fun k hk => ⟨Nat.lt_of_lt_of_le (h.hr k hk).1 hs, (h.hr k hk).2⟩, fun k hk => ⟨Nat.lt_of_lt_of_le (h.hh k hk).1 hs, (h.hh k hk).2⟩⟩
  rcases h.rdr with h5 | ⟨r, p, e1, e2, h3⟩
  · exact .inl h5
  · exact .inr ⟨r, p, e1, e2, h3.move (fun k hk hl => hm k (.inr (.inr (.inl hk))) hl)⟩
theorem UAt.below (h : UAt w q u kp rv vh vl vf Fp Fr Fh) (hb : Below w.heap.size w w1) : UAt w1 q u kp rv vh vl vf Fp Fr Fh := h.move hb.size (fun k _ hk => hb.block k hk)
/-- A store into its block. -/
theorem UAt.store {i : Nat} {v rv' vh' : Value} {Fr' Fh' : Nat → Prop} (h : UAt w q u kp rv vh vl vf Fp Fr Fh) (hi : (cellsU q u (.pointer (some ⟨kp, 0, none⟩)) rv vh).setIfInBounds i v = cellsU q u' (.pointer (some ⟨kp, 0, none⟩)) rv' vh') (e1 : u'.par = u.par)
    (hr : (u'.rdr = none ∧ rv' = .pointer none) ∨ ∃ r p, u'.rdr = some r ∧ rv' = .pointer (some ⟨p, 0, none⟩) ∧ BRep w Fr' p r) (hd : fldK.R 37 w 0 Fh' vh' u'.hd.f6) (hFr : ∀ k, Fr' k → k < w.heap.size ∧ k ≠ q ∧ ¬ Fp k ∧ ¬ Fh' k) (hFd : ∀ k, Fh' k → k < w.heap.size ∧ k ≠ q ∧ ¬ Fp k) :
    UAt (w.setCell ⟨q, i, none⟩ v) q u' kp rv' vh' vl vf Fp Fr' Fh' := by
  have hs : (w.setCell ⟨q, i, none⟩ v).heap.size = w.heap.size := Bod.set_size _ _ _
  refine ⟨by rw [blk_set h.blk, hi], ?_, ?_, Kd.R_step hd (fun k hk _ => set_other v i k (hFd k hk).2.1), ?_, ?_, ?_⟩
  · rw [e1]; exact h.par.move (fun k hk _ => set_other v i k (h.hp k hk).2.1)
  · rcases hr with h5 | ⟨r, p, g1, g2, h3⟩
    · exact .inl h5
    · exact .inr ⟨r, p, g1, g2, h3.move (fun k hk _ => set_other v i k (hFr k hk).2.1)⟩
  · intro k hk; rw [hs]; exact ⟨(h.hp k hk).1, (h.hp k hk).2.1, fun h5 => (hFr k h5).2.2.1 hk, fun h5 => (hFd k h5).2.2 hk⟩
  · intro k hk; rw [hs]; exact ⟨(hFr k hk).1, (hFr k hk).2.1, (hFr k hk).2.2.2⟩
  · intro k hk; rw [hs]; exact ⟨(hFd k hk).1, (hFd k hk).2.1⟩
theorem UAt.scal {i : Nat} {v : Value} (h : UAt w q u kp rv vh vl vf Fp Fr Fh) (hi : (cellsU q u (.pointer (some ⟨kp, 0, none⟩)) rv vh).setIfInBounds i v = cellsU q u' (.pointer (some ⟨kp, 0, none⟩)) rv vh) (e1 : u'.par = u.par) (e2 : u'.rdr = u.rdr) (e3 : u'.hd.f6 = u.hd.f6) :
    UAt (w.setCell ⟨q, i, none⟩ v) q u' kp rv vh vl vf Fp Fr Fh :=
  h.store hi e1 (by rw [e2]; exact h.rdr) (by rw [e3]; exact h.flds) (fun k hk => ⟨(h.hr k hk).1, (h.hr k hk).2.1, fun h5 => (h.hp k h5).2.2.1 hk, (h.hr k hk).2.2⟩) (fun k hk => ⟨(h.hh k hk).1, (h.hh k hk).2, fun h5 => (h.hp k h5).2.2.2 hk⟩)
theorem UAt.rdrSet {p : Nat} {r : Bd} {B : Nat} (h : UAt w q u kp rv vh vl vf Fp Fr Fh) (hB : ∀ k, k = q ∨ Fp k ∨ Fh k → k < B) (hr : BRep w (fun k => B ≤ k ∧ k < w.heap.size) p r) : UAt (w.setCell ⟨q, 5, none⟩ (.pointer (some ⟨p, 0, none⟩))) q { u with rdr := some r } kp (.pointer (some ⟨p, 0, none⟩)) vh vl vf Fp (fun k => B ≤ k ∧ k < w.heap.size) Fh :=
  h.store rfl rfl (.inr ⟨r, p, rfl, rfl, hr⟩) h.flds (fun k hk => ⟨hk.2, fun e => by have := hB k (.inl e); omega, fun h5 => by have := hB k (.inr (.inl h5)); omega, fun h5 => by have := hB k (.inr (.inr h5)); omega⟩) (fun k hk => ⟨(h.hh k hk).1, (h.hh k hk).2, fun h5 => (h.hp k h5).2.2.2 hk⟩)
/-- The head's row of fields is put in. -/
theorem UAt.fldSet {v : Value} {l : List Chk.Fld} {Fx : Nat → Prop} (h : UAt w q u kp rv vh vl vf Fp Fr Fh) (hR : fldK.R 37 w 0 Fx v l) (hx : ∀ k, Fx k → k < w.heap.size ∧ k ≠ q ∧ ¬ Fp k ∧ ¬ Fr k) : UAt (w.setCell ⟨q, 12, none⟩ v) q { u with hd := ⟨u.hd.f0, u.hd.f1, u.hd.f2, u.hd.f3, u.hd.f4, u.hd.f5, l⟩ } kp rv v vl vf Fp Fr Fx :=
  h.store rfl rfl h.rdr hR (fun k hk => ⟨(h.hr k hk).1, (h.hr k hk).2.1, fun h5 => (h.hp k h5).2.2.1 hk, fun h5 => (hx k h5).2.2.2 hk⟩) (fun k hk => ⟨(hx k hk).1, (hx k hk).2.1, (hx k hk).2.2.1⟩)
/-- A new parser is put in. -/
theorem UAt.parSet {k1 : Nat} {p : Par} {vl1 vf1 : Value} {B : Nat} (h : UAt w q u kp rv vh vl vf Fp Fr Fh) (hB : ∀ k, k = q ∨ Fr k ∨ Fh k → k < B) (hk : B ≤ k1) (hr : Hd.Rep w (fun k => k = k1) k1 vl1 vf1 p) : UAt (w.setCell ⟨q, 4, none⟩ (.pointer (some ⟨k1, 0, none⟩))) q { u with par := p } k1 rv vh vl1 vf1 (fun k => k = k1) Fr Fh := by
  have hs : (w.setCell ⟨q, 4, none⟩ (.pointer (some ⟨k1, 0, none⟩))).heap.size = w.heap.size := Bod.set_size _ _ _
  have hq : k1 ≠ q := fun e => by have := hB q (.inl rfl); omega
  refine ⟨by rw [blk_set h.blk]; rfl, hr.move (fun k hk _ => set_other _ _ k (by rw [hk]; exact hq)), ?_, Kd.R_step h.flds (fun k hk _ => set_other _ _ k (h.hh k hk).2), ?_, ?_, ?_⟩
  · rcases h.rdr with h5 | ⟨r, p, g1, g2, h3⟩
    · exact .inl h5
    · exact .inr ⟨r, p, g1, g2, h3.move (fun k hk _ => set_other _ _ k (h.hr k hk).2.1)⟩
  · rintro k rfl; rw [hs]; exact ⟨hr.lt, hq, fun h5 => by have := hB k (.inr (.inl h5)); omega, fun h5 => by have := hB k (.inr (.inr h5)); omega⟩
  · intro k hk; rw [hs]; exact h.hr k hk
  · intro k hk; rw [hs]; exact h.hh k hk
/-- The parser read on. -/
theorem UAt.parTo {p : Par} {vl1 vf1 : Value} (h : UAt w q u kp rv vh vl vf Fp Fr Fh) (hr : Hd.Rep w1 (fun k => Fp k ∨ w.heap.size ≤ k) kp vl1 vf1 p) (hs : Stay Fp w w1) : UAt w1 q { u with par := p } kp rv vh vl1 vf1 (fun k => (Fp k ∨ w.heap.size ≤ k) ∧ k < w1.heap.size) Fr Fh := by
  refine ⟨(hs.block q h.lt (fun h5 => (h.hp q h5).2.1 rfl)).trans h.blk, ?_, ?_, Kd.R_step h.flds (fun k hk hl => hs.block k hl (fun h5 => (h.hp k h5).2.2.2 hk)), ?_, ?_, ?_⟩
  · exact ⟨hr.blk, ⟨hr.inF, hr.lt⟩, Kd.R_mono (Kd.R_bound hr.line) (fun k hk => ⟨hk.1, hk.2.2.1⟩), Kd.R_mono (Kd.R_bound hr.flds) (fun k hk => ⟨hk.1, hk.2.2.1⟩)⟩
  · rcases h.rdr with h5 | ⟨r, p, g1, g2, h3⟩
    · exact .inl h5
    · exact .inr ⟨r, p, g1, g2, h3.move (fun k hk hl => hs.block k hl (fun h5 => (h.hp k h5).2.2.1 hk))⟩
  · rintro k ⟨hk, hl⟩
    refine ⟨hl, ?_, ?_, ?_⟩
    · rintro rfl; exact hk.elim (fun h5 => (h.hp k h5).2.1 rfl) (fun h5 => by have := h.lt; omega)
    · intro hf; exact hk.elim (fun h5 => (h.hp k h5).2.2.1 hf) (fun h5 => by have := (h.hr k hf).1; omega)
    · intro hf; exact hk.elim (fun h5 => (h.hp k h5).2.2.2 hf) (fun h5 => by have := (h.hh k hf).1; omega)
  · intro k hk; exact ⟨Nat.lt_of_lt_of_le (h.hr k hk).1 hs.size, (h.hr k hk).2⟩
  · intro k hk; exact ⟨Nat.lt_of_lt_of_le (h.hh k hk).1 hs.size, (h.hh k hk).2⟩
/-- The body's reader read on. -/
theorem UAt.rdrTo {p : Nat} {r1 : Bd} {F' : Nat → Prop} (h : UAt w q u kp (.pointer (some ⟨p, 0, none⟩)) vh vl vf Fp Fr Fh) (hs : Stay Fr w w1) (hb : BRep w1 F' p r1) (hF' : ∀ k, F' k → (Fr k ∨ w.heap.size ≤ k) ∧ k < w1.heap.size) : UAt w1 q { u with rdr := some r1 } kp (.pointer (some ⟨p, 0, none⟩)) vh vl vf Fp F' Fh := by
  refine ⟨(hs.block q h.lt (fun h5 => (h.hr q h5).2.1 rfl)).trans h.blk, h.par.move (fun k hk hl => hs.block k hl (h.hp k hk).2.2.1), .inr ⟨r1, p, rfl, rfl, hb⟩, Kd.R_step h.flds (fun k hk hl => hs.block k hl (fun h5 => (h.hr k h5).2.2 hk)), ?_, ?_, ?_⟩
  · intro k hk
    have h5 := h.hp k hk
    exact ⟨Nat.lt_of_lt_of_le h5.1 hs.size, h5.2.1, fun h6 => (hF' k h6).1.elim h5.2.2.1 (fun h7 => by omega), h5.2.2.2⟩
  · intro k hk
    have h5 := hF' k hk
    refine ⟨h5.2, ?_, ?_⟩
    · rintro rfl; exact h5.1.elim (fun h6 => (h.hr k h6).2.1 rfl) (fun h6 => by have := h.lt; omega)
    · intro h7; exact h5.1.elim (fun h6 => (h.hr k h6).2.2 h7) (fun h6 => by have := (h.hh k h7).1; omega)
  · intro k hk; exact ⟨Nat.lt_of_lt_of_le (h.hh k hk).1 hs.size, (h.hh k hk).2⟩
theorem UAt.whole (h : UAt w q u kp rv vh vl vf Fp Fr Fh) : Calls Tryz.prog 60 #[rv] w fun e w' => e = .returned (.bool u.whole) ∧ Below w.heap.size w w' := by
  unfold Up.whole
  rcases h.rdr with ⟨e1, rfl⟩ | ⟨r, p, e1, rfl, h3⟩
  · rw [e1]
    exact Bod.whole_nil w
  · rw [e1]
    obtain ⟨dv, hrd, _⟩ := h3.rep
    exact Bod.whole_calls p w hrd
end
/-! ### the small functions -/
set_option maxRecDepth 100000 in
theorem whole_nil (w : World) : Calls Tryz.prog 27 #[.pointer none] w fun e w' => e = .returned (.bool false) ∧ Below w.heap.size w w' := by
  go_enter Tryz.func27, Tryz.ntmps27
  go_wp2
  go_ret
  exact ⟨rfl, Below.refl _ _⟩
set_option maxRecDepth 100000 in
theorem whole_calls (w : World) (q : Nat) (u : Up) (kp : Nat) (rv vh vl vf : Value) (Fp Fr Fh : Nat → Prop) (h : UAt w q u kp rv vh vl vf Fp Fr Fh) : Calls Tryz.prog 27 #[.pointer (some ⟨q, 0, none⟩)] w fun e w' => e = .returned (.bool u.whole) ∧ Below w.heap.size w w' := by
  have hz5 : w.cell? ⟨q, 5, none⟩ = some rv := (blk_cell h.blk 5).trans rfl
  have HW := Aside0.mk h.whole
  clear h
  go_enter Tryz.func27, Tryz.ntmps27
  go_wp2_with (go_at_call 60; go_loud (refine HW.out.mono ?_; rintro e w1 ⟨rfl, hb⟩; have HB := Aside0.mk hb; clear hb))
  go_ret
  exact ⟨rfl, HB.out⟩
set_option maxRecDepth 100000 in
theorem again_nil (w : World) : Calls Tryz.prog 41 #[.pointer none] w fun e w' => e = .returned (.bool false) ∧ Below w.heap.size w w' := by
  have HW := Aside0.mk (whole_nil w)
  go_enter Tryz.func41, Tryz.ntmps41
  go_wp2_with (go_at_call 27; go_loud (refine HW.out.mono ?_; rintro e w1 ⟨rfl, hb⟩; have HB := Aside0.mk hb; clear hb))
  go_ret
  exact ⟨rfl, HB.out⟩
set_option maxRecDepth 100000 in
theorem again_calls (w : World) (q : Nat) (u : Up) (kp : Nat) (rv vh vl vf : Value) (Fp Fr Fh : Nat → Prop) (h : UAt w q u kp rv vh vl vf Fp Fr Fh) : Calls Tryz.prog 41 #[.pointer (some ⟨q, 0, none⟩)] w fun e w' => e = .returned (.bool (u.whole && u.frm.2.2 && !u.ended)) ∧ Below w.heap.size w w' := by
  have HW := Aside0.mk (whole_calls w q u kp rv vh vl vf Fp Fr Fh h)
  have HH := Aside0.mk h
  obtain ⟨b1, e1⟩ : ∃ b, b = u.whole := ⟨_, rfl⟩
  obtain ⟨b2, e2⟩ : ∃ b, b = u.frm.2.2 := ⟨_, rfl⟩
  obtain ⟨b3, e3⟩ : ∃ b, b = u.ended := ⟨_, rfl⟩
  have E2 := Aside0.mk e2
  have E3 := Aside0.mk e3
  rw [← e1] at HW
  rw [← e1, ← e2, ← e3]
  clear h e1 e2 e3
  cases b1 <;> cases b2 <;> cases b3 <;>
    (go_enter Tryz.func41, Tryz.ntmps41
     go_wp2_with (go_at_call 27; go_loud (refine HW.out.mono ?_; rintro e w1 ⟨rfl, hb⟩; have h1 := HH.out.below hb; have hz15 := (blk_cell h1.blk 15); have hz16 := (blk_cell h1.blk 16); simp only [cellsU, ← E2.out, ← E3.out] at hz15 hz16; have HB := Aside0.mk hb; clear hb h1))
     go_ret
     exact ⟨rfl, HB.out⟩)
def FrP (f : Int × Int × Bool) (w : World) (e : Ending) (w' : World) : Prop := e = .returned (.agg #[.int .i64 f.1, .int .i64 f.2.1, .bool f.2.2]) ∧ Below w.heap.size w w'
set_option maxRecDepth 100000 in
theorem framing_nil (w : World) : Calls Tryz.prog 42 #[.pointer none] w (FrP (0, 0, false) w) := by
  have HK := Aside0.mk (blk_new w (.cells #[.int .i64 0, .int .i64 0, .bool false] 50))
  have HB : Aside0 (Below w.heap.size w (w.alloc (.cells #[.int .i64 0, .int .i64 0, .bool false] 50))) := ⟨below_alloc (Below.refl _ _) _⟩
  go_enter Tryz.func42, Tryz.ntmps42
  go_wp2
  refine bodyPost_ret (results_c rfl _ _ w.heap.size 50 #[.int .i64 0, .int .i64 0, .bool false] (0, 0) _ rfl HK.out Tryz.underlying50 rfl (by kernel_rfl)) rfl ?_
  exact ⟨rfl, HB.out⟩
end Go.Proofs.YtccolnlfjbgnmaaGreatDoor.Ups
/- A host's connection: a head is taken, by hand; own text of this session (gen_up3.py). -/
namespace Go.Proofs.YtccolnlfjbgnmaaGreatDoor.Ups
open Go.RowKit Go.Proofs.YtccolnlfjbgnmaaGreatDoorW.PrintWords Go.Proofs.YtccolnlfjbgnmaaGreatDoorW.PrintLast Chk Px Hr Hd
open Bod (Bd feedB byteB feedB_stop feedB_next feedB_count BFine newB BRep NewB newB_calls)
open Cli (live feedP_shift FrOk rtoldS_ok fsz_wt feedP_one byteB_pot feedB_potN feedB_pot newB_fine set_other)
set_option linter.unusedVariables false
set_option linter.unusedSimpArgs false
set_option maxHeartbeats 4000000 in
set_option maxRecDepth 100000 in
theorem got_bad (w : World) (q : Nat) (u : Up) (kp : Nat) (rv vh vl vf : Value) (Fp Fr Fh : Nat → Prop) (h : UAt w q u kp rv vh vl vf Fp Fr Fh) (x : Head) (A1 : Option Addr) (c1 : Nat) (h1 : x.f4 < 200) (h2 : x.f4 = 101 ∨ 8 < u.interim + 1) (hi0 : 0 ≤ u.interim) (hi1 : u.interim ≤ 9) :
    Calls Tryz.prog 77 #[.pointer (some ⟨q, 0, none⟩), .agg #[.bool x.f0, .string x.f1, .string x.f2, .int .i64 x.f3, .int .i64 x.f4, .string x.f5, .slice A1 x.f6.length c1]] w fun e w' => e = .returned (.tuple #[]) ∧ UAt w' q (gotU u x) kp rv vh vl vf Fp Fr Fh ∧ Stay (fun k => k = q) w w' := by
  have hres : gotU u x = ⟨u.meth, u.most, u.interim + 1, u.st, u.par, u.rdr, u.hd, u.frm, u.ended, 80⟩ := by unfold gotU; rw [if_pos h1, if_pos h2]
  rw [hres]
  have hA := h.below (below_alloc (o := .cells #[.bool x.f0, .string x.f1, .string x.f2, .int .i64 x.f3, .int .i64 x.f4, .string x.f5, .slice A1 x.f6.length c1] 24) (Below.refl _ _))
  have HS : Aside0 (Stay (fun k => k = q) w (w.alloc (.cells #[.bool x.f0, .string x.f1, .string x.f2, .int .i64 x.f3, .int .i64 x.f4, .string x.f5, .slice A1 x.f6.length c1] 24))) := ⟨Stay.below (below_alloc (Below.refl _ _) _)⟩
  have hz2 : (w.alloc (.cells #[.bool x.f0, .string x.f1, .string x.f2, .int .i64 x.f3, .int .i64 x.f4, .string x.f5, .slice A1 x.f6.length c1] 24)).cell? ⟨q, 2, none⟩ = some (.int .i64 u.interim) := (blk_cell hA.blk 2).trans rfl
  have hz17 := (blk_cell hA.blk 17)
  have hf2 := blk_frozen hA.blk 2
  have hf17 := blk_frozen hA.blk 17
  have hb := blk_new w (.cells #[.bool x.f0, .string x.f1, .string x.f2, .int .i64 x.f3, .int .i64 x.f4, .string x.f5, .slice A1 x.f6.length c1] 24)
  have hy4 : (w.alloc (.cells #[.bool x.f0, .string x.f1, .string x.f2, .int .i64 x.f3, .int .i64 x.f4, .string x.f5, .slice A1 x.f6.length c1] 24)).cell? ⟨w.heap.size, 4, none⟩ = some (.int .i64 x.f4) := (blk_cell hb 4).trans rfl
  have hwr : IntKind.i64.wrap (u.interim + 1) = u.interim + 1 := IntWalk.i64_in _ (by omega)
  have HA := Aside0.mk hA
  clear hres h hA hb
  by_cases h3 : x.f4 = 101
  · have hb3 : (x.f4 == 101) = true := by simpa using h3
    clear h2 h3
    go_enter Tryz.func77, Tryz.ntmps77
    go_wp2
    refine bodyPost_ret (results_none rfl _ _ _) rfl ?_
    have g1 := HA.out.scal (i := 2) (v := .int .i64 (u.interim + 1)) (u' := ⟨u.meth, u.most, u.interim + 1, u.st, u.par, u.rdr, u.hd, u.frm, u.ended, u.wrong⟩) rfl rfl rfl rfl
    exact ⟨rfl, g1.scal (i := 17) (v := .int .i64 80) rfl rfl rfl rfl, (HS.out.set (p := ⟨q, 2, none⟩) rfl _).set (p := ⟨q, 17, none⟩) rfl _⟩
  · have h4 : 8 < u.interim + 1 := h2.elim (fun e => absurd e h3) id
    have hb3 : (x.f4 == 101) = false := by simpa using h3
    clear h2
    go_enter Tryz.func77, Tryz.ntmps77
    go_wp2
    refine bodyPost_ret (results_none rfl _ _ _) rfl ?_
    have g1 := HA.out.scal (i := 2) (v := .int .i64 (u.interim + 1)) (u' := ⟨u.meth, u.most, u.interim + 1, u.st, u.par, u.rdr, u.hd, u.frm, u.ended, u.wrong⟩) rfl rfl rfl rfl
    exact ⟨rfl, g1.scal (i := 17) (v := .int .i64 80) rfl rfl rfl rfl, (HS.out.set (p := ⟨q, 2, none⟩) rfl _).set (p := ⟨q, 17, none⟩) rfl _⟩
set_option maxHeartbeats 4000000 in
set_option maxRecDepth 100000 in
theorem got_next (w : World) (q : Nat) (u : Up) (kp : Nat) (rv vh vl vf : Value) (Fp Fr Fh : Nat → Prop) (h : UAt w q u kp rv vh vl vf Fp Fr Fh) (x : Head) (A1 : Option Addr) (c1 : Nat) (h1 : x.f4 < 200) (h2 : ¬ (x.f4 = 101 ∨ 8 < u.interim + 1)) (hi0 : 0 ≤ u.interim) (hi1 : u.interim ≤ 9) (hm0 : 16 ≤ u.most) (hm1 : u.most ≤ 65536) :
    Calls Tryz.prog 77 #[.pointer (some ⟨q, 0, none⟩), .agg #[.bool x.f0, .string x.f1, .string x.f2, .int .i64 x.f3, .int .i64 x.f4, .string x.f5, .slice A1 x.f6.length c1]] w fun e w' => e = .returned (.tuple #[]) ∧ (∃ k1, UAt w' q (gotU u x) k1 rv vh (.slice none 0 0) (.slice none 0 0) (fun k => k = k1) Fr Fh ∧ w.heap.size ≤ k1) ∧ Stay (fun k => k = q) w w' := by
  have hres : gotU u x = ⟨u.meth, u.most, u.interim + 1, u.st, newPar false u.most, u.rdr, u.hd, u.frm, u.ended, u.wrong⟩ := by unfold gotU; rw [if_pos h1, if_neg h2]
  rw [hres]
  have hA := h.below (below_alloc (o := .cells #[.bool x.f0, .string x.f1, .string x.f2, .int .i64 x.f3, .int .i64 x.f4, .string x.f5, .slice A1 x.f6.length c1] 24) (Below.refl _ _))
  have HS : Aside0 (Stay (fun k => k = q) w (w.alloc (.cells #[.bool x.f0, .string x.f1, .string x.f2, .int .i64 x.f3, .int .i64 x.f4, .string x.f5, .slice A1 x.f6.length c1] 24))) := ⟨Stay.below (below_alloc (Below.refl _ _) _)⟩
  have hz2 : (w.alloc (.cells #[.bool x.f0, .string x.f1, .string x.f2, .int .i64 x.f3, .int .i64 x.f4, .string x.f5, .slice A1 x.f6.length c1] 24)).cell? ⟨q, 2, none⟩ = some (.int .i64 u.interim) := (blk_cell hA.blk 2).trans rfl
  have hz1 : (w.alloc (.cells #[.bool x.f0, .string x.f1, .string x.f2, .int .i64 x.f3, .int .i64 x.f4, .string x.f5, .slice A1 x.f6.length c1] 24)).cell? ⟨q, 1, none⟩ = some (.int .i64 u.most) := (blk_cell hA.blk 1).trans rfl
  have hf2 := blk_frozen hA.blk 2
  have hb := blk_new w (.cells #[.bool x.f0, .string x.f1, .string x.f2, .int .i64 x.f3, .int .i64 x.f4, .string x.f5, .slice A1 x.f6.length c1] 24)
  have hy4 : (w.alloc (.cells #[.bool x.f0, .string x.f1, .string x.f2, .int .i64 x.f3, .int .i64 x.f4, .string x.f5, .slice A1 x.f6.length c1] 24)).cell? ⟨w.heap.size, 4, none⟩ = some (.int .i64 x.f4) := (blk_cell hb 4).trans rfl
  have hwr : IntKind.i64.wrap (u.interim + 1) = u.interim + 1 := IntWalk.i64_in _ (by omega)
  have h3 : ¬ x.f4 = 101 := fun e => h2 (.inl e)
  have h4 : ¬ 8 < u.interim + 1 := fun e => h2 (.inr e)
  have hb3 : (x.f4 == 101) = false := by simpa using h3
  have HA := Aside0.mk hA
  have HL := Aside0.mk h
  have HN := Aside0.mk (fun W => new_calls false u.most W hm0 hm1)
  have g1 := hA.scal (i := 2) (v := .int .i64 (u.interim + 1)) (u' := ⟨u.meth, u.most, u.interim + 1, u.st, u.par, u.rdr, u.hd, u.frm, u.ended, u.wrong⟩) rfl rfl rfl rfl
  have HG1 := Aside0.mk g1
  have HSZ : Aside0 (((w.alloc (.cells #[.bool x.f0, .string x.f1, .string x.f2, .int .i64 x.f3, .int .i64 x.f4, .string x.f5, .slice A1 x.f6.length c1] 24)).setCell ⟨q, 2, none⟩ (.int .i64 (u.interim + 1))).heap.size = w.heap.size + 1) := ⟨by rw [Bod.set_size]; exact World.size_alloc ..⟩
  clear hres h hA hb g1 h2 hm0 hm1
  go_enter Tryz.func77, Tryz.ntmps77
  go_wp2_with (go_at_call 50; go_loud (refine (HN.out _).mono ?_; rintro e w1 ⟨k1, rfl, hk1, hrep, hb1⟩; have hr1 := HG1.out.below hb1; have HR1 := Aside0.mk hr1; have HB1 := Aside0.mk hb1; have HP1 := Aside0.mk hrep; have HK1 := Aside0.mk hk1; have hf4 := blk_frozen hr1.blk 4; have hy4' := blk_cell hr1.blk 4; clear hr1 hb1 hrep hk1))
  refine bodyPost_ret (results_none rfl _ _ _) rfl ?_
  refine ⟨rfl, ⟨k1, HR1.out.parSet (B := w.heap.size) (fun k hk => ?_) (by have h5 := HK1.out; rw [HSZ.out] at h5; omega) HP1.out, by have h5 := HK1.out; rw [HSZ.out] at h5; omega⟩, (stay_low (HS.out.set (p := ⟨q, 2, none⟩) rfl _) HB1.out).set (p := ⟨q, 4, none⟩) rfl _⟩
  rcases hk with e | hk | hk
  · rw [e]; exact HL.out.lt
  · exact (HL.out.hr k hk).1
  · exact (HL.out.hh k hk).1
/-- What framing.Response leaves. -/
theorem resp_calls (x : Head) (m : ByteArray) (hfs : Px.fsz x.f6 ≤ 4194304) (W : World) (A1 : Option Addr) (c1 : Nat) (hG : GInv W) (hC : Kd.C P.k37 W A1 x.f6.length x.f6) (hc : x.f6.length ≤ c1) :
    Calls Tryz.prog 102 #[.agg #[.bool x.f0, .string x.f1, .string x.f2, .int .i64 x.f3, .int .i64 x.f4, .string x.f5, .slice A1 x.f6.length c1], .string m] W fun e w1 => e = .returned (.tuple #[.agg #[.int .i64 (resS x.f0 x.f3 x.f4 x.f6 m.data.toList).1, .int .i64 (resS x.f0 x.f3 x.f4 x.f6 m.data.toList).2.1, .bool (resS x.f0 x.f3 x.f4 x.f6 m.data.toList).2.2.1], .int .i64 (resS x.f0 x.f3 x.f4 x.f6 m.data.toList).2.2.2]) ∧ Below W.heap.size W w1 := by
  obtain ⟨kk, hkk⟩ := (ev_Response x.f0 x.f1 x.f2 x.f3 x.f4 x.f5 x.f6 m hfs).rounds
  obtain ⟨⟨kd, ln, kp, er⟩, hr⟩ : ∃ r, r = resS x.f0 x.f3 x.f4 x.f6 m.data.toList := ⟨_, rfl⟩
  rw [← hr] at hkk ⊢
  exact P.framing_Response.calls kk _ _ _ _ _ _ A1 c1 _ _ _ _ _ _ W hC hc hkk hG
theorem below_weak {B B' : Nat} {w w' : World} (h : Below B w w') (hb : B' ≤ B) : Below B' w w' := ⟨h.os, h.tape, h.output, h.size, fun i hi => h.block i (by omega)⟩
theorem fr_put {wf w0 : World} {B g : Nat} (kd ln : Int) (kp : Bool) (hz : wf.heap[g]? = some (.cells #[.int .i64 0, .int .i64 0, .bool false] 50 (0, 0))) (hB : Below B w0 wf) (hg : B ≤ g) :
    ∃ W9, W9 = ((wf.setCell ⟨g, 0, none⟩ (.int .i64 kd)).setCell ⟨g, 1, none⟩ (.int .i64 ln)).setCell ⟨g, 2, none⟩ (.bool kp) ∧ W9.heap[g]? = some (.cells #[.int .i64 kd, .int .i64 ln, .bool kp] 50 (0, 0)) ∧ Below B w0 W9 :=
  ⟨_, rfl, blk_put (blk_put (blk_put hz 0 _ rfl) 1 _ rfl) 2 _ rfl, ((hB.setCell (p := ⟨g, 0, none⟩) hg _).setCell (p := ⟨g, 1, none⟩) hg _).setCell (p := ⟨g, 2, none⟩) hg _⟩
set_option maxHeartbeats 8000000 in
set_option maxRecDepth 100000 in
theorem got_high (w : World) (q : Nat) (u : Up) (kp : Nat) (rv vh vl vf : Value) (Fp Fr Fh Fx : Nat → Prop) (h : UAt w q u kp rv vh vl vf Fp Fr Fh) (hG : GInv w) (x : Head) (A1 : Option Addr) (c1 : Nat) (hR : fldK.R 37 w 0 Fx (.slice A1 x.f6.length c1) x.f6) (hx : ∀ k, Fx k → k < w.heap.size ∧ k ≠ q ∧ ¬ Fp k ∧ ¬ Fr k) (hc : x.f6.length ≤ c1) (hfs : Px.fsz x.f6 ≤ 4194304) (h1 : ¬ x.f4 < 200) :
    Calls Tryz.prog 77 #[.pointer (some ⟨q, 0, none⟩), .agg #[.bool x.f0, .string x.f1, .string x.f2, .int .i64 x.f3, .int .i64 x.f4, .string x.f5, .slice A1 x.f6.length c1]] w fun e w' => e = .returned (.tuple #[]) ∧ (∃ rv' vh' Fr' Fh', UAt w' q (gotU u x) kp rv' vh' vl vf Fp Fr' Fh' ∧ (∀ k, Fr' k → Fr k ∨ w.heap.size ≤ k) ∧ (∀ k, Fh' k → Fh k ∨ Fx k)) ∧ Stay (fun k => k = q) w w' := by
  have HRs := resp_calls x u.meth hfs
  have hok := resS_ok x.f0 x.f3 x.f4 x.f6 u.meth.data.toList
  unfold gotU
  rw [if_neg h1]
  obtain ⟨⟨kd, ln, kp_, er⟩, hr⟩ : ∃ r, r = resS x.f0 x.f3 x.f4 x.f6 u.meth.data.toList := ⟨_, rfl⟩
  rw [← hr] at HRs hok ⊢
  simp only at HRs ⊢
  have hC : Kd.C P.k37 w A1 x.f6.length x.f6 := by obtain ⟨A2, c2, e2, hc2, hC2⟩ := Kd.R_reads hR; injection e2 with e21 e22 e23; rw [e21]; exact hC2
  obtain ⟨W1, hW1⟩ : ∃ W1, W1 = (w.alloc (.cells #[.bool x.f0, .string x.f1, .string x.f2, .int .i64 x.f3, .int .i64 x.f4, .string x.f5, .slice A1 x.f6.length c1] 24)) := ⟨_, rfl⟩
  have hB : Below w.heap.size w W1 := by rw [hW1]; exact below_alloc (Below.refl _ _) _
  have hA := h.below hB
  have HRq := Aside0.mk (fun W (hW : Below w.heap.size w W) => HRs W A1 c1 (hG.below hW) (Kd.C_below hC hW) hc)
  have hb : W1.heap[w.heap.size]? = some (.cells #[.bool x.f0, .string x.f1, .string x.f2, .int .i64 x.f3, .int .i64 x.f4, .string x.f5, .slice A1 x.f6.length c1] 24 (0, 0)) := by rw [hW1]; exact blk_new w (.cells #[.bool x.f0, .string x.f1, .string x.f2, .int .i64 x.f3, .int .i64 x.f4, .string x.f5, .slice A1 x.f6.length c1] 24)
  have HSz : Aside0 (W1.heap.size = w.heap.size + 1) := ⟨by rw [hW1]; exact World.size_alloc ..⟩
  have hy4 : W1.cell? ⟨w.heap.size, 4, none⟩ = some (.int .i64 x.f4) := (blk_cell hb 4).trans rfl
  have HA := Aside0.mk hA
  have HL := Aside0.mk h
  have HLt : Aside0 (q < w.heap.size + 1) := ⟨Nat.lt_succ_of_lt h.lt⟩
  have HB := Aside0.mk hB
  have HBk := Aside0.mk hb
  have HOK := Aside0.mk hok
  have HX := Aside0.mk hx
  have HR := Aside0.mk hR
  clear h hA hb hB hr HRs hC hG hfs hok hx hR
  by_cases he : er = 0
  · have hok5 := HOK.out he
    obtain ⟨r0, hnew⟩ := newB_some hok5
    have hnb := fun W => newB_calls kd ln 9007199254740992 kp_ W hok5.kind hok5.len hok5.zero (by decide) (by decide)
    rw [if_neg (fun h5 => h5 he), hnew]
    rw [hnew] at hnb
    subst he
    have HNB := Aside0.mk hnb
    have hne : ¬ q = w.heap.size := by have := HL.out.lt; omega
    have hne2 : ¬ w.heap.size = q := fun e => hne e.symm
    clear hok5 hnew hnb
    go_enter Tryz.func77, Tryz.ntmps77
    go_wp2_with fail
    rw [← hW1] at *
    go_wp2_with fail
    have FB : Aside0 (Below (w.heap.size + 1) W1 W1.drew) := ⟨below_drew (Below.refl _ _)⟩
    refine start_ (n := 12) (S := fun w' => w'.cell? ⟨w.heap.size, 0, none⟩ = some (.bool x.f0) ∧ w'.cell? ⟨w.heap.size, 1, none⟩ = some (.string x.f1) ∧ w'.cell? ⟨w.heap.size, 2, none⟩ = some (.string x.f2) ∧ w'.cell? ⟨w.heap.size, 3, none⟩ = some (.int .i64 x.f3) ∧ w'.cell? ⟨w.heap.size, 4, none⟩ = some (.int .i64 x.f4) ∧ w'.cell? ⟨w.heap.size, 5, none⟩ = some (.string x.f5) ∧ w'.cell? ⟨w.heap.size, 6, none⟩ = some (.slice A1 x.f6.length c1) ∧ w'.cell? ⟨q, 0, none⟩ = some (.string u.meth)) (ds := []) #[false, false, false, false, false, false, false, false, false, false, false, false] (by kernel_rfl) rfl rfl ((by have hk := (FB.out.block w.heap.size (Nat.lt_succ_self _)).trans HBk.out; have hq := (FB.out.block q HLt.out).trans HA.out.blk; exact ⟨(blk_cell hk 0).trans rfl, (blk_cell hk 1).trans rfl, (blk_cell hk 2).trans rfl, (blk_cell hk 3).trans rfl, (blk_cell hk 4).trans rfl, (blk_cell hk 5).trans rfl, (blk_cell hk 6).trans rfl, (blk_cell hq 0).trans rfl⟩)) (fun hHeld => ?_)
    generalize W1.drew = wa at FB hHeld ⊢
    refine pure_ (i := 1) (N := some 42) (v := ?_) (a' := ?_) #[false, true, false, false, false, false, false, false, false, false, false, false] rfl rfl (by kernel_rfl) (fun _ _ _ h => h) (Or.inl ⟨by rfl, ?_⟩) ?_ ?_
    rotate_left
    · intro w'
      go_simp
      with_reducible rfl
    rotate_left
    · simp only [Act.put, List.setIfInBounds_toArray, List.set_cons_zero, List.set_cons_succ, i64_w, i32_w]
      rfl
    refine pure_ (i := 2) (N := some 43) (v := ?_) (a' := ?_) #[false, true, true, false, false, false, false, false, false, false, false, false] rfl rfl (by kernel_rfl) (fun _ _ _ h => h) (Or.inl ⟨by rfl, ?_⟩) ?_ ?_
    rotate_left
    · intro w'
      go_simp
      with_reducible rfl
    rotate_left
    · simp only [Act.put, List.setIfInBounds_toArray, List.set_cons_zero, List.set_cons_succ, i64_w, i32_w]
      rfl
    refine pure_ (i := 3) (N := some 44) (v := ?_) (a' := ?_) #[false, true, true, true, false, false, false, false, false, false, false, false] rfl rfl (by kernel_rfl) (fun _ _ _ h => h) (Or.inl ⟨by rfl, ?_⟩) ?_ ?_
    rotate_left
    · intro w'
      go_simp
      with_reducible rfl
    rotate_left
    · simp only [Act.put, List.setIfInBounds_toArray, List.set_cons_zero, List.set_cons_succ, i64_w, i32_w]
      rfl
    refine take_ (i := 0) (N := some 41) (v := ?_) (a' := ?_) #[true, true, true, true, false, false, false, false, false, false, false, false] rfl rfl (by kernel_rfl) (fun _ _ _ h => h) (Or.inl ⟨by rfl, ?_⟩) hHeld ?_ ?_
    rotate_left
    · rintro w' ⟨s0, s1, s2, s3, s4, s5, s6, t0⟩
      go_simp
      with_reducible rfl
    rotate_left
    · simp only [Act.put, List.setIfInBounds_toArray, List.set_cons_zero, List.set_cons_succ, i64_w, i32_w]
      rfl
    refine take_ (i := 4) (N := some 45) (v := ?_) (a' := ?_) #[true, true, true, true, true, false, false, false, false, false, false, false] rfl rfl (by kernel_rfl) (fun _ _ _ h => h) (Or.inl ⟨by rfl, ?_⟩) hHeld ?_ ?_
    rotate_left
    · rintro w' ⟨s0, s1, s2, s3, s4, s5, s6, t0⟩
      go_simp
      with_reducible rfl
    rotate_left
    · simp only [Act.put, List.setIfInBounds_toArray, List.set_cons_zero, List.set_cons_succ, i64_w, i32_w]
      rfl
    refine join_ (σ := Nat) 2 #[true, true, true, true, true, true, true, true, true, true, false, false] (fun s_ => [(46, .tuple #[.agg #[.int .i64 kd, .int .i64 ln, .bool kp_], .int .i64 0]), (40, .tuple #[.agg #[.int .i64 kd, .int .i64 ln, .bool kp_], .int .i64 0]), (47, .agg #[.int .i64 kd, .int .i64 ln, .bool kp_]), (48, .int .i64 0), (4, .pointer (some ⟨s_, 0, none⟩))]) (fun s_ w' => w'.heap[s_]? = some (.cells #[.int .i64 0, .int .i64 0, .bool false] 50 (0, 0)) ∧ w.heap.size + 1 ≤ s_ ∧ Below (w.heap.size + 1) W1 w') ?_ ?_
    rotate_left
    · intro hCont
      refine two_ (i := 5) (j := 9) (Ni := some 46) (Nj := some 4) #[true, true, true, true, true, true, false, false, false, false, false, false] #[true, true, true, true, true, false, false, false, false, true, false, false] rfl rfl rfl rfl (by kernel_rfl) (by decide) (by decide) (fun K hK => ?_) (fun K hK => ?_)
      · skip
        refine goes_ Tryz.func102 (by kernel_rfl) rfl #[.agg #[.bool x.f0, .string x.f1, .string x.f2, .int .i64 x.f3, .int .i64 x.f4, .string x.f5, .slice A1 x.f6.length c1], .string u.meth] (by rfl) rfl rfl (by (try simp only [List.map_toArray, List.map_cons, List.map_nil]); first | done | rfl) ?_
        with_reducible refine (HRq.out _ (HB.out.trans (below_weak FB.out (Nat.le_succ _)))).mono ?_
        rintro e wd ⟨rfl, hb⟩
        refine ⟨_, rfl, ?_⟩
        have n0 : Aside0 (Below (w.heap.size + 1) W1 wd) := ⟨Below.trans FB.out (below_weak (B' := w.heap.size + 1) hb (by have := FB.out.size; have := HSz.out; omega))⟩
        clear FB
        have FB := n0
        clear n0
        clear hb
        refine hK.out _ _ ((by have hk := (FB.out.block w.heap.size (Nat.lt_succ_self _)).trans HBk.out; have hq := (FB.out.block q HLt.out).trans HA.out.blk; exact ⟨(blk_cell hk 0).trans rfl, (blk_cell hk 1).trans rfl, (blk_cell hk 2).trans rfl, (blk_cell hk 3).trans rfl, (blk_cell hk 4).trans rfl, (blk_cell hk 5).trans rfl, (blk_cell hk 6).trans rfl, (blk_cell hq 0).trans rfl⟩)) (fun hHeld => ?_)
        clear hK K
        refine norm_ (a' := ?_) ?_ ?_
        rotate_left
        · show Act.put _ (some 46) _ = _
          simp only [Act.put, List.setIfInBounds_toArray, List.set_cons_zero, List.set_cons_succ, i64_w, i32_w]
          rfl
        refine pure_ (i := 6) (N := some 40) (v := ?_) (a' := ?_) #[true, true, true, true, true, true, true, false, false, false, false, false] rfl rfl (by kernel_rfl) (fun _ _ _ h => h) (Or.inl ⟨by rfl, ?_⟩) ?_ ?_
        rotate_left
        · intro w'
          go_simp
          with_reducible rfl
        rotate_left
        · simp only [Act.put, List.setIfInBounds_toArray, List.set_cons_zero, List.set_cons_succ, i64_w, i32_w]
          rfl
        refine pure_ (i := 7) (N := some 47) (v := ?_) (a' := ?_) #[true, true, true, true, true, true, true, true, false, false, false, false] rfl rfl (by kernel_rfl) (fun _ _ _ h => h) (Or.inl ⟨by rfl, ?_⟩) ?_ ?_
        rotate_left
        · intro w'
          go_simp
          with_reducible rfl
        rotate_left
        · simp only [Act.put, List.setIfInBounds_toArray, List.set_cons_zero, List.set_cons_succ, i64_w, i32_w]
          rfl
        refine pure_ (i := 8) (N := some 48) (v := ?_) (a' := ?_) #[true, true, true, true, true, true, true, true, true, false, false, false] rfl rfl (by kernel_rfl) (fun _ _ _ h => h) (Or.inl ⟨by rfl, ?_⟩) ?_ ?_
        rotate_left
        · intro w'
          go_simp
          with_reducible rfl
        rotate_left
        · simp only [Act.put, List.setIfInBounds_toArray, List.set_cons_zero, List.set_cons_succ, i64_w, i32_w]
          rfl
        refine one_ (i := 9) (N := some 4) #[true, true, true, true, true, true, true, true, true, true, false, false] rfl rfl (by kernel_rfl) (by decide) (fun K hK => ?_)
        refine box_step ?hg (N := 4) ?hd (cs := #[.int .i64 0, .int .i64 0, .bool false]) (t := 50) ?hr ?_; (case hd => rfl); (case hg => rfl); (case hr => first | (go_simp; done) | (go_simp; rfl))
        intro g hg we hbox hb
        have FG : Aside0 (w.heap.size + 1 ≤ g) := ⟨by have h5 := FB.out.size; have h6 := HSz.out; omega⟩
        have n0 : Aside0 (Below (w.heap.size + 1) W1 we) := ⟨Below.trans FB.out (below_weak (B' := w.heap.size + 1) hb (by have := FB.out.size; have := HSz.out; omega))⟩
        clear FB
        have FB := n0
        clear n0
        have FZ := Aside0.mk hbox
        clear hg hbox hb
        refine hK.out _ _ ((by have hk := (FB.out.block w.heap.size (Nat.lt_succ_self _)).trans HBk.out; have hq := (FB.out.block q HLt.out).trans HA.out.blk; exact ⟨(blk_cell hk 0).trans rfl, (blk_cell hk 1).trans rfl, (blk_cell hk 2).trans rfl, (blk_cell hk 3).trans rfl, (blk_cell hk 4).trans rfl, (blk_cell hk 5).trans rfl, (blk_cell hk 6).trans rfl, (blk_cell hq 0).trans rfl⟩)) (fun hHeld => ?_)
        clear hK K
        refine norm_ (a' := ?_) ?_ ?_
        rotate_left
        · show Act.put _ (some 4) _ = _
          simp only [Act.put, List.setIfInBounds_toArray, List.set_cons_zero, List.set_cons_succ, i64_w, i32_w]
          rfl
        exact norm_ (by simp only [putAll, Act.put, List.setIfInBounds_toArray, List.set_cons_zero, List.set_cons_succ]) (hCont g _ ⟨FZ.out, FG.out, FB.out⟩)
      · skip
        refine box_step ?hg (N := 4) ?hd (cs := #[.int .i64 0, .int .i64 0, .bool false]) (t := 50) ?hr ?_; (case hd => rfl); (case hg => rfl); (case hr => first | (go_simp; done) | (go_simp; rfl))
        intro g hg we hbox hb
        have FG : Aside0 (w.heap.size + 1 ≤ g) := ⟨by have h5 := FB.out.size; have h6 := HSz.out; omega⟩
        have n0 : Aside0 (Below (w.heap.size + 1) W1 we) := ⟨Below.trans FB.out (below_weak (B' := w.heap.size + 1) hb (by have := FB.out.size; have := HSz.out; omega))⟩
        clear FB
        have FB := n0
        clear n0
        have FZ := Aside0.mk hbox
        clear hg hbox hb
        refine hK.out _ _ ((by have hk := (FB.out.block w.heap.size (Nat.lt_succ_self _)).trans HBk.out; have hq := (FB.out.block q HLt.out).trans HA.out.blk; exact ⟨(blk_cell hk 0).trans rfl, (blk_cell hk 1).trans rfl, (blk_cell hk 2).trans rfl, (blk_cell hk 3).trans rfl, (blk_cell hk 4).trans rfl, (blk_cell hk 5).trans rfl, (blk_cell hk 6).trans rfl, (blk_cell hq 0).trans rfl⟩)) (fun hHeld => ?_)
        clear hK K
        refine norm_ (a' := ?_) ?_ ?_
        rotate_left
        · show Act.put _ (some 4) _ = _
          simp only [Act.put, List.setIfInBounds_toArray, List.set_cons_zero, List.set_cons_succ, i64_w, i32_w]
          rfl
        refine one_ (i := 5) (N := some 46) #[true, true, true, true, true, true, false, false, false, true, false, false] rfl rfl (by kernel_rfl) (by decide) (fun K hK => ?_)
        refine goes_ Tryz.func102 (by kernel_rfl) rfl #[.agg #[.bool x.f0, .string x.f1, .string x.f2, .int .i64 x.f3, .int .i64 x.f4, .string x.f5, .slice A1 x.f6.length c1], .string u.meth] (by rfl) rfl rfl (by (try simp only [List.map_toArray, List.map_cons, List.map_nil]); first | done | rfl) ?_
        with_reducible refine (HRq.out _ (HB.out.trans (below_weak FB.out (Nat.le_succ _)))).mono ?_
        rintro e wd ⟨rfl, hb⟩
        refine ⟨_, rfl, ?_⟩
        have n0 : Aside0 (Below (w.heap.size + 1) W1 wd) := ⟨Below.trans FB.out (below_weak (B' := w.heap.size + 1) hb (by have := FB.out.size; have := HSz.out; omega))⟩
        have n2 := Aside0.mk (blk_below FZ.out hb)
        clear FB FZ
        have FB := n0
        have FZ := n2
        clear n0 n2
        clear hb
        refine hK.out _ _ ((by have hk := (FB.out.block w.heap.size (Nat.lt_succ_self _)).trans HBk.out; have hq := (FB.out.block q HLt.out).trans HA.out.blk; exact ⟨(blk_cell hk 0).trans rfl, (blk_cell hk 1).trans rfl, (blk_cell hk 2).trans rfl, (blk_cell hk 3).trans rfl, (blk_cell hk 4).trans rfl, (blk_cell hk 5).trans rfl, (blk_cell hk 6).trans rfl, (blk_cell hq 0).trans rfl⟩)) (fun hHeld => ?_)
        clear hK K
        refine norm_ (a' := ?_) ?_ ?_
        rotate_left
        · show Act.put _ (some 46) _ = _
          simp only [Act.put, List.setIfInBounds_toArray, List.set_cons_zero, List.set_cons_succ, i64_w, i32_w]
          rfl
        refine pure_ (i := 6) (N := some 40) (v := ?_) (a' := ?_) #[true, true, true, true, true, true, true, false, false, true, false, false] rfl rfl (by kernel_rfl) (fun _ _ _ h => h) (Or.inl ⟨by rfl, ?_⟩) ?_ ?_
        rotate_left
        · intro w'
          go_simp
          with_reducible rfl
        rotate_left
        · simp only [Act.put, List.setIfInBounds_toArray, List.set_cons_zero, List.set_cons_succ, i64_w, i32_w]
          rfl
        refine pure_ (i := 7) (N := some 47) (v := ?_) (a' := ?_) #[true, true, true, true, true, true, true, true, false, true, false, false] rfl rfl (by kernel_rfl) (fun _ _ _ h => h) (Or.inl ⟨by rfl, ?_⟩) ?_ ?_
        rotate_left
        · intro w'
          go_simp
          with_reducible rfl
        rotate_left
        · simp only [Act.put, List.setIfInBounds_toArray, List.set_cons_zero, List.set_cons_succ, i64_w, i32_w]
          rfl
        refine pure_ (i := 8) (N := some 48) (v := ?_) (a' := ?_) #[true, true, true, true, true, true, true, true, true, true, false, false] rfl rfl (by kernel_rfl) (fun _ _ _ h => h) (Or.inl ⟨by rfl, ?_⟩) ?_ ?_
        rotate_left
        · intro w'
          go_simp
          with_reducible rfl
        rotate_left
        · simp only [Act.put, List.setIfInBounds_toArray, List.set_cons_zero, List.set_cons_succ, i64_w, i32_w]
          rfl
        exact norm_ (by simp only [putAll, Act.put, List.setIfInBounds_toArray, List.set_cons_zero, List.set_cons_succ]) (hCont g _ ⟨FZ.out, FG.out, FB.out⟩)
    rintro g wf ⟨hz, hg2, hb⟩
    clear FB
    have FB := Aside0.mk hb
    have FG := Aside0.mk hg2
    have hHeld : (fun w' => w'.cell? ⟨w.heap.size, 0, none⟩ = some (.bool x.f0) ∧ w'.cell? ⟨w.heap.size, 1, none⟩ = some (.string x.f1) ∧ w'.cell? ⟨w.heap.size, 2, none⟩ = some (.string x.f2) ∧ w'.cell? ⟨w.heap.size, 3, none⟩ = some (.int .i64 x.f3) ∧ w'.cell? ⟨w.heap.size, 4, none⟩ = some (.int .i64 x.f4) ∧ w'.cell? ⟨w.heap.size, 5, none⟩ = some (.string x.f5) ∧ w'.cell? ⟨w.heap.size, 6, none⟩ = some (.slice A1 x.f6.length c1) ∧ w'.cell? ⟨q, 0, none⟩ = some (.string u.meth)) wf := (by have hk := (FB.out.block w.heap.size (Nat.lt_succ_self _)).trans HBk.out; have hq := (FB.out.block q HLt.out).trans HA.out.blk; exact ⟨(blk_cell hk 0).trans rfl, (blk_cell hk 1).trans rfl, (blk_cell hk 2).trans rfl, (blk_cell hk 3).trans rfl, (blk_cell hk 4).trans rfl, (blk_cell hk 5).trans rfl, (blk_cell hk 6).trans rfl, (blk_cell hq 0).trans rfl⟩)
    have z0 : wf.cell? ⟨g, 0, none⟩ = some (.int .i64 0) := (blk_cell hz 0).trans rfl
    have f0 := blk_frozen hz 0
    have z1 : wf.cell? ⟨g, 1, none⟩ = some (.int .i64 0) := (blk_cell hz 1).trans rfl
    have f1 := blk_frozen hz 1
    have z2 : wf.cell? ⟨g, 2, none⟩ = some (.bool false) := (blk_cell hz 2).trans rfl
    have f2 := blk_frozen hz 2
    have FZ := Aside0.mk hz
    clear hz hg2 hb
    try dsimp only
    refine norm_ (a' := ?_) ?_ ?_
    rotate_left
    · simp only [putAll, Act.put, List.setIfInBounds_toArray, List.set_cons_zero, List.set_cons_succ]
      rfl
    refine one_ (i := 10) (N := none) #[true, true, true, true, true, true, true, true, true, true, true, false] rfl rfl (by kernel_rfl) (by decide) (fun K hK => ?_)
    refine skip_ (w1 := ?_) (by rfl) rfl ?_ ?_
    rotate_left
    · go_simp
      rfl
    obtain ⟨w9, hw9, hz, hb⟩ := fr_put kd ln kp_ FZ.out FB.out FG.out
    rw [← hw9]
    clear hw9 FB FZ hHeld z0 f0 z1 f1 z2 f2
    have FB := Aside0.mk hb
    have FZ := Aside0.mk hz
    clear hz hb
    refine hK.out _ _ ((by have hk := (FB.out.block w.heap.size (Nat.lt_succ_self _)).trans HBk.out; have hq := (FB.out.block q HLt.out).trans HA.out.blk; exact ⟨(blk_cell hk 0).trans rfl, (blk_cell hk 1).trans rfl, (blk_cell hk 2).trans rfl, (blk_cell hk 3).trans rfl, (blk_cell hk 4).trans rfl, (blk_cell hk 5).trans rfl, (blk_cell hk 6).trans rfl, (blk_cell hq 0).trans rfl⟩)) (fun hHeld => ?_)
    clear hK K
    refine pure_ (i := 11) (N := some 5) (v := ?_) (a' := ?_) #[true, true, true, true, true, true, true, true, true, true, true, true] rfl rfl (by kernel_rfl) (fun _ _ _ h => h) (Or.inl ⟨by rfl, ?_⟩) ?_ ?_
    rotate_left
    · intro w'
      go_simp
      with_reducible rfl
    rotate_left
    · simp only [Act.put, List.setIfInBounds_toArray, List.set_cons_zero, List.set_cons_succ, i64_w, i32_w]
      rfl
    refine done_ (by kernel_rfl) ?_
    have h9 := HA.out.below (by rw [HSz.out]; exact FB.out)
    have HB9 : Aside0 (Below w.heap.size w w9) := ⟨HB.out.trans (below_weak FB.out (Nat.le_succ _))⟩
    have H9 := Aside0.mk h9
    have hg0 : w9.cell? ⟨g, 0, none⟩ = some (.int .i64 kd) := (blk_cell FZ.out 0).trans rfl
    have hg1 : w9.cell? ⟨g, 1, none⟩ = some (.int .i64 ln) := (blk_cell FZ.out 1).trans rfl
    have hg2 : w9.cell? ⟨g, 2, none⟩ = some (.bool kp_) := (blk_cell FZ.out 2).trans rfl
    have hk9 := (FB.out.block w.heap.size (Nat.lt_succ_self _)).trans HBk.out
    have HK9 := Aside0.mk hk9
    have hne3 : ¬ q = g := by have := HL.out.lt; have := FG.out; omega
    have hne4 : ¬ g = q := fun e => hne3 e.symm
    clear h9 hk9 hHeld hy4
    go_wp2_with (go_at_call 103; go_loud (refine (HNB.out _).mono ?_; rintro e w3 ⟨hb3, pr, rfl, hbr⟩; have h3 := H9.out.below hb3; have H3 := Aside0.mk h3; have HB3 := Aside0.mk hb3; have HBR := Aside0.mk hbr; have hk3 := (blk_below HK9.out hb3); have hz3 := blk_below FZ.out hb3; have hq3 : w3.cell? ⟨q, 3, none⟩ = some (.func (.func (stF u.st)) #[.pointer (some ⟨q, 0, none⟩)] #[]) := (blk_cell h3.blk 3).trans rfl; have hf3 := blk_frozen h3.blk 3; have hq5 : w3.cell? ⟨q, 5, none⟩ = some (rv) := (blk_cell h3.blk 5).trans rfl; have hf5 := blk_frozen h3.blk 5; have hq6 : w3.cell? ⟨q, 6, none⟩ = some (.bool u.hd.f0) := (blk_cell h3.blk 6).trans rfl; have hf6 := blk_frozen h3.blk 6; have hq7 : w3.cell? ⟨q, 7, none⟩ = some (.string u.hd.f1) := (blk_cell h3.blk 7).trans rfl; have hf7 := blk_frozen h3.blk 7; have hq8 : w3.cell? ⟨q, 8, none⟩ = some (.string u.hd.f2) := (blk_cell h3.blk 8).trans rfl; have hf8 := blk_frozen h3.blk 8; have hq9 : w3.cell? ⟨q, 9, none⟩ = some (.int .i64 u.hd.f3) := (blk_cell h3.blk 9).trans rfl; have hf9 := blk_frozen h3.blk 9; have hq10 : w3.cell? ⟨q, 10, none⟩ = some (.int .i64 u.hd.f4) := (blk_cell h3.blk 10).trans rfl; have hf10 := blk_frozen h3.blk 10; have hq11 : w3.cell? ⟨q, 11, none⟩ = some (.string u.hd.f5) := (blk_cell h3.blk 11).trans rfl; have hf11 := blk_frozen h3.blk 11; have hq12 : w3.cell? ⟨q, 12, none⟩ = some (vh) := (blk_cell h3.blk 12).trans rfl; have hf12 := blk_frozen h3.blk 12; have hq13 : w3.cell? ⟨q, 13, none⟩ = some (.int .i64 u.frm.1) := (blk_cell h3.blk 13).trans rfl; have hf13 := blk_frozen h3.blk 13; have hq14 : w3.cell? ⟨q, 14, none⟩ = some (.int .i64 u.frm.2.1) := (blk_cell h3.blk 14).trans rfl; have hf14 := blk_frozen h3.blk 14; have hq15 : w3.cell? ⟨q, 15, none⟩ = some (.bool u.frm.2.2) := (blk_cell h3.blk 15).trans rfl; have hf15 := blk_frozen h3.blk 15; have hq17 : w3.cell? ⟨q, 17, none⟩ = some (.int .i64 u.wrong) := (blk_cell h3.blk 17).trans rfl; have hf17 := blk_frozen h3.blk 17; have hx0 : w3.cell? ⟨w.heap.size, 0, none⟩ = some (.bool x.f0) := (blk_cell hk3 0).trans rfl; have hx1 : w3.cell? ⟨w.heap.size, 1, none⟩ = some (.string x.f1) := (blk_cell hk3 1).trans rfl; have hx2 : w3.cell? ⟨w.heap.size, 2, none⟩ = some (.string x.f2) := (blk_cell hk3 2).trans rfl; have hx3 : w3.cell? ⟨w.heap.size, 3, none⟩ = some (.int .i64 x.f3) := (blk_cell hk3 3).trans rfl; have hx4 : w3.cell? ⟨w.heap.size, 4, none⟩ = some (.int .i64 x.f4) := (blk_cell hk3 4).trans rfl; have hx5 : w3.cell? ⟨w.heap.size, 5, none⟩ = some (.string x.f5) := (blk_cell hk3 5).trans rfl; have hx6 : w3.cell? ⟨w.heap.size, 6, none⟩ = some (.slice A1 x.f6.length c1) := (blk_cell hk3 6).trans rfl; have hv0 : w3.cell? ⟨g, 0, none⟩ = some (.int .i64 kd) := (blk_cell hz3 0).trans rfl; have hv1 : w3.cell? ⟨g, 1, none⟩ = some (.int .i64 ln) := (blk_cell hz3 1).trans rfl; have hv2 : w3.cell? ⟨g, 2, none⟩ = some (.bool kp_) := (blk_cell hz3 2).trans rfl;  clear h3 hb3 hbr hk3 hz3 hg0 hg1 hg2))
    go_region
    all_goals
      have HBw3 : Aside0 (Below w.heap.size w w3) := ⟨below_step HB9.out HB3.out⟩
      have a0 := H3.out.rdrSet (B := w9.heap.size) (fun k hk => by have h9 := HB9.out.size; rcases hk with e | hk | hk; (have := HL.out.lt; omega); (have := (HL.out.hp k hk).1; omega); (have := (HL.out.hh k hk).1; omega)) HBR.out
      have a1 := a0.scal (i := 17) (v := .int .i64 0) (u' := ⟨u.meth, u.most, u.interim, u.st, u.par, some r0, ⟨u.hd.f0, u.hd.f1, u.hd.f2, u.hd.f3, u.hd.f4, u.hd.f5, u.hd.f6⟩, (u.frm.1, u.frm.2.1, u.frm.2.2), u.ended, 0⟩) rfl rfl rfl rfl
      have a2 := a1.scal (i := 6) (v := .bool x.f0) (u' := ⟨u.meth, u.most, u.interim, u.st, u.par, some r0, ⟨x.f0, u.hd.f1, u.hd.f2, u.hd.f3, u.hd.f4, u.hd.f5, u.hd.f6⟩, (u.frm.1, u.frm.2.1, u.frm.2.2), u.ended, 0⟩) rfl rfl rfl rfl
      have a3 := a2.scal (i := 7) (v := .string x.f1) (u' := ⟨u.meth, u.most, u.interim, u.st, u.par, some r0, ⟨x.f0, x.f1, u.hd.f2, u.hd.f3, u.hd.f4, u.hd.f5, u.hd.f6⟩, (u.frm.1, u.frm.2.1, u.frm.2.2), u.ended, 0⟩) rfl rfl rfl rfl
      have a4 := a3.scal (i := 8) (v := .string x.f2) (u' := ⟨u.meth, u.most, u.interim, u.st, u.par, some r0, ⟨x.f0, x.f1, x.f2, u.hd.f3, u.hd.f4, u.hd.f5, u.hd.f6⟩, (u.frm.1, u.frm.2.1, u.frm.2.2), u.ended, 0⟩) rfl rfl rfl rfl
      have a5 := a4.scal (i := 9) (v := .int .i64 x.f3) (u' := ⟨u.meth, u.most, u.interim, u.st, u.par, some r0, ⟨x.f0, x.f1, x.f2, x.f3, u.hd.f4, u.hd.f5, u.hd.f6⟩, (u.frm.1, u.frm.2.1, u.frm.2.2), u.ended, 0⟩) rfl rfl rfl rfl
      have a6 := a5.scal (i := 10) (v := .int .i64 x.f4) (u' := ⟨u.meth, u.most, u.interim, u.st, u.par, some r0, ⟨x.f0, x.f1, x.f2, x.f3, x.f4, u.hd.f5, u.hd.f6⟩, (u.frm.1, u.frm.2.1, u.frm.2.2), u.ended, 0⟩) rfl rfl rfl rfl
      have a7 := a6.scal (i := 11) (v := .string x.f5) (u' := ⟨u.meth, u.most, u.interim, u.st, u.par, some r0, ⟨x.f0, x.f1, x.f2, x.f3, x.f4, x.f5, u.hd.f6⟩, (u.frm.1, u.frm.2.1, u.frm.2.2), u.ended, 0⟩) rfl rfl rfl rfl
      have a8 := a7.fldSet (v := .slice A1 x.f6.length c1) (l := x.f6) (Fx := Fx) (Kd.R_step HR.out (fun k hk _ => by have h7 := (HX.out k hk).2.1; rw [set_other _ _ k h7, set_other _ _ k h7, set_other _ _ k h7, set_other _ _ k h7, set_other _ _ k h7, set_other _ _ k h7, set_other _ _ k h7, set_other _ _ k h7]; exact HBw3.out.block k (HX.out k hk).1)) (fun k hk => by have h7 := HX.out k hk; have h8 := HB9.out.size; have h9 := HBw3.out.size; refine ⟨?_, h7.2.1, h7.2.2.1, fun h10 => by have := h10.1; omega⟩; rw [Bod.set_size, Bod.set_size, Bod.set_size, Bod.set_size, Bod.set_size, Bod.set_size, Bod.set_size, Bod.set_size]; omega)
      have a9 := a8.scal (i := 13) (v := .int .i64 kd) (u' := ⟨u.meth, u.most, u.interim, u.st, u.par, some r0, ⟨x.f0, x.f1, x.f2, x.f3, x.f4, x.f5, x.f6⟩, (kd, u.frm.2.1, u.frm.2.2), u.ended, 0⟩) rfl rfl rfl rfl
      have a10 := a9.scal (i := 14) (v := .int .i64 ln) (u' := ⟨u.meth, u.most, u.interim, u.st, u.par, some r0, ⟨x.f0, x.f1, x.f2, x.f3, x.f4, x.f5, x.f6⟩, (kd, ln, u.frm.2.2), u.ended, 0⟩) rfl rfl rfl rfl
      have a11 := a10.scal (i := 15) (v := .bool kp_) (u' := ⟨u.meth, u.most, u.interim, u.st, u.par, some r0, ⟨x.f0, x.f1, x.f2, x.f3, x.f4, x.f5, x.f6⟩, (kd, ln, kp_), u.ended, 0⟩) rfl rfl rfl rfl
      have a12 := a11.below (below_drew (Below.refl _ _))
      obtain ⟨W4, hW4, A12, S12⟩ : ∃ W4, W4 = ((((((((((((w3.setCell ⟨q, 5, none⟩ (.pointer (some ⟨pr, 0, none⟩))).setCell ⟨q, 17, none⟩ (.int .i64 0)).setCell ⟨q, 6, none⟩ (.bool x.f0)).setCell ⟨q, 7, none⟩ (.string x.f1)).setCell ⟨q, 8, none⟩ (.string x.f2)).setCell ⟨q, 9, none⟩ (.int .i64 x.f3)).setCell ⟨q, 10, none⟩ (.int .i64 x.f4)).setCell ⟨q, 11, none⟩ (.string x.f5)).setCell ⟨q, 12, none⟩ (.slice A1 x.f6.length c1)).setCell ⟨q, 13, none⟩ (.int .i64 kd)).setCell ⟨q, 14, none⟩ (.int .i64 ln)).setCell ⟨q, 15, none⟩ (.bool kp_)).drew ∧ Aside0 (UAt W4 q ⟨u.meth, u.most, u.interim, u.st, u.par, some r0, x, (kd, ln, kp_), u.ended, 0⟩ kp (.pointer (some ⟨pr, 0, none⟩)) (.slice A1 x.f6.length c1) vl vf Fp (fun k => w9.heap.size ≤ k ∧ k < w3.heap.size) Fx) ∧ Aside0 (Stay (fun k => k = q) w W4) := ⟨_, rfl, ⟨a12⟩, ⟨stay_low (((((((((((((Stay.below (F := fun k => k = q) HBw3.out).set (p := ⟨q, 5, none⟩) rfl _).set (p := ⟨q, 17, none⟩) rfl _).set (p := ⟨q, 6, none⟩) rfl _).set (p := ⟨q, 7, none⟩) rfl _).set (p := ⟨q, 8, none⟩) rfl _).set (p := ⟨q, 9, none⟩) rfl _).set (p := ⟨q, 10, none⟩) rfl _).set (p := ⟨q, 11, none⟩) rfl _).set (p := ⟨q, 12, none⟩) rfl _).set (p := ⟨q, 13, none⟩) rfl _).set (p := ⟨q, 14, none⟩) rfl _).set (p := ⟨q, 15, none⟩) rfl _) (below_drew (Below.refl _ _))⟩⟩
      rw [← hW4]
      have p3 : W4.cell? ⟨q, 3, none⟩ = some (.func (.func (stF u.st)) #[.pointer (some ⟨q, 0, none⟩)] #[]) := (blk_cell A12.out.blk 3).trans rfl
      have g3 := blk_frozen A12.out.blk 3
      clear hW4 a0 a1 a2 a3 a4 a5 a6 a7 a8 a9 a10 a11 a12 hq3 hf3 hq5 hf5 hq6 hf6 hq7 hf7 hq8 hf8 hq9 hf9 hq10 hf10 hq11 hf11 hq12 hf12 hq13 hf13 hq14 hf14 hq15 hf15 hq17 hf17 hx0 hx1 hx2 hx3 hx4 hx5 hx6 hv0 hv1 hv2
      go_wp2
      go_end0
      refine ⟨rfl, ⟨_, _, _, _, A12.out.scal (i := 3) (v := .func (.func (stF 1)) #[.pointer (some ⟨q, 0, none⟩)] #[]) (u' := ⟨u.meth, u.most, u.interim, 1, u.par, some r0, x, (kd, ln, kp_), u.ended, 0⟩) rfl rfl rfl rfl, fun k hk => .inr (by have h8 := HB9.out.size; have := hk.1; omega), fun k hk => .inr hk⟩, S12.out.set (p := ⟨q, 3, none⟩) rfl _⟩
  · have be : (er != 0) = true := by simpa using he
    rw [if_pos he]
    go_enter Tryz.func77, Tryz.ntmps77
    go_wp2_with fail
    rw [← hW1] at *
    go_wp2_with fail
    have FB : Aside0 (Below (w.heap.size + 1) W1 W1.drew) := ⟨below_drew (Below.refl _ _)⟩
    refine start_ (n := 12) (S := fun w' => w'.cell? ⟨w.heap.size, 0, none⟩ = some (.bool x.f0) ∧ w'.cell? ⟨w.heap.size, 1, none⟩ = some (.string x.f1) ∧ w'.cell? ⟨w.heap.size, 2, none⟩ = some (.string x.f2) ∧ w'.cell? ⟨w.heap.size, 3, none⟩ = some (.int .i64 x.f3) ∧ w'.cell? ⟨w.heap.size, 4, none⟩ = some (.int .i64 x.f4) ∧ w'.cell? ⟨w.heap.size, 5, none⟩ = some (.string x.f5) ∧ w'.cell? ⟨w.heap.size, 6, none⟩ = some (.slice A1 x.f6.length c1) ∧ w'.cell? ⟨q, 0, none⟩ = some (.string u.meth)) (ds := []) #[false, false, false, false, false, false, false, false, false, false, false, false] (by kernel_rfl) rfl rfl ((by have hk := (FB.out.block w.heap.size (Nat.lt_succ_self _)).trans HBk.out; have hq := (FB.out.block q HLt.out).trans HA.out.blk; exact ⟨(blk_cell hk 0).trans rfl, (blk_cell hk 1).trans rfl, (blk_cell hk 2).trans rfl, (blk_cell hk 3).trans rfl, (blk_cell hk 4).trans rfl, (blk_cell hk 5).trans rfl, (blk_cell hk 6).trans rfl, (blk_cell hq 0).trans rfl⟩)) (fun hHeld => ?_)
    generalize W1.drew = wa at FB hHeld ⊢
    refine pure_ (i := 1) (N := some 42) (v := ?_) (a' := ?_) #[false, true, false, false, false, false, false, false, false, false, false, false] rfl rfl (by kernel_rfl) (fun _ _ _ h => h) (Or.inl ⟨by rfl, ?_⟩) ?_ ?_
    rotate_left
    · intro w'
      go_simp
      with_reducible rfl
    rotate_left
    · simp only [Act.put, List.setIfInBounds_toArray, List.set_cons_zero, List.set_cons_succ, i64_w, i32_w]
      rfl
    refine pure_ (i := 2) (N := some 43) (v := ?_) (a' := ?_) #[false, true, true, false, false, false, false, false, false, false, false, false] rfl rfl (by kernel_rfl) (fun _ _ _ h => h) (Or.inl ⟨by rfl, ?_⟩) ?_ ?_
    rotate_left
    · intro w'
      go_simp
      with_reducible rfl
    rotate_left
    · simp only [Act.put, List.setIfInBounds_toArray, List.set_cons_zero, List.set_cons_succ, i64_w, i32_w]
      rfl
    refine pure_ (i := 3) (N := some 44) (v := ?_) (a' := ?_) #[false, true, true, true, false, false, false, false, false, false, false, false] rfl rfl (by kernel_rfl) (fun _ _ _ h => h) (Or.inl ⟨by rfl, ?_⟩) ?_ ?_
    rotate_left
    · intro w'
      go_simp
      with_reducible rfl
    rotate_left
    · simp only [Act.put, List.setIfInBounds_toArray, List.set_cons_zero, List.set_cons_succ, i64_w, i32_w]
      rfl
    refine take_ (i := 0) (N := some 41) (v := ?_) (a' := ?_) #[true, true, true, true, false, false, false, false, false, false, false, false] rfl rfl (by kernel_rfl) (fun _ _ _ h => h) (Or.inl ⟨by rfl, ?_⟩) hHeld ?_ ?_
    rotate_left
    · rintro w' ⟨s0, s1, s2, s3, s4, s5, s6, t0⟩
      go_simp
      with_reducible rfl
    rotate_left
    · simp only [Act.put, List.setIfInBounds_toArray, List.set_cons_zero, List.set_cons_succ, i64_w, i32_w]
      rfl
    refine take_ (i := 4) (N := some 45) (v := ?_) (a' := ?_) #[true, true, true, true, true, false, false, false, false, false, false, false] rfl rfl (by kernel_rfl) (fun _ _ _ h => h) (Or.inl ⟨by rfl, ?_⟩) hHeld ?_ ?_
    rotate_left
    · rintro w' ⟨s0, s1, s2, s3, s4, s5, s6, t0⟩
      go_simp
      with_reducible rfl
    rotate_left
    · simp only [Act.put, List.setIfInBounds_toArray, List.set_cons_zero, List.set_cons_succ, i64_w, i32_w]
      rfl
    refine join_ (σ := Nat) 2 #[true, true, true, true, true, true, true, true, true, true, false, false] (fun s_ => [(46, .tuple #[.agg #[.int .i64 kd, .int .i64 ln, .bool kp_], .int .i64 er]), (40, .tuple #[.agg #[.int .i64 kd, .int .i64 ln, .bool kp_], .int .i64 er]), (47, .agg #[.int .i64 kd, .int .i64 ln, .bool kp_]), (48, .int .i64 er), (4, .pointer (some ⟨s_, 0, none⟩))]) (fun s_ w' => w'.heap[s_]? = some (.cells #[.int .i64 0, .int .i64 0, .bool false] 50 (0, 0)) ∧ w.heap.size + 1 ≤ s_ ∧ Below (w.heap.size + 1) W1 w') ?_ ?_
    rotate_left
    · intro hCont
      refine two_ (i := 5) (j := 9) (Ni := some 46) (Nj := some 4) #[true, true, true, true, true, true, false, false, false, false, false, false] #[true, true, true, true, true, false, false, false, false, true, false, false] rfl rfl rfl rfl (by kernel_rfl) (by decide) (by decide) (fun K hK => ?_) (fun K hK => ?_)
      · skip
        refine goes_ Tryz.func102 (by kernel_rfl) rfl #[.agg #[.bool x.f0, .string x.f1, .string x.f2, .int .i64 x.f3, .int .i64 x.f4, .string x.f5, .slice A1 x.f6.length c1], .string u.meth] (by rfl) rfl rfl (by (try simp only [List.map_toArray, List.map_cons, List.map_nil]); first | done | rfl) ?_
        with_reducible refine (HRq.out _ (HB.out.trans (below_weak FB.out (Nat.le_succ _)))).mono ?_
        rintro e wd ⟨rfl, hb⟩
        refine ⟨_, rfl, ?_⟩
        have n0 : Aside0 (Below (w.heap.size + 1) W1 wd) := ⟨Below.trans FB.out (below_weak (B' := w.heap.size + 1) hb (by have := FB.out.size; have := HSz.out; omega))⟩
        clear FB
        have FB := n0
        clear n0
        clear hb
        refine hK.out _ _ ((by have hk := (FB.out.block w.heap.size (Nat.lt_succ_self _)).trans HBk.out; have hq := (FB.out.block q HLt.out).trans HA.out.blk; exact ⟨(blk_cell hk 0).trans rfl, (blk_cell hk 1).trans rfl, (blk_cell hk 2).trans rfl, (blk_cell hk 3).trans rfl, (blk_cell hk 4).trans rfl, (blk_cell hk 5).trans rfl, (blk_cell hk 6).trans rfl, (blk_cell hq 0).trans rfl⟩)) (fun hHeld => ?_)
        clear hK K
        refine norm_ (a' := ?_) ?_ ?_
        rotate_left
        · show Act.put _ (some 46) _ = _
          simp only [Act.put, List.setIfInBounds_toArray, List.set_cons_zero, List.set_cons_succ, i64_w, i32_w]
          rfl
        refine pure_ (i := 6) (N := some 40) (v := ?_) (a' := ?_) #[true, true, true, true, true, true, true, false, false, false, false, false] rfl rfl (by kernel_rfl) (fun _ _ _ h => h) (Or.inl ⟨by rfl, ?_⟩) ?_ ?_
        rotate_left
        · intro w'
          go_simp
          with_reducible rfl
        rotate_left
        · simp only [Act.put, List.setIfInBounds_toArray, List.set_cons_zero, List.set_cons_succ, i64_w, i32_w]
          rfl
        refine pure_ (i := 7) (N := some 47) (v := ?_) (a' := ?_) #[true, true, true, true, true, true, true, true, false, false, false, false] rfl rfl (by kernel_rfl) (fun _ _ _ h => h) (Or.inl ⟨by rfl, ?_⟩) ?_ ?_
        rotate_left
        · intro w'
          go_simp
          with_reducible rfl
        rotate_left
        · simp only [Act.put, List.setIfInBounds_toArray, List.set_cons_zero, List.set_cons_succ, i64_w, i32_w]
          rfl
        refine pure_ (i := 8) (N := some 48) (v := ?_) (a' := ?_) #[true, true, true, true, true, true, true, true, true, false, false, false] rfl rfl (by kernel_rfl) (fun _ _ _ h => h) (Or.inl ⟨by rfl, ?_⟩) ?_ ?_
        rotate_left
        · intro w'
          go_simp
          with_reducible rfl
        rotate_left
        · simp only [Act.put, List.setIfInBounds_toArray, List.set_cons_zero, List.set_cons_succ, i64_w, i32_w]
          rfl
        refine one_ (i := 9) (N := some 4) #[true, true, true, true, true, true, true, true, true, true, false, false] rfl rfl (by kernel_rfl) (by decide) (fun K hK => ?_)
        refine box_step ?hg (N := 4) ?hd (cs := #[.int .i64 0, .int .i64 0, .bool false]) (t := 50) ?hr ?_; (case hd => rfl); (case hg => rfl); (case hr => first | (go_simp; done) | (go_simp; rfl))
        intro g hg we hbox hb
        have FG : Aside0 (w.heap.size + 1 ≤ g) := ⟨by have h5 := FB.out.size; have h6 := HSz.out; omega⟩
        have n0 : Aside0 (Below (w.heap.size + 1) W1 we) := ⟨Below.trans FB.out (below_weak (B' := w.heap.size + 1) hb (by have := FB.out.size; have := HSz.out; omega))⟩
        clear FB
        have FB := n0
        clear n0
        have FZ := Aside0.mk hbox
        clear hg hbox hb
        refine hK.out _ _ ((by have hk := (FB.out.block w.heap.size (Nat.lt_succ_self _)).trans HBk.out; have hq := (FB.out.block q HLt.out).trans HA.out.blk; exact ⟨(blk_cell hk 0).trans rfl, (blk_cell hk 1).trans rfl, (blk_cell hk 2).trans rfl, (blk_cell hk 3).trans rfl, (blk_cell hk 4).trans rfl, (blk_cell hk 5).trans rfl, (blk_cell hk 6).trans rfl, (blk_cell hq 0).trans rfl⟩)) (fun hHeld => ?_)
        clear hK K
        refine norm_ (a' := ?_) ?_ ?_
        rotate_left
        · show Act.put _ (some 4) _ = _
          simp only [Act.put, List.setIfInBounds_toArray, List.set_cons_zero, List.set_cons_succ, i64_w, i32_w]
          rfl
        exact norm_ (by simp only [putAll, Act.put, List.setIfInBounds_toArray, List.set_cons_zero, List.set_cons_succ]) (hCont g _ ⟨FZ.out, FG.out, FB.out⟩)
      · skip
        refine box_step ?hg (N := 4) ?hd (cs := #[.int .i64 0, .int .i64 0, .bool false]) (t := 50) ?hr ?_; (case hd => rfl); (case hg => rfl); (case hr => first | (go_simp; done) | (go_simp; rfl))
        intro g hg we hbox hb
        have FG : Aside0 (w.heap.size + 1 ≤ g) := ⟨by have h5 := FB.out.size; have h6 := HSz.out; omega⟩
        have n0 : Aside0 (Below (w.heap.size + 1) W1 we) := ⟨Below.trans FB.out (below_weak (B' := w.heap.size + 1) hb (by have := FB.out.size; have := HSz.out; omega))⟩
        clear FB
        have FB := n0
        clear n0
        have FZ := Aside0.mk hbox
        clear hg hbox hb
        refine hK.out _ _ ((by have hk := (FB.out.block w.heap.size (Nat.lt_succ_self _)).trans HBk.out; have hq := (FB.out.block q HLt.out).trans HA.out.blk; exact ⟨(blk_cell hk 0).trans rfl, (blk_cell hk 1).trans rfl, (blk_cell hk 2).trans rfl, (blk_cell hk 3).trans rfl, (blk_cell hk 4).trans rfl, (blk_cell hk 5).trans rfl, (blk_cell hk 6).trans rfl, (blk_cell hq 0).trans rfl⟩)) (fun hHeld => ?_)
        clear hK K
        refine norm_ (a' := ?_) ?_ ?_
        rotate_left
        · show Act.put _ (some 4) _ = _
          simp only [Act.put, List.setIfInBounds_toArray, List.set_cons_zero, List.set_cons_succ, i64_w, i32_w]
          rfl
        refine one_ (i := 5) (N := some 46) #[true, true, true, true, true, true, false, false, false, true, false, false] rfl rfl (by kernel_rfl) (by decide) (fun K hK => ?_)
        refine goes_ Tryz.func102 (by kernel_rfl) rfl #[.agg #[.bool x.f0, .string x.f1, .string x.f2, .int .i64 x.f3, .int .i64 x.f4, .string x.f5, .slice A1 x.f6.length c1], .string u.meth] (by rfl) rfl rfl (by (try simp only [List.map_toArray, List.map_cons, List.map_nil]); first | done | rfl) ?_
        with_reducible refine (HRq.out _ (HB.out.trans (below_weak FB.out (Nat.le_succ _)))).mono ?_
        rintro e wd ⟨rfl, hb⟩
        refine ⟨_, rfl, ?_⟩
        have n0 : Aside0 (Below (w.heap.size + 1) W1 wd) := ⟨Below.trans FB.out (below_weak (B' := w.heap.size + 1) hb (by have := FB.out.size; have := HSz.out; omega))⟩
        have n2 := Aside0.mk (blk_below FZ.out hb)
        clear FB FZ
        have FB := n0
        have FZ := n2
        clear n0 n2
        clear hb
        refine hK.out _ _ ((by have hk := (FB.out.block w.heap.size (Nat.lt_succ_self _)).trans HBk.out; have hq := (FB.out.block q HLt.out).trans HA.out.blk; exact ⟨(blk_cell hk 0).trans rfl, (blk_cell hk 1).trans rfl, (blk_cell hk 2).trans rfl, (blk_cell hk 3).trans rfl, (blk_cell hk 4).trans rfl, (blk_cell hk 5).trans rfl, (blk_cell hk 6).trans rfl, (blk_cell hq 0).trans rfl⟩)) (fun hHeld => ?_)
        clear hK K
        refine norm_ (a' := ?_) ?_ ?_
        rotate_left
        · show Act.put _ (some 46) _ = _
          simp only [Act.put, List.setIfInBounds_toArray, List.set_cons_zero, List.set_cons_succ, i64_w, i32_w]
          rfl
        refine pure_ (i := 6) (N := some 40) (v := ?_) (a' := ?_) #[true, true, true, true, true, true, true, false, false, true, false, false] rfl rfl (by kernel_rfl) (fun _ _ _ h => h) (Or.inl ⟨by rfl, ?_⟩) ?_ ?_
        rotate_left
        · intro w'
          go_simp
          with_reducible rfl
        rotate_left
        · simp only [Act.put, List.setIfInBounds_toArray, List.set_cons_zero, List.set_cons_succ, i64_w, i32_w]
          rfl
        refine pure_ (i := 7) (N := some 47) (v := ?_) (a' := ?_) #[true, true, true, true, true, true, true, true, false, true, false, false] rfl rfl (by kernel_rfl) (fun _ _ _ h => h) (Or.inl ⟨by rfl, ?_⟩) ?_ ?_
        rotate_left
        · intro w'
          go_simp
          with_reducible rfl
        rotate_left
        · simp only [Act.put, List.setIfInBounds_toArray, List.set_cons_zero, List.set_cons_succ, i64_w, i32_w]
          rfl
        refine pure_ (i := 8) (N := some 48) (v := ?_) (a' := ?_) #[true, true, true, true, true, true, true, true, true, true, false, false] rfl rfl (by kernel_rfl) (fun _ _ _ h => h) (Or.inl ⟨by rfl, ?_⟩) ?_ ?_
        rotate_left
        · intro w'
          go_simp
          with_reducible rfl
        rotate_left
        · simp only [Act.put, List.setIfInBounds_toArray, List.set_cons_zero, List.set_cons_succ, i64_w, i32_w]
          rfl
        exact norm_ (by simp only [putAll, Act.put, List.setIfInBounds_toArray, List.set_cons_zero, List.set_cons_succ]) (hCont g _ ⟨FZ.out, FG.out, FB.out⟩)
    rintro g wf ⟨hz, hg2, hb⟩
    clear FB
    have FB := Aside0.mk hb
    have FG := Aside0.mk hg2
    have hHeld : (fun w' => w'.cell? ⟨w.heap.size, 0, none⟩ = some (.bool x.f0) ∧ w'.cell? ⟨w.heap.size, 1, none⟩ = some (.string x.f1) ∧ w'.cell? ⟨w.heap.size, 2, none⟩ = some (.string x.f2) ∧ w'.cell? ⟨w.heap.size, 3, none⟩ = some (.int .i64 x.f3) ∧ w'.cell? ⟨w.heap.size, 4, none⟩ = some (.int .i64 x.f4) ∧ w'.cell? ⟨w.heap.size, 5, none⟩ = some (.string x.f5) ∧ w'.cell? ⟨w.heap.size, 6, none⟩ = some (.slice A1 x.f6.length c1) ∧ w'.cell? ⟨q, 0, none⟩ = some (.string u.meth)) wf := (by have hk := (FB.out.block w.heap.size (Nat.lt_succ_self _)).trans HBk.out; have hq := (FB.out.block q HLt.out).trans HA.out.blk; exact ⟨(blk_cell hk 0).trans rfl, (blk_cell hk 1).trans rfl, (blk_cell hk 2).trans rfl, (blk_cell hk 3).trans rfl, (blk_cell hk 4).trans rfl, (blk_cell hk 5).trans rfl, (blk_cell hk 6).trans rfl, (blk_cell hq 0).trans rfl⟩)
    have z0 : wf.cell? ⟨g, 0, none⟩ = some (.int .i64 0) := (blk_cell hz 0).trans rfl
    have f0 := blk_frozen hz 0
    have z1 : wf.cell? ⟨g, 1, none⟩ = some (.int .i64 0) := (blk_cell hz 1).trans rfl
    have f1 := blk_frozen hz 1
    have z2 : wf.cell? ⟨g, 2, none⟩ = some (.bool false) := (blk_cell hz 2).trans rfl
    have f2 := blk_frozen hz 2
    have FZ := Aside0.mk hz
    clear hz hg2 hb
    try dsimp only
    refine norm_ (a' := ?_) ?_ ?_
    rotate_left
    · simp only [putAll, Act.put, List.setIfInBounds_toArray, List.set_cons_zero, List.set_cons_succ]
      rfl
    refine one_ (i := 10) (N := none) #[true, true, true, true, true, true, true, true, true, true, true, false] rfl rfl (by kernel_rfl) (by decide) (fun K hK => ?_)
    refine skip_ (w1 := ?_) (by rfl) rfl ?_ ?_
    rotate_left
    · go_simp
      rfl
    obtain ⟨w9, hw9, hz, hb⟩ := fr_put kd ln kp_ FZ.out FB.out FG.out
    rw [← hw9]
    clear hw9 FB FZ hHeld z0 f0 z1 f1 z2 f2
    have FB := Aside0.mk hb
    have FZ := Aside0.mk hz
    clear hz hb
    refine hK.out _ _ ((by have hk := (FB.out.block w.heap.size (Nat.lt_succ_self _)).trans HBk.out; have hq := (FB.out.block q HLt.out).trans HA.out.blk; exact ⟨(blk_cell hk 0).trans rfl, (blk_cell hk 1).trans rfl, (blk_cell hk 2).trans rfl, (blk_cell hk 3).trans rfl, (blk_cell hk 4).trans rfl, (blk_cell hk 5).trans rfl, (blk_cell hk 6).trans rfl, (blk_cell hq 0).trans rfl⟩)) (fun hHeld => ?_)
    clear hK K
    refine pure_ (i := 11) (N := some 5) (v := ?_) (a' := ?_) #[true, true, true, true, true, true, true, true, true, true, true, true] rfl rfl (by kernel_rfl) (fun _ _ _ h => h) (Or.inl ⟨by rfl, ?_⟩) ?_ ?_
    rotate_left
    · intro w'
      go_simp
      with_reducible rfl
    rotate_left
    · simp only [Act.put, List.setIfInBounds_toArray, List.set_cons_zero, List.set_cons_succ, i64_w, i32_w]
      rfl
    refine done_ (by kernel_rfl) ?_
    have h9 := HA.out.below (by rw [HSz.out]; exact FB.out)
    have HB9 : Aside0 (Below w.heap.size w w9) := ⟨HB.out.trans (below_weak FB.out (Nat.le_succ _))⟩
    have hz17 := (blk_cell h9.blk 17)
    have hf17 := blk_frozen h9.blk 17
    have H9 := Aside0.mk h9
    clear h9 he hHeld
    go_wp2
    refine bodyPost_ret (results_none rfl _ _ _) rfl ?_
    exact ⟨rfl, ⟨rv, vh, Fr, Fh, H9.out.scal (i := 17) (v := .int .i64 er) rfl rfl rfl rfl, fun k hk => .inl hk, fun k hk => .inl hk⟩, (Stay.below (F := fun k => k = q) HB9.out).set (p := ⟨q, 17, none⟩) rfl _⟩
end Go.Proofs.YtccolnlfjbgnmaaGreatDoor.Ups
