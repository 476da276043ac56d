/- Package world, by hand: any connections: what is told of one that is not open; Close; own text of this session. -/
import Derived.Test.YtnhhcmnjfaeliaaVm5
namespace Go.Proofs.Ytnhhcmnjfaeliaa.Vm
open Wld hiding St Ft Next cellsQ cellsP ReadPost
open Go.RowKit Go.Proofs.YtnhhcmnjfaeliaaW.PrintWords Go.Proofs.YtnhhcmnjfaeliaaW.PrintLast Go.Maps
set_option linter.unusedVariables false
set_option linter.unusedSimpArgs false
/-- No open connection. -/
def NoAt (w : World) (p : Nat) (c : Int) : Prop := Calls Try.prog 33 #[.pointer (some ⟨p, 0, none⟩), .int .i64 c] w fun e w' => e = .returned (.pointer none) ∧ w' = w
section
variable {w : World} {p : Nat} {c : Int}
set_option maxRecDepth 100000 in
theorem close_no (h : NoAt w p c) : Calls Try.prog 21 #[.pointer (some ⟨p, 0, none⟩), .int .i64 c] w fun e w' => e = .returned (.int .i64 6) ∧ Below w.heap.size w w' := by
  have HA := Aside0.mk h
  clear h
  go_enter Try.func21, Try.ntmps21
  go_wp2_with (go_at_call 33; refine HA.out.mono ?_; rintro e w1 ⟨rfl, rfl⟩)
  go_ret
  exact ⟨rfl, by repeat (first | exact Below.refl _ _ | apply below_drew1 | apply pw_below_drewN)⟩
set_option maxRecDepth 100000 in
theorem end_no (h : NoAt w p c) : Calls Try.prog 24 #[.pointer (some ⟨p, 0, none⟩), .int .i64 c] w fun e w' => e = .returned (.int .i64 6) ∧ Below w.heap.size w w' := by
  have HA := Aside0.mk h
  clear h
  go_enter Try.func24, Try.ntmps24
  go_wp2_with (go_at_call 33; refine HA.out.mono ?_; rintro e w1 ⟨rfl, rfl⟩)
  go_ret
  exact ⟨rfl, by repeat (first | exact Below.refl _ _ | apply below_drew1 | apply pw_below_drewN)⟩
set_option maxRecDepth 100000 in
theorem arrive_no (h : NoAt w p c) (v : Value) : Calls Try.prog 17 #[.pointer (some ⟨p, 0, none⟩), .int .i64 c, v] w fun e w' => e = .returned (.int .i64 6) ∧ Below w.heap.size w w' := by
  have HA := Aside0.mk h
  clear h
  go_enter Try.func17, Try.ntmps17
  go_wp2_with (go_at_call 33; refine HA.out.mono ?_; rintro e w1 ⟨rfl, rfl⟩)
  go_ret
  exact ⟨rfl, by repeat (first | exact Below.refl _ _ | apply below_drew1 | apply pw_below_drewN)⟩
set_option maxRecDepth 100000 in
theorem read_no (h : NoAt w p c) (n : Int) : Calls Try.prog 18 #[.pointer (some ⟨p, 0, none⟩), .int .i64 c, .int .i64 n] w fun e w' => e = .returned (.tuple #[.slice none 0 0, .int .i64 6]) ∧ Below w.heap.size w w' := by
  have HA := Aside0.mk h
  clear h
  go_enter Try.func18, Try.ntmps18
  go_wp2_with (go_at_call 33; refine HA.out.mono ?_; rintro e w1 ⟨rfl, rfl⟩)
  first | go_ret2 | go_ret
  exact ⟨rfl, by repeat (first | exact Below.refl _ _ | apply below_drew1 | apply pw_below_drewN)⟩
set_option maxRecDepth 100000 in
theorem room_no (h : NoAt w p c) (n : Int) : Calls Try.prog 16 #[.pointer (some ⟨p, 0, none⟩), .int .i64 c, .int .i64 n] w fun e w' => e = .returned (.int .i64 6) ∧ Below w.heap.size w w' := by
  have HA := Aside0.mk h
  clear h
  go_enter Try.func16, Try.ntmps16
  go_wp2_with (go_at_call 33; refine HA.out.mono ?_; rintro e w1 ⟨rfl, rfl⟩)
  go_ret
  exact ⟨rfl, by repeat (first | exact Below.refl _ _ | apply below_drew1 | apply pw_below_drewN)⟩
set_option maxRecDepth 100000 in
theorem write_no (h : NoAt w p c) (v : Value) : Calls Try.prog 19 #[.pointer (some ⟨p, 0, none⟩), .int .i64 c, v] w fun e w' => e = .returned (.tuple #[.int .i64 0, .int .i64 6]) ∧ Below w.heap.size w w' := by
  have HA := Aside0.mk h
  clear h
  go_enter Try.func19, Try.ntmps19
  go_wp2_with (go_at_call 33; refine HA.out.mono ?_; rintro e w1 ⟨rfl, rfl⟩)
  first | go_ret2 | go_ret
  exact ⟨rfl, by repeat (first | exact Below.refl _ _ | apply below_drew1 | apply pw_below_drewN)⟩
set_option maxRecDepth 100000 in
theorem waits_no (h : NoAt w p c) : Calls Try.prog 7 #[.pointer (some ⟨p, 0, none⟩), .int .i64 c] w fun e w' => e = .returned (.tuple #[.int .i64 0, .bool false]) ∧ Below w.heap.size w w' := by
  have HA := Aside0.mk h
  clear h
  go_enter Try.func7, Try.ntmps7
  go_wp2_with (go_at_call 33; refine HA.out.mono ?_; rintro e w1 ⟨rfl, rfl⟩)
  first | go_ret2 | go_ret
  exact ⟨rfl, by repeat (first | exact Below.refl _ _ | apply below_drew1 | apply pw_below_drewN)⟩
end
section
variable {w : World} {p bm sz q : Nat} {Dm : DataW Unit} {vw vs vd : Value} {c : Int} {en : Bool} {ws ss : List Int} {room : Int} {ds : List Int}
set_option maxRecDepth 100000 in
theorem close_calls (h : St w p bm sz Dm q vw vs vd c true en ws ss room ds) (hc : (Key c).wf = true) :
    Calls Try.prog 21 #[.pointer (some ⟨p, 0, none⟩), .int .i64 c] w fun e w' => e = .returned (.int .i64 0) ∧ ∃ vw' vs' vd', St w' p bm sz Dm q vw' vs' vd' c false en ws ss room ds ∧ (∀ k, Ft p bm q vw' vs' vd' k → Ft p bm q vw vs vd k ∨ w.heap.size ≤ k) ∧ Stay (Ft p bm q vw vs vd) w w' := by
  have HA := Aside0.mk (at_calls h hc)
  have H := Aside0.mk h
  have hz0 : w.cell? ⟨q, 0, none⟩ = some (.bool true) := (blk_cell h.blkQ 0).trans rfl
  have hf0 := blk_frozen h.blkQ 0
  clear h hc
  go_enter Try.func21, Try.ntmps21
  go_wp2_with (go_at_call 33; refine HA.out.mono ?_; rintro e w1 ⟨rfl, rfl⟩)
  go_ret
  exact ⟨rfl, vw, vs, vd, H.out.setQ rfl, fun k hk => .inl hk, H.out.stayQ _ _⟩
end
/-- A connection: its block, its rows, its number, whether it is open, whether nothing more comes, what waits, what was sent, the room. -/
structure Cn where
  q : Nat
  vw : Value
  vs : Value
  c : Int
  op : Bool
  en : Bool
  ws : List Int
  ss : List Int
  room : Int
/-- Its own blocks. -/
def Cn.own (x : Cn) (k : Nat) : Prop := k = x.q ∨ x.vw.ownBlock = some k ∨ x.vs.ownBlock = some k
abbrev Cn.St (x : Cn) (w : World) (p bm sz : Nat) (Dm : DataW Unit) (vd : Value) (ds : List Int) : Prop := Vm.St w p bm sz Dm x.q x.vw x.vs vd x.c x.op x.en x.ws x.ss x.room ds
/-- A world with the connections L. -/
structure MW (w : World) (p bm sz : Nat) (Dm : DataW Unit) (vd : Value) (ds : List Int) (L : List Cn) : Prop where
  blkP : w.heap[p]? = some (.cells (cellsP bm vd) 55 (0, 0))
  own : w.ownsMap Try.prog 3 ptrE bm sz Dm
  rd : Row .i64 3 w vd ds
  all : ∀ x ∈ L, x.St w p bm sz Dm vd ds
  nokey : ∀ c, (∀ x ∈ L, x.c ≠ c) → Dm.atKey (Key c) .nil = .nil
  has : ∀ k, Maps.has Dm k = true → ∃ x ∈ L, k = Key x.c
  apart : ∀ x ∈ L, ∀ y ∈ L, x.c ≠ y.c → ∀ k, x.own k → ¬ y.own k
  keys : L.Pairwise (fun x y => x.c ≠ y.c)
/-- Another connection where one's memory turned. -/
theorem other {w w' : World} {p bm sz : Nat} {Dm : DataW Unit} {vd vd' : Value} {ds ds' : List Int} {x x' y : Cn} (hx : x.St w p bm sz Dm vd ds) (hy : y.St w p bm sz Dm vd ds) (hap : ∀ k, x.own k → ¬ y.own k)
    (hx' : x'.St w' p bm sz Dm vd' ds') (hs : Stay (Ft p bm x.q x.vw x.vs vd) w w') : y.St w' p bm sz Dm vd' ds' := by
  have no : ∀ k, y.own k → ¬ Ft p bm x.q x.vw x.vs vd k := by
    rintro k hk (h | h | h | h | h | h)
    · rcases hk with e | e | e
      · exact hy.nePQ.1 (h.symm.trans e)
      · exact (hy.neW k e).1 h
      · exact (hy.neS k e).1 h
    · rcases hk with e | e | e
      · exact hy.nePQ.2.2 (e.symm.trans h)
      · exact (hy.neW k e).2.1 h
      · exact (hy.neS k e).2.1 h
    · exact hap k (.inl h) hk
    · exact hap k (.inr (.inl h)) hk
    · exact hap k (.inr (.inr h)) hk
    · rcases hk with e | e | e
      · exact (hy.neD k h).2.2 e
      · exact (hy.neW k e).2.2.2 h
      · exact (hy.neS k e).2.2.2 h
  exact ⟨hx'.blkP, hx'.own, (hs.block y.q (blk_lt hy.blkQ) (no y.q (.inl rfl))).trans hy.blkQ, hy.rw.keep (fun i hi hl => hs.block i hl (no i (.inr (.inl hi)))), hy.rs.keep (fun i hi hl => hs.block i hl (no i (.inr (.inr hi)))), hx'.rd, hy.apart, hy.look⟩
/-- What a call on one connection leaves of all. -/
theorem MW.step {w w' : World} {p bm sz : Nat} {Dm : DataW Unit} {vd vd' : Value} {ds ds' : List Int} {A B : List Cn} {x x' : Cn} (h : MW w p bm sz Dm vd ds (A ++ x :: B)) (hc : x'.c = x.c) (hq : x'.q = x.q)
    (hx' : x'.St w' p bm sz Dm vd' ds') (hft : ∀ k, Ft p bm x'.q x'.vw x'.vs vd' k → Ft p bm x.q x.vw x.vs vd k ∨ w.heap.size ≤ k) (hs : Stay (Ft p bm x.q x.vw x.vs vd) w w') : MW w' p bm sz Dm vd' ds' (A ++ x' :: B) := by
  have hx := h.all x (by simp)
  have hkeys := h.keys
  have hne : ∀ y, y ∈ A ∨ y ∈ B → y.c ≠ x.c := by
    rw [List.pairwise_append, List.pairwise_cons] at hkeys
    rintro y (hy | hy)
    · exact hkeys.2.2 y hy x (by simp)
    · exact fun e => hkeys.2.1.1 y hy e.symm
  have hmem : ∀ y, y ∈ A ∨ y ∈ B → y ∈ A ++ x :: B := by
    rintro y (hy | hy) <;> simp [hy]
  have hall : ∀ y, y ∈ A ∨ y ∈ B → y.St w' p bm sz Dm vd' ds' := fun y hy => other hx (h.all y (hmem y hy)) (fun k => h.apart x (by simp) y (hmem y hy) (fun e => hne y hy e.symm) k) hx' hs
  have hap : ∀ y, y ∈ A ∨ y ∈ B → ∀ k, x'.own k → ¬ y.own k := by
    intro y hy k hk hky
    have hyS := h.all y (hmem y hy)
    have hkF : Ft p bm x'.q x'.vw x'.vs vd' k := by
      rcases hk with e | e | e
      · exact .inr (.inr (.inl e))
      · exact .inr (.inr (.inr (.inl e)))
      · exact .inr (.inr (.inr (.inr (.inl e))))
    have hky2 : Ft p bm y.q y.vw y.vs vd k := by
      rcases hky with e | e | e
      · exact .inr (.inr (.inl e))
      · exact .inr (.inr (.inr (.inl e)))
      · exact .inr (.inr (.inr (.inr (.inl e))))
    rcases hft k hkF with h1 | h1
    · have no := h.apart x (by simp) y (hmem y hy) (fun e => hne y hy e.symm)
      rcases h1 with e | e | e | e | e | e
      · rcases hky with f | f | f
        · exact hyS.nePQ.1 (e.symm.trans f)
        · exact (hyS.neW k f).1 e
        · exact (hyS.neS k f).1 e
      · rcases hky with f | f | f
        · exact hyS.nePQ.2.2 (f.symm.trans e)
        · exact (hyS.neW k f).2.1 e
        · exact (hyS.neS k f).2.1 e
      · exact no k (.inl e) hky
      · exact no k (.inr (.inl e)) hky
      · exact no k (.inr (.inr e)) hky
      · rcases hky with f | f | f
        · exact (hyS.neD k e).2.2 f
        · exact (hyS.neW k f).2.2.2 e
        · exact (hyS.neS k f).2.2.2 e
    · have := hyS.lt k hky2
      omega
  have split : ∀ y, y ∈ A ++ x' :: B → y = x' ∨ (y ∈ A ∨ y ∈ B) := by
    intro y hy
    rw [List.mem_append, List.mem_cons] at hy
    rcases hy with hy | hy | hy
    · exact .inr (.inl hy)
    · exact .inl hy
    · exact .inr (.inr hy)
  refine ⟨hx'.blkP, hx'.own, hx'.rd, ?_, ?_, ?_, ?_, ?_⟩
  · intro y hy
    rcases split y hy with rfl | hy
    · exact hx'
    · exact hall y hy
  · intro c hcn
    refine h.nokey c (fun y hy => ?_)
    rw [List.mem_append, List.mem_cons] at hy
    rcases hy with hy | rfl | hy
    · exact hcn y (by simp [hy])
    · rw [← hc]; exact hcn x' (by simp)
    · exact hcn y (by simp [hy])
  · intro k hk
    obtain ⟨y, hy, e⟩ := h.has k hk
    rw [List.mem_append, List.mem_cons] at hy
    rcases hy with hy | rfl | hy
    · exact ⟨y, by simp [hy], e⟩
    · exact ⟨x', by simp, by rw [hc]; exact e⟩
    · exact ⟨y, by simp [hy], e⟩
  · intro y hy z hz hyz k hk hkz
    rcases split y hy with h1 | h1
    · subst h1
      rcases split z hz with h2 | h2
      · exact hyz (by rw [h2])
      · exact hap z h2 k hk hkz
    · rcases split z hz with h2 | h2
      · rw [h2] at hkz
        exact hap y h1 k hkz hk
      · exact h.apart y (hmem y h1) z (hmem z h2) hyz k hk hkz
  · rw [List.pairwise_append, List.pairwise_cons] at hkeys ⊢
    refine ⟨hkeys.1, ⟨fun y hy => ?_, hkeys.2.1.2⟩, fun y hy z hz => ?_⟩
    · rw [hc]; exact hkeys.2.1.1 y hy
    · rw [List.mem_cons] at hz
      rcases hz with rfl | hz
      · rw [hc]; exact hkeys.2.2 y hy x (by simp)
      · exact hkeys.2.2 y hy z (by simp [hz])
/-- Below all of it. -/
theorem MW.below {w w' : World} {p bm sz : Nat} {Dm : DataW Unit} {vd : Value} {ds : List Int} {L : List Cn} (h : MW w p bm sz Dm vd ds L) (hb : Below w.heap.size w w') : MW w' p bm sz Dm vd ds L :=
  ⟨(hb.block p (blk_lt h.blkP)).trans h.blkP, h.own.kept (grown_below hb Option.none) (by simp), h.rd.below hb, fun x hx => (h.all x hx).below hb, h.nokey, h.has, h.apart, h.keys⟩
end Go.Proofs.Ytnhhcmnjfaeliaa.Vm
