/- BodyBound: the walk and the plain law; own text of this session. -/
import Derived.Test.YtnlicpihondmgaaDoorBod5
namespace Go.Proofs.YtnlicpihondmgaaDoor.P
open Go.RowKit Go.Proofs.YtnlicpihondmgaaDoorW.PrintWords Go.Proofs.YtnlicpihondmgaaDoorW.PrintLast Chk Bod
set_option linter.unusedVariables false
set_option linter.unusedSimpArgs false
/-- What is wrong with a framing and a bound. -/
def askB (kind length most : Int) : Int := if kind < 1 ∨ 4 < kind ∨ (length < 0 ∨ 9007199254740992 < length) ∨ (¬ kind = 2 ∧ ¬ length = 0) ∨ (most < 0 ∨ 9007199254740992 < most) then 1 else if kind = 2 ∧ most < length then 2 else 0
theorem asked11 (kind length most : Int) (x : Bool) : headraceref11_Asked.f 5 kind length x most = some (askB kind length most) := by
  unfold headraceref11_Asked.f askB
  by_cases a1 : kind < 1
  · rw [if_pos a1, if_pos (.inl a1)]; rfl
  rw [if_neg a1]
  by_cases a2 : kind > 4
  · rw [if_pos a2, if_pos (.inr (.inl (by omega)))]; rfl
  rw [if_neg a2]
  by_cases a3 : length < 0
  · rw [if_pos a3, if_pos (.inr (.inr (.inl (.inl a3))))]; rfl
  rw [if_neg a3]
  by_cases a4 : length > 9007199254740992
  · rw [if_pos a4, if_pos (.inr (.inr (.inl (.inr (by omega)))))]; rfl
  rw [if_neg a4]
  by_cases a5 : kind = 2
  · rw [if_pos a5]
    by_cases a6 : most < 0
    · rw [if_pos a6, if_pos (by omega)]; rfl
    rw [if_neg a6]
    by_cases a7 : most > 9007199254740992
    · rw [decide_eq_true a7, if_pos (by omega)]; rfl
    rw [decide_eq_false a7, if_neg (by omega)]
    show (if kind = 2 then (if length > most then some 2 else some 0) else some 0) = _
    rw [if_pos a5]
    by_cases a8 : length > most
    · rw [if_pos a8, if_pos ⟨a5, by omega⟩]
    · rw [if_neg a8, if_neg (by omega)]
  · rw [if_neg a5]
    by_cases a6 : length = 0
    · rw [if_pos a6]
      by_cases a7 : most < 0
      · rw [if_pos a7, if_pos (by omega)]; rfl
      rw [if_neg a7]
      by_cases a8 : most > 9007199254740992
      · rw [decide_eq_true a8, if_pos (by omega)]; rfl
      rw [decide_eq_false a8, if_neg (by omega), if_neg (by omega)]
      show (if kind = 2 then _ else some 0) = _
      rw [if_neg a5]
    · rw [if_neg a6, if_pos (by omega)]; rfl
theorem new_no_any (kind length most : Int) (x : Bool) (w : World) (h : ¬ askB kind length most = 0) :
    Calls Tryd.prog 24 #[.agg #[.int .i64 kind, .int .i64 length, .bool x], .int .i64 most] w fun e w' => e = .returned (.tuple #[.pointer none, .int .i64 (askB kind length most)]) ∧ Below w.heap.size w w' := by
  unfold askB at h ⊢
  split at h
  · rename_i h1
    rw [if_pos h1]
    exact new_arg kind length most x w h1
  · rename_i h1
    rw [if_neg h1]
    split at h
    · rename_i h2
      rw [if_pos h2]
      obtain ⟨rfl, h3⟩ := h2
      exact newLen_long length most x w (by omega) h3 (by omega)
    · exact absurd rfl h
def NewAnyPost (w : World) (most : Int) (b : List Int) (A : Option Addr) (c : Nat) (e : Ending) (w1 : World) : Prop :=
  ∃ p, e = .returned (.tuple #[.pointer (some ⟨p, 0, none⟩), .int .i64 0]) ∧ Calls Tryd.prog 26 #[.pointer (some ⟨p, 0, none⟩), .slice A b.length c] w1 (FeedBPost w p most b) ∧ Below w.heap.size w w1
theorem whole_feeds (w w1 : World) (p : Nat) (most : Int) (b : List Int) (A : Option Addr) (c : Nat) {left kind : Int} (h0 : 0 ≤ most) (hrd : Rd w1 p left 0 kind (.pointer none) true 0) (hb : Below w.heap.size w w1) :
    Calls Tryd.prog 26 #[.pointer (some ⟨p, 0, none⟩), .slice A b.length c] w1 (FeedBPost w p most b) := by
  refine (feedWhole_calls _ w1 p hrd).mono ?_
  rintro e w2 ⟨rfl, hb2⟩
  exact ⟨none, 0, 0, 0, true, 0, rfl, h0, by omega, ⟨_, _, _, _, _, hrd.below hb2⟩, below_step hb hb2⟩
theorem new_any (kind length most : Int) (x : Bool) (w : World) (b : List Int) (A : Option Addr) (c : Nat) (h : askB kind length most = 0) (hr : Kd.C (Kd.int .u8) w A b.length b) (hc : b.length ≤ c) (hl : b.length ≤ 4000000000) (hG : GInv w) :
    Calls Tryd.prog 24 #[.agg #[.int .i64 kind, .int .i64 length, .bool x], .int .i64 most] w (NewAnyPost w most b A c) := by
  have h1 : ¬ (kind < 1 ∨ 4 < kind ∨ (length < 0 ∨ 9007199254740992 < length) ∨ (¬ kind = 2 ∧ ¬ length = 0) ∨ (most < 0 ∨ 9007199254740992 < most)) := by
    intro h1
    unfold askB at h
    rw [if_pos h1] at h
    cases h
  have h2 : ¬ (kind = 2 ∧ most < length) := by
    intro h2
    unfold askB at h
    rw [if_neg h1, if_pos h2] at h
    cases h
  by_cases k2 : kind = 2
  · subst k2
    refine (newLen_ok length most x w (by omega) (by omega) (by omega)).mono ?_
    rintro e w1 ⟨p, rfl, hp, hrd, hb⟩
    refine ⟨p, rfl, ?_, hb⟩
    by_cases hz : length = 0
    · rw [hz] at hrd
      exact whole_feeds w w1 p most b A c (by omega) hrd hb
    · have bz : (length == 0) = false := by simpa using hz
      rw [bz] at hrd
      refine (feedLen_calls b (min b.length length.toNat) A c w1 p length 0 (.pointer none) hrd (fun u => Kd.C_below hr (hb.setCell (p := ⟨p, 0, none⟩) hp u)) hc (by omega) (by omega) (by omega) rfl (by decide) (by decide)).mono ?_
      rintro e w2 ⟨A1, c1, rfl, _, hrd2, hs⟩
      rw [Int.zero_add] at hrd2
      exact ⟨A1, _, c1, _, _, _, rfl, by omega, by omega, ⟨_, _, _, _, _, hrd2⟩, hs.out hb (fun k hk => by rw [hk]; exact hp) hb.size⟩
  · have hz : length = 0 := by omega
    subst hz
    by_cases k1 : kind = 1
    · subst k1
      refine (newNone_ok most x w (by omega) (by omega)).mono ?_
      rintro e w1 ⟨p, rfl, hp, hrd, hb⟩
      exact ⟨p, rfl, whole_feeds w w1 p most b A c (by omega) hrd hb, hb⟩
    · by_cases k3 : kind = 3
      · subst k3
        refine (newChunk_ok most x w (by omega) (by omega)).mono ?_
        rintro e w1 ⟨p, pd, rfl, hp, hlt, hrd, hrep, hb⟩
        exact ⟨p, rfl, feedChunk_calls w w1 p pd most b A c hG hb hp hlt (by omega) (by omega) hrd hrep hr hl, hb⟩
      · obtain rfl : kind = 4 := by omega
        refine (newClose_ok most x w (by omega) (by omega)).mono ?_
        rintro e w1 ⟨p, rfl, hp, hrd, hb⟩
        refine ⟨p, rfl, ?_, hb⟩
        refine (feedClose_calls b (min b.length most.toNat) A c w1 p most 0 (.pointer none) hrd (fun u => Kd.C_below hr (hb.setCell (p := ⟨p, 0, none⟩) hp u)) hc (by omega) (by omega) (by omega) rfl (by decide) (by decide)).mono ?_
        rintro e w2 ⟨A1, c1, rfl, _, hrd2, hs⟩
        rw [Int.zero_add] at hrd2
        exact ⟨A1, _, c1, _, _, _, rfl, by omega, by split <;> omega, ⟨_, _, _, _, _, hrd2⟩, hs.out hb (fun k hk => by rw [hk]; exact hp) hb.size⟩
set_option maxHeartbeats 8000000 in
set_option maxRecDepth 100000 in
theorem headracelaw11_BodyBound.no (kind length most : Int) (x : Bool) (v : Value) (w : World) (h : ¬ askB kind length most = 0) :
    Calls Tryd.prog 10 #[.agg #[.int .i64 kind, .int .i64 length, .bool x], .int .i64 most, v] w fun e w' => e = .returned (.bool true) ∧ Below w.heap.size w w' := by
  have HN := Aside0.mk (fun W => new_no_any kind length most x W h)
  have HA := Aside0.mk (fun W => headraceref11_Asked.calls 5 kind length x most _ W (asked11 kind length most x))
  obtain ⟨r, hr⟩ : ∃ r, r = askB kind length most := ⟨_, rfl⟩
  rw [← hr] at HN HA h
  have bn : (r != 0) = true := by simpa using h
  clear h hr
  go_enter Tryd.func10, Tryd.ntmps10
  go_wp2_with fail
  refine (HN.out _).mono ?_
  rintro e w1 ⟨rfl, hb1⟩
  have HB1 := Aside0.mk (below_step (below_alloc (Below.refl w.heap.size w) (.cells #[.int .i64 kind, .int .i64 length, .bool x] 55)) hb1)
  have hblk : w1.heap[w.heap.size]? = some (.cells #[.int .i64 kind, .int .i64 length, .bool x] 55) := (hb1.block w.heap.size (blk_lt (blk_new w _))).trans (blk_new w _)
  have hz0 : w1.cell? ⟨w.heap.size, 0, none⟩ = some (.int .i64 kind) := (blk_cell hblk 0).trans rfl
  have hz1 : w1.cell? ⟨w.heap.size, 1, none⟩ = some (.int .i64 length) := (blk_cell hblk 1).trans rfl
  have hz2 : w1.cell? ⟨w.heap.size, 2, none⟩ = some (.bool x) := (blk_cell hblk 2).trans rfl
  clear hb1 hblk
  go_wp2_with fail
  refine (HA.out _).mono ?_
  rintro e w2 ⟨rfl, hb2⟩
  have HB2 := Aside0.mk (below_step HB1.out hb2)
  clear hb2
  go_wp2_with fail
  refine (Bod.speaks_calls _).mono ?_
  rintro e w9 ⟨rfl, hb9⟩
  have HB9 := Aside0.mk (below_step (by repeat (first | exact HB2.out | apply below_drew1 | apply pw_below_drewN)) hb9)
  clear hb9
  go_wp2
  go_ret
  exact ⟨rfl, HB9.out⟩
set_option maxHeartbeats 8000000 in
set_option maxRecDepth 100000 in
theorem headracelaw11_BodyBound.yes (kind length most : Int) (x : Bool) (b : List Int) (A : Option Addr) (c : Nat) (w : World) (h : askB kind length most = 0) (hr : Kd.C (Kd.int .u8) w A b.length b) (hc : b.length ≤ c) (hl : b.length ≤ 4000000000) (hG : GInv w) :
    Calls Tryd.prog 10 #[.agg #[.int .i64 kind, .int .i64 length, .bool x], .int .i64 most, .slice A b.length c] w fun e w' => e = .returned (.bool true) ∧ Below w.heap.size w w' := by
  have HBa := Aside0.mk (below_alloc (Below.refl w.heap.size w) (.cells #[.int .i64 kind, .int .i64 length, .bool x] 55))
  have HN := Aside0.mk (new_any kind length most x _ b A c h (Kd.C_below hr HBa.out) hc hl (hG.below HBa.out))
  obtain ⟨L, hL⟩ : ∃ L, L = b.length := ⟨_, rfl⟩
  have HL := Aside0.mk hL
  rw [← hL]
  clear h hr hc hl hG hL
  go_enter Tryd.func10, Tryd.ntmps10
  go_wp2_with fail
  refine HN.out.mono ?_
  rintro e w1 ⟨p, rfl, hfd, hb1⟩
  have HF := Aside0.mk hfd
  have HB1 := Aside0.mk (below_step HBa.out hb1)
  clear hfd hb1
  go_wp2_with fail
  rw [HL.out]
  refine HF.out.mono ?_
  rintro e w2 ⟨A1, n, c1, N, ok, er, rfl, hn, hN, ⟨left, kd, dec, wh, wr, hrd⟩, hb2⟩
  rw [← HL.out] at hN ⊢
  have HR := Aside0.mk hrd
  have HB2 : Aside0 (Below w.heap.size w w2) := ⟨below_then HBa.out HBa.out.size hb2⟩
  clear hrd hb2
  have hn2 : ¬ most < (n : Int) := by omega
  go_wp2_with fail
  refine (got_calls p w2 HR.out).mono ?_
  rintro e w3 ⟨rfl, hb3⟩
  have HB3 := Aside0.mk (below_step HB2.out hb3)
  clear hb3
  go_wp2_with fail
  refine (Bod.speaks_calls _).mono ?_
  rintro e w9 ⟨rfl, hb9⟩
  have HB9 := Aside0.mk (below_step (by repeat (first | exact HB3.out | apply below_drew1 | apply pw_below_drewN)) hb9)
  clear hb9
  go_wp2
  go_ret
  exact ⟨rfl, HB9.out⟩
def headracelaw11_BodyBound.f (k : Nat) (a0 a1 : Int) (a2 : Bool) (a3 : Int) (l : List Int) : Option Bool := if l.length ≤ 4000000000 then some true else none
theorem headracelaw11_BodyBound.calls (k : Nat) (a0 a1 : Int) (a2 : Bool) (a3 : Int) (A0 : Option Addr) (c0 : Nat) (l0 : List Int) (r : Bool) (w : World) (hr0 : Kd.C (Kd.int .u8) w A0 l0.length l0) (hc0 : l0.length ≤ c0) (h : headracelaw11_BodyBound.f k a0 a1 a2 a3 l0 = some r) (hG_ : GInv w) :
    Calls Tryd.prog 10 #[.agg #[.int .i64 a0, .int .i64 a1, .bool a2], .int .i64 a3, .slice A0 l0.length c0] w fun e w' => e = .returned (.bool r) ∧ Below w.heap.size w w' := by
  unfold headracelaw11_BodyBound.f at h
  split at h
  · rename_i hl
    obtain rfl := Option.some.inj h
    by_cases h : askB a0 a1 a3 = 0
    · exact headracelaw11_BodyBound.yes a0 a1 a3 a2 l0 A0 c0 w h hr0 hc0 hl hG_
    · exact headracelaw11_BodyBound.no a0 a1 a3 a2 _ w h
  · cases h
end Go.Proofs.YtnlicpihondmgaaDoor.P
namespace Go.Proofs.YtnlicpihondmgaaDoor.Px
theorem pure_BodyBound (a0 a1 : Int) (a2 : Bool) (a3 : Int) (l : List Int) (_ : (Go.Lit.int .i64 a0).wf = true) (_ : (Go.Lit.int .i64 a1).wf = true) (_ : (Go.Lit.int .i64 a3).wf = true) (hb : l.length ≤ 1048576) (_ : ∀ x ∈ l, (Go.Lit.int .u8 x).wf = true) : ∃ k, P.headracelaw11_BodyBound.f k a0 a1 a2 a3 l = some true := ⟨0, by unfold P.headracelaw11_BodyBound.f; rw [if_pos (by omega)]⟩
end Go.Proofs.YtnlicpihondmgaaDoor.Px
