/- Package framing, by hand: what length's closure and slices.ContainsFunc come to; own text of this session. -/
import Derived.Test.YtccolnlfjbgnmaaGreatDoorLexA
namespace Go.Proofs.YtccolnlfjbgnmaaGreatDoor.Frm
open Go.RowKit Go.Proofs.YtccolnlfjbgnmaaGreatDoorW.PrintWords Go.Proofs.YtccolnlfjbgnmaaGreatDoorW.PrintLast Go.Proofs.Hr Go.Shelf Go.Lib
set_option linter.unusedVariables false
theorem number_calls (s : ByteArray) (r1 r2 : Int) (w : World) (hs : s.size ≤ 281474976710656) (h : Hr.digits 10 s.data.toList = (r1, r2)) (hG : GInv w) :
    Calls Tryz.prog 85 #[.string s] w fun e w' => e = .returned (.tuple #[.int .i64 r1, .int .i64 r2]) ∧ Below w.heap.size w w' := by
  have HD := Aside0.mk (Lex.digits_calls s 10 r1 r2 w hs (Or.inl rfl) h hG)
  clear h hG
  go_enter Tryz.func85, Tryz.ntmps85
  go_wp2_with (go_at_call 117; refine HD.out.mono ?_; rintro e w1 ⟨rfl, hb⟩)
  go_ret2
  exact ⟨rfl, hb⟩
def unlikeB (first : Int) (s : ByteArray) : Bool := decide (¬ (Hr.digits 10 s.data.toList).2 = 0) || decide (¬ (Hr.digits 10 s.data.toList).1 = first)
theorem unlike_calls (s : ByteArray) (a : Addr) (first : Int) (w : World) (hs : s.size ≤ 281474976710656) (hc : w.cell? a = some (.int .i64 first)) (hG : GInv w) :
    Calls Tryz.prog 178 #[.string s, .pointer (some a)] w fun e w' => e = .returned (.bool (unlikeB first s)) ∧ Below w.heap.size w w' := by
  obtain ⟨r1, hr1⟩ : ∃ r, r = (Hr.digits 10 s.data.toList).1 := ⟨_, rfl⟩
  obtain ⟨r2, hr2⟩ : ∃ r, r = (Hr.digits 10 s.data.toList).2 := ⟨_, rfl⟩
  have HD := Aside0.mk (number_calls s r1 r2 w hs (by rw [hr1, hr2]) hG)
  have hlt : a.block < w.heap.size := World.block_lt_of_cell? w a hc
  have HC := Aside0.mk hc
  have hU : unlikeB first s = (decide (¬ r2 = 0) || decide (¬ r1 = first)) := by unfold unlikeB; rw [hr1, hr2]
  rw [hU]
  clear hr1 hr2 hG hc hU
  by_cases h2 : r2 = 0
  · subst h2
    by_cases h1 : r1 = first
    · subst h1
      have b1 : (r1 != r1) = false := by simp
      go_enter Tryz.func178, Tryz.ntmps178
      go_wp2_with (go_at_call 85; refine HD.out.mono ?_; rintro e w1 ⟨rfl, hb⟩; have hc1 : w1.cell? a = some (.int .i64 r1) := (hb.cell hlt).trans HC.out)
      go_ret
      exact ⟨by simp, by repeat (first | exact hb | apply below_drew1)⟩
    · have b1 : (r1 != first) = true := by simpa using h1
      have e1 : (decide (¬ (0 : Int) = 0) || decide (¬ r1 = first)) = true := by simp [h1]
      rw [e1]
      go_enter Tryz.func178, Tryz.ntmps178
      go_wp2_with (go_at_call 85; refine HD.out.mono ?_; rintro e w1 ⟨rfl, hb⟩; have hc1 : w1.cell? a = some (.int .i64 first) := (hb.cell hlt).trans HC.out)
      go_ret
      exact ⟨rfl, by repeat (first | exact hb | apply below_drew1)⟩
  · have b2 : (r2 != 0) = true := by simpa using h2
    have e1 : (decide (¬ r2 = 0) || decide (¬ r1 = first)) = true := by simp [h2]
    rw [e1]
    go_enter Tryz.func178, Tryz.ntmps178
    go_wp2_with (go_at_call 85; refine HD.out.mono ?_; rintro e w1 ⟨rfl, hb⟩)
    go_ret
    exact ⟨rfl, by repeat (first | exact hb | apply below_drew1)⟩
/-- A predicate that may lay memory of its own. -/
def PredB (g : Nat) (lb : Array Value) (p : ByteArray → Bool) (l : List ByteArray) (w : World) : Prop :=
  ∀ s w1, s ∈ l → Below w.heap.size w w1 → Calls Tryz.prog g (#[.string s] ++ lb) w1 fun e w2 => e = .returned (.bool (p s)) ∧ Below w1.heap.size w1 w2
theorem idx_calls (g : Nat) (lb : Array Value) (p : ByteArray → Bool) (l : List ByteArray) (A : Option Addr) (c : Nat) (w : World) (eg : ∀ args w, (callFunc g args).run Tryz.prog w = .ok (.enter g args) w)
    (hp : PredB g lb p l w) (hr : Kd.C Kd.string w A l.length l) (hc : l.length ≤ c) :
    Calls Tryz.prog 199 #[.slice A l.length c, .func (.func g) #[] lb] w fun e w' => (∃ r : Int, e = .returned (.int .i64 r) ∧ decide (r ≥ 0) = l.any p) ∧ Below w.heap.size w w' := by
  have HP := Aside0.mk hp
  have HR := Aside0.mk hr
  have hbig : l.length ≤ 9223372036854775807 := hr.2.1
  clear hp hr hc
  go_enter Tryz.func199, Tryz.ntmps199
  go_wp2
  go_loopg [5, 8] l.length (fun gg _ s8 wr => ∃ kk : Nat, kk ≤ l.length ∧ l.length - kk ≤ gg ∧ s8 = .int .i64 kk ∧ Aside0 (Below w.heap.size w wr) ∧ Aside0 (l.any p = (l.drop kk).any p))
  case atStart => exact ⟨0, Nat.zero_le _, by omega, rfl, ⟨Below.refl _ _⟩, ⟨rfl⟩⟩
  case round =>
    obtain ⟨kk, hkk, hg, rfl, HB, HA⟩ := hrel
    by_cases hlt : kk < l.length
    · have hltz : (kk : Int) < (l.length : Int) := by omega
      have h0 : (0 : Int) ≤ (kk : Int) := by omega
      obtain ⟨ad, eA, hx⟩ := Kd.at_string (Kd.C_below HR.out HB.out) (kk : Int) h0 hltz
      cases eA
      have hdr := List.drop_eq_getElem_cons hlt
      have hrd : rdOf ByteArray.empty l (kk : Int) = l[kk] := by
        unfold rdOf
        rw [Int.toNat_natCast, List.getD_eq_getElem?_getD, List.getElem?_eq_getElem hlt]; rfl
      rw [hrd, Int.toNat_natCast] at hx
      have hmem : l[kk] ∈ l := List.getElem_mem hlt
      generalize l[kk] = y at hx hdr hmem
      have HC := Aside0.mk (HP.out y wr hmem HB.out)
      have HD := Aside0.mk hdr
      clear hdr hrd hmem
      cases hq : p y with
      | true =>
        rw [hq] at HC
        have HQ := Aside0.mk hq
        clear hq
        go_wp2_with (go_at_fn g; refine HC.out.mono ?_; rintro e w1 ⟨rfl, hb⟩)
        go_ret
        refine ⟨⟨_, rfl, ?_⟩, below_step HB.out hb⟩
        rw [HA.out, HD.out, List.any_cons, HQ.out, Bool.true_or]
        exact decide_eq_true (by omega)
      | false =>
        rw [hq] at HC
        have HQ := Aside0.mk hq
        clear hq
        go_wp2_with (go_at_fn g; refine HC.out.mono ?_; rintro e w1 ⟨rfl, hb⟩)
        go_roundg (l.length - (kk + 1))
        case measure => omega
        case rel =>
          refine ⟨kk + 1, by omega, by omega, by go_num, ⟨below_step HB.out hb⟩, ⟨?_⟩⟩
          rw [HA.out, HD.out, List.any_cons, HQ.out, Bool.false_or]
    · have hltz : ¬ (kk : Int) < (l.length : Int) := by omega
      go_wp2
      go_ret
      refine ⟨⟨_, rfl, ?_⟩, HB.out⟩
      rw [HA.out, List.drop_eq_nil_of_le (by omega)]
      rfl
theorem contains_calls (g : Nat) (lb : Array Value) (p : ByteArray → Bool) (l : List ByteArray) (A : Option Addr) (c : Nat) (w : World) (eg : ∀ args w, (callFunc g args).run Tryz.prog w = .ok (.enter g args) w)
    (hp : PredB g lb p l w) (hr : Kd.C Kd.string w A l.length l) (hc : l.length ≤ c) :
    Calls Tryz.prog 179 #[.slice A l.length c, .func (.func g) #[] lb] w fun e w' => e = .returned (.bool (l.any p)) ∧ Below w.heap.size w w' := by
  have HC := Aside0.mk (idx_calls g lb p l A c w eg hp hr hc)
  clear hp hr
  go_enter Tryz.func179, Tryz.ntmps179
  go_wp2_with (go_at_call 199; refine HC.out.mono ?_; rintro e w1 ⟨⟨r, rfl, hr⟩, hb⟩; have HR := Aside0.mk hr; clear hr)
  go_ret
  exact ⟨by first | rfl | (rw [HR.out]; rfl), hb⟩
end Go.Proofs.YtccolnlfjbgnmaaGreatDoor.Frm
