/- Package body, by hand: slices.Clone of bytes, take, size; own text of this session. -/
import Derived.Test.YtnlicpihondmgaaDoorChk11
import Derived.Lib.SliceRun
namespace Go.Proofs.YtnlicpihondmgaaDoor.Bod
open Go.RowKit Go.Proofs.YtnlicpihondmgaaDoorW.PrintWords Go.Proofs.YtnlicpihondmgaaDoorW.PrintLast Chk
set_option linter.unusedVariables false
set_option linter.unusedSimpArgs false
theorem set_size (w : World) (p : Addr) (u : Value) : (w.setCell p u).heap.size = w.heap.size := by unfold World.setCell; split <;> simp
def CloneBPost (l : List Int) (w : World) (e : Ending) (w' : World) : Prop :=
  ∃ v, e = .returned v ∧ (Kd.int .u8).R 5 w' w.heap.size (fun _ => True) v l ∧ Below w.heap.size w w'
set_option maxHeartbeats 4000000 in
set_option maxRecDepth 100000 in
theorem cloneB_calls (l : List Int) (N : Nat) (hN : N = l.length) (A : Option Addr) (c : Nat) (w : World) (hr : Kd.C (Kd.int .u8) w A l.length l) (hc : N ≤ c) (hl : N ≤ 4294960000) :
    Calls Tryd.prog 55 #[.slice A N c] w (CloneBPost l w) := by
  cases A with
  | none =>
    have h0 : l = [] := by
      rcases l with _ | ⟨f, r⟩
      · rfl
      · obtain ⟨ad, h, _⟩ := hr.2.2 (by simp)
        cases h
    subst h0
    obtain rfl : N = 0 := hN
    have hq : ∀ W, (binOp .eql 22 (.slice none 0 c) (.slice none 0 0)).run Tryd.prog W = .ok (.bool true) W := fun W => Go.Lib.run_eql_slice_nil W 22 5 none 0 c 0 0 Tryd.underlying22
    clear hr hl
    go_enter Tryd.func55, Tryd.ntmps55
    go_wp2
    go_ret
    exact ⟨.slice none 0 0, rfl, Kd.R_nil _ _ _ _ _, Below.refl _ _⟩
  | some ad =>
    have HR := Aside0.mk hr
    have HL := Aside0.mk hl
    have HN := Aside0.mk hN
    have hOw : (w.alloc (.cells #[] 5)).ownsRow w.heap.size 5 1 (.slice (some ⟨w.heap.size, 0, none⟩) 0 0) 0 [] := by simpa using World.ownsRow_lit (base := w.heap.size) (e := 5) (size := 1) w #[] 0 (Nat.le_refl _) (by decide) (by rfl)
    have hO : (Kd.int .u8).R 5 (w.alloc (.cells #[] 5)) w.heap.size (fun _ => True) (.slice (some ⟨w.heap.size, 0, none⟩) 0 0) [] :=
      ⟨fun _ _ => trivial, [], hOw, Reps.none _ _⟩
    have HO := Aside0.mk hO
    have hq : ∀ W, (binOp .eql 22 (.slice (some ad) N c) (.slice none 0 0)).run Tryd.prog W = .ok (.bool false) W := fun W => Go.Lib.run_eql_slice_nil W 22 5 (some ad) N c 0 0 Tryd.underlying22
    clear hr hl hN hO hOw
    go_enter Tryd.func55, Tryd.ntmps55
    go_wp2_with (at_builtin; refine Kd.R_append_row (Value.int .u8) 0 (h1 := fun _ => rfl) (w0 := w.alloc (.cells #[] 5)) w.heap.size rfl (.tmp 5) (.tmp 6) 22 5 (.int .u8 0) 1 rfl Tryd.underlying22 info_u8 rfl (by decide) (.slice (some ⟨w.heap.size, 0, none⟩) 0 0) [] l (some ad) N c (fun _ => True) rfl rfl (fun _ _ => trivial) HO.out (by rw [HN.out]; exact Kd.C_alloc HR.out _) (Below.refl _ _) (below_size (below_alloc (Below.refl _ _) _)) (by have := HL.out; have := HN.out; simp only [List.length_nil]; omega) ?_; intro v1 w1 hR hb hg hat; have HR1 := Aside0.mk hR; have HB1 := Aside0.mk ((below_alloc (Below.refl w.heap.size w) (.cells #[] 5)).trans hb); clear hR hb hg hat)
    go_ret
    have h5 := HR1.out
    rw [List.nil_append] at h5
    exact ⟨v1, rfl, h5, HB1.out⟩
/-- What take comes to. -/
def TakePost (b : List Int) (n : Nat) (w : World) (p : Nat) (left : Int) (e : Ending) (w' : World) : Prop :=
  ∃ v, e = .returned v ∧ (Kd.int .u8).R 5 w' w.heap.size (fun _ => True) v (b.take n) ∧ Below w.heap.size (w.setCell ⟨p, 0, none⟩ (.int .i64 (left - n))) w'
theorem C_take {w : World} {A : Option Addr} {n : Nat} {xs : List Int} (h : (Kd.int .u8).C w A n xs) (i : Nat) (hi : i ≤ n) : (Kd.int .u8).C w A i (xs.take i) :=
  Kd.C_of_reads (d := (0 : Int)) (h1 := fun _ => rfl) (ReadsOf.take_ (Kd.reads_of_C (enc := Value.int .u8) (d := (0 : Int)) (h1 := fun _ => rfl) h) i hi)
theorem clone_take (b : List Int) (n N : Nat) (hN : N = b.length) (hn : n ≤ N) (A : Option Addr) (c : Nat) (w : World) (p : Nat) (u : Value) (hb : ∀ u, Kd.C (Kd.int .u8) (w.setCell ⟨p, 0, none⟩ u) A b.length b) (hc : N ≤ c) (hl : n ≤ 4294960000) :
    Calls Tryd.prog 55 #[.slice A n c] (w.setCell ⟨p, 0, none⟩ u) fun e w' => ∃ v, e = .returned v ∧ (Kd.int .u8).R 5 w' w.heap.size (fun _ => True) v (b.take n) ∧ Below w.heap.size (w.setCell ⟨p, 0, none⟩ u) w' := by
  have hlen : n = (b.take n).length := by rw [List.length_take]; omega
  have h := cloneB_calls (b.take n) n hlen A c (w.setCell ⟨p, 0, none⟩ u) (by rw [← hlen]; exact C_take (hb u) n (by omega)) (by omega) hl
  unfold CloneBPost at h
  rw [set_size] at h
  exact h
set_option maxHeartbeats 4000000 in
set_option maxRecDepth 100000 in
theorem take_calls (b : List Int) (n : Nat) (A : Option Addr) (c : Nat) (w : World) (p : Nat) (left : Int) (hz0 : w.cell? ⟨p, 0, none⟩ = some (.int .i64 left)) (hf0 : w.frozen? ⟨p, 0, none⟩ = false)
    (hb : ∀ u, Kd.C (Kd.int .u8) (w.setCell ⟨p, 0, none⟩ u) A b.length b) (hc : b.length ≤ c) (hl : n ≤ 4294960000) (h0 : 0 ≤ left) (h1 : left ≤ 9007199254740992) (hn : n = min b.length left.toNat) :
    Calls Tryd.prog 42 #[.pointer (some ⟨p, 0, none⟩), .slice A b.length c] w (TakePost b n w p left) := by
  obtain ⟨N, hN⟩ : ∃ N, N = b.length := ⟨_, rfl⟩
  have HB := Aside0.mk hb
  have HN := Aside0.mk hN
  have HL := Aside0.mk hl
  rw [← hN] at hc hn ⊢
  clear hb hN hl
  by_cases hle : (N : Int) ≤ left
  · obtain rfl : n = N := by omega
    have hlt : ¬ left < (n : Int) := by omega
    have hm : min (n : Int) left = (n : Int) := by omega
    have hs0 : 0 ≤ left - (n : Int) := by omega
    have hs1 : left - (n : Int) ≤ 9007199254740992 := by omega
    clear hn
    go_enter Tryd.func42, Tryd.ntmps42
    go_wp2_with (go_at_call 55; refine (clone_take b n n HN.out (Nat.le_refl _) A c w p _ HB.out hc HL.out).mono ?_; rintro e w1 ⟨v1, rfl, h1, h2⟩; have H1 := Aside0.mk h1; have H2 := Aside0.mk h2; clear h1 h2)
    go_ret
    exact ⟨_, rfl, H1.out, H2.out⟩
  · obtain rfl : left = (n : Int) := by omega
    have hlt : (n : Int) < (N : Int) := by omega
    have hm : min (N : Int) (n : Int) = (n : Int) := by omega
    have hnN : n ≤ N := by omega
    have hnc : n ≤ c := by omega
    clear hn h1
    go_enter Tryd.func42, Tryd.ntmps42
    go_wp2_with (go_at_call 55; refine (clone_take b n N HN.out hnN A c w p _ HB.out hc HL.out).mono ?_; rintro e w1 ⟨v1, rfl, h1, h2⟩; have H1 := Aside0.mk h1; have H2 := Aside0.mk h2; clear h1 h2)
    go_ret
    exact ⟨_, rfl, H1.out, by simpa using H2.out⟩
set_option maxRecDepth 100000 in
theorem size_yes (n : Int) (w : World) (h0 : 0 ≤ n) (h1 : n ≤ 9007199254740992) : Calls Tryd.prog 41 #[.int .i64 n] w fun e w' => e = .returned (.bool true) ∧ w' = w := by
  go_enter Tryd.func41, Tryd.ntmps41
  go_wp2
  go_ret
  exact ⟨rfl, rfl⟩
set_option maxRecDepth 100000 in
theorem size_no (n : Int) (w : World) (h : n < 0 ∨ 9007199254740992 < n) : Calls Tryd.prog 41 #[.int .i64 n] w fun e w' => e = .returned (.bool false) ∧ w' = w := by
  by_cases h0 : 0 ≤ n
  · have h1 : ¬ n ≤ 9007199254740992 := by omega
    clear h
    go_enter Tryd.func41, Tryd.ntmps41
    go_wp2
    go_ret
    exact ⟨rfl, rfl⟩
  · clear h
    go_enter Tryd.func41, Tryd.ntmps41
    go_wp2
    go_ret
    exact ⟨rfl, rfl⟩
end Go.Proofs.YtnlicpihondmgaaDoor.Bod
