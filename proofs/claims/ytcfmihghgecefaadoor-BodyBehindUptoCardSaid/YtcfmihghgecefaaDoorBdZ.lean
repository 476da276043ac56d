/- Package body, by hand: slices.Clone of bytes, take, size; own text of this session. -/
import Derived.Test.YtcfmihghgecefaaDoorChC
import Derived.Lib.SliceRun
import Derived.Test.YtcfmihghgecefaaDoorP
import Derived.Deep.QuietTactic
namespace Go.Proofs.YtcfmihghgecefaaDoor.Bod
open Go.RowKit Go.Proofs.YtcfmihghgecefaaDoorW.PrintWords Go.Proofs.YtcfmihghgecefaaDoorW.PrintLast Chk
set_option linter.unusedVariables false
set_option linter.unusedSimpArgs false
theorem set_size (w : World) (p : Addr) (u : Value) : (w.setCell p u).heap.size = w.heap.size := by unfold World.setCell; split <;> simp
def CloneBPost (l : List Int) (w : World) (e : Ending) (w' : World) : Prop :=
  ∃ v, e = .returned v ∧ (Kd.int .u8).R 5 w' w.heap.size (fun _ => True) v l ∧ Below w.heap.size w w'
set_option maxHeartbeats 4000000 in
set_option maxRecDepth 100000 in
theorem cloneB_calls (l : List Int) (N : Nat) (hN : N = l.length) (A : Option Addr) (c : Nat) (w : World) (hr : Kd.C (Kd.int .u8) w A l.length l) (hc : N ≤ c) (hl : N ≤ 4294960000) :
    Calls Tryd.prog 21 #[.slice A N c] w (CloneBPost l w) := by
  cases A with
  | none =>
    have h0 : l = [] := by
      rcases l with _ | ⟨f, r⟩
      · rfl
      · obtain ⟨ad, h, _⟩ := hr.2.2 (by simp)
        cases h
    subst h0
    obtain rfl : N = 0 := hN
    have hq : ∀ W, (binOp .eql 24 (.slice none 0 c) (.slice none 0 0)).run Tryd.prog W = .ok (.bool true) W := fun W => Go.Lib.run_eql_slice_nil W 24 5 none 0 c 0 0 Tryd.underlying24
    clear hr hl
    go_enter Tryd.func21, Tryd.ntmps21
    go_wp2
    go_ret
    exact ⟨.slice none 0 0, rfl, Kd.R_nil _ _ _ _ _, Below.refl _ _⟩
  | some ad =>
    have HR := Aside0.mk hr
    have HL := Aside0.mk hl
    have HN := Aside0.mk hN
    have hOw : (w.alloc (.cells #[] 5)).ownsRow w.heap.size 5 1 (.slice (some ⟨w.heap.size, 0, none⟩) 0 0) 0 [] := by simpa using World.ownsRow_lit (base := w.heap.size) (e := 5) (size := 1) w #[] 0 (Nat.le_refl _) (by decide) (by rfl)
    have hO : (Kd.int .u8).R 5 (w.alloc (.cells #[] 5)) w.heap.size (fun _ => True) (.slice (some ⟨w.heap.size, 0, none⟩) 0 0) [] :=
      ⟨fun _ _ => trivial, [], hOw, Reps.none _ _⟩
    have HO := Aside0.mk hO
    have hq : ∀ W, (binOp .eql 24 (.slice (some ad) N c) (.slice none 0 0)).run Tryd.prog W = .ok (.bool false) W := fun W => Go.Lib.run_eql_slice_nil W 24 5 (some ad) N c 0 0 Tryd.underlying24
    clear hr hl hN hO hOw
    go_enter Tryd.func21, Tryd.ntmps21
    go_wp2_with (at_builtin; refine Kd.R_append_row (Value.int .u8) 0 (h1 := fun _ => rfl) (w0 := w.alloc (.cells #[] 5)) w.heap.size rfl (.tmp 5) (.tmp 6) 24 5 (.int .u8 0) 1 rfl Tryd.underlying24 info_u8 rfl (by decide) (.slice (some ⟨w.heap.size, 0, none⟩) 0 0) [] l (some ad) N c (fun _ => True) rfl rfl (fun _ _ => trivial) HO.out (by rw [HN.out]; exact Kd.C_alloc HR.out _) (Below.refl _ _) (below_size (below_alloc (Below.refl _ _) _)) (by have := HL.out; have := HN.out; simp only [List.length_nil]; omega) ?_; intro v1 w1 hR hb hg hat; have HR1 := Aside0.mk hR; have HB1 := Aside0.mk ((below_alloc (Below.refl w.heap.size w) (.cells #[] 5)).trans hb); clear hR hb hg hat)
    go_ret
    have h5 := HR1.out
    rw [List.nil_append] at h5
    exact ⟨v1, rfl, h5, HB1.out⟩
/-- What take comes to. -/
def TakePost (b : List Int) (n : Nat) (w : World) (p : Nat) (left : Int) (e : Ending) (w' : World) : Prop :=
  ∃ v, e = .returned v ∧ (Kd.int .u8).R 5 w' w.heap.size (fun _ => True) v (b.take n) ∧ Below w.heap.size (w.setCell ⟨p, 0, none⟩ (.int .i64 (left - n))) w'
theorem C_take {w : World} {A : Option Addr} {n : Nat} {xs : List Int} (h : (Kd.int .u8).C w A n xs) (i : Nat) (hi : i ≤ n) : (Kd.int .u8).C w A i (xs.take i) :=
  Kd.C_of_reads (d := (0 : Int)) (h1 := fun _ => rfl) (ReadsOf.take_ (Kd.reads_of_C (enc := Value.int .u8) (d := (0 : Int)) (h1 := fun _ => rfl) h) i hi)
theorem clone_take (b : List Int) (n N : Nat) (hN : N = b.length) (hn : n ≤ N) (A : Option Addr) (c : Nat) (w : World) (p : Nat) (u : Value) (hb : ∀ u, Kd.C (Kd.int .u8) (w.setCell ⟨p, 0, none⟩ u) A b.length b) (hc : N ≤ c) (hl : n ≤ 4294960000) :
    Calls Tryd.prog 21 #[.slice A n c] (w.setCell ⟨p, 0, none⟩ u) fun e w' => ∃ v, e = .returned v ∧ (Kd.int .u8).R 5 w' w.heap.size (fun _ => True) v (b.take n) ∧ Below w.heap.size (w.setCell ⟨p, 0, none⟩ u) w' := by
  have hlen : n = (b.take n).length := by rw [List.length_take]; omega
  have h := cloneB_calls (b.take n) n hlen A c (w.setCell ⟨p, 0, none⟩ u) (by rw [← hlen]; exact C_take (hb u) n (by omega)) (by omega) hl
  unfold CloneBPost at h
  rw [set_size] at h
  exact h
set_option maxHeartbeats 4000000 in
set_option maxRecDepth 100000 in
theorem take_calls (b : List Int) (n : Nat) (A : Option Addr) (c : Nat) (w : World) (p : Nat) (left : Int) (hz0 : w.cell? ⟨p, 0, none⟩ = some (.int .i64 left)) (hf0 : w.frozen? ⟨p, 0, none⟩ = false)
    (hb : ∀ u, Kd.C (Kd.int .u8) (w.setCell ⟨p, 0, none⟩ u) A b.length b) (hc : b.length ≤ c) (hl : n ≤ 4294960000) (h0 : 0 ≤ left) (h1 : left ≤ 9007199254740992) (hn : n = min b.length left.toNat) :
    Calls Tryd.prog 15 #[.pointer (some ⟨p, 0, none⟩), .slice A b.length c] w (TakePost b n w p left) := by
  obtain ⟨N, hN⟩ : ∃ N, N = b.length := ⟨_, rfl⟩
  have HB := Aside0.mk hb
  have HN := Aside0.mk hN
  have HL := Aside0.mk hl
  rw [← hN] at hc hn ⊢
  clear hb hN hl
  by_cases hle : (N : Int) ≤ left
  · obtain rfl : n = N := by omega
    have hlt : ¬ left < (n : Int) := by omega
    have hm : min (n : Int) left = (n : Int) := by omega
    have hs0 : 0 ≤ left - (n : Int) := by omega
    have hs1 : left - (n : Int) ≤ 9007199254740992 := by omega
    clear hn
    go_enter Tryd.func15, Tryd.ntmps15
    go_wp2_with (go_at_call 21; refine (clone_take b n n HN.out (Nat.le_refl _) A c w p _ HB.out hc HL.out).mono ?_; rintro e w1 ⟨v1, rfl, h1, h2⟩; have H1 := Aside0.mk h1; have H2 := Aside0.mk h2; clear h1 h2)
    go_ret
    exact ⟨_, rfl, H1.out, H2.out⟩
  · obtain rfl : left = (n : Int) := by omega
    have hlt : (n : Int) < (N : Int) := by omega
    have hm : min (N : Int) (n : Int) = (n : Int) := by omega
    have hnN : n ≤ N := by omega
    have hnc : n ≤ c := by omega
    clear hn h1
    go_enter Tryd.func15, Tryd.ntmps15
    go_wp2_with (go_at_call 21; refine (clone_take b n N HN.out hnN A c w p _ HB.out hc HL.out).mono ?_; rintro e w1 ⟨v1, rfl, h1, h2⟩; have H1 := Aside0.mk h1; have H2 := Aside0.mk h2; clear h1 h2)
    go_ret
    exact ⟨_, rfl, H1.out, by simpa using H2.out⟩
set_option maxRecDepth 100000 in
theorem size_yes (n : Int) (w : World) (h0 : 0 ≤ n) (h1 : n ≤ 9007199254740992) : Calls Tryd.prog 13 #[.int .i64 n] w fun e w' => e = .returned (.bool true) ∧ w' = w := by
  go_enter Tryd.func13, Tryd.ntmps13
  go_wp2
  go_ret
  exact ⟨rfl, rfl⟩
set_option maxRecDepth 100000 in
theorem size_no (n : Int) (w : World) (h : n < 0 ∨ 9007199254740992 < n) : Calls Tryd.prog 13 #[.int .i64 n] w fun e w' => e = .returned (.bool false) ∧ w' = w := by
  by_cases h0 : 0 ≤ n
  · have h1 : ¬ n ≤ 9007199254740992 := by omega
    clear h
    go_enter Tryd.func13, Tryd.ntmps13
    go_wp2
    go_ret
    exact ⟨rfl, rfl⟩
  · clear h
    go_enter Tryd.func13, Tryd.ntmps13
    go_wp2
    go_ret
    exact ⟨rfl, rfl⟩
end Go.Proofs.YtcfmihghgecefaaDoor.Bod
/- Package body, by hand: New, Feed, End, Whole, Got where the body is not in chunks; own text of this session. -/
namespace Go.Proofs.YtcfmihghgecefaaDoor.Bod
open Go.RowKit Go.Proofs.YtcfmihghgecefaaDoorW.PrintWords Go.Proofs.YtcfmihghgecefaaDoorW.PrintLast Chk
set_option linter.unusedVariables false
set_option linter.unusedSimpArgs false
/-- A reader's cells. -/
def rdC (left got kind : Int) (dec : Value) (whole : Bool) (wrong : Int) : Array Value := #[.int .i64 left, .int .i64 got, .int .i64 kind, dec, .bool whole, .int .i64 wrong]
def Rd (w : World) (p : Nat) (left got kind : Int) (dec : Value) (whole : Bool) (wrong : Int) : Prop := w.heap[p]? = some (.cells (rdC left got kind dec whole wrong) 47 (0, 0))
theorem Rd.lt {w : World} {p : Nat} {left got kind wrong : Int} {dec : Value} {whole : Bool} (h : Rd w p left got kind dec whole wrong) : p < w.heap.size := blk_lt h
theorem Rd.below {w w' : World} {p : Nat} {left got kind wrong : Int} {dec : Value} {whole : Bool} (h : Rd w p left got kind dec whole wrong) (hb : Below w.heap.size w w') : Rd w' p left got kind dec whole wrong := (hb.block p (blk_lt h)).trans h
theorem blk_two (w : World) (o1 o2 : Obj) : ((w.alloc o1).alloc o2).heap[w.heap.size + 1]? = some o2 := by
  have h := blk_new (w.alloc o1) o2
  have e : (w.alloc o1).heap.size = w.heap.size + 1 := by simp
  rwa [e] at h
def NewPost (left kind : Int) (whole : Bool) (w : World) (e : Ending) (w' : World) : Prop :=
  ∃ p, e = .returned (.tuple #[.pointer (some ⟨p, 0, none⟩), .int .i64 0]) ∧ w.heap.size ≤ p ∧ Rd w' p left 0 kind (.pointer none) whole 0 ∧ Below w.heap.size w w'
set_option maxHeartbeats 4000000 in
set_option maxRecDepth 100000 in
theorem newLen_ok (length most : Int) (x : Bool) (w : World) (h0 : 0 ≤ length) (h1 : length ≤ most) (h2 : most ≤ 9007199254740992) :
    Calls Tryd.prog 7 #[.agg #[.int .i64 2, .int .i64 length, .bool x], .int .i64 most] w (NewPost length 2 (length == 0) w) := by
  have hn : ¬ most < length := by omega
  have K1 := Aside0.mk (fun W => size_yes length W h0 (by omega))
  have K2 := Aside0.mk (fun W => size_yes most W (by omega) h2)
  go_enter Tryd.func7, Tryd.ntmps7
  go_wp2_with (go_at_call 13; first | (refine (K1.out _).mono ?_; rintro e w1 ⟨rfl, rfl⟩) | (refine (K2.out _).mono ?_; rintro e w1 ⟨rfl, rfl⟩))
  go_ret2
  exact ⟨_, rfl, Nat.le_succ _, blk_two _ _ _, below_alloc (below_alloc (Below.refl _ _) _) _⟩
set_option maxHeartbeats 4000000 in
set_option maxRecDepth 100000 in
theorem newLen_long (length most : Int) (x : Bool) (w : World) (h0 : 0 ≤ most) (h1 : most < length) (h2 : length ≤ 9007199254740992) :
    Calls Tryd.prog 7 #[.agg #[.int .i64 2, .int .i64 length, .bool x], .int .i64 most] w fun e w' => e = .returned (.tuple #[.pointer none, .int .i64 2]) ∧ Below w.heap.size w w' := by
  have K1 := Aside0.mk (fun W => size_yes length W (by omega) h2)
  have K2 := Aside0.mk (fun W => size_yes most W h0 (by omega))
  go_enter Tryd.func7, Tryd.ntmps7
  go_wp2_with (go_at_call 13; first | (refine (K1.out _).mono ?_; rintro e w1 ⟨rfl, rfl⟩) | (refine (K2.out _).mono ?_; rintro e w1 ⟨rfl, rfl⟩))
  go_ret2
  exact ⟨rfl, below_alloc (below_alloc (Below.refl _ _) _) _⟩
set_option maxHeartbeats 4000000 in
set_option maxRecDepth 100000 in
theorem newClose_ok (most : Int) (x : Bool) (w : World) (h0 : 0 ≤ most) (h2 : most ≤ 9007199254740992) :
    Calls Tryd.prog 7 #[.agg #[.int .i64 4, .int .i64 0, .bool x], .int .i64 most] w (NewPost most 4 false w) := by
  have K1 := Aside0.mk (fun W => size_yes 0 W (by decide) (by decide))
  have K2 := Aside0.mk (fun W => size_yes most W h0 h2)
  go_enter Tryd.func7, Tryd.ntmps7
  go_wp2_with (go_at_call 13; first | (refine (K1.out _).mono ?_; rintro e w1 ⟨rfl, rfl⟩) | (refine (K2.out _).mono ?_; rintro e w1 ⟨rfl, rfl⟩))
  go_ret2
  exact ⟨_, rfl, Nat.le_succ _, blk_two _ _ _, below_alloc (below_alloc (Below.refl _ _) _) _⟩
set_option maxRecDepth 100000 in
theorem whole_calls (p : Nat) (w : World) {left got kind wrong : Int} {dec : Value} {whole : Bool} (h : Rd w p left got kind dec whole wrong) :
    Calls Tryd.prog 11 #[.pointer (some ⟨p, 0, none⟩)] w fun e w' => e = .returned (.bool whole) ∧ Below w.heap.size w w' := by
  have hz4 : w.cell? ⟨p, 4, none⟩ = some (.bool whole) := (blk_cell h 4).trans rfl
  clear h
  go_enter Tryd.func11, Tryd.ntmps11
  go_wp2
  go_ret
  exact ⟨rfl, Below.refl _ _⟩
set_option maxRecDepth 100000 in
theorem got_calls (p : Nat) (w : World) {left got kind wrong : Int} {dec : Value} {whole : Bool} (h : Rd w p left got kind dec whole wrong) :
    Calls Tryd.prog 12 #[.pointer (some ⟨p, 0, none⟩)] w fun e w' => e = .returned (.int .i64 got) ∧ Below w.heap.size w w' := by
  have hz1 : w.cell? ⟨p, 1, none⟩ = some (.int .i64 got) := (blk_cell h 1).trans rfl
  clear h
  go_enter Tryd.func12, Tryd.ntmps12
  go_wp2
  go_ret
  exact ⟨rfl, Below.refl _ _⟩
/-- The connection ended. -/
def EndPost (p : Nat) (whole : Bool) (wrong : Int) (left got kind : Int) (dec : Value) (w : World) (e : Ending) (w' : World) : Prop :=
  e = .returned (.tuple #[.bool whole, .int .i64 wrong]) ∧ Rd w' p left got kind dec whole wrong ∧ Stay (fun k => k = p) w w'
set_option maxHeartbeats 4000000 in
set_option maxRecDepth 100000 in
theorem end_cut (p : Nat) (w : World) {left got : Int} {dec : Value} (h : Rd w p left got 2 dec false 0) :
    Calls Tryd.prog 10 #[.pointer (some ⟨p, 0, none⟩)] w (EndPost p false 110 left got 2 dec w) := by
  have hz2 : w.cell? ⟨p, 2, none⟩ = some (.int .i64 2) := (blk_cell h 2).trans rfl
  have hz4 : w.cell? ⟨p, 4, none⟩ = some (.bool false) := (blk_cell h 4).trans rfl
  have hz5 : w.cell? ⟨p, 5, none⟩ = some (.int .i64 0) := (blk_cell h 5).trans rfl
  have hf5 := blk_frozen h 5
  have H := Aside0.mk h
  clear h
  go_enter Tryd.func10, Tryd.ntmps10
  go_wp2
  go_region
  all_goals
    go_wp2
    go_ret2
    exact ⟨rfl, blk_put H.out 5 _ rfl, stay_low ((Stay.refl (fun k => k = p) w).set (p := ⟨p, 5, none⟩) rfl _) (below_drew (Below.refl _ _))⟩
set_option maxHeartbeats 4000000 in
set_option maxRecDepth 100000 in
theorem end_close (p : Nat) (w : World) {left got : Int} {dec : Value} (h : Rd w p left got 4 dec false 0) :
    Calls Tryd.prog 10 #[.pointer (some ⟨p, 0, none⟩)] w (EndPost p true 0 left got 4 dec w) := by
  have hz2 : w.cell? ⟨p, 2, none⟩ = some (.int .i64 4) := (blk_cell h 2).trans rfl
  have hz4 : w.cell? ⟨p, 4, none⟩ = some (.bool false) := (blk_cell h 4).trans rfl
  have hz5 : w.cell? ⟨p, 5, none⟩ = some (.int .i64 0) := (blk_cell h 5).trans rfl
  have hf4 := blk_frozen h 4
  have H := Aside0.mk h
  clear h
  go_enter Tryd.func10, Tryd.ntmps10
  go_wp2
  go_region
  all_goals
    go_wp2
    go_ret2
    exact ⟨rfl, blk_put H.out 4 _ rfl, stay_low ((Stay.refl (fun k => k = p) w).set (p := ⟨p, 4, none⟩) rfl _) (below_drew (Below.refl _ _))⟩
end Go.Proofs.YtcfmihghgecefaaDoor.Bod
/- Package body, by hand: Feed where the body has a length, or ends with its connection; own text of this session. -/
namespace Go.Proofs.YtcfmihghgecefaaDoor.Bod
open Go.RowKit Go.Proofs.YtcfmihghgecefaaDoorW.PrintWords Go.Proofs.YtcfmihghgecefaaDoorW.PrintLast Chk
set_option linter.unusedVariables false
set_option linter.unusedSimpArgs false
def FeedPost (b : List Int) (n : Nat) (N : Int) (p : Nat) (left got kind : Int) (dec : Value) (whole : Bool) (wrong : Int) (w : World) (e : Ending) (w' : World) : Prop :=
  ∃ (A1 : Option Addr) (c1 : Nat), e = .returned (.tuple #[.slice A1 n c1, .int .i64 N, .bool whole, .int .i64 wrong]) ∧ (Kd.int .u8).R 5 w' w.heap.size (fun _ => True) (.slice A1 n c1) (b.take n) ∧ Rd w' p left got kind dec whole wrong ∧ Stay (fun k => k = p) w w'
theorem R_keep {w w' : World} {base p : Nat} {v : Value} {xs : List Int} (h : (Kd.int .u8).R 5 w base (fun _ => True) v xs) (hp : p < base) (hs : ∀ k, k < w.heap.size → k ≠ p → w'.heap[k]? = w.heap[k]?) : (Kd.int .u8).R 5 w' base (fun _ => True) v xs :=
  Kd.R_mono (Kd.R_step (Kd.R_bound h) (fun k hk hl => hs k hl (by have := hk.2.1; omega))) (fun _ _ => trivial)
/-- What is known behind take. -/
theorem after_take {n : Nat} {w w1 : World} {p : Nat} {left got kind wrong : Int} {dec : Value} {whole : Bool} (h : Rd w p left got kind dec whole wrong) (hb : Below w.heap.size (w.setCell ⟨p, 0, none⟩ (.int .i64 (left - n))) w1) :
    Rd w1 p (left - n) got kind dec whole wrong ∧ Stay (fun k => k = p) w w1 :=
  ⟨(hb.block p (blk_lt h)).trans (blk_put h 0 _ rfl), stay_low ((Stay.refl (fun k => k = p) w).set (p := ⟨p, 0, none⟩) rfl _) (by rw [set_size]; exact hb)⟩
set_option maxHeartbeats 4000000 in
set_option maxRecDepth 100000 in
theorem feedLen_calls (b : List Int) (n : Nat) (A : Option Addr) (c : Nat) (w : World) (p : Nat) (left got : Int) (dec : Value) (h : Rd w p left got 2 dec false 0)
    (hb : ∀ u, Kd.C (Kd.int .u8) (w.setCell ⟨p, 0, none⟩ u) A b.length b) (hc : b.length ≤ c) (hl : n ≤ 4294960000) (h0 : 0 ≤ left) (h1 : left ≤ 9007199254740992) (hn : n = min b.length left.toNat) (hg0 : 0 ≤ got) (hg1 : got ≤ 9007199254740992) :
    Calls Tryd.prog 8 #[.pointer (some ⟨p, 0, none⟩), .slice A b.length c] w (FeedPost b n n p (left - n) (got + n) 2 dec (left - n == 0) 0 w) := by
  have HK := Aside0.mk (take_calls b n A c w p left ((blk_cell h 0).trans rfl) (blk_frozen h 0) hb hc hl h0 h1 hn)
  have hz2 : w.cell? ⟨p, 2, none⟩ = some (.int .i64 2) := (blk_cell h 2).trans rfl
  have hz4 : w.cell? ⟨p, 4, none⟩ = some (.bool false) := (blk_cell h 4).trans rfl
  have hz5 : w.cell? ⟨p, 5, none⟩ = some (.int .i64 0) := (blk_cell h 5).trans rfl
  have H := Aside0.mk h
  have hnl : (b.take n).length = n := by rw [List.length_take]; omega
  have HNL := Aside0.mk hnl
  have hl0 : 0 ≤ left - (n : Int) := by omega
  have hl1 : left - (n : Int) ≤ 9007199254740992 := by omega
  have hnz : (n : Int) ≤ 4294960000 := by omega
  clear h hb hc hl hn hnl
  go_enter Tryd.func8, Tryd.ntmps8
  go_wp2_with fail
  refine HK.out.mono ?_
  rintro e w1 ⟨v1, rfl, hR1, hb1⟩
  obtain ⟨hrd, hst⟩ := after_take H.out hb1
  obtain ⟨A1, c1, e1⟩ := Kd.R_slice hR1
  rw [HNL.out] at e1
  subst e1
  obtain ⟨L, hL⟩ : ∃ L, L = left - (n : Int) := ⟨_, rfl⟩
  rw [← hL] at hrd hl0 hl1
  have HL := Aside0.mk hL
  have hy0 : w1.cell? ⟨p, 0, none⟩ = some (.int .i64 L) := (blk_cell hrd 0).trans rfl
  have hy1 : w1.cell? ⟨p, 1, none⟩ = some (.int .i64 got) := (blk_cell hrd 1).trans rfl
  have hy4 : w1.cell? ⟨p, 4, none⟩ = some (.bool false) := (blk_cell hrd 4).trans rfl
  have hy5 : w1.cell? ⟨p, 5, none⟩ = some (.int .i64 0) := (blk_cell hrd 5).trans rfl
  have hf4 := blk_frozen hrd 4
  have hf1 := blk_frozen hrd 1
  have HRd := Aside0.mk hrd
  have HSt := Aside0.mk hst
  have HRr := Aside0.mk hR1
  clear hrd hst hR1 hb1 hL hz2 hz4 hz5
  go_wp2
  go_region
  all_goals
    go_wp2
    refine bodyPost_ret (results_list (rs := [.tmp 4, .tmp 5, .tmp 6, .tmp 7]) rfl (by simp) (.tmp (.tmp (.tmp (.tmp .nil))))) rfl ?_
    rw [← HL.out]
    exact ⟨A1, c1, rfl, R_keep HRr.out H.out.lt (fun k _ hk => by show ((w1.setCell _ _).setCell _ _).heap[k]? = _; rw [Below.heap_setCell _ _ _ _ hk, Below.heap_setCell _ _ _ _ hk]), blk_put (blk_put HRd.out 4 _ rfl) 1 _ rfl, stay_low ((HSt.out.set (p := ⟨p, 4, none⟩) rfl _).set (p := ⟨p, 1, none⟩) rfl _) (below_drew (Below.refl _ _))⟩
set_option maxHeartbeats 4000000 in
set_option maxRecDepth 100000 in
theorem feedClose_calls (b : List Int) (n : Nat) (A : Option Addr) (c : Nat) (w : World) (p : Nat) (left got : Int) (dec : Value) (h : Rd w p left got 4 dec false 0)
    (hb : ∀ u, Kd.C (Kd.int .u8) (w.setCell ⟨p, 0, none⟩ u) A b.length b) (hc : b.length ≤ c) (hl : n ≤ 4294960000) (h0 : 0 ≤ left) (h1 : left ≤ 9007199254740992) (hn : n = min b.length left.toNat) (hg0 : 0 ≤ got) (hg1 : got ≤ 9007199254740992) :
    Calls Tryd.prog 8 #[.pointer (some ⟨p, 0, none⟩), .slice A b.length c] w (FeedPost b n (if n < b.length then n + 1 else n) p (left - n) (got + n) 4 dec false (if n < b.length then 2 else 0) w) := by
  have HK := Aside0.mk (take_calls b n A c w p left ((blk_cell h 0).trans rfl) (blk_frozen h 0) hb hc hl h0 h1 hn)
  have hz2 : w.cell? ⟨p, 2, none⟩ = some (.int .i64 4) := (blk_cell h 2).trans rfl
  have hz4 : w.cell? ⟨p, 4, none⟩ = some (.bool false) := (blk_cell h 4).trans rfl
  have hz5 : w.cell? ⟨p, 5, none⟩ = some (.int .i64 0) := (blk_cell h 5).trans rfl
  have H := Aside0.mk h
  have hnl : (b.take n).length = n := by rw [List.length_take]; omega
  have HNL := Aside0.mk hnl
  have hnz : (n : Int) ≤ 4294960000 := by omega
  have hle : n ≤ b.length := by omega
  obtain ⟨N, hN⟩ : ∃ N, N = b.length := ⟨_, rfl⟩
  rw [← hN] at HK hle ⊢
  clear h hb hc hl hn hnl hN
  by_cases hlt : n < N
  · have hltz : (n : Int) < (N : Int) := by omega
    simp only [if_pos hlt]
    go_enter Tryd.func8, Tryd.ntmps8
    go_wp2_with fail
    refine HK.out.mono ?_
    rintro e w1 ⟨v1, rfl, hR1, hb1⟩
    obtain ⟨hrd, hst⟩ := after_take H.out hb1
    obtain ⟨A1, c1, e1⟩ := Kd.R_slice hR1
    rw [HNL.out] at e1
    subst e1
    have hy1 : w1.cell? ⟨p, 1, none⟩ = some (.int .i64 got) := (blk_cell hrd 1).trans rfl
    have hy4 : w1.cell? ⟨p, 4, none⟩ = some (.bool false) := (blk_cell hrd 4).trans rfl
    have hy5 : w1.cell? ⟨p, 5, none⟩ = some (.int .i64 0) := (blk_cell hrd 5).trans rfl
    have hf5 := blk_frozen hrd 5
    have hf1 := blk_frozen hrd 1
    have HRd := Aside0.mk hrd
    have HSt := Aside0.mk hst
    have HRr := Aside0.mk hR1
    clear hrd hst hR1 hb1 hz2 hz4 hz5
    go_wp2
    go_region
    all_goals
      go_wp2
      refine bodyPost_ret (results_list (rs := [.tmp 4, .tmp 5, .tmp 6, .tmp 7]) rfl (by simp) (.tmp (.tmp (.tmp (.tmp .nil))))) rfl ?_
      exact ⟨A1, c1, rfl, R_keep HRr.out H.out.lt (fun k _ hk => by show ((w1.setCell _ _).setCell _ _).heap[k]? = _; rw [Below.heap_setCell _ _ _ _ hk, Below.heap_setCell _ _ _ _ hk]), blk_put (blk_put HRd.out 5 _ rfl) 1 _ rfl, stay_low ((HSt.out.set (p := ⟨p, 5, none⟩) rfl _).set (p := ⟨p, 1, none⟩) rfl _) (below_drew (Below.refl _ _))⟩
  · have hltz : ¬ (n : Int) < (N : Int) := by omega
    simp only [if_neg hlt]
    go_enter Tryd.func8, Tryd.ntmps8
    go_wp2_with fail
    refine HK.out.mono ?_
    rintro e w1 ⟨v1, rfl, hR1, hb1⟩
    obtain ⟨hrd, hst⟩ := after_take H.out hb1
    obtain ⟨A1, c1, e1⟩ := Kd.R_slice hR1
    rw [HNL.out] at e1
    subst e1
    have hy1 : w1.cell? ⟨p, 1, none⟩ = some (.int .i64 got) := (blk_cell hrd 1).trans rfl
    have hy4 : w1.cell? ⟨p, 4, none⟩ = some (.bool false) := (blk_cell hrd 4).trans rfl
    have hy5 : w1.cell? ⟨p, 5, none⟩ = some (.int .i64 0) := (blk_cell hrd 5).trans rfl
    have hf1 := blk_frozen hrd 1
    have HRd := Aside0.mk hrd
    have HSt := Aside0.mk hst
    have HRr := Aside0.mk hR1
    clear hrd hst hR1 hb1 hz2 hz4 hz5
    go_wp2
    go_region
    all_goals
      go_wp2
      refine bodyPost_ret (results_list (rs := [.tmp 4, .tmp 5, .tmp 6, .tmp 7]) rfl (by simp) (.tmp (.tmp (.tmp (.tmp .nil))))) rfl ?_
      exact ⟨A1, c1, rfl, R_keep HRr.out H.out.lt (fun k _ hk => by show (w1.setCell _ _).heap[k]? = _; rw [Below.heap_setCell _ _ _ _ hk]), blk_put HRd.out 1 _ rfl, stay_low (HSt.out.set (p := ⟨p, 1, none⟩) rfl _) (below_drew (Below.refl _ _))⟩
end Go.Proofs.YtcfmihghgecefaaDoor.Bod
/- Package body's laws, by hand: speaks; BodyNil; own text of this session. -/
namespace Go.Proofs.YtcfmihghgecefaaDoor.Bod
open Go.RowKit Go.Proofs.YtcfmihghgecefaaDoorW.PrintWords Go.Proofs.YtcfmihghgecefaaDoorW.PrintLast Go.Proofs.YtcfmihghgecefaaDoorW.PrintMore Chk
set_option linter.unusedVariables false
set_option linter.unusedSimpArgs false
theorem R_stay {w w' : World} {base p : Nat} {v : Value} {xs : List Int} (h : (Kd.int .u8).R 5 w base (fun _ => True) v xs) (hp : p < base) (hs : Stay (fun k => k = p) w w') : (Kd.int .u8).R 5 w' base (fun _ => True) v xs :=
  R_keep h hp (fun k hl hk => hs.block k hl hk)
theorem Rd.stay {w w' : World} {p q : Nat} {left got kind wrong : Int} {dec : Value} {whole : Bool} (h : Rd w q left got kind dec whole wrong) (hne : q ≠ p) (hs : Stay (fun k => k = p) w w') : Rd w' q left got kind dec whole wrong :=
  (hs.block q (blk_lt h) hne).trans h
theorem const2 (W : World) (p : Nat) (x y : Int) (hp : p < W.heap.size) (u : Value) : (Kd.int .u8).C ((W.alloc (.cells #[.int .u8 x, .int .u8 y] 5 (2, 3))).setCell ⟨p, 0, none⟩ u) (some ⟨W.heap.size, 0, none⟩) 2 [x, y] :=
  C_of_block (xs := [x, y]) ((Below.heap_setCell _ _ _ _ (by show W.heap.size ≠ p; omega)).trans (blk_new W (.cells #[.int .u8 x, .int .u8 y] 5 (2, 3)))) (fun i hi => by match i, hi with | 0, _ => rfl | 1, _ => rfl) (by simp)
set_option maxRecDepth 100000 in
theorem hcc2 (x y : Int) (W : World) : (convert 24 24 (.slice (some ⟨W.heap.size, 0, none⟩) 2 2)).run Tryd.prog (W.alloc (.cells #[.int .u8 x, .int .u8 y] 5)) = Result.ok (.slice (some ⟨W.heap.size, 0, none⟩) 2 2) (W.alloc (.cells #[.int .u8 x, .int .u8 y] 5 (2, 3))) :=
  Lib.run_convert_bytes_const W _ _ #[.int .u8 x, .int .u8 y] 2 2 Tryd.underlying24 Tryd.underlying5
set_option maxRecDepth 100000 in
theorem str2 {W : World} {v : Value} {base : Nat} {xs : List Int} {n : Nat} (hn : xs.length = n) (h : (Kd.int .u8).R 5 W base (fun _ => True) v xs) (A : Option Addr) (c : Nat) (hv : v = .slice A n c) :
    (convert 24 9 (.slice A n c)).run Tryd.prog W = Result.ok (.string (strOfNums xs)) W := by
  obtain ⟨A4, c4, e4, _, hC4⟩ := Kd.R_reads h
  rw [hv] at e4
  injection e4 with e1 e2 e3
  subst e1 e3
  rw [← hn]
  exact Kd.C_string Tryd.underlying24 Tryd.underlying5 Tryd.underlying9 hC4
set_option maxHeartbeats 8000000 in
set_option maxRecDepth 100000 in
theorem speaks_calls (w : World) :
    Calls Tryd.prog 6 #[] w fun e w' => e = .returned (.bool true) ∧ Below w.heap.size w w' := by
  have hcA := hcc2 97 98
  have hcB := hcc2 99 100
  go_enter Tryd.func6, Tryd.ntmps6
  go_wp2_with fail
  refine (newLen_ok 3 9 _ _ (by decide) (by decide) (by decide)).mono ?_
  rintro e w1 ⟨p1, rfl, hp1, hr1, hb1⟩
  have HP1 := Aside0.mk hp1
  have HR1 := Aside0.mk hr1
  have HB1 := Aside0.mk hb1
  clear hp1 hr1 hb1
  go_wp2_with fail
  refine (newClose_ok 9 _ _ (by decide) (by decide)).mono ?_
  rintro e w2 ⟨p2, rfl, hp2, hr2, hb2⟩
  have HP2 := Aside0.mk hp2
  have HR2 := Aside0.mk hr2
  have HR1b := Aside0.mk (HR1.out.below hb2)
  have HB2 := Aside0.mk (below_step HB1.out hb2)
  have HLT : Aside0 (p1 < p2) := ⟨Nat.lt_of_lt_of_le HR1.out.lt hp2⟩
  clear hp2 hr2 hb2
  go_wp2_with fail
  have L1 : p1 < w2.heap.size := HR1b.out.lt
  have L2 : p2 < w2.heap.size := HR2.out.lt
  have HBa := Aside0.mk (below_alloc (Below.refl w2.heap.size w2) (.cells #[.int .u8 97, .int .u8 98] 5 (2, 3)))
  have HZ1 := Aside0.mk L1
  have HZ2 := Aside0.mk L2
  refine (feedLen_calls [97, 98] 2 _ 2 _ p1 3 0 (.pointer none) (HR1b.out.below HBa.out) (fun u => const2 w2 p1 97 98 L1 u) (by decide) (by decide) (by decide) (by decide) (by decide) (by decide) (by decide)).mono ?_
  rintro e w3 ⟨A3, c3, rfl, hx3, hr3, hs3⟩
  have HX3 := Aside0.mk hx3
  have HR3 := Aside0.mk hr3
  have HN2 := Aside0.mk ((HR2.out.below HBa.out).stay (p := p1) (by have := HLT.out; omega) hs3)
  have HB3 := Aside0.mk (hs3.out (below_step HB2.out HBa.out) (fun k hk => by rw [hk]; exact HP1.out) (below_step HB2.out HBa.out).size)
  have HS3 : Aside0 (w2.heap.size ≤ w3.heap.size) := ⟨Nat.le_trans HBa.out.size hs3.size⟩
  clear hx3 hr3 hs3 L1 L2
  go_wp2_with fail
  refine (end_cut p1 w3 HR3.out).mono ?_
  rintro e w4 ⟨rfl, hr4, hs4⟩
  have HX4 := Aside0.mk (R_stay HX3.out (by have := HZ1.out; have := HBa.out.size; omega) hs4)
  have HN4 := Aside0.mk (HN2.out.stay (p := p1) (by have := HLT.out; omega) hs4)
  have HB4 := Aside0.mk (hs4.out HB3.out (fun k hk => by rw [hk]; exact HP1.out) HB3.out.size)
  have HS4 : Aside0 (w3.heap.size ≤ w4.heap.size) := ⟨hs4.size⟩
  clear hr4 hs4
  go_wp2_with fail
  have HBc := Aside0.mk (below_alloc (Below.refl w4.heap.size w4) (.cells #[.int .u8 99, .int .u8 100] 5 (2, 3)))
  refine (feedClose_calls [99, 100] 2 _ 2 _ p2 9 0 (.pointer none) (HN4.out.below HBc.out) (fun u => const2 w4 p2 99 100 HN4.out.lt u) (by decide) (by decide) (by decide) (by decide) (by decide) (by decide) (by decide)).mono ?_
  rintro e w5 ⟨A5, c5, rfl, hx5, hr5, hs5⟩
  have HX5 := Aside0.mk hx5
  have HR5 := Aside0.mk hr5
  have HX4b := Aside0.mk (R_stay (Kd.R_below HX4.out HBc.out) (by have := HZ2.out; have := HBa.out.size; omega) hs5)
  have HB5 := Aside0.mk (hs5.out (below_step HB4.out HBc.out) (fun k hk => by rw [hk]; have := HLT.out; have := HP1.out; omega) (below_step HB4.out HBc.out).size)
  have HZ5 : Aside0 (p2 < (w4.alloc (.cells #[.int .u8 99, .int .u8 100] 5 (2, 3))).heap.size) := ⟨Nat.lt_of_lt_of_le HN4.out.lt HBc.out.size⟩
  clear hx5 hr5 hs5
  go_wp2_with fail
  refine (end_close p2 w5 HR5.out).mono ?_
  rintro e w6 ⟨rfl, hr6, hs6⟩
  have HX6 := Aside0.mk (R_stay HX4b.out (by have := HZ2.out; have := HBa.out.size; omega) hs6)
  have HY6 := Aside0.mk (R_stay HX5.out HZ5.out hs6)
  have HR6 := Aside0.mk hr6
  have HB6 := Aside0.mk (hs6.out HB5.out (fun k hk => by rw [hk]; have := HLT.out; have := HP1.out; omega) HB5.out.size)
  clear hr6 hs6
  have hv1 : (convert 24 9 (.slice A3 2 c3)).run Tryd.prog w6 = Result.ok (.string ⟨#[97, 98]⟩) w6 := by
    have h5 := str2 (n := 2) (by decide) HX6.out A3 c3 rfl
    rw [show strOfNums (List.take 2 [97, 98]) = ⟨#[97, 98]⟩ from by decide +kernel] at h5
    exact h5
  have hv2 : (convert 24 9 (.slice A5 2 c5)).run Tryd.prog w6 = Result.ok (.string ⟨#[99, 100]⟩) w6 := by
    have h5 := str2 (n := 2) (by decide) HY6.out A5 c5 rfl
    rw [show strOfNums (List.take 2 [99, 100]) = ⟨#[99, 100]⟩ from by decide +kernel] at h5
    exact h5
  go_wp2_with fail
  refine (whole_calls p2 w6 HR6.out).mono ?_
  rintro e w7 ⟨rfl, hb7⟩
  have HB7 := Aside0.mk (below_step HB6.out hb7)
  have HR7 := Aside0.mk (HR6.out.below hb7)
  clear hb7
  go_wp2_with fail
  refine (got_calls p2 w7 HR7.out).mono ?_
  rintro e w8 ⟨rfl, hb8⟩
  have HB8 := Aside0.mk (below_step HB7.out hb8)
  clear hb8
  go_wp2
  go_ret
  exact ⟨rfl, HB8.out⟩
end Go.Proofs.YtcfmihghgecefaaDoor.Bod
/- Package body, by hand: New at every framing; Feed in chunks; what Feed can't pass; own text of this session. -/
namespace Go.Proofs.YtcfmihghgecefaaDoor.Bod
open Go.RowKit Go.Proofs.YtcfmihghgecefaaDoorW.PrintWords Go.Proofs.YtcfmihghgecefaaDoorW.PrintLast Go.Proofs.YtcfmihghgecefaaDoorW.PrintMore Chk
set_option linter.unusedVariables false
set_option linter.unusedSimpArgs false
set_option maxHeartbeats 8000000 in
set_option maxRecDepth 100000 in
theorem new_arg (kind length most : Int) (x : Bool) (w : World) (h : kind < 1 ∨ 4 < kind ∨ (length < 0 ∨ 9007199254740992 < length) ∨ (¬ kind = 2 ∧ ¬ length = 0) ∨ (most < 0 ∨ 9007199254740992 < most)) :
    Calls Tryd.prog 7 #[.agg #[.int .i64 kind, .int .i64 length, .bool x], .int .i64 most] w fun e w' => e = .returned (.tuple #[.pointer none, .int .i64 1]) ∧ Below w.heap.size w w' := by
  by_cases a1 : kind < 1
  · clear h
    go_enter Tryd.func7, Tryd.ntmps7
    go_wp2
    go_ret2
    exact ⟨rfl, below_alloc (Below.refl _ _) _⟩
  by_cases a2 : 4 < kind
  · clear h
    go_enter Tryd.func7, Tryd.ntmps7
    go_wp2
    go_ret2
    exact ⟨rfl, below_alloc (Below.refl _ _) _⟩
  by_cases a3 : length < 0 ∨ 9007199254740992 < length
  · have K1 := Aside0.mk (fun W => size_no length W a3)
    clear h a3
    go_enter Tryd.func7, Tryd.ntmps7
    go_wp2_with (go_at_call 13; (refine (K1.out _).mono ?_; rintro e w1 ⟨rfl, rfl⟩))
    go_ret2
    exact ⟨rfl, below_alloc (Below.refl _ _) _⟩
  have K1 := Aside0.mk (fun W => size_yes length W (by omega) (by omega))
  by_cases a4 : kind = 2
  · subst a4
    have K2 := Aside0.mk (fun W => size_no most W (by omega))
    clear h a3
    go_enter Tryd.func7, Tryd.ntmps7
    go_wp2_with (go_at_call 13; first | (refine (K1.out _).mono ?_; rintro e w1 ⟨rfl, rfl⟩) | (refine (K2.out _).mono ?_; rintro e w1 ⟨rfl, rfl⟩))
    go_ret2
    exact ⟨rfl, below_alloc (Below.refl _ _) _⟩
  have b4 : (kind != 2) = true := by simpa using a4
  by_cases a5 : length = 0
  · subst a5
    have K2 := Aside0.mk (fun W => size_no most W (by omega))
    clear h a3
    go_enter Tryd.func7, Tryd.ntmps7
    go_wp2_with (go_at_call 13; first | (refine (K1.out _).mono ?_; rintro e w1 ⟨rfl, rfl⟩) | (refine (K2.out _).mono ?_; rintro e w1 ⟨rfl, rfl⟩))
    go_ret2
    exact ⟨rfl, below_alloc (Below.refl _ _) _⟩
  · have b5 : (length != 0) = true := by simpa using a5
    clear h a3
    go_enter Tryd.func7, Tryd.ntmps7
    go_wp2_with (go_at_call 13; (refine (K1.out _).mono ?_; rintro e w1 ⟨rfl, rfl⟩))
    go_ret2
    exact ⟨rfl, below_alloc (Below.refl _ _) _⟩
set_option maxHeartbeats 4000000 in
set_option maxRecDepth 100000 in
theorem newNone_ok (most : Int) (x : Bool) (w : World) (h0 : 0 ≤ most) (h2 : most ≤ 9007199254740992) :
    Calls Tryd.prog 7 #[.agg #[.int .i64 1, .int .i64 0, .bool x], .int .i64 most] w (NewPost most 1 true w) := by
  have K1 := Aside0.mk (fun W => size_yes 0 W (by decide) (by decide))
  have K2 := Aside0.mk (fun W => size_yes most W h0 h2)
  go_enter Tryd.func7, Tryd.ntmps7
  go_wp2_with (go_at_call 13; first | (refine (K1.out _).mono ?_; rintro e w1 ⟨rfl, rfl⟩) | (refine (K2.out _).mono ?_; rintro e w1 ⟨rfl, rfl⟩))
  go_ret2
  exact ⟨_, rfl, Nat.le_succ _, blk_two _ _ _, below_alloc (below_alloc (Below.refl _ _) _) _⟩
def NewCPost (most : Int) (w : World) (e : Ending) (w' : World) : Prop :=
  ∃ p pd, e = .returned (.tuple #[.pointer (some ⟨p, 0, none⟩), .int .i64 0]) ∧ w.heap.size ≤ p ∧ p < pd ∧ Rd w' p most 0 3 (.pointer (some ⟨pd, 0, none⟩)) false 0 ∧
    Rep w' (fun k => k = pd) pd (.slice none 0 0) (.slice none 0 0) (.slice none 0 0) (newDec most) ∧ Below w.heap.size w w'
set_option maxHeartbeats 4000000 in
set_option maxRecDepth 100000 in
theorem newChunk_ok (most : Int) (x : Bool) (w : World) (h0 : 0 ≤ most) (h2 : most ≤ 9007199254740992) :
    Calls Tryd.prog 7 #[.agg #[.int .i64 3, .int .i64 0, .bool x], .int .i64 most] w (NewCPost most w) := by
  have K1 := Aside0.mk (fun W => size_yes 0 W (by decide) (by decide))
  have K2 := Aside0.mk (fun W => size_yes most W h0 h2)
  have K3 := Aside0.mk (fun W => new_calls most W h0 h2)
  go_enter Tryd.func7, Tryd.ntmps7
  go_wp2_with (first
    | (go_at_call 13; first | (refine (K1.out _).mono ?_; rintro e w1 ⟨rfl, rfl⟩) | (refine (K2.out _).mono ?_; rintro e w1 ⟨rfl, rfl⟩))
    | (go_at_call 14; refine (K3.out _).mono ?_; rintro e w2 ⟨pd, rfl, hpd, hrep, hb⟩; have HPD := Aside0.mk hpd; have HRep := Aside0.mk hrep; have HBl := Aside0.mk hb; have hrd : Rd w2 (w.heap.size + 1) most 0 3 (.pointer none) false 0 := (hb.block (w.heap.size + 1) (blk_lt (blk_two w _ _))).trans (blk_two w _ _); have HRd := Aside0.mk hrd; have hz3 : w2.cell? ⟨w.heap.size + 1, 3, none⟩ = some (.pointer none) := (blk_cell hrd 3).trans rfl; have hf3 := blk_frozen hrd 3; clear hpd hrep hb hrd))
  go_ret2
  have hlt : w.heap.size + 1 < pd := Nat.lt_of_lt_of_le (blk_lt (blk_two w _ _)) HPD.out
  refine ⟨w.heap.size + 1, pd, rfl, Nat.le_succ _, hlt, blk_put HRd.out 3 _ rfl, HRep.out.move (fun k hk _ => Below.heap_setCell _ _ _ _ (by rw [hk]; show pd ≠ w.heap.size + 1; omega)), ?_⟩
  exact (below_then (below_alloc (below_alloc (Below.refl w.heap.size w) _) _) (below_size (below_alloc (below_alloc (Below.refl w.heap.size w) _) _)) HBl.out).setCell (p := ⟨w.heap.size + 1, 3, none⟩) (Nat.le_succ _) _
end Go.Proofs.YtcfmihghgecefaaDoor.Bod
/- A decoder, plainly: bytes one by one, and what was read before; own text of this session (out of ChkG). -/
namespace Go.Proofs.YtcfmihghgecefaaDoor.Chk
open Go.RowKit Go.Proofs.YtcfmihghgecefaaDoorW.PrintWords Go.Proofs.YtcfmihghgecefaaDoorW.PrintLast
set_option linter.unusedVariables false
set_option linter.unusedSimpArgs false
theorem feed_go (d : Dec) (c : Int) (r : List Int) (n : Nat) (h : ¬ (d.whole = true ∨ ¬ d.wrong = 0)) : feedGo d (c :: r) n = feedGo { (stepE d c).1 with wrong := (stepE d c).2 } r (n + 1) := by
  show (if d.whole = true ∨ ¬ d.wrong = 0 then (d, n) else _) = _
  rw [if_neg h]
/-- Bytes that were read before change nothing. -/
def Dec.pre (p : List Int) (d : Dec) : Dec := { d with out := p ++ d.out }
theorem step_pre (p : List Int) (d : Dec) (c : Int) : stepE (d.pre p) c = ((stepE d c).1.pre p, (stepE d c).2) := by
  unfold stepE
  have hst : (d.pre p).st = d.st := rfl
  rw [hst]
  match d.st with
  | 0 =>
    show sizeS (d.pre p) c = ((sizeS d c).1.pre p, (sizeS d c).2)
    unfold sizeS
    have hl : (d.pre p).line = d.line := rfl
    rw [hl]
    cases (lined d.line c).2.1 with
    | none => rfl
    | some s =>
      cases hs : sizeLine s with
      | none => simp only [hs]; rfl
      | some n =>
        simp only [hs]
        unfold sizeN
        have hle : (d.pre p).left = d.left := rfl
        rw [hle]
        by_cases h1 : n > d.left
        · rw [if_pos h1, if_pos h1]; rfl
        · rw [if_neg h1, if_neg h1]
          by_cases h2 : n = 0
          · rw [if_pos h2, if_pos h2]; rfl
          · rw [if_neg h2, if_neg h2]; rfl
  | 1 =>
    show dataS (d.pre p) c = ((dataS d c).1.pre p, (dataS d c).2)
    unfold dataS Dec.pre
    simp only [List.append_assoc]
  | 2 =>
    show endS (d.pre p) c = ((endS d c).1.pre p, (endS d c).2)
    unfold endS
    have hl : (d.pre p).line = d.line := rfl
    rw [hl]
    by_cases h1 : c ≠ (if d.line.length = 1 then 10 else 13)
    · rw [if_pos h1, if_pos h1]
    · rw [if_neg h1, if_neg h1]
      by_cases h2 : c = 10
      · rw [if_pos h2, if_pos h2]; rfl
      · rw [if_neg h2, if_neg h2]; rfl
  | n + 3 =>
    show trailerS (d.pre p) c = ((trailerS d c).1.pre p, (trailerS d c).2)
    unfold trailerS
    have hl : (d.pre p).line = d.line := rfl
    have ht : (d.pre p).tr = d.tr := rfl
    rw [hl, ht]
    cases (lined d.line c).2.1 with
    | none => rfl
    | some s =>
      simp only
      by_cases h1 : s.size = 0
      · rw [if_pos h1, if_pos h1]; rfl
      · rw [if_neg h1, if_neg h1]
        by_cases h2 : (Lib.cut s.data.toList [58]).2.2 = false ∨ d.tr.length = 100 ∨ ¬ fldE (trailerF s) = 0
        · rw [if_pos h2, if_pos h2]; rfl
        · rw [if_neg h2, if_neg h2]; rfl
theorem feed_pre (p : List Int) (b : List Int) : ∀ (d : Dec) (n : Nat), feedGo (d.pre p) b n = ((feedGo d b n).1.pre p, (feedGo d b n).2) := by
  induction b with
  | nil => intro d n; rfl
  | cons c r ih =>
    intro d n
    by_cases h : d.whole = true ∨ ¬ d.wrong = 0
    · rw [feed_stop d (c :: r) n (.inr h), feed_stop (d.pre p) (c :: r) n (.inr h)]
    · rw [feed_go d c r n h, feed_go (d.pre p) c r n h, ← ih]
      congr 1
      rw [step_pre]
      rfl
theorem feed_shift (b : List Int) : ∀ (d : Dec) (n k : Nat), feedGo d b (n + k) = ((feedGo d b n).1, (feedGo d b n).2 + k) := by
  induction b with
  | nil => intro d n k; rfl
  | cons c r ih =>
    intro d n k
    by_cases h : d.whole = true ∨ ¬ d.wrong = 0
    · rw [feed_stop d (c :: r) _ (.inr h), feed_stop d (c :: r) _ (.inr h)]
    · rw [feed_go d c r _ h, feed_go d c r _ h, show n + k + 1 = n + 1 + k from by omega, ih]
end Go.Proofs.YtcfmihghgecefaaDoor.Chk
/- A body's reader, plainly, at any framing: its bytes one by one; what it holds; own text of this session. -/
namespace Go.Proofs.YtcfmihghgecefaaDoor.Bod
open Go.RowKit Go.Proofs.YtcfmihghgecefaaDoorW.PrintWords Go.Proofs.YtcfmihghgecefaaDoorW.PrintLast Chk
set_option linter.unusedVariables false
set_option linter.unusedSimpArgs false
/-- A reader: how much may come, how much came, how the body ends (1: none, 2: a length, 3: chunks, 4: with its connection), the decoder of chunks. -/
structure Bd where
  left : Int
  got : Int
  kind : Int
  dec : Option Dec
  whole : Bool
  wrong : Int
/-- A byte is read: the reader then, and the body's bytes. -/
def byteB (r : Bd) (x : Int) : Bd × List Int :=
  if r.kind = 2 then (⟨r.left - 1, r.got + 1, r.kind, r.dec, r.left - 1 == 0, r.wrong⟩, [x])
  else if r.kind = 4 then (if r.left = 0 then (⟨r.left, r.got, r.kind, r.dec, r.whole, 2⟩, []) else (⟨r.left - 1, r.got + 1, r.kind, r.dec, r.whole, r.wrong⟩, [x]))
  else match r.dec with
    | none => (r, [])
    | some d => (⟨r.left, r.got + ((stepE d x).1.out.length : Nat), r.kind, some { (stepE d x).1 with out := [], wrong := (stepE d x).2 }, (stepE d x).1.whole, (stepE d x).2⟩, (stepE d x).1.out)
def Bd.over (r : Bd) : Prop := r.whole = true ∨ ¬ r.wrong = 0
instance (r : Bd) : Decidable r.over := inferInstanceAs (Decidable (_ ∨ _))
def feedB : Bd → List Int → Bd × List Int × Nat
  | r, [] => (r, [], 0)
  | r, x :: t => if r.over then (r, [], 0) else ((feedB (byteB r x).1 t).1, (byteB r x).2 ++ (feedB (byteB r x).1 t).2.1, (feedB (byteB r x).1 t).2.2 + 1)
theorem feedB_stop (r : Bd) (b : List Int) (h : b = [] ∨ r.over) : feedB r b = (r, [], 0) := by
  cases b with
  | nil => rfl
  | cons x t =>
    have h : r.over := h.elim (fun e => by cases e) id
    show (if r.over then _ else _) = _
    rw [if_pos h]
theorem feedB_next (r : Bd) (x : Int) (t : List Int) (h : ¬ r.over) : feedB r (x :: t) = ((feedB (byteB r x).1 t).1, (byteB r x).2 ++ (feedB (byteB r x).1 t).2.1, (feedB (byteB r x).1 t).2.2 + 1) := by
  show (if r.over then _ else _) = _
  rw [if_neg h]
/-- What a reader's numbers and kinds are. -/
structure BFine (r : Bd) : Prop where
  left0 : 0 ≤ r.left
  left1 : r.left ≤ 9007199254740992
  got0 : 0 ≤ r.got
  kinds : (r.kind = 1 ∧ r.whole = true ∧ r.wrong = 0 ∧ r.dec = none) ∨ (r.kind = 2 ∧ r.whole = (r.left == 0) ∧ r.wrong = 0 ∧ r.dec = none) ∨ (r.kind = 4 ∧ r.dec = none) ∨ (r.kind = 3 ∧ ∃ d, r.dec = some d ∧ d.out = [] ∧ Fine d ∧ d.whole = r.whole ∧ d.wrong = r.wrong)
def Bd.mass (r : Bd) : Nat := match r.dec with | none => 0 | some d => d.mass
theorem fine_wrong {d : Dec} {e : Int} (h : Fine d) : Fine { d with out := [], wrong := e } := ⟨h.1, h.2, h.3, h.4⟩
theorem BFine.byte {r : Bd} (h : BFine r) (ho : ¬ r.over) (x : Int) : BFine (byteB r x).1 := by
  obtain ⟨l0, l1, g0, hk⟩ := h
  have hw : ¬ r.whole = true := fun e => ho (.inl e)
  have he : r.wrong = 0 := by by_cases e : r.wrong = 0; exact e; exact absurd (.inr e) ho
  unfold byteB
  rcases hk with ⟨k, w, _⟩ | ⟨k, w, e, d⟩ | ⟨k, d⟩ | ⟨k, d, hd, ho2, hf, hw2, he2⟩
  · exact absurd w hw
  · rw [if_pos k]
    rw [w] at hw
    have hne : ¬ r.left = 0 := fun e => hw (by rw [e]; rfl)
    exact ⟨by show 0 ≤ r.left - 1; omega, by show r.left - 1 ≤ _; omega, by show 0 ≤ r.got + 1; omega, .inr (.inl ⟨k, rfl, e, d⟩)⟩
  · rw [if_neg (by rw [k]; decide), if_pos k]
    by_cases hz : r.left = 0
    · rw [if_pos hz]; exact ⟨l0, l1, g0, .inr (.inr (.inl ⟨k, d⟩))⟩
    · rw [if_neg hz]; exact ⟨by show 0 ≤ r.left - 1; omega, by show r.left - 1 ≤ _; omega, by show 0 ≤ r.got + 1; omega, .inr (.inr (.inl ⟨k, d⟩))⟩
  · rw [if_neg (by rw [k]; decide), if_neg (by rw [k]; decide), hd]
    exact ⟨l0, l1, by show 0 ≤ r.got + _; omega, .inr (.inr (.inr ⟨k, _, rfl, rfl, fine_wrong (step_fine d x hf), rfl, rfl⟩))⟩
theorem BFine.feed (b : List Int) : ∀ {r : Bd}, BFine r → BFine (feedB r b).1 := by
  induction b with
  | nil => intro r h; exact h
  | cons x t ih =>
    intro r h
    by_cases ho : r.over
    · rw [feedB_stop r _ (.inr ho)]; exact h
    · rw [feedB_next r x t ho]; exact ih (h.byte ho x)
theorem feedB_count (b : List Int) : ∀ r : Bd, (feedB r b).2.2 ≤ b.length ∧ (¬ r.over → b ≠ [] → 1 ≤ (feedB r b).2.2) ∧ ((feedB r b).2.2 = b.length ∨ (feedB r b).1.over) := by
  induction b with
  | nil => intro r; exact ⟨Nat.le_refl _, fun _ h => absurd rfl h, .inl rfl⟩
  | cons x t ih =>
    intro r
    by_cases ho : r.over
    · rw [feedB_stop r _ (.inr ho)]; exact ⟨Nat.zero_le _, fun h => absurd ho h, .inr ho⟩
    · rw [feedB_next r x t ho]
      obtain ⟨h1, h2, h3⟩ := ih (byteB r x).1
      exact ⟨by show _ + 1 ≤ _ + 1; omega, fun _ _ => by show 1 ≤ _ + 1; omega, h3.elim (fun e => .inl (by show _ + 1 = _ + 1; omega)) .inr⟩
theorem feedB_append (a b : List Int) : ∀ r : Bd, feedB r (a ++ b) = if (feedB r a).2.2 = a.length then ((feedB (feedB r a).1 b).1, (feedB r a).2.1 ++ (feedB (feedB r a).1 b).2.1, a.length + (feedB (feedB r a).1 b).2.2) else feedB r a := by
  induction a with
  | nil => intro r; rw [List.nil_append, feedB_stop r [] (.inl rfl)]; show _ = if 0 = 0 then (_, [] ++ _, 0 + _) else _; rw [if_pos rfl, List.nil_append, Nat.zero_add]
  | cons x t ih =>
    intro r
    rw [List.cons_append]
    by_cases ho : r.over
    · rw [feedB_stop r (x :: (t ++ b)) (.inr ho), feedB_stop r (x :: t) (.inr ho), if_neg (by simp)]
    · rw [feedB_next r x _ ho, feedB_next r x _ ho, ih]
      by_cases hc : (feedB (byteB r x).1 t).2.2 = t.length
      · rw [if_pos hc, if_pos (by show _ + 1 = _ + 1; omega)]
        simp only [List.append_assoc, List.length_cons, Prod.mk.injEq, true_and]
        omega
      · rw [if_neg hc, if_neg (by show ¬ (_ + 1 = _ + 1); omega)]
/-! ### what whole pieces come to -/
theorem feedB_len (b : List Int) : ∀ (r : Bd), r.kind = 2 → r.wrong = 0 → r.whole = (r.left == 0) → 0 ≤ r.left → feedB r b = (⟨r.left - (min b.length r.left.toNat : Nat), r.got + (min b.length r.left.toNat : Nat), r.kind, r.dec, r.left - (min b.length r.left.toNat : Nat) == 0, r.wrong⟩, b.take (min b.length r.left.toNat), min b.length r.left.toNat) := by
  induction b with
  | nil =>
    intro r k e w l
    rw [feedB_stop r [] (.inl rfl)]
    simp only [List.length_nil, Nat.zero_min, List.take_zero, Int.natCast_zero, Int.sub_zero, Int.add_zero, ← w]
  | cons x t ih =>
    intro r k e w l
    by_cases hz : r.left = 0
    · have ho : r.over := .inl (by rw [w, hz]; rfl)
      rw [feedB_stop r _ (.inr ho)]
      obtain ⟨rl, rg, rk, rd, rw', re⟩ := r
      simp only at hz w
      subst hz
      simp only [Int.toNat_zero, Nat.min_zero, List.take_zero, Int.natCast_zero, Int.sub_zero, Int.add_zero, w]
    · have ho : ¬ r.over := by
        rintro (h | h)
        · rw [w] at h; exact hz (by simpa using h)
        · exact h e
      have hb : byteB r x = (⟨r.left - 1, r.got + 1, r.kind, r.dec, r.left - 1 == 0, r.wrong⟩, [x]) := by unfold byteB; rw [if_pos k]
      rw [feedB_next r x t ho, hb, ih ⟨r.left - 1, r.got + 1, r.kind, r.dec, r.left - 1 == 0, r.wrong⟩ k e rfl (by show 0 ≤ r.left - 1; omega)]
      have e1 : min (x :: t).length r.left.toNat = min t.length (r.left - 1).toNat + 1 := by simp only [List.length_cons]; omega
      rw [e1]
      simp only [List.take_succ_cons, List.singleton_append]
      have e2 : r.left - 1 - ((min t.length (r.left - 1).toNat : Nat) : Int) = r.left - ((min t.length (r.left - 1).toNat + 1 : Nat) : Int) := by omega
      have e3 : r.got + 1 + ((min t.length (r.left - 1).toNat : Nat) : Int) = r.got + ((min t.length (r.left - 1).toNat + 1 : Nat) : Int) := by omega
      rw [e2, e3]
theorem feedB_close (b : List Int) : ∀ (r : Bd), r.kind = 4 → r.wrong = 0 → r.whole = false → 0 ≤ r.left → feedB r b = (⟨r.left - (min b.length r.left.toNat : Nat), r.got + (min b.length r.left.toNat : Nat), r.kind, r.dec, r.whole, if min b.length r.left.toNat < b.length then 2 else 0⟩, b.take (min b.length r.left.toNat), if min b.length r.left.toNat < b.length then min b.length r.left.toNat + 1 else min b.length r.left.toNat) := by
  induction b with
  | nil =>
    intro r k e w l
    rw [feedB_stop r [] (.inl rfl)]
    obtain ⟨rl, rg, rk, rd, rw', re⟩ := r
    simp only at e w
    subst e
    simp
  | cons x t ih =>
    intro r k e w l
    have ho : ¬ r.over := by
      rintro (h | h)
      · rw [w] at h; cases h
      · exact h e
    by_cases hz : r.left = 0
    · have hb : byteB r x = (⟨r.left, r.got, r.kind, r.dec, r.whole, 2⟩, []) := by unfold byteB; rw [if_neg (by rw [k]; decide), if_pos k, if_pos hz]
      rw [feedB_next r x t ho, hb, feedB_stop _ t (.inr (.inr (fun h => absurd (show (2 : Int) = 0 from h) (by decide))))]
      rw [hz]
      simp
    · have hb : byteB r x = (⟨r.left - 1, r.got + 1, r.kind, r.dec, r.whole, r.wrong⟩, [x]) := by unfold byteB; rw [if_neg (by rw [k]; decide), if_pos k, if_neg hz]
      rw [feedB_next r x t ho, hb, ih ⟨r.left - 1, r.got + 1, r.kind, r.dec, r.whole, r.wrong⟩ k e w (by show 0 ≤ r.left - 1; omega)]
      have e1 : min (x :: t).length r.left.toNat = min t.length (r.left - 1).toNat + 1 := by simp only [List.length_cons]; omega
      rw [e1]
      simp only [List.take_succ_cons, List.singleton_append, List.length_cons, Nat.add_lt_add_iff_right]
      have e2 : r.left - 1 - ((min t.length (r.left - 1).toNat : Nat) : Int) = r.left - ((min t.length (r.left - 1).toNat + 1 : Nat) : Int) := by omega
      have e3 : r.got + 1 + ((min t.length (r.left - 1).toNat : Nat) : Int) = r.got + ((min t.length (r.left - 1).toNat + 1 : Nat) : Int) := by omega
      rw [e2, e3]
      split <;> rfl
theorem feedB_chunk (b : List Int) : ∀ (r : Bd) (d : Dec), r.kind = 3 → r.dec = some d → d.out = [] → d.whole = r.whole → d.wrong = r.wrong →
    feedB r b = (⟨r.left, r.got + ((feedGo d b 0).1.out.length : Nat), r.kind, some { (feedGo d b 0).1 with out := [] }, (feedGo d b 0).1.whole, (feedGo d b 0).1.wrong⟩, (feedGo d b 0).1.out, (feedGo d b 0).2) := by
  induction b with
  | nil =>
    intro r d k hd ho hw he
    rw [feedB_stop r [] (.inl rfl)]
    show _ = (Bd.mk r.left (r.got + (d.out.length : Nat)) r.kind (some { d with out := [] }) d.whole d.wrong, d.out, 0)
    have e : ({ d with out := [] } : Dec) = d := by rw [← ho]
    rw [e, ho, hw, he, ← hd]
    simp
  | cons x t ih =>
    intro r d k hd ho hw he
    by_cases hov : r.over
    · have hov2 : d.whole = true ∨ ¬ d.wrong = 0 := by rw [hw, he]; exact hov
      rw [feedB_stop r _ (.inr hov), feed_stop d _ _ (.inr hov2)]
      have e : ({ d with out := [] } : Dec) = d := by rw [← ho]
      simp only
      rw [e, ho, hw, he, ← hd]
      simp
    · have hov2 : ¬ (d.whole = true ∨ ¬ d.wrong = 0) := by rw [hw, he]; exact hov
      have hb : byteB r x = (⟨r.left, r.got + ((stepE d x).1.out.length : Nat), r.kind, some { (stepE d x).1 with out := [], wrong := (stepE d x).2 }, (stepE d x).1.whole, (stepE d x).2⟩, (stepE d x).1.out) := by
        unfold byteB; rw [if_neg (by rw [k]; decide), if_neg (by rw [k]; decide), hd]
      rw [feedB_next r x t hov, hb, feed_go d x t 0 hov2]
      rw [ih ⟨r.left, r.got + ((stepE d x).1.out.length : Nat), r.kind, some { (stepE d x).1 with out := [], wrong := (stepE d x).2 }, (stepE d x).1.whole, (stepE d x).2⟩ { (stepE d x).1 with out := [], wrong := (stepE d x).2 } k rfl rfl rfl rfl]
      have e : ({ (stepE d x).1 with wrong := (stepE d x).2 } : Dec) = Dec.pre (stepE d x).1.out { (stepE d x).1 with out := [], wrong := (stepE d x).2 } := by unfold Dec.pre; simp
      have e2 : feedGo { (stepE d x).1 with wrong := (stepE d x).2 } t (0 + 1) = ((feedGo { (stepE d x).1 with out := [], wrong := (stepE d x).2 } t 0).1.pre (stepE d x).1.out, (feedGo { (stepE d x).1 with out := [], wrong := (stepE d x).2 } t 0).2 + 1) := by
        rw [feed_shift t _ 0 1, e, feed_pre]
      rw [e2]
      obtain ⟨q, hq⟩ : ∃ q, q = feedGo { (stepE d x).1 with out := [], wrong := (stepE d x).2 } t 0 := ⟨_, rfl⟩
      rw [← hq]
      simp only [Dec.pre, List.length_append, Prod.mk.injEq, Bd.mk.injEq, true_and, and_true]
      omega
end Go.Proofs.YtcfmihghgecefaaDoor.Bod
/- Package body, by hand: Feed of a reader at any framing, wherever it stands; own text of this session. -/
namespace Go.Proofs.YtcfmihghgecefaaDoor.Bod
open Go.RowKit Go.Proofs.YtcfmihghgecefaaDoorW.PrintWords Go.Proofs.YtcfmihghgecefaaDoorW.PrintLast Go.Proofs.YtcfmihghgecefaaDoorW.PrintMore Chk
set_option linter.unusedVariables false
set_option linter.unusedSimpArgs false
/-- A reader's memory: its block, and its decoder's. -/
structure BRep (w : World) (F : Nat → Prop) (p : Nat) (r : Bd) : Prop where
  inF : F p
  fine : BFine r
  rep : ∃ dv, Rd w p r.left r.got r.kind dv r.whole r.wrong ∧ ((r.dec = none ∧ dv = .pointer none) ∨ ∃ d pd Fd vl vo vt, r.dec = some d ∧ dv = .pointer (some ⟨pd, 0, none⟩) ∧ Chk.Rep w Fd pd vl vo vt d ∧ (∀ k, Fd k → F k) ∧ ¬ Fd p)
section
variable {w w1 : World} {F : Nat → Prop} {p : Nat} {r : Bd}
theorem BRep.lt (h : BRep w F p r) : p < w.heap.size := by obtain ⟨dv, h1, _⟩ := h.rep; exact h1.lt
theorem BRep.mono {G : Nat → Prop} (h : BRep w F p r) (hG : ∀ k, F k → G k) : BRep w G p r := by
  obtain ⟨dv, h1, h2⟩ := h.rep
  refine ⟨hG _ h.inF, h.fine, dv, h1, ?_⟩
  rcases h2 with h2 | ⟨d, pd, Fd, vl, vo, vt, e1, e2, h3, h4, h5⟩
  · exact .inl h2
  · exact .inr ⟨d, pd, Fd, vl, vo, vt, e1, e2, h3, fun k hk => hG k (h4 k hk), h5⟩
theorem BRep.move (h : BRep w F p r) (hm : ∀ k, F k → k < w.heap.size → w1.heap[k]? = w.heap[k]?) : BRep w1 F p r := by
  obtain ⟨dv, h1, h2⟩ := h.rep
  refine ⟨h.inF, h.fine, dv, (hm p h.inF h1.lt).trans h1, ?_⟩
  rcases h2 with h2 | ⟨d, pd, Fd, vl, vo, vt, e1, e2, h3, h4, h5⟩
  · exact .inl h2
  · exact .inr ⟨d, pd, Fd, vl, vo, vt, e1, e2, h3.move (fun k hk hl => hm k (h4 k hk) hl), h4, h5⟩
theorem BRep.below (h : BRep w F p r) (hb : Below w.heap.size w w1) : BRep w1 F p r := h.move (fun k _ hk => hb.block k hk)
theorem BRep.trim (h : BRep w F p r) : BRep w (fun k => F k ∧ k < w.heap.size) p r := by
  obtain ⟨dv, h1, h2⟩ := h.rep
  refine ⟨⟨h.inF, h1.lt⟩, h.fine, dv, h1, ?_⟩
  rcases h2 with h2 | ⟨d, pd, Fd, vl, vo, vt, e1, e2, h3, h4, h5⟩
  · exact .inl h2
  · exact .inr ⟨d, pd, _, vl, vo, vt, e1, e2, h3.trim, fun k hk => ⟨h4 k hk.1, hk.2⟩, fun hk => h5 hk.1⟩
end
/-- What Feed leaves. -/
def FeedB (w : World) (F : Nat → Prop) (p : Nat) (q : Bd × List Int × Nat) (e : Ending) (w' : World) : Prop :=
  ∃ v, e = .returned (.tuple #[v, .int .i64 (q.2.2 : Int), .bool q.1.whole, .int .i64 q.1.wrong]) ∧
    (∃ (F' G : Nat → Prop), BRep w' F' p q.1 ∧ (Kd.int .u8).R 5 w' 0 G v q.2.1 ∧
      (∀ k, F' k → (F k ∨ w.heap.size ≤ k) ∧ k < w'.heap.size) ∧ (∀ k, G k → (F k ∨ w.heap.size ≤ k) ∧ k < w'.heap.size ∧ ¬ F' k)) ∧ Stay F w w'
set_option maxHeartbeats 4000000 in
set_option maxRecDepth 100000 in
theorem feedOver_calls (v : Value) (w : World) (p : Nat) {left got kind : Int} {dec : Value} (whole : Bool) (wrong : Int) (h : Rd w p left got kind dec whole wrong) (ho : whole = true ∨ ¬ wrong = 0) :
    Calls Tryd.prog 8 #[.pointer (some ⟨p, 0, none⟩), v] w fun e w' => e = .returned (.tuple #[.slice none 0 0, .int .i64 0, .bool whole, .int .i64 wrong]) ∧ Below w.heap.size w w' := by
  have hz4 : w.cell? ⟨p, 4, none⟩ = some (.bool whole) := (blk_cell h 4).trans rfl
  have hz5 : w.cell? ⟨p, 5, none⟩ = some (.int .i64 wrong) := (blk_cell h 5).trans rfl
  clear h
  cases whole with
  | true =>
    clear ho
    go_enter Tryd.func8, Tryd.ntmps8
    go_wp2
    go_region
    all_goals
      go_wp2
      refine bodyPost_ret (results_list (rs := [.tmp 4, .tmp 5, .tmp 6, .tmp 7]) rfl (by simp) (.tmp (.tmp (.tmp (.tmp .nil))))) rfl ?_
      exact ⟨rfl, below_drew (Below.refl _ _)⟩
  | false =>
    have hw : ¬ wrong = 0 := ho.elim (fun e => by cases e) id
    have hwb : (wrong != 0) = true := by simpa using hw
    clear ho
    go_enter Tryd.func8, Tryd.ntmps8
    go_wp2
    go_region
    all_goals
      go_wp2
      refine bodyPost_ret (results_list (rs := [.tmp 4, .tmp 5, .tmp 6, .tmp 7]) rfl (by simp) (.tmp (.tmp (.tmp (.tmp .nil))))) rfl ?_
      exact ⟨rfl, below_drew (Below.refl _ _)⟩
/-- In chunks: where the decoder stands anywhere. -/
def FeedDPost (w : World) (Fd : Nat → Prop) (p pd : Nat) (left got : Int) (q : Dec × Nat) (e : Ending) (w' : World) : Prop :=
  ∃ (A1 : Option Addr) (c1 : Nat), e = .returned (.tuple #[.slice A1 q.1.out.length c1, .int .i64 (q.2 : Int), .bool q.1.whole, .int .i64 q.1.wrong]) ∧
    Rd w' p left (got + (q.1.out.length : Nat)) 3 (.pointer (some ⟨pd, 0, none⟩)) q.1.whole q.1.wrong ∧
    (∃ (F' G : Nat → Prop) (vl vt : Value), Chk.Rep w' F' pd vl (.slice none 0 0) vt { q.1 with out := [] } ∧ (Kd.int .u8).R 5 w' 0 G (.slice A1 q.1.out.length c1) q.1.out ∧
      (∀ k, F' k → (Fd k ∨ w.heap.size ≤ k) ∧ k < w'.heap.size) ∧ (∀ k, G k → (Fd k ∨ w.heap.size ≤ k) ∧ k < w'.heap.size ∧ ¬ F' k)) ∧ Stay (fun k => Fd k ∨ k = p) w w'
set_option maxHeartbeats 8000000 in
set_option maxRecDepth 100000 in
theorem feedD_calls (w0 w : World) (Fd : Nat → Prop) (p pd : Nat) (left got : Int) (b : List Int) (A : Option Addr) (c : Nat) (d : Dec) (vl vo vt : Value) (hH : Held w0 w Fd) (hp : ¬ Fd p)
    (hrd : Rd w p left got 3 (.pointer (some ⟨pd, 0, none⟩)) false 0) (hrep : Chk.Rep w Fd pd vl vo vt d) (hd : Fine d) (hm : d.mass + b.length ≤ 4294960000) (hg0 : 0 ≤ got) (hg1 : got + d.mass + b.length ≤ 9007199254740992) (hb : ∀ W', Stay Fd w W' → (Kd.int .u8).C W' A b.length b) :
    Calls Tryd.prog 8 #[.pointer (some ⟨p, 0, none⟩), .slice A b.length c] w (FeedDPost w Fd p pd left got (feedGo d b 0)) := by
  have hms := feed_mass b d 0
  have h1 := feed_calls w0 w Fd pd vl vo vt d A c b hrep hH hm hd hb
  obtain ⟨⟨d1, n1⟩, hf⟩ : ∃ r, r = feedGo d b 0 := ⟨_, rfl⟩
  rw [← hf] at h1 hms ⊢
  obtain ⟨M, hM⟩ : ∃ M, M = d1.out.length := ⟨_, rfl⟩
  have hMm : M ≤ d1.mass := by rw [hM]; unfold Dec.mass; omega
  simp only at hms
  have HK := Aside0.mk h1
  have hz1 : w.cell? ⟨p, 1, none⟩ = some (.int .i64 got) := (blk_cell hrd 1).trans rfl
  have hz2 : w.cell? ⟨p, 2, none⟩ = some (.int .i64 3) := (blk_cell hrd 2).trans rfl
  have hz3 : w.cell? ⟨p, 3, none⟩ = some (.pointer (some ⟨pd, 0, none⟩)) := (blk_cell hrd 3).trans rfl
  have hz4 : w.cell? ⟨p, 4, none⟩ = some (.bool false) := (blk_cell hrd 4).trans rfl
  have hz5 : w.cell? ⟨p, 5, none⟩ = some (.int .i64 0) := (blk_cell hrd 5).trans rfl
  have HRd := Aside0.mk hrd
  have HP := Aside0.mk hp
  have HM := Aside0.mk hM
  have hMb : got + (M : Int) ≤ 9007199254740992 := by omega
  have hMz : (M : Int) ≤ 4294960000 := by omega
  clear hf h1 hms hrd hrep hb hH hp hM hMm hm hd hg1
  unfold FeedDPost
  simp only
  rw [← HM.out]
  go_enter Tryd.func8, Tryd.ntmps8
  go_wp2_with fail
  refine HK.out.mono ?_
  rintro e w1 ⟨v, rfl, ⟨F', G, vl1, vt1, hrep1, hR1, hF', hG'⟩, hs⟩
  obtain ⟨A2, c2, e2⟩ := Kd.R_slice hR1
  simp only at e2 hR1 hrep1
  rw [← HM.out] at e2
  subst e2
  have hrd1 : Rd w1 p left got 3 (.pointer (some ⟨pd, 0, none⟩)) false 0 := (hs.block p HRd.out.lt HP.out).trans HRd.out
  have HR1 := Aside0.mk hrd1
  have hy1 : w1.cell? ⟨p, 1, none⟩ = some (.int .i64 got) := (blk_cell hrd1 1).trans rfl
  have hy4 : w1.cell? ⟨p, 4, none⟩ = some (.bool false) := (blk_cell hrd1 4).trans rfl
  have hy5 : w1.cell? ⟨p, 5, none⟩ = some (.int .i64 0) := (blk_cell hrd1 5).trans rfl
  have hf1 := blk_frozen hrd1 1
  have hf4 := blk_frozen hrd1 4
  have hf5 := blk_frozen hrd1 5
  have HS := Aside0.mk hs
  have HRep := Aside0.mk hrep1
  have HRow := Aside0.mk hR1
  have HF' := Aside0.mk hF'
  have HG' := Aside0.mk hG'
  clear hs hrd1 hz1 hz2 hz3 hz4 hz5 hrep1 hR1 hF' hG'
  go_wp2
  go_region
  all_goals
    go_wp2
    refine bodyPost_ret (results_list (rs := [.tmp 4, .tmp 5, .tmp 6, .tmp 7]) rfl (by simp) (.tmp (.tmp (.tmp (.tmp .nil))))) rfl ?_
    have hnF : ¬ F' p := fun h => (HF'.out p h).1.elim HP.out (fun h2 => by have := HRd.out.lt; omega)
    have hnG : ¬ G p := fun h => (HG'.out p h).1.elim HP.out (fun h2 => by have := HRd.out.lt; omega)
    have hmv : ∀ k, k ≠ p → (((w1.setCell ⟨p, 4, none⟩ (.bool d1.whole)).setCell ⟨p, 5, none⟩ (.int .i64 d1.wrong)).setCell ⟨p, 1, none⟩ (.int .i64 (got + (M : Int)))).heap[k]? = w1.heap[k]? := fun k hk => by
      rw [Below.heap_setCell _ _ _ _ hk, Below.heap_setCell _ _ _ _ hk, Below.heap_setCell _ _ _ _ hk]
    refine ⟨A2, c2, rfl, ?_, ⟨F', G, vl1, vt1, ?_, ?_, ?_, ?_⟩, ?_⟩
    · exact blk_put (blk_put (blk_put HR1.out 4 _ rfl) 5 _ rfl) 1 _ rfl
    · exact (HRep.out.move (w1 := ((w1.setCell ⟨p, 4, none⟩ (.bool d1.whole)).setCell ⟨p, 5, none⟩ (.int .i64 d1.wrong)).setCell ⟨p, 1, none⟩ (.int .i64 (got + (M : Int)))) (fun k hk _ => hmv k (fun e => hnF (by rw [← e]; exact hk)))).below (below_drew (Below.refl _ _))
    · exact Kd.R_drew (Kd.R_step HRow.out (w1 := ((w1.setCell ⟨p, 4, none⟩ (.bool d1.whole)).setCell ⟨p, 5, none⟩ (.int .i64 d1.wrong)).setCell ⟨p, 1, none⟩ (.int .i64 (got + (M : Int)))) (fun k hk _ => hmv k (fun e => hnG (by rw [← e]; exact hk))))
    · intro k hk; have h5 := HF'.out k hk; refine ⟨h5.1, Nat.lt_of_lt_of_le ?_ (below_drew (Below.refl 0 _)).size⟩; rw [set_size, set_size, set_size]; exact h5.2
    · intro k hk; have h5 := HG'.out k hk; refine ⟨h5.1, Nat.lt_of_lt_of_le ?_ (below_drew (Below.refl 0 _)).size, h5.2.2⟩; rw [set_size, set_size, set_size]; exact h5.2.1
    · exact stay_low (((HS.out.mono (fun k hk => .inl hk)).set (F := fun k => Fd k ∨ k = p) (p := ⟨p, 4, none⟩) (.inr rfl) _ |>.set (p := ⟨p, 5, none⟩) (.inr rfl) _).set (p := ⟨p, 1, none⟩) (.inr rfl) _) (below_drew (Below.refl _ _))
theorem feedB_calls (w0 w : World) (F : Nat → Prop) (p : Nat) (r : Bd) (A : Option Addr) (c : Nat) (b : List Int) (h : BRep w F p r) (hH : Held w0 w F) (hm : r.mass + b.length ≤ 4294960000) (hg : r.got + r.mass + b.length ≤ 9007199254740992) (hc : b.length ≤ c) (hb : ∀ W', Stay F w W' → (Kd.int .u8).C W' A b.length b) :
    Calls Tryd.prog 8 #[.pointer (some ⟨p, 0, none⟩), .slice A b.length c] w (FeedB w F p (feedB r b)) := by
  obtain ⟨dv, hrd, hdv⟩ := h.rep
  by_cases ho : r.over
  · rw [feedB_stop r b (.inr ho)]
    refine (feedOver_calls _ w p r.whole r.wrong hrd ho).mono ?_
    rintro e w1 ⟨rfl, hb1⟩
    refine ⟨_, rfl, ⟨fun k => F k ∧ k < w.heap.size, fun _ => False, h.trim.below hb1, Kd.R_nil _ _ _ _ _, fun k hk => ⟨.inl hk.1, Nat.lt_of_lt_of_le hk.2 hb1.size⟩, fun k hk => hk.elim⟩, Stay.below hb1⟩
  · have hw : r.whole = false := by cases hx : r.whole with | false => rfl | true => exact absurd (.inl hx) ho
    have he : r.wrong = 0 := by by_cases e : r.wrong = 0; exact e; exact absurd (.inr e) ho
    have hfine := h.fine.feed b
    obtain ⟨l0, l1, g0, hk⟩ := h.fine
    rcases hk with ⟨k, w5, _⟩ | ⟨k, w5, e5, d5⟩ | ⟨k, d5⟩ | ⟨k, d, hd, ho2, hf, hw2, he2⟩
    · rw [hw] at w5; cases w5
    · have hfl := feedB_len b r k he w5 l0
      obtain ⟨n, hn⟩ : ∃ n, n = min b.length r.left.toNat := ⟨_, rfl⟩
      rw [← hn] at hfl
      rw [hfl] at hfine ⊢
      rw [k, hw, he] at hrd
      have hcl := feedLen_calls b n A c w p r.left r.got dv hrd (fun u => hb _ ((Stay.refl F w).set (p := ⟨p, 0, none⟩) h.inF u)) hc (by omega) l0 l1 hn g0 (by omega)
      refine hcl.mono ?_
      rintro e w1 ⟨A1, c1, rfl, hR, hrd1, hst⟩
      rw [he] at hfine ⊢
      rw [k] at hfine
      have hdv5 : dv = .pointer none := by
        rcases hdv with h5 | ⟨d, pd, Fd, vl, vo, vt, e1, _⟩
        · exact h5.2
        · rw [d5] at e1; cases e1
      refine ⟨_, rfl, ⟨fun k => F k ∧ k < w.heap.size, fun k => w.heap.size ≤ k ∧ k < w1.heap.size, ⟨⟨h.inF, h.lt⟩, ?_, dv, ?_, .inl ⟨d5, hdv5⟩⟩, Kd.R_lower (Kd.R_mono (Kd.R_bound hR) (fun k hk => ⟨hk.2.1, hk.2.2.1⟩)) (Nat.zero_le _), fun k hk => ⟨.inl hk.1, Nat.lt_of_lt_of_le hk.2 hst.size⟩, fun k hk => ⟨.inr hk.1, hk.2, fun h5 => by have := h5.2; have := hk.1; omega⟩⟩, hst.mono (fun k hk => by rw [hk]; exact h.inF)⟩
      · rw [k]; exact hfine
      · rw [k]; exact hrd1
    · have hfl := feedB_close b r k he hw l0
      obtain ⟨n, hn⟩ : ∃ n, n = min b.length r.left.toNat := ⟨_, rfl⟩
      rw [← hn] at hfl
      rw [hfl] at hfine ⊢
      rw [k, hw, he] at hrd
      have hcl := feedClose_calls b n A c w p r.left r.got dv hrd (fun u => hb _ ((Stay.refl F w).set (p := ⟨p, 0, none⟩) h.inF u)) hc (by omega) l0 l1 hn g0 (by omega)
      refine hcl.mono ?_
      rintro e w1 ⟨A1, c1, rfl, hR, hrd1, hst⟩
      have hdv5 : dv = .pointer none := by
        rcases hdv with h5 | ⟨d, pd, Fd, vl, vo, vt, e1, _⟩
        · exact h5.2
        · rw [d5] at e1; cases e1
      refine ⟨.slice A1 n c1, ?_, ⟨fun k => F k ∧ k < w.heap.size, fun k => w.heap.size ≤ k ∧ k < w1.heap.size, ⟨⟨h.inF, h.lt⟩, hfine, dv, ?_, .inl ⟨d5, hdv5⟩⟩, Kd.R_lower (Kd.R_mono (Kd.R_bound hR) (fun k hk => ⟨hk.2.1, hk.2.2.1⟩)) (Nat.zero_le _), fun k hk => ⟨.inl hk.1, Nat.lt_of_lt_of_le hk.2 hst.size⟩, fun k hk => ⟨.inr hk.1, hk.2, fun h5 => by have := h5.2; have := hk.1; omega⟩⟩, hst.mono (fun k hk => by rw [hk]; exact h.inF)⟩
      · simp only [hw]
        split <;> rfl
      · simp only [hw, k]; exact hrd1
    · have hfl := feedB_chunk b r d k hd ho2 hw2 he2
      rw [hfl] at hfine ⊢
      rcases hdv with h5 | ⟨d', pd, Fd, vl, vo, vt, e1, e2, hrep, hFd, hnp⟩
      · rw [hd] at h5; cases h5.1
      · rw [hd] at e1
        cases e1
        rw [k, hw, he, e2] at hrd
        have hmass : r.mass = d.mass := by unfold Bd.mass; rw [hd]
        rw [hmass] at hm hg
        have hcl := feedD_calls w0 w Fd p pd r.left r.got b A c d vl vo vt ⟨hH.inv, hH.below, fun k hk => hH.over k (hFd k hk)⟩ hnp hrd hrep hf hm g0 (by omega) (fun W' hs => hb W' (hs.mono hFd))
        refine hcl.mono ?_
        rintro e w1 ⟨A1, c1, rfl, hrd1, ⟨F', G, vl1, vt1, hrep1, hR1, hF', hG'⟩, hst⟩
        have hnF : ¬ F' p := fun h9 => (hF' p h9).1.elim hnp (fun h2 => by have := h.lt; omega)
        have hnG : ¬ G p := fun h9 => (hG' p h9).1.elim hnp (fun h2 => by have := h.lt; omega)
        refine ⟨_, rfl, ⟨fun k => k = p ∨ F' k, G, ⟨.inl rfl, hfine, .pointer (some ⟨pd, 0, none⟩), ?_, .inr ⟨_, pd, F', vl1, _, vt1, rfl, rfl, hrep1, fun k hk => .inr hk, hnF⟩⟩, hR1, ?_, ?_⟩, hst.mono (fun k hk => hk.elim (hFd k) (fun e => by rw [e]; exact h.inF))⟩
        · simp only [k]; exact hrd1
        · rintro k (rfl | hk)
          · exact ⟨.inl h.inF, Nat.lt_of_lt_of_le h.lt hst.size⟩
          · exact ⟨(hF' k hk).1.imp (hFd k) id, (hF' k hk).2⟩
        · intro k hk
          refine ⟨(hG' k hk).1.imp (hFd k) id, (hG' k hk).2.1, ?_⟩
          rintro (rfl | h9)
          · exact hnG hk
          · exact (hG' k hk).2.2 h9
/-- A new reader. -/
def newB (kind length most : Int) : Option Bd :=
  if kind = 2 then (if most < length then none else some ⟨length, 0, 2, none, length == 0, 0⟩)
  else if kind = 3 then some ⟨most, 0, 3, some (newDec most), false, 0⟩
  else some ⟨most, 0, kind, none, kind == 1, 0⟩
def NewB (o : Option Bd) (w : World) (e : Ending) (w' : World) : Prop :=
  Below w.heap.size w w' ∧ match o with
    | none => e = .returned (.tuple #[.pointer none, .int .i64 2])
    | some r => ∃ p, e = .returned (.tuple #[.pointer (some ⟨p, 0, none⟩), .int .i64 0]) ∧ BRep w' (fun k => w.heap.size ≤ k ∧ k < w'.heap.size) p r
theorem newB_calls (kind length most : Int) (x : Bool) (w : World) (hk : kind = 1 ∨ kind = 2 ∨ kind = 3 ∨ kind = 4) (hl : 0 ≤ length ∧ length ≤ 9007199254740992) (hkl : ¬ kind = 2 → length = 0) (h0 : 0 ≤ most) (h1 : most ≤ 9007199254740992) :
    Calls Tryd.prog 7 #[.agg #[.int .i64 kind, .int .i64 length, .bool x], .int .i64 most] w (NewB (newB kind length most) w) := by
  have plain : ∀ (left kind : Int) (whole : Bool), BFine ⟨left, 0, kind, none, whole, 0⟩ → ∀ e w', NewPost left kind whole w e w' → NewB (some ⟨left, 0, kind, none, whole, 0⟩) w e w' := by
    rintro left kind whole hf e w' ⟨p, rfl, hp, hrd, hb⟩
    exact ⟨hb, p, rfl, ⟨⟨hp, hrd.lt⟩, hf, _, hrd, .inl ⟨rfl, rfl⟩⟩⟩
  rcases hk with rfl | rfl | rfl | rfl
  · obtain rfl := hkl (by decide)
    exact (newNone_ok most x w h0 h1).mono (plain most 1 true ⟨h0, h1, Int.le_refl _, .inl ⟨rfl, rfl, rfl, rfl⟩⟩)
  · unfold newB
    rw [if_pos rfl]
    by_cases hlt : most < length
    · rw [if_pos hlt]
      refine (newLen_long length most x w h0 hlt hl.2).mono ?_
      rintro e w' ⟨rfl, hb⟩
      exact ⟨hb, rfl⟩
    · rw [if_neg hlt]
      exact (newLen_ok length most x w hl.1 (by omega) h1).mono (plain length 2 (length == 0) ⟨hl.1, hl.2, Int.le_refl _, .inr (.inl ⟨rfl, rfl, rfl, rfl⟩)⟩)
  · obtain rfl := hkl (by decide)
    refine (newChunk_ok most x w h0 h1).mono ?_
    rintro e w' ⟨p, pd, rfl, hp, hlt, hrd, hrep, hb⟩
    refine ⟨hb, p, rfl, ⟨⟨hp, hrd.lt⟩, ⟨h0, h1, Int.le_refl _, .inr (.inr (.inr ⟨rfl, _, rfl, rfl, fine_new most h0 h1, rfl, rfl⟩))⟩, _, hrd, .inr ⟨_, pd, _, _, _, _, rfl, rfl, hrep, ?_, ?_⟩⟩⟩
    · intro k hk; rw [hk]; exact ⟨by omega, hrep.lt⟩
    · show ¬ p = pd
      omega
  · obtain rfl := hkl (by decide)
    exact (newClose_ok most x w h0 h1).mono (plain most 4 false ⟨h0, h1, Int.le_refl _, .inr (.inr (.inl ⟨rfl, rfl⟩))⟩)
end Go.Proofs.YtcfmihghgecefaaDoor.Bod
