/- Package body, by hand: New, Feed, End, Whole, Got where the body is not in chunks; own text of this session. -/
import Derived.Test.YtnlicpihondmgaaDoorBod1
namespace Go.Proofs.YtnlicpihondmgaaDoor.Bod
open Go.RowKit Go.Proofs.YtnlicpihondmgaaDoorW.PrintWords Go.Proofs.YtnlicpihondmgaaDoorW.PrintLast Chk
set_option linter.unusedVariables false
set_option linter.unusedSimpArgs false
/-- A reader's cells. -/
def rdC (left got kind : Int) (dec : Value) (whole : Bool) (wrong : Int) : Array Value := #[.int .i64 left, .int .i64 got, .int .i64 kind, dec, .bool whole, .int .i64 wrong]
def Rd (w : World) (p : Nat) (left got kind : Int) (dec : Value) (whole : Bool) (wrong : Int) : Prop := w.heap[p]? = some (.cells (rdC left got kind dec whole wrong) 80 (0, 0))
theorem Rd.lt {w : World} {p : Nat} {left got kind wrong : Int} {dec : Value} {whole : Bool} (h : Rd w p left got kind dec whole wrong) : p < w.heap.size := blk_lt h
theorem Rd.below {w w' : World} {p : Nat} {left got kind wrong : Int} {dec : Value} {whole : Bool} (h : Rd w p left got kind dec whole wrong) (hb : Below w.heap.size w w') : Rd w' p left got kind dec whole wrong := (hb.block p (blk_lt h)).trans h
theorem blk_two (w : World) (o1 o2 : Obj) : ((w.alloc o1).alloc o2).heap[w.heap.size + 1]? = some o2 := by
  have h := blk_new (w.alloc o1) o2
  have e : (w.alloc o1).heap.size = w.heap.size + 1 := by simp
  rwa [e] at h
def NewPost (left kind : Int) (whole : Bool) (w : World) (e : Ending) (w' : World) : Prop :=
  ∃ p, e = .returned (.tuple #[.pointer (some ⟨p, 0, none⟩), .int .i64 0]) ∧ w.heap.size ≤ p ∧ Rd w' p left 0 kind (.pointer none) whole 0 ∧ Below w.heap.size w w'
set_option maxHeartbeats 4000000 in
set_option maxRecDepth 100000 in
theorem newLen_ok (length most : Int) (x : Bool) (w : World) (h0 : 0 ≤ length) (h1 : length ≤ most) (h2 : most ≤ 9007199254740992) :
    Calls Tryd.prog 24 #[.agg #[.int .i64 2, .int .i64 length, .bool x], .int .i64 most] w (NewPost length 2 (length == 0) w) := by
  have hn : ¬ most < length := by omega
  have K1 := Aside0.mk (fun W => size_yes length W h0 (by omega))
  have K2 := Aside0.mk (fun W => size_yes most W (by omega) h2)
  go_enter Tryd.func24, Tryd.ntmps24
  go_wp2_with (go_at_call 41; first | (refine (K1.out _).mono ?_; rintro e w1 ⟨rfl, rfl⟩) | (refine (K2.out _).mono ?_; rintro e w1 ⟨rfl, rfl⟩))
  go_ret2
  exact ⟨_, rfl, Nat.le_succ _, blk_two _ _ _, below_alloc (below_alloc (Below.refl _ _) _) _⟩
set_option maxHeartbeats 4000000 in
set_option maxRecDepth 100000 in
theorem newLen_long (length most : Int) (x : Bool) (w : World) (h0 : 0 ≤ most) (h1 : most < length) (h2 : length ≤ 9007199254740992) :
    Calls Tryd.prog 24 #[.agg #[.int .i64 2, .int .i64 length, .bool x], .int .i64 most] w fun e w' => e = .returned (.tuple #[.pointer none, .int .i64 2]) ∧ Below w.heap.size w w' := by
  have K1 := Aside0.mk (fun W => size_yes length W (by omega) h2)
  have K2 := Aside0.mk (fun W => size_yes most W h0 (by omega))
  go_enter Tryd.func24, Tryd.ntmps24
  go_wp2_with (go_at_call 41; first | (refine (K1.out _).mono ?_; rintro e w1 ⟨rfl, rfl⟩) | (refine (K2.out _).mono ?_; rintro e w1 ⟨rfl, rfl⟩))
  go_ret2
  exact ⟨rfl, below_alloc (below_alloc (Below.refl _ _) _) _⟩
set_option maxHeartbeats 4000000 in
set_option maxRecDepth 100000 in
theorem newLen_arg (length most : Int) (x : Bool) (w : World) (h : length < 0 ∨ 9007199254740992 < length) :
    Calls Tryd.prog 24 #[.agg #[.int .i64 2, .int .i64 length, .bool x], .int .i64 most] w fun e w' => e = .returned (.tuple #[.pointer none, .int .i64 1]) ∧ Below w.heap.size w w' := by
  have K1 := Aside0.mk (fun W => size_no length W h)
  clear h
  go_enter Tryd.func24, Tryd.ntmps24
  go_wp2_with (go_at_call 41; (refine (K1.out _).mono ?_; rintro e w1 ⟨rfl, rfl⟩))
  go_ret2
  exact ⟨rfl, below_alloc (Below.refl _ _) _⟩
set_option maxHeartbeats 4000000 in
set_option maxRecDepth 100000 in
theorem newClose_ok (most : Int) (x : Bool) (w : World) (h0 : 0 ≤ most) (h2 : most ≤ 9007199254740992) :
    Calls Tryd.prog 24 #[.agg #[.int .i64 4, .int .i64 0, .bool x], .int .i64 most] w (NewPost most 4 false w) := by
  have K1 := Aside0.mk (fun W => size_yes 0 W (by decide) (by decide))
  have K2 := Aside0.mk (fun W => size_yes most W h0 h2)
  go_enter Tryd.func24, Tryd.ntmps24
  go_wp2_with (go_at_call 41; first | (refine (K1.out _).mono ?_; rintro e w1 ⟨rfl, rfl⟩) | (refine (K2.out _).mono ?_; rintro e w1 ⟨rfl, rfl⟩))
  go_ret2
  exact ⟨_, rfl, Nat.le_succ _, blk_two _ _ _, below_alloc (below_alloc (Below.refl _ _) _) _⟩
set_option maxRecDepth 100000 in
theorem feed_nil (v : Value) (w : World) :
    Calls Tryd.prog 26 #[.pointer none, v] w fun e w' => e = .returned (.tuple #[.slice none 0 0, .int .i64 0, .bool false, .int .i64 7]) ∧ Below w.heap.size w w' := by
  go_enter Tryd.func26, Tryd.ntmps26
  go_wp2
  refine bodyPost_ret (results_list (rs := [.tmp 4, .tmp 5, .tmp 6, .tmp 7]) rfl (by simp) (.tmp (.tmp (.tmp (.tmp .nil))))) rfl ?_
  exact ⟨rfl, Below.refl _ _⟩
set_option maxRecDepth 100000 in
theorem end_nil (w : World) :
    Calls Tryd.prog 27 #[.pointer none] w fun e w' => e = .returned (.tuple #[.bool false, .int .i64 7]) ∧ Below w.heap.size w w' := by
  go_enter Tryd.func27, Tryd.ntmps27
  go_wp2
  go_ret2
  exact ⟨rfl, Below.refl _ _⟩
set_option maxRecDepth 100000 in
theorem whole_nil (w : World) :
    Calls Tryd.prog 30 #[.pointer none] w fun e w' => e = .returned (.bool false) ∧ Below w.heap.size w w' := by
  go_enter Tryd.func30, Tryd.ntmps30
  go_wp2
  go_ret
  exact ⟨rfl, Below.refl _ _⟩
set_option maxRecDepth 100000 in
theorem got_nil (w : World) :
    Calls Tryd.prog 29 #[.pointer none] w fun e w' => e = .returned (.int .i64 0) ∧ Below w.heap.size w w' := by
  go_enter Tryd.func29, Tryd.ntmps29
  go_wp2
  go_ret
  exact ⟨rfl, Below.refl _ _⟩
set_option maxRecDepth 100000 in
theorem whole_calls (p : Nat) (w : World) {left got kind wrong : Int} {dec : Value} {whole : Bool} (h : Rd w p left got kind dec whole wrong) :
    Calls Tryd.prog 30 #[.pointer (some ⟨p, 0, none⟩)] w fun e w' => e = .returned (.bool whole) ∧ Below w.heap.size w w' := by
  have hz4 : w.cell? ⟨p, 4, none⟩ = some (.bool whole) := (blk_cell h 4).trans rfl
  clear h
  go_enter Tryd.func30, Tryd.ntmps30
  go_wp2
  go_ret
  exact ⟨rfl, Below.refl _ _⟩
set_option maxRecDepth 100000 in
theorem got_calls (p : Nat) (w : World) {left got kind wrong : Int} {dec : Value} {whole : Bool} (h : Rd w p left got kind dec whole wrong) :
    Calls Tryd.prog 29 #[.pointer (some ⟨p, 0, none⟩)] w fun e w' => e = .returned (.int .i64 got) ∧ Below w.heap.size w w' := by
  have hz1 : w.cell? ⟨p, 1, none⟩ = some (.int .i64 got) := (blk_cell h 1).trans rfl
  clear h
  go_enter Tryd.func29, Tryd.ntmps29
  go_wp2
  go_ret
  exact ⟨rfl, Below.refl _ _⟩
/-- The connection ended. -/
def EndPost (p : Nat) (whole : Bool) (wrong : Int) (left got kind : Int) (dec : Value) (w : World) (e : Ending) (w' : World) : Prop :=
  e = .returned (.tuple #[.bool whole, .int .i64 wrong]) ∧ Rd w' p left got kind dec whole wrong ∧ Stay (fun k => k = p) w w'
set_option maxRecDepth 100000 in
theorem end_whole (p : Nat) (w : World) {left got kind : Int} {dec : Value} (h : Rd w p left got kind dec true 0) :
    Calls Tryd.prog 27 #[.pointer (some ⟨p, 0, none⟩)] w (EndPost p true 0 left got kind dec w) := by
  have hz4 : w.cell? ⟨p, 4, none⟩ = some (.bool true) := (blk_cell h 4).trans rfl
  have hz5 : w.cell? ⟨p, 5, none⟩ = some (.int .i64 0) := (blk_cell h 5).trans rfl
  have H := Aside0.mk h
  clear h
  go_enter Tryd.func27, Tryd.ntmps27
  go_wp2
  go_region
  all_goals
    go_wp2
    go_ret2
    exact ⟨rfl, H.out, Stay.below (below_drew (Below.refl _ _))⟩
set_option maxHeartbeats 4000000 in
set_option maxRecDepth 100000 in
theorem end_cut (p : Nat) (w : World) {left got : Int} {dec : Value} (h : Rd w p left got 2 dec false 0) :
    Calls Tryd.prog 27 #[.pointer (some ⟨p, 0, none⟩)] w (EndPost p false 110 left got 2 dec w) := by
  have hz2 : w.cell? ⟨p, 2, none⟩ = some (.int .i64 2) := (blk_cell h 2).trans rfl
  have hz4 : w.cell? ⟨p, 4, none⟩ = some (.bool false) := (blk_cell h 4).trans rfl
  have hz5 : w.cell? ⟨p, 5, none⟩ = some (.int .i64 0) := (blk_cell h 5).trans rfl
  have hf5 := blk_frozen h 5
  have H := Aside0.mk h
  clear h
  go_enter Tryd.func27, Tryd.ntmps27
  go_wp2
  go_region
  all_goals
    go_wp2
    go_ret2
    exact ⟨rfl, blk_put H.out 5 _ rfl, stay_low ((Stay.refl (fun k => k = p) w).set (p := ⟨p, 5, none⟩) rfl _) (below_drew (Below.refl _ _))⟩
set_option maxHeartbeats 4000000 in
set_option maxRecDepth 100000 in
theorem end_close (p : Nat) (w : World) {left got : Int} {dec : Value} (h : Rd w p left got 4 dec false 0) :
    Calls Tryd.prog 27 #[.pointer (some ⟨p, 0, none⟩)] w (EndPost p true 0 left got 4 dec w) := by
  have hz2 : w.cell? ⟨p, 2, none⟩ = some (.int .i64 4) := (blk_cell h 2).trans rfl
  have hz4 : w.cell? ⟨p, 4, none⟩ = some (.bool false) := (blk_cell h 4).trans rfl
  have hz5 : w.cell? ⟨p, 5, none⟩ = some (.int .i64 0) := (blk_cell h 5).trans rfl
  have hf4 := blk_frozen h 4
  have H := Aside0.mk h
  clear h
  go_enter Tryd.func27, Tryd.ntmps27
  go_wp2
  go_region
  all_goals
    go_wp2
    go_ret2
    exact ⟨rfl, blk_put H.out 4 _ rfl, stay_low ((Stay.refl (fun k => k = p) w).set (p := ⟨p, 4, none⟩) rfl _) (below_drew (Below.refl _ _))⟩
end Go.Proofs.YtnlicpihondmgaaDoor.Bod
