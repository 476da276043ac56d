/- Package body, by hand: Feed where the body has a length, or ends with its connection; own text of this session. -/
import Derived.Test.YtnlicpihondmgaaDoorBod2
namespace Go.Proofs.YtnlicpihondmgaaDoor.Bod
open Go.RowKit Go.Proofs.YtnlicpihondmgaaDoorW.PrintWords Go.Proofs.YtnlicpihondmgaaDoorW.PrintLast Chk
set_option linter.unusedVariables false
set_option linter.unusedSimpArgs false
def FeedPost (b : List Int) (n : Nat) (N : Int) (p : Nat) (left got kind : Int) (dec : Value) (whole : Bool) (wrong : Int) (w : World) (e : Ending) (w' : World) : Prop :=
  ∃ (A1 : Option Addr) (c1 : Nat), e = .returned (.tuple #[.slice A1 n c1, .int .i64 N, .bool whole, .int .i64 wrong]) ∧ (Kd.int .u8).R 5 w' w.heap.size (fun _ => True) (.slice A1 n c1) (b.take n) ∧ Rd w' p left got kind dec whole wrong ∧ Stay (fun k => k = p) w w'
theorem R_keep {w w' : World} {base p : Nat} {v : Value} {xs : List Int} (h : (Kd.int .u8).R 5 w base (fun _ => True) v xs) (hp : p < base) (hs : ∀ k, k < w.heap.size → k ≠ p → w'.heap[k]? = w.heap[k]?) : (Kd.int .u8).R 5 w' base (fun _ => True) v xs :=
  Kd.R_mono (Kd.R_step (Kd.R_bound h) (fun k hk hl => hs k hl (by have := hk.2.1; omega))) (fun _ _ => trivial)
/-- What is known behind take. -/
theorem after_take {n : Nat} {w w1 : World} {p : Nat} {left got kind wrong : Int} {dec : Value} {whole : Bool} (h : Rd w p left got kind dec whole wrong) (hb : Below w.heap.size (w.setCell ⟨p, 0, none⟩ (.int .i64 (left - n))) w1) :
    Rd w1 p (left - n) got kind dec whole wrong ∧ Stay (fun k => k = p) w w1 :=
  ⟨(hb.block p (blk_lt h)).trans (blk_put h 0 _ rfl), stay_low ((Stay.refl (fun k => k = p) w).set (p := ⟨p, 0, none⟩) rfl _) (by rw [set_size]; exact hb)⟩
set_option maxHeartbeats 4000000 in
set_option maxRecDepth 100000 in
theorem feedLen_calls (b : List Int) (n : Nat) (A : Option Addr) (c : Nat) (w : World) (p : Nat) (left got : Int) (dec : Value) (h : Rd w p left got 2 dec false 0)
    (hb : ∀ u, Kd.C (Kd.int .u8) (w.setCell ⟨p, 0, none⟩ u) A b.length b) (hc : b.length ≤ c) (hl : n ≤ 4294960000) (h0 : 0 ≤ left) (h1 : left ≤ 9007199254740992) (hn : n = min b.length left.toNat) (hg0 : 0 ≤ got) (hg1 : got ≤ 9007199254740992) :
    Calls Tryd.prog 26 #[.pointer (some ⟨p, 0, none⟩), .slice A b.length c] w (FeedPost b n n p (left - n) (got + n) 2 dec (left - n == 0) 0 w) := by
  have HK := Aside0.mk (take_calls b n A c w p left ((blk_cell h 0).trans rfl) (blk_frozen h 0) hb hc hl h0 h1 hn)
  have hz2 : w.cell? ⟨p, 2, none⟩ = some (.int .i64 2) := (blk_cell h 2).trans rfl
  have hz4 : w.cell? ⟨p, 4, none⟩ = some (.bool false) := (blk_cell h 4).trans rfl
  have hz5 : w.cell? ⟨p, 5, none⟩ = some (.int .i64 0) := (blk_cell h 5).trans rfl
  have H := Aside0.mk h
  have hnl : (b.take n).length = n := by rw [List.length_take]; omega
  have HNL := Aside0.mk hnl
  have hl0 : 0 ≤ left - (n : Int) := by omega
  have hl1 : left - (n : Int) ≤ 9007199254740992 := by omega
  have hnz : (n : Int) ≤ 4294960000 := by omega
  clear h hb hc hl hn hnl
  go_enter Tryd.func26, Tryd.ntmps26
  go_wp2_with fail
  refine HK.out.mono ?_
  rintro e w1 ⟨v1, rfl, hR1, hb1⟩
  obtain ⟨hrd, hst⟩ := after_take H.out hb1
  obtain ⟨A1, c1, e1⟩ := Kd.R_slice hR1
  rw [HNL.out] at e1
  subst e1
  obtain ⟨L, hL⟩ : ∃ L, L = left - (n : Int) := ⟨_, rfl⟩
  rw [← hL] at hrd hl0 hl1
  have HL := Aside0.mk hL
  have hy0 : w1.cell? ⟨p, 0, none⟩ = some (.int .i64 L) := (blk_cell hrd 0).trans rfl
  have hy1 : w1.cell? ⟨p, 1, none⟩ = some (.int .i64 got) := (blk_cell hrd 1).trans rfl
  have hy4 : w1.cell? ⟨p, 4, none⟩ = some (.bool false) := (blk_cell hrd 4).trans rfl
  have hy5 : w1.cell? ⟨p, 5, none⟩ = some (.int .i64 0) := (blk_cell hrd 5).trans rfl
  have hf4 := blk_frozen hrd 4
  have hf1 := blk_frozen hrd 1
  have HRd := Aside0.mk hrd
  have HSt := Aside0.mk hst
  have HRr := Aside0.mk hR1
  clear hrd hst hR1 hb1 hL hz2 hz4 hz5
  go_wp2
  go_region
  all_goals
    go_wp2
    refine bodyPost_ret (results_list (rs := [.tmp 4, .tmp 5, .tmp 6, .tmp 7]) rfl (by simp) (.tmp (.tmp (.tmp (.tmp .nil))))) rfl ?_
    rw [← HL.out]
    exact ⟨A1, c1, rfl, R_keep HRr.out H.out.lt (fun k _ hk => by show ((w1.setCell _ _).setCell _ _).heap[k]? = _; rw [Below.heap_setCell _ _ _ _ hk, Below.heap_setCell _ _ _ _ hk]), blk_put (blk_put HRd.out 4 _ rfl) 1 _ rfl, stay_low ((HSt.out.set (p := ⟨p, 4, none⟩) rfl _).set (p := ⟨p, 1, none⟩) rfl _) (below_drew (Below.refl _ _))⟩
set_option maxHeartbeats 4000000 in
set_option maxRecDepth 100000 in
theorem feedClose_calls (b : List Int) (n : Nat) (A : Option Addr) (c : Nat) (w : World) (p : Nat) (left got : Int) (dec : Value) (h : Rd w p left got 4 dec false 0)
    (hb : ∀ u, Kd.C (Kd.int .u8) (w.setCell ⟨p, 0, none⟩ u) A b.length b) (hc : b.length ≤ c) (hl : n ≤ 4294960000) (h0 : 0 ≤ left) (h1 : left ≤ 9007199254740992) (hn : n = min b.length left.toNat) (hg0 : 0 ≤ got) (hg1 : got ≤ 9007199254740992) :
    Calls Tryd.prog 26 #[.pointer (some ⟨p, 0, none⟩), .slice A b.length c] w (FeedPost b n (if n < b.length then n + 1 else n) p (left - n) (got + n) 4 dec false (if n < b.length then 2 else 0) w) := by
  have HK := Aside0.mk (take_calls b n A c w p left ((blk_cell h 0).trans rfl) (blk_frozen h 0) hb hc hl h0 h1 hn)
  have hz2 : w.cell? ⟨p, 2, none⟩ = some (.int .i64 4) := (blk_cell h 2).trans rfl
  have hz4 : w.cell? ⟨p, 4, none⟩ = some (.bool false) := (blk_cell h 4).trans rfl
  have hz5 : w.cell? ⟨p, 5, none⟩ = some (.int .i64 0) := (blk_cell h 5).trans rfl
  have H := Aside0.mk h
  have hnl : (b.take n).length = n := by rw [List.length_take]; omega
  have HNL := Aside0.mk hnl
  have hnz : (n : Int) ≤ 4294960000 := by omega
  have hle : n ≤ b.length := by omega
  obtain ⟨N, hN⟩ : ∃ N, N = b.length := ⟨_, rfl⟩
  rw [← hN] at HK hle ⊢
  clear h hb hc hl hn hnl hN
  by_cases hlt : n < N
  · have hltz : (n : Int) < (N : Int) := by omega
    simp only [if_pos hlt]
    go_enter Tryd.func26, Tryd.ntmps26
    go_wp2_with fail
    refine HK.out.mono ?_
    rintro e w1 ⟨v1, rfl, hR1, hb1⟩
    obtain ⟨hrd, hst⟩ := after_take H.out hb1
    obtain ⟨A1, c1, e1⟩ := Kd.R_slice hR1
    rw [HNL.out] at e1
    subst e1
    have hy1 : w1.cell? ⟨p, 1, none⟩ = some (.int .i64 got) := (blk_cell hrd 1).trans rfl
    have hy4 : w1.cell? ⟨p, 4, none⟩ = some (.bool false) := (blk_cell hrd 4).trans rfl
    have hy5 : w1.cell? ⟨p, 5, none⟩ = some (.int .i64 0) := (blk_cell hrd 5).trans rfl
    have hf5 := blk_frozen hrd 5
    have hf1 := blk_frozen hrd 1
    have HRd := Aside0.mk hrd
    have HSt := Aside0.mk hst
    have HRr := Aside0.mk hR1
    clear hrd hst hR1 hb1 hz2 hz4 hz5
    go_wp2
    go_region
    all_goals
      go_wp2
      refine bodyPost_ret (results_list (rs := [.tmp 4, .tmp 5, .tmp 6, .tmp 7]) rfl (by simp) (.tmp (.tmp (.tmp (.tmp .nil))))) rfl ?_
      exact ⟨A1, c1, rfl, R_keep HRr.out H.out.lt (fun k _ hk => by show ((w1.setCell _ _).setCell _ _).heap[k]? = _; rw [Below.heap_setCell _ _ _ _ hk, Below.heap_setCell _ _ _ _ hk]), blk_put (blk_put HRd.out 5 _ rfl) 1 _ rfl, stay_low ((HSt.out.set (p := ⟨p, 5, none⟩) rfl _).set (p := ⟨p, 1, none⟩) rfl _) (below_drew (Below.refl _ _))⟩
  · have hltz : ¬ (n : Int) < (N : Int) := by omega
    simp only [if_neg hlt]
    go_enter Tryd.func26, Tryd.ntmps26
    go_wp2_with fail
    refine HK.out.mono ?_
    rintro e w1 ⟨v1, rfl, hR1, hb1⟩
    obtain ⟨hrd, hst⟩ := after_take H.out hb1
    obtain ⟨A1, c1, e1⟩ := Kd.R_slice hR1
    rw [HNL.out] at e1
    subst e1
    have hy1 : w1.cell? ⟨p, 1, none⟩ = some (.int .i64 got) := (blk_cell hrd 1).trans rfl
    have hy4 : w1.cell? ⟨p, 4, none⟩ = some (.bool false) := (blk_cell hrd 4).trans rfl
    have hy5 : w1.cell? ⟨p, 5, none⟩ = some (.int .i64 0) := (blk_cell hrd 5).trans rfl
    have hf1 := blk_frozen hrd 1
    have HRd := Aside0.mk hrd
    have HSt := Aside0.mk hst
    have HRr := Aside0.mk hR1
    clear hrd hst hR1 hb1 hz2 hz4 hz5
    go_wp2
    go_region
    all_goals
      go_wp2
      refine bodyPost_ret (results_list (rs := [.tmp 4, .tmp 5, .tmp 6, .tmp 7]) rfl (by simp) (.tmp (.tmp (.tmp (.tmp .nil))))) rfl ?_
      exact ⟨A1, c1, rfl, R_keep HRr.out H.out.lt (fun k _ hk => by show (w1.setCell _ _).heap[k]? = _; rw [Below.heap_setCell _ _ _ _ hk]), blk_put HRd.out 1 _ rfl, stay_low (HSt.out.set (p := ⟨p, 1, none⟩) rfl _) (below_drew (Below.refl _ _))⟩
set_option maxRecDepth 100000 in
/-- A body that is whole, or wrong, reads nothing more. -/
theorem feedWhole_calls (v : Value) (w : World) (p : Nat) {left got kind : Int} {dec : Value} (h : Rd w p left got kind dec true 0) :
    Calls Tryd.prog 26 #[.pointer (some ⟨p, 0, none⟩), v] w fun e w' => e = .returned (.tuple #[.slice none 0 0, .int .i64 0, .bool true, .int .i64 0]) ∧ Below w.heap.size w w' := by
  have hz4 : w.cell? ⟨p, 4, none⟩ = some (.bool true) := (blk_cell h 4).trans rfl
  have hz5 : w.cell? ⟨p, 5, none⟩ = some (.int .i64 0) := (blk_cell h 5).trans rfl
  clear h
  go_enter Tryd.func26, Tryd.ntmps26
  go_wp2
  go_region
  all_goals
    go_wp2
    refine bodyPost_ret (results_list (rs := [.tmp 4, .tmp 5, .tmp 6, .tmp 7]) rfl (by simp) (.tmp (.tmp (.tmp (.tmp .nil))))) rfl ?_
    exact ⟨rfl, below_drew (Below.refl _ _)⟩
end Go.Proofs.YtnlicpihondmgaaDoor.Bod
