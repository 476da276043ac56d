/- Package body, by hand: New at every framing; Feed in chunks; what Feed can't pass; own text of this session. -/
import Derived.Test.YtnlicpihondmgaaDoorBod4
import Derived.Test.YtnlicpihondmgaaDoorChkB
import Derived.Deep.QuietTactic
namespace Go.Proofs.YtnlicpihondmgaaDoor.Bod
open Go.RowKit Go.Proofs.YtnlicpihondmgaaDoorW.PrintWords Go.Proofs.YtnlicpihondmgaaDoorW.PrintLast Go.Proofs.YtnlicpihondmgaaDoorW.PrintMore Chk
set_option linter.unusedVariables false
set_option linter.unusedSimpArgs false
set_option maxHeartbeats 8000000 in
set_option maxRecDepth 100000 in
theorem new_arg (kind length most : Int) (x : Bool) (w : World) (h : kind < 1 ∨ 4 < kind ∨ (length < 0 ∨ 9007199254740992 < length) ∨ (¬ kind = 2 ∧ ¬ length = 0) ∨ (most < 0 ∨ 9007199254740992 < most)) :
    Calls Tryd.prog 24 #[.agg #[.int .i64 kind, .int .i64 length, .bool x], .int .i64 most] w fun e w' => e = .returned (.tuple #[.pointer none, .int .i64 1]) ∧ Below w.heap.size w w' := by
  by_cases a1 : kind < 1
  · clear h
    go_enter Tryd.func24, Tryd.ntmps24
    go_wp2
    go_ret2
    exact ⟨rfl, below_alloc (Below.refl _ _) _⟩
  by_cases a2 : 4 < kind
  · clear h
    go_enter Tryd.func24, Tryd.ntmps24
    go_wp2
    go_ret2
    exact ⟨rfl, below_alloc (Below.refl _ _) _⟩
  by_cases a3 : length < 0 ∨ 9007199254740992 < length
  · have K1 := Aside0.mk (fun W => size_no length W a3)
    clear h a3
    go_enter Tryd.func24, Tryd.ntmps24
    go_wp2_with (go_at_call 41; (refine (K1.out _).mono ?_; rintro e w1 ⟨rfl, rfl⟩))
    go_ret2
    exact ⟨rfl, below_alloc (Below.refl _ _) _⟩
  have K1 := Aside0.mk (fun W => size_yes length W (by omega) (by omega))
  by_cases a4 : kind = 2
  · subst a4
    have K2 := Aside0.mk (fun W => size_no most W (by omega))
    clear h a3
    go_enter Tryd.func24, Tryd.ntmps24
    go_wp2_with (go_at_call 41; first | (refine (K1.out _).mono ?_; rintro e w1 ⟨rfl, rfl⟩) | (refine (K2.out _).mono ?_; rintro e w1 ⟨rfl, rfl⟩))
    go_ret2
    exact ⟨rfl, below_alloc (Below.refl _ _) _⟩
  have b4 : (kind != 2) = true := by simpa using a4
  by_cases a5 : length = 0
  · subst a5
    have K2 := Aside0.mk (fun W => size_no most W (by omega))
    clear h a3
    go_enter Tryd.func24, Tryd.ntmps24
    go_wp2_with (go_at_call 41; first | (refine (K1.out _).mono ?_; rintro e w1 ⟨rfl, rfl⟩) | (refine (K2.out _).mono ?_; rintro e w1 ⟨rfl, rfl⟩))
    go_ret2
    exact ⟨rfl, below_alloc (Below.refl _ _) _⟩
  · have b5 : (length != 0) = true := by simpa using a5
    clear h a3
    go_enter Tryd.func24, Tryd.ntmps24
    go_wp2_with (go_at_call 41; (refine (K1.out _).mono ?_; rintro e w1 ⟨rfl, rfl⟩))
    go_ret2
    exact ⟨rfl, below_alloc (Below.refl _ _) _⟩
set_option maxHeartbeats 4000000 in
set_option maxRecDepth 100000 in
theorem newNone_ok (most : Int) (x : Bool) (w : World) (h0 : 0 ≤ most) (h2 : most ≤ 9007199254740992) :
    Calls Tryd.prog 24 #[.agg #[.int .i64 1, .int .i64 0, .bool x], .int .i64 most] w (NewPost most 1 true w) := by
  have K1 := Aside0.mk (fun W => size_yes 0 W (by decide) (by decide))
  have K2 := Aside0.mk (fun W => size_yes most W h0 h2)
  go_enter Tryd.func24, Tryd.ntmps24
  go_wp2_with (go_at_call 41; first | (refine (K1.out _).mono ?_; rintro e w1 ⟨rfl, rfl⟩) | (refine (K2.out _).mono ?_; rintro e w1 ⟨rfl, rfl⟩))
  go_ret2
  exact ⟨_, rfl, Nat.le_succ _, blk_two _ _ _, below_alloc (below_alloc (Below.refl _ _) _) _⟩
def NewCPost (most : Int) (w : World) (e : Ending) (w' : World) : Prop :=
  ∃ p pd, e = .returned (.tuple #[.pointer (some ⟨p, 0, none⟩), .int .i64 0]) ∧ w.heap.size ≤ p ∧ p < pd ∧ Rd w' p most 0 3 (.pointer (some ⟨pd, 0, none⟩)) false 0 ∧
    Rep w' (fun k => k = pd) pd (.slice none 0 0) (.slice none 0 0) (.slice none 0 0) (newDec most) ∧ Below w.heap.size w w'
set_option maxHeartbeats 4000000 in
set_option maxRecDepth 100000 in
theorem newChunk_ok (most : Int) (x : Bool) (w : World) (h0 : 0 ≤ most) (h2 : most ≤ 9007199254740992) :
    Calls Tryd.prog 24 #[.agg #[.int .i64 3, .int .i64 0, .bool x], .int .i64 most] w (NewCPost most w) := by
  have K1 := Aside0.mk (fun W => size_yes 0 W (by decide) (by decide))
  have K2 := Aside0.mk (fun W => size_yes most W h0 h2)
  have K3 := Aside0.mk (fun W => new_calls most W h0 h2)
  go_enter Tryd.func24, Tryd.ntmps24
  go_wp2_with (first
    | (go_at_call 41; first | (refine (K1.out _).mono ?_; rintro e w1 ⟨rfl, rfl⟩) | (refine (K2.out _).mono ?_; rintro e w1 ⟨rfl, rfl⟩))
    | (go_at_call 13; refine (K3.out _).mono ?_; rintro e w2 ⟨pd, rfl, hpd, hrep, hb⟩; have HPD := Aside0.mk hpd; have HRep := Aside0.mk hrep; have HBl := Aside0.mk hb; have hrd : Rd w2 (w.heap.size + 1) most 0 3 (.pointer none) false 0 := (hb.block (w.heap.size + 1) (blk_lt (blk_two w _ _))).trans (blk_two w _ _); have HRd := Aside0.mk hrd; have hz3 : w2.cell? ⟨w.heap.size + 1, 3, none⟩ = some (.pointer none) := (blk_cell hrd 3).trans rfl; have hf3 := blk_frozen hrd 3; clear hpd hrep hb hrd))
  go_ret2
  have hlt : w.heap.size + 1 < pd := Nat.lt_of_lt_of_le (blk_lt (blk_two w _ _)) HPD.out
  refine ⟨w.heap.size + 1, pd, rfl, Nat.le_succ _, hlt, blk_put HRd.out 3 _ rfl, HRep.out.move (fun k hk _ => Below.heap_setCell _ _ _ _ (by rw [hk]; show pd ≠ w.heap.size + 1; omega)), ?_⟩
  exact (below_then (below_alloc (below_alloc (Below.refl w.heap.size w) _) _) (below_size (below_alloc (below_alloc (Below.refl w.heap.size w) _) _)) HBl.out).setCell (p := ⟨w.heap.size + 1, 3, none⟩) (Nat.le_succ _) _
/-- What Feed can't pass: the bound, the bytes at hand; and what is counted. -/
def FeedBPost (w0 : World) (p : Nat) (most : Int) (b : List Int) (e : Ending) (w' : World) : Prop :=
  ∃ (A1 : Option Addr) (n c1 : Nat) (N : Int) (ok : Bool) (er : Int), e = .returned (.tuple #[.slice A1 n c1, .int .i64 N, .bool ok, .int .i64 er]) ∧ (n : Int) ≤ most ∧ N ≤ (b.length : Int) ∧
    (∃ (left kind : Int) (dec : Value) (whole : Bool) (wrong : Int), Rd w' p left n kind dec whole wrong) ∧ Below w0.heap.size w0 w'
set_option maxHeartbeats 8000000 in
set_option maxRecDepth 100000 in
theorem feedChunk_calls (w0 w : World) (p pd : Nat) (most : Int) (b : List Int) (A : Option Addr) (c : Nat) (hG : GInv w0) (hB : Below w0.heap.size w0 w) (hp : w0.heap.size ≤ p) (hlt : p < pd) (h0 : 0 ≤ most) (h1 : most ≤ 9007199254740992)
    (hrd : Rd w p most 0 3 (.pointer (some ⟨pd, 0, none⟩)) false 0) (hrep : Rep w (fun k => k = pd) pd (.slice none 0 0) (.slice none 0 0) (.slice none 0 0) (newDec most)) (hr : Kd.C (Kd.int .u8) w0 A b.length b) (hl : b.length ≤ 4000000000) :
    Calls Tryd.prog 26 #[.pointer (some ⟨p, 0, none⟩), .slice A b.length c] w (FeedBPost w0 p most b) := by
  obtain ⟨⟨d1, n1⟩, hf⟩ : ∃ r, r = feedGo (newDec most) b 0 := ⟨_, rfl⟩
  have hb := feed_bound most b h0 h1
  have hn := feed_len b (newDec most) 0
  rw [← hf] at hb hn
  have hbo : (d1.out.length : Int) ≤ most := hb
  have hnl : n1 ≤ b.length := by have := hn.2.1; simp only at this; omega
  have HN := Aside0.mk hnl
  have HK := Aside0.mk (feed_to w0 w (fun k => k = pd) pd _ _ _ (newDec most) A c b hrep ⟨hG, hB, fun k hk => by rw [hk]; omega⟩ (by show 0 + _ ≤ _; omega) (fine_new most h0 h1) (fun W' hs => Kd.C_below hr (hs.out hB (fun k hk => by rw [hk]; omega) hB.size)) d1 n1 hf.symm)
  have hz2 : w.cell? ⟨p, 2, none⟩ = some (.int .i64 3) := (blk_cell hrd 2).trans rfl
  have hz3 : w.cell? ⟨p, 3, none⟩ = some (.pointer (some ⟨pd, 0, none⟩)) := (blk_cell hrd 3).trans rfl
  have hz4 : w.cell? ⟨p, 4, none⟩ = some (.bool false) := (blk_cell hrd 4).trans rfl
  have hz5 : w.cell? ⟨p, 5, none⟩ = some (.int .i64 0) := (blk_cell hrd 5).trans rfl
  have HRd := Aside0.mk hrd
  have HB := Aside0.mk hB
  have HP := Aside0.mk hp
  have HLt := Aside0.mk hlt
  obtain ⟨M, hM⟩ : ∃ M, M = d1.out.length := ⟨_, rfl⟩
  have HM := Aside0.mk hM
  rw [← hM] at hbo
  have hMb : (M : Int) ≤ 9007199254740992 := by omega
  clear hf hb hn hrd hrep hr hl hG hB hp hlt hM hnl
  go_enter Tryd.func26, Tryd.ntmps26
  go_wp2_with fail
  refine HK.out.mono ?_
  rintro e w1 ⟨A2, c2, rfl, _, hs⟩
  rw [← HM.out]
  have hrd1 : Rd w1 p most 0 3 (.pointer (some ⟨pd, 0, none⟩)) false 0 := (hs.block p HRd.out.lt (by have := HLt.out; omega)).trans HRd.out
  have HR1 := Aside0.mk hrd1
  have hy1 : w1.cell? ⟨p, 1, none⟩ = some (.int .i64 0) := (blk_cell hrd1 1).trans rfl
  have hy4 : w1.cell? ⟨p, 4, none⟩ = some (.bool false) := (blk_cell hrd1 4).trans rfl
  have hy5 : w1.cell? ⟨p, 5, none⟩ = some (.int .i64 0) := (blk_cell hrd1 5).trans rfl
  have hf1 := blk_frozen hrd1 1
  have hf4 := blk_frozen hrd1 4
  have hf5 := blk_frozen hrd1 5
  have HB1 := Aside0.mk (hs.out HB.out (fun k hk => by rw [hk]; have := HP.out; have := HLt.out; omega) HB.out.size)
  clear hs hrd1 hz2 hz3 hz4 hz5
  go_wp2
  go_region
  all_goals
    go_wp2
    refine bodyPost_ret (results_list (rs := [.tmp 4, .tmp 5, .tmp 6, .tmp 7]) rfl (by simp) (.tmp (.tmp (.tmp (.tmp .nil))))) rfl ?_
    exact ⟨A2, M, c2, n1, d1.whole, d1.wrong, rfl, hbo, by have := HN.out; omega, ⟨_, _, _, _, _, blk_put (blk_put (blk_put HR1.out 4 _ rfl) 5 _ rfl) 1 _ (by first | rfl | (simp [rdC]; done))⟩,
      below_drew (((HB1.out.setCell (p := ⟨p, 4, none⟩) HP.out _).setCell (p := ⟨p, 5, none⟩) HP.out _).setCell (p := ⟨p, 1, none⟩) HP.out _)⟩
end Go.Proofs.YtnlicpihondmgaaDoor.Bod
