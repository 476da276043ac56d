/- Package chunked, by hand: New; a nil decoder; own text of this session. -/
import Derived.Test.YtnlicpihondmgaaDoorChk10
namespace Go.Proofs.YtnlicpihondmgaaDoor.Chk
open Go.RowKit Go.Proofs.YtnlicpihondmgaaDoorW.PrintWords Go.Proofs.YtnlicpihondmgaaDoorW.PrintLast
set_option linter.unusedVariables false
def newDec (most : Int) : Dec := ⟨most, 0, [], 0, [], [], false, 0⟩
theorem fine_new (most : Int) (h0 : 0 ≤ most) (h1 : most ≤ 9007199254740992) : Fine (newDec most) := ⟨h0, h1, by show (0 : Int) ≤ _; omega, fun h => by cases h⟩
def NewPost (most : Int) (w : World) (e : Ending) (w' : World) : Prop :=
  ∃ p, e = .returned (.tuple #[.pointer (some ⟨p, 0, none⟩), .int .i64 0]) ∧ w.heap.size ≤ p ∧ Rep w' (fun k => k = p) p (.slice none 0 0) (.slice none 0 0) (.slice none 0 0) (newDec most) ∧ Below w.heap.size w w'
set_option maxHeartbeats 4000000 in
set_option maxRecDepth 100000 in
theorem new_calls (most : Int) (w : World) (h0 : 0 ≤ most) (h1 : most ≤ 9007199254740992) :
    Calls Tryd.prog 13 #[.int .i64 most] w (NewPost most w) := by
  have hn0 : ¬ most < 0 := by omega
  have hn1 : ¬ 9007199254740992 < most := by omega
  go_enter Tryd.func13, Tryd.ntmps13
  go_wp2_with ((with_reducible refine gate_dst (N := 13) rfl ?_); refine box_event ?hg (N := 13) ?hd (cs := #[.int .i64 most, .int .i64 0, .slice none 0 0, .nilFunc, .slice none 0 0, .slice none 0 0, .bool false, .int .i64 0]) (t := 65) ?hr ?_; (case hd => rfl); (case hg => rfl); (case hr => first | (go_simp; done) | (go_simp; rfl)); intro gb hg w1 hbox hb; have BK := Aside0.mk hbox; have HB := Aside0.mk hb; have HE := Aside0.mk hg; have hz3 : w1.cell? ⟨gb, 3, none⟩ = some .nilFunc := (blk_cell hbox 3).trans rfl; have hf3 := blk_frozen hbox 3; clear hbox hb hg)
  go_ret2
  refine ⟨gb, rfl, by rw [HE.out]; exact Nat.le_refl _, Rep.store BK.out rfl rfl (Kd.R_nil _ _ _ _ _) (Kd.R_nil _ _ _ _ _) (Kd.R_nil _ _ _ _ _), ?_⟩
  exact HB.out.setCell (p := ⟨gb, 3, none⟩) (by show w.heap.size ≤ gb; rw [HE.out]; exact Nat.le_refl _) _
set_option maxHeartbeats 4000000 in
set_option maxRecDepth 100000 in
theorem new_no (most : Int) (w : World) (h : most < 0 ∨ 9007199254740992 < most) :
    Calls Tryd.prog 13 #[.int .i64 most] w fun e w' => e = .returned (.tuple #[.pointer none, .int .i64 1]) ∧ Below w.heap.size w w' := by
  by_cases h0 : most < 0
  · go_enter Tryd.func13, Tryd.ntmps13
    go_wp2
    go_ret2
    exact ⟨rfl, Below.refl _ _⟩
  · have h1 : 9007199254740992 < most := by omega
    clear h
    go_enter Tryd.func13, Tryd.ntmps13
    go_wp2
    go_ret2
    exact ⟨rfl, Below.refl _ _⟩
set_option maxRecDepth 100000 in
theorem feed_nil (v : Value) (w : World) :
    Calls Tryd.prog 16 #[.pointer none, v] w fun e w' => e = .returned (.tuple #[.slice none 0 0, .int .i64 0, .bool false, .int .i64 7]) ∧ Below w.heap.size w w' := by
  go_enter Tryd.func16, Tryd.ntmps16
  go_wp2
  refine bodyPost_ret (results_list (rs := [.tmp 4, .tmp 5, .tmp 6, .tmp 7]) rfl (by simp) (.tmp (.tmp (.tmp (.tmp .nil))))) rfl ?_
  exact ⟨rfl, Below.refl _ _⟩
set_option maxRecDepth 100000 in
theorem trailers_nil (w : World) :
    Calls Tryd.prog 23 #[.pointer none] w fun e w' => e = .returned (.slice none 0 0) ∧ Below w.heap.size w w' := by
  go_enter Tryd.func23, Tryd.ntmps23
  go_wp2
  go_ret
  exact ⟨rfl, Below.refl _ _⟩
def say1 : List Int := [51, 59, 120, 13, 10, 97, 98, 99, 13, 10, 48, 13, 10, 13, 10]
def say2 : List Int := [51, 13, 10, 97, 98, 99, 100]
theorem said1 : (feedGo (newDec 9) say1 0).1.out = [97, 98, 99] ∧ (feedGo (newDec 9) say1 0).2 = 15 ∧ (feedGo (newDec 9) say1 0).1.whole = true ∧ (feedGo (newDec 9) say1 0).1.wrong = 0 := by decide +kernel
theorem said2 : (feedGo (newDec 9) say2 0).2 = 7 ∧ (feedGo (newDec 9) say2 0).1.whole = false ∧ (feedGo (newDec 9) say2 0).1.wrong = 100 := by decide +kernel
end Go.Proofs.YtnlicpihondmgaaDoor.Chk
