/- The reference's world, empty: Open; own text of this session. -/
import Derived.Test.YtnhhcmnjfaeliaaVm10
import Derived.Deep.DeepAppendWide
namespace Go.Proofs.Ytnhhcmnjfaeliaa.Vm
open Wld hiding St Ft Next cellsQ cellsP ReadPost ptrE ptrE_none ptrE_some law zeroP Key key_of info_u8 info_int ne_t ne_blk ne_map grown_below
open Go.RowKit Go.Proofs.YtnhhcmnjfaeliaaW.PrintWords Go.Proofs.YtnhhcmnjfaeliaaW.PrintLast Go.Maps
set_option linter.unusedVariables false
set_option linter.unusedSimpArgs false
theorem info_conn : (Try.prog.info? 38).map (fun i => (i.zero, i.size, i.bytes)) = some (some (.agg #[.int .i64 0, .bool false, .bool false, .slice none 0 0, .slice none 0 0, .int .i64 0]), 6, 72) := by kernel_rfl
section
variable {w : World} {x : Nat}
set_option maxRecDepth 100000 in
theorem ropen_neg (x : Nat) (w : World) (c : Int) (h0 : c < 0) : Calls Try.prog 20 #[.pointer (some ⟨x, 0, none⟩), .int .i64 c] w fun e w' => e = .returned (.int .i64 1) ∧ w' = w := by
  go_enter Try.func20, Try.ntmps20
  go_wp2
  go_ret
  exact ⟨rfl, rfl⟩
set_option maxHeartbeats 4000000 in
set_option maxRecDepth 100000 in
theorem ropen (h : Emp w x) (c : Int) (h0 : ¬ c < 0) : Calls Try.prog 20 #[.pointer (some ⟨x, 0, none⟩), .int .i64 c] w fun e w' => e = .returned (.int .i64 0) ∧ Stay (fun k => k = x) w w' := by
  have H := Aside0.mk h
  have HF := Aside0.mk (rfind h c)
  clear h
  obtain ⟨i, hi, hzz⟩ := Option.map_eq_some_iff.1 info_conn
  simp only [Prod.mk.injEq] at hzz
  have Hi := Aside0.mk hi
  have Hz := Aside0.mk hzz
  clear hi hzz
  go_enter Try.func20, Try.ntmps20
  go_wp2_with (first
    | (go_at_call 34; refine HF.out.mono ?_; rintro e w1 ⟨rfl, hb1⟩; have HB1 := Aside0.mk hb1; have HE1 : Aside0 (Emp w1 x) := ⟨(hb1.block x (blk_lt H.out)).trans H.out⟩; clear hb1)
    | (go_at_call 13; refine (rall HE1.out).mono ?_; rintro e w2 ⟨rfl, hb2⟩; have HB2 := Aside0.mk (below_step HB1.out hb2); have HE2 : Aside0 (Emp w2 x) := ⟨(hb2.block x (blk_lt HE1.out)).trans HE1.out⟩; have hz0 : w2.cell? ⟨x, 0, none⟩ = some (.slice none 0 0) := (blk_cell HE2.out 0).trans rfl; have hf0 := blk_frozen HE2.out 0; clear hb2)
    | ((with_reducible refine gate_builtin (b := .append) (xs := #[.tmp 19, .tmp 22]) rfl ?_); at_builtin; go_loud (refine wpList_append_own_wide _ rfl (.tmp 19) (.tmp 22) 26 rfl w2.heap.size 38 i (.agg #[.int .i64 0, .bool false, .bool false, .slice none 0 0, .slice none 0 0, .int .i64 0]) 6 72 Try.underlying26 Hi.out Hz.out.1 Hz.out.2.1 Hz.out.2.2 rfl (by decide) (.slice none 0 0) 0 [] rfl ⟨rfl, .inl ⟨rfl, rfl⟩⟩ ⟨w2.heap.size, 0, none⟩ 1 1 [.int .i64 c, .bool true, .bool false, .slice none 0 0, .slice none 0 0, .int .i64 0] rfl rfl ?hnews ?hone (by decide) (by decide) (below_alloc (Below.refl _ _) _).size ?_; (case hnews => exact fun j u hu => by rw [add_plain]; exact (blk_cell (blk_new w2 _) j).trans (by simpa using hu)); (case hone => intro u hu; simp only [List.mem_cons, List.not_mem_nil, or_false] at hu; rcases hu with rfl | rfl | rfl | rfl | rfl | rfl <;> rfl); intro v3 w3 hown3 hg3 hnil3; obtain ⟨A3, c3, e3⟩ := own_slice hown3; subst e3; have HG3 := Aside0.mk hg3; have HB3 : Aside0 (Below w.heap.size w w3) := ⟨below_grown HB2.out hg3 (fun k hk => by simp [Value.ownBlock] at hk)⟩; have HE3 : Aside0 (Emp w3 x) := ⟨(hg3.block x (Nat.lt_of_lt_of_le (blk_lt HE2.out) (below_alloc (Below.refl _ _) _).size) (by simp [Value.ownBlock])).trans (((below_alloc (Below.refl w2.heap.size w2) _).block x (blk_lt HE2.out)).trans HE2.out)⟩; have hy0 : w3.cell? ⟨x, 0, none⟩ = some (.slice none 0 0) := (blk_cell HE3.out 0).trans rfl; have hg0 := blk_frozen HE3.out 0; clear hown3 hg3 hnil3)))
  go_ret
  exact ⟨rfl, ((Stay.below HB3.out).set (F := fun k => k = x) (p := ⟨x, 0, none⟩) rfl _)⟩
end
end Go.Proofs.Ytnhhcmnjfaeliaa.Vm
