/- ChunkedWrites: THE STATEMENT Rows.ChunkedWritesUptoCardSaid. What is proved: for every input that the row lets in, of bulk at most 1048576, the law returns true and its arguments read as before; under what the row lists of the library's variables, which the card ties to the program's text. Laid by programs of this session (hp.py, rows.py); the walk and the plain law are in the texts that it imports. -/
import Derived.Test.YtnlicpihondmgaaDoorLWrites
import Derived.Test.YtnlicpihondmgaaDoorLaid
import Derived.Test.YtnlicpihondmgaaDoorSlOpen
import Derived.Test.YtnlicpihondmgaaDoorFldOpen
namespace Go.Proofs.YtnlicpihondmgaaDoor.chunkedWrites
open Go.ChangeShapes Go.WideShapes Go.ChangeAt Go.RowKit
open Go.ChangeMaps (open_string shut_string)
set_option linter.unusedVariables false
set_option linter.unusedSimpArgs false
theorem reads (os : Os) {H : Type} (enc : TypeId × Value → H) : ∃ places, DataW.whole enc Tryd.prog ((Laid.laidWorld os).forCall (fun _ _ => 0) ⟨#[], #[.slice none 0 0, .slice none 0 0], []⟩).memory Tryd.f4.params.toList Rows.chunkedWritesSpec.vars false (#[.slice none 0 0, .slice none 0 0] : Array Value).toList 8 = some ([.nil, .nil], [], places) :=
  ⟨[], by kernel_rfl⟩
set_option maxRecDepth 100000 in
theorem lifted (os : Os) (started : os.Started) (H : Type) (enc : TypeId × Value → H) (F : Stop.Interp) :
    ReturnsInHanded {} Tryd.checked os 4 .any ((Rows.OpenSpec.upto Rows.chunkedWritesSpec).preRow enc Tryd.prog Tryd.f4 Rows.chunkedWritesUptoRow.domain false Rows.chunkedWritesUptoRow.laid) (((Rows.OpenSpec.upto Rows.chunkedWritesSpec).at F).post enc Tryd.prog Tryd.f4 false true false false) := by
  obtain ⟨places, hx⟩ := reads os enc
  refine returnsInHanded_of_row (C := Tryd.checked) (s := (Rows.OpenSpec.upto Rows.chunkedWritesSpec)) Laid.own started (by kernel_rfl) Tryd.func4
    (witness_row_at (enc := enc) (C := Tryd.checked) false (Laid.laidWorld os) #[.slice none 0 0, .slice none 0 0] rfl (by kernel_rfl) (by kernel_rfl) (by kernel_rfl)
      (OpenSpec.preRow_of_cond 8 hx (by kernel_rfl) (fun k hk => by cases hk; kernel_rfl) (by kernel_rfl) (Laid.laid_met os #[.slice none 0 0, .slice none 0 0]))) ?_
  intro W base args ds gs before hval0 hW hcnd hk0 hsz0 hL hShO _
  have hG : GInv W := Laid.ginv hL hShO
  have hsz : (DataW.weightsEach Tryd.prog (Tryd.f4.params.toList ++ Rows.chunkedWritesSpec.plain.varTypes Tryd.prog) (ds ++ gs)).all (· ≤ reachBytes) = true := hsz0
  have hval : ∀ (j : Nat) t v, Tryd.f4.params[j]? = some t → args[j]? = some v → Value.okWide Tryd.prog W .any base t v := hval0
  have hW' := hW
  obtain ⟨p, q, hA0, hV, rfl, hfz, hnd⟩ := hW
  have hA : DataW.TrodAll enc Tryd.prog W 0 (fun _ => true) true Tryd.f4.params.toList args.toList ds p := hA0
  rw [Tryd.params4] at hA hval hsz
  obtain ⟨v0, vs0, d0, ds0, p0, q0, hargs, rfl, rfl, h0, r0⟩ := trodAll_cons hA
  obtain ⟨v1, vs1, d1, ds1, p1, q1, rfl, rfl, rfl, h1, r1⟩ := trodAll_cons r0
  obtain ⟨rfl, rfl, rfl⟩ := trodAll_nil r1
  obtain rfl : args = #[v0, v1] := by cases args; simp_all
  obtain ⟨rfl, rfl⟩ := trodVars_none hV
  have k0 := h0
  have lt0 : ∀ x ∈ p0, x.block < W.heap.size := by obtain ⟨m, hm⟩ := k0; exact DataW.trod_lt m _ _ _ hm
  obtain ⟨A0, l0, c0, rfl, hc0, hC0, hb0, hw0⟩ := SlOpen.open_bytes (hval 0 22 v0 rfl rfl) h0
  have k1 := h1
  have lt1 : ∀ x ∈ p1, x.block < W.heap.size := by obtain ⟨m, hm⟩ := k1; exact DataW.trod_lt m _ _ _ hm
  obtain ⟨A1, l1, c1, rfl, hc1, hC1, hb1⟩ := FldOpen.open_flds (hval 1 32 v1 rfl rfl) h1
  have hbulk : Rows.uptoBulkAll _ ≤ 1048576 := of_decide_eq_true (hk0 _ rfl)
  simp only [Rows.uptoBulkAll, List.append_nil] at hbulk
  (try simp only [Rows.uptoBulk, Array.length_toList] at hbulk)
  have ub0 : l0.length ≤ 1048576 := by omega
  have ub1 : Chk.fbz l1 ≤ 4194304 := by omega
  clear hA0 hval0 hsz0 hsz
  obtain ⟨k, hk⟩ := Px.pure_ChunkedWrites l0 l1 ub0 hw0 ub1
  refine (P.headracelaw10_ChunkedWrites.calls k A0 c0 l0 A1 c1 l1 true W hC0 hc0 hC1 hc1 hk hG).mono fun e W' ⟨he, bel⟩ => ?_
  subst he
  exact ⟨_, rfl, _, _, _, [], _, [], hW', trodAll_mk1 (shut_bool Tryd.underlying4 _), (trodAll_cons_mk (Below.trod Laid.laidOut (by kernel_rfl) (of_decide_eq_true (by kernel_rfl)) k0 bel lt0) (trodAll_cons_mk (Below.trod Laid.laidOut (by kernel_rfl) (of_decide_eq_true (by kernel_rfl)) k1 bel lt1) trodAll_mk0)), rfl, bel.frame _, fun h => by cases h⟩
theorem over : Rows.ChunkedWritesUptoSaid :=
  OpenClaim.holds_of_cond 4 Tryd.f4 rfl rfl rfl rfl rfl rfl rfl ⟨rfl, rfl, rfl, rfl, rfl⟩ rfl rfl rfl rfl rfl (by kernel_rfl) Tryd.func4 (by kernel_rfl)
    (of_decide_eq_true (by kernel_rfl)) (by unfold Func.isWrapper; first | (rw [if_pos (by decide +kernel)]; kernel_rfl) | (rw [if_neg (by decide +kernel)]; exact ⟨rfl, rfl⟩))
    (fun os started H enc _ F => by rw [OpenClaim.pre_eq_preRow]; exact lifted os started H enc F)
theorem plain (f : FuncId) (fn : Func) (hf : Tryd.pinned.checked.prog.funcNamed "headrace/headracelaw10.ChunkedWrites" = some f) (hfn : Tryd.pinned.checked.prog.funcs[f]? = some fn) :
    true = Tryd.pinned.checked.prog.looks [] ∧ ∀ (j : Nat) t, fn.params[j]? = some t → Tryd.pinned.checked.prog.wantsStandIn t = false := by
  obtain rfl : f = 4 := Option.some.inj ((show Tryd.prog.funcNamed "headrace/headracelaw10.ChunkedWrites" = some 4 by kernel_rfl).symm.trans hf) |>.symm
  obtain rfl : fn = Tryd.f4 := (Option.some.inj (Tryd.func4.symm.trans hfn)).symm
  refine ⟨by kernel_rfl, fun j t ht => ?_⟩
  rw [Tryd.params4] at ht
  have hm := Array.mem_of_getElem? ht
  have h : t = 22 ∨ t = 32 := by simpa using hm
  rcases h with rfl | rfl
  · exact (show Tryd.prog.wantsStandIn 22 = false by kernel_rfl)
  · exact (show Tryd.prog.wantsStandIn 32 = false by kernel_rfl)
end Go.Proofs.YtnlicpihondmgaaDoor.chunkedWrites
namespace Go.Proofs.YtnlicpihondmgaaDoor
/-- ████ THE CARD ████ -/
theorem chunkedWrites_card : Rows.ChunkedWritesUptoCardSaid :=
  Claim7.holds_tied_plain_at .later [] _ _ _ _ chunkedWrites.over (fun _ h => by cases h) (by kernel_rfl) (fun _ h => by cases h) chunkedWritesUpto_row_tie rfl ⟨rfl, rfl⟩ (by kernel_rfl) rfl chunkedWrites.plain (by kernel_rfl)
#print axioms chunkedWrites_card
end Go.Proofs.YtnlicpihondmgaaDoor
