/- FramingCase: THE STATEMENT Rows.FramingCaseUptoCardSaid. What is proved: for every input that the row lets in, of bulk at most 1048576, the law returns true and its arguments read as before; under what the row lists of the library's variables, which the card ties to the program's text. Laid by programs of this session (hp.py, rows.py); the walk and the plain law are in the texts that it imports. -/
import Derived.Test.YtmfhhhokacjgeaaDoorFr5
import Derived.Test.YtmfhhhokacjgeaaDoorLaid
import Derived.Test.YtmfhhhokacjgeaaDoorHeadOpen
namespace Go.Proofs.YtmfhhhokacjgeaaDoor.framingCase
open Go.ChangeShapes Go.WideShapes Go.ChangeAt Go.RowKit
open Go.ChangeMaps (open_string shut_string)
set_option linter.unusedVariables false
theorem reads (os : Os) {H : Type} (enc : TypeId × Value → H) : ∃ places, DataW.whole enc Tryd.prog ((Laid.laidWorld os).forCall (fun _ _ => 0) ⟨#[], #[.agg #[.bool false, .string ByteArray.empty, .string ByteArray.empty, .int .i64 0, .int .i64 0, .string ByteArray.empty, .slice none 0 0], .string ByteArray.empty], []⟩).memory Tryd.f6.params.toList Rows.framingCaseSpec.vars false (#[.agg #[.bool false, .string ByteArray.empty, .string ByteArray.empty, .int .i64 0, .int .i64 0, .string ByteArray.empty, .slice none 0 0], .string ByteArray.empty] : Array Value).toList 8 = some ([.agg [.lit (.bool false), .lit (.string []), .lit (.string []), .lit (.int .i64 0), .lit (.int .i64 0), .lit (.string []), .nil], .lit (.string [])], [], places) :=
  ⟨[], by kernel_rfl⟩
set_option maxRecDepth 100000 in
theorem lifted (os : Os) (started : os.Started) (H : Type) (enc : TypeId × Value → H) (F : Stop.Interp) :
    ReturnsInHanded {} Tryd.checked os 6 .any ((Rows.OpenSpec.upto Rows.framingCaseSpec).preRow enc Tryd.prog Tryd.f6 Rows.framingCaseUptoRow.domain false Rows.framingCaseUptoRow.laid) (((Rows.OpenSpec.upto Rows.framingCaseSpec).at F).post enc Tryd.prog Tryd.f6 false true false false) := by
  obtain ⟨places, hx⟩ := reads os enc
  refine returnsInHanded_of_row (C := Tryd.checked) (s := (Rows.OpenSpec.upto Rows.framingCaseSpec)) Laid.own started (by kernel_rfl) Tryd.func6
    (witness_row_at (enc := enc) (C := Tryd.checked) false (Laid.laidWorld os) #[.agg #[.bool false, .string ByteArray.empty, .string ByteArray.empty, .int .i64 0, .int .i64 0, .string ByteArray.empty, .slice none 0 0], .string ByteArray.empty] rfl (by kernel_rfl) (by kernel_rfl) (by kernel_rfl)
      (OpenSpec.preRow_of_cond 8 hx (by kernel_rfl) (fun k hk => by cases hk; kernel_rfl) (by kernel_rfl) (Laid.laid_met os #[.agg #[.bool false, .string ByteArray.empty, .string ByteArray.empty, .int .i64 0, .int .i64 0, .string ByteArray.empty, .slice none 0 0], .string ByteArray.empty]))) ?_
  intro W base args ds gs before hval0 hW hcnd hk0 hsz0 hL hShO _
  have hG : GInv W := Laid.ginv hL hShO
  have hsz : (DataW.weightsEach Tryd.prog (Tryd.f6.params.toList ++ Rows.framingCaseSpec.plain.varTypes Tryd.prog) (ds ++ gs)).all (· ≤ reachBytes) = true := hsz0
  have hval : ∀ (j : Nat) t v, Tryd.f6.params[j]? = some t → args[j]? = some v → Value.okWide Tryd.prog W .any base t v := hval0
  have hW' := hW
  obtain ⟨p, q, hA0, hV, rfl, hfz, hnd⟩ := hW
  have hA : DataW.TrodAll enc Tryd.prog W 0 (fun _ => true) true Tryd.f6.params.toList args.toList ds p := hA0
  rw [Tryd.params6] at hA hval hsz
  obtain ⟨v0, vs0, d0, ds0, p0, q0, hargs, rfl, rfl, h0, r0⟩ := trodAll_cons hA
  obtain ⟨v1, vs1, d1, ds1, p1, q1, rfl, rfl, rfl, h1, r1⟩ := trodAll_cons r0
  obtain ⟨rfl, rfl, rfl⟩ := trodAll_nil r1
  obtain rfl : args = #[v0, v1] := by cases args; simp_all
  obtain ⟨rfl, rfl⟩ := trodVars_none hV
  have k0 := h0
  have lt0 : ∀ x ∈ p0, x.block < W.heap.size := by obtain ⟨m, hm⟩ := k0; exact DataW.trod_lt m _ _ _ hm
  obtain ⟨b0_0, b0_1, b0_2, b0_3, b0_4, b0_5, A0, c0, l0, rfl, hc0, hC0, hb0, hw0, hx0⟩ := HeadOpen.open_head (hval 0 24 v0 rfl rfl) h0
  obtain ⟨a1, rfl, rfl, rfl, y1⟩ := open_string Tryd.underlying9 (hval 1 9 v1 rfl rfl) h1
  have w1 : a1.size ≤ 140737488351232 := by
    have z := sized_string hsz (j := 1) (t := 9) rfl rfl
    rw [Array.length_toList] at z
    exact z
  have hbulk : Rows.uptoBulkAll _ ≤ 1048576 := of_decide_eq_true (hk0 _ rfl)
  simp only [Rows.uptoBulkAll, List.append_nil] at hbulk
  (try simp only [Rows.uptoBulk, Array.length_toList] at hbulk)
  have ub0 : Px.fsz l0 + b0_1.size + b0_2.size + b0_5.size ≤ 1048576 := by omega
  have u1 : a1.size ≤ 1048576 := by have e : a1.size = a1.data.size := rfl; omega
  clear hA0 hval0 hsz0 hsz
  obtain ⟨k, hk⟩ := Px.pure_FramingCase b0_0 b0_1 b0_2 b0_3 b0_4 b0_5 l0 a1 ub0 u1
  refine (P.headracelaw09_FramingCase.calls k b0_0 b0_1 b0_2 b0_3 b0_4 b0_5 A0 c0 l0 a1 true W hC0 hc0 hk hG).mono fun e W' ⟨he, bel⟩ => ?_
  subst he
  exact ⟨_, rfl, _, _, _, [], _, [], hW', trodAll_mk1 (shut_bool Tryd.underlying4 _), (trodAll_cons_mk (Below.trod Laid.laidOut (by kernel_rfl) (of_decide_eq_true (by kernel_rfl)) k0 bel lt0) (trodAll_cons_mk (shut_string Tryd.underlying9 y1) trodAll_mk0)), rfl, bel.frame _, fun h => by cases h⟩
theorem over : Rows.FramingCaseUptoSaid :=
  OpenClaim.holds_of_cond 6 Tryd.f6 rfl rfl rfl rfl rfl rfl rfl ⟨rfl, rfl, rfl, rfl, rfl⟩ rfl rfl rfl rfl rfl (by kernel_rfl) Tryd.func6 (by kernel_rfl)
    (of_decide_eq_true (by kernel_rfl)) (by unfold Func.isWrapper; first | (rw [if_pos (by decide +kernel)]; kernel_rfl) | (rw [if_neg (by decide +kernel)]; exact ⟨rfl, rfl⟩))
    (fun os started H enc _ F => by rw [OpenClaim.pre_eq_preRow]; exact lifted os started H enc F)
theorem plain (f : FuncId) (fn : Func) (hf : Tryd.pinned.checked.prog.funcNamed "headrace/headracelaw09.FramingCase" = some f) (hfn : Tryd.pinned.checked.prog.funcs[f]? = some fn) :
    true = Tryd.pinned.checked.prog.looks [] ∧ ∀ (j : Nat) t, fn.params[j]? = some t → Tryd.pinned.checked.prog.wantsStandIn t = false := by
  obtain rfl : f = 6 := Option.some.inj ((show Tryd.prog.funcNamed "headrace/headracelaw09.FramingCase" = some 6 by kernel_rfl).symm.trans hf) |>.symm
  obtain rfl : fn = Tryd.f6 := (Option.some.inj (Tryd.func6.symm.trans hfn)).symm
  refine ⟨by kernel_rfl, fun j t ht => ?_⟩
  rw [Tryd.params6] at ht
  have hm := Array.mem_of_getElem? ht
  have h : t = 24 ∨ t = 9 := by simpa using hm
  rcases h with rfl | rfl
  · exact (show Tryd.prog.wantsStandIn 24 = false by kernel_rfl)
  · exact (show Tryd.prog.wantsStandIn 9 = false by kernel_rfl)
end Go.Proofs.YtmfhhhokacjgeaaDoor.framingCase
namespace Go.Proofs.YtmfhhhokacjgeaaDoor
/-- ████ THE CARD ████ -/
theorem framingCase_card : Rows.FramingCaseUptoCardSaid :=
  Claim7.holds_tied_plain_at .later [] _ _ _ _ framingCase.over (fun _ h => by cases h) (by kernel_rfl) (fun _ h => by cases h) framingCaseUpto_row_tie rfl ⟨rfl, rfl⟩ (by kernel_rfl) rfl framingCase.plain (by kernel_rfl)
#print axioms framingCase_card
end Go.Proofs.YtmfhhhokacjgeaaDoor
