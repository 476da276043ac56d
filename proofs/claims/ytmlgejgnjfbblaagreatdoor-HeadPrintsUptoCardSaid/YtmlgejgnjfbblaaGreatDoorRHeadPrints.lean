/- HeadPrints: THE STATEMENT Rows.HeadPrintsUptoCardSaid. What is proved: for every input that the row lets in, of bulk at most 1048576, the law returns true and its arguments read as before; under what the row lists of the library's variables, which the card ties to the program's text. Laid by programs of this session (hp.py, rows.py); the walk and the plain law are in the texts that it imports. -/
import Derived.Test.YtmlgejgnjfbblaaGreatDoorHdV
import Derived.Test.YtmlgejgnjfbblaaGreatDoorLaid
import Derived.Test.YtmlgejgnjfbblaaGreatDoorHeadOpen
namespace Go.Proofs.YtmlgejgnjfbblaaGreatDoor.headPrints
open Go.ChangeShapes Go.WideShapes Go.ChangeAt Go.RowKit
open Go.ChangeMaps (open_string shut_string)
set_option linter.unusedVariables false
set_option linter.unusedSimpArgs false
theorem reads (os : Os) {H : Type} (enc : TypeId × Value → H) : ∃ places, DataW.whole enc Tryz.prog ((Laid.laidWorld os).forCall (fun _ _ => 0) ⟨#[], #[.agg #[.bool false, .string ByteArray.empty, .string ByteArray.empty, .int .i64 0, .int .i64 0, .string ByteArray.empty, .slice none 0 0]], []⟩).memory Tryz.f3.params.toList Rows.headPrintsSpec.vars false (#[.agg #[.bool false, .string ByteArray.empty, .string ByteArray.empty, .int .i64 0, .int .i64 0, .string ByteArray.empty, .slice none 0 0]] : Array Value).toList 8 = some ([.agg [.lit (.bool false), .lit (.string []), .lit (.string []), .lit (.int .i64 0), .lit (.int .i64 0), .lit (.string []), .nil]], [], places) :=
  ⟨[], by kernel_rfl⟩
set_option maxRecDepth 100000 in
theorem lifted (os : Os) (started : os.Started) (H : Type) (enc : TypeId × Value → H) (F : Stop.Interp) :
    ReturnsInHanded {} Tryz.checked os 3 .any ((Rows.OpenSpec.upto Rows.headPrintsSpec).preRow enc Tryz.prog Tryz.f3 Rows.headPrintsUptoRow.domain false Rows.headPrintsUptoRow.laid) (((Rows.OpenSpec.upto Rows.headPrintsSpec).at F).post enc Tryz.prog Tryz.f3 false true false false) := by
  obtain ⟨places, hx⟩ := reads os enc
  refine returnsInHanded_of_row (C := Tryz.checked) (s := (Rows.OpenSpec.upto Rows.headPrintsSpec)) Laid.own started (by kernel_rfl) Tryz.func3
    (witness_row_at (enc := enc) (C := Tryz.checked) false (Laid.laidWorld os) #[.agg #[.bool false, .string ByteArray.empty, .string ByteArray.empty, .int .i64 0, .int .i64 0, .string ByteArray.empty, .slice none 0 0]] rfl (by kernel_rfl) (by kernel_rfl) (by kernel_rfl)
      (OpenSpec.preRow_of_cond 8 hx (by kernel_rfl) (fun k hk => by cases hk; kernel_rfl) (by kernel_rfl) (Laid.laid_met os #[.agg #[.bool false, .string ByteArray.empty, .string ByteArray.empty, .int .i64 0, .int .i64 0, .string ByteArray.empty, .slice none 0 0]]))) ?_
  intro W base args ds gs before hval0 hW hcnd hk0 hsz0 hL hShO _
  have hG : GInv W := Laid.ginv hL hShO
  have hsz : (DataW.weightsEach Tryz.prog (Tryz.f3.params.toList ++ Rows.headPrintsSpec.plain.varTypes Tryz.prog) (ds ++ gs)).all (· ≤ reachBytes) = true := hsz0
  have hval : ∀ (j : Nat) t v, Tryz.f3.params[j]? = some t → args[j]? = some v → Value.okWide Tryz.prog W .any base t v := hval0
  have hW' := hW
  obtain ⟨p, q, hA0, hV, rfl, hfz, hnd⟩ := hW
  have hA : DataW.TrodAll enc Tryz.prog W 0 (fun _ => true) true Tryz.f3.params.toList args.toList ds p := hA0
  rw [Tryz.params3] at hA hval hsz
  obtain ⟨v0, vs0, d0, ds0, p0, q0, hargs, rfl, rfl, h0, r0⟩ := trodAll_cons hA
  obtain ⟨rfl, rfl, rfl⟩ := trodAll_nil r0
  obtain rfl : args = #[v0] := by cases args; simp_all
  obtain ⟨rfl, rfl⟩ := trodVars_none hV
  have k0 := h0
  have lt0 : ∀ x ∈ p0, x.block < W.heap.size := by obtain ⟨m, hm⟩ := k0; exact DataW.trod_lt m _ _ _ hm
  obtain ⟨b0_0, b0_1, b0_2, b0_3, b0_4, b0_5, A0, c0, l0, rfl, hc0, hC0, hb0, hw0, hx0⟩ := HeadOpen.open_head (hval 0 24 v0 rfl rfl) h0
  have hbulk : Rows.uptoBulkAll _ ≤ 1048576 := of_decide_eq_true (hk0 _ rfl)
  simp only [Rows.uptoBulkAll, List.append_nil] at hbulk
  (try simp only [Rows.uptoBulk, Array.length_toList] at hbulk)
  have ub0 : Px.fsz l0 + b0_1.size + b0_2.size + b0_5.size ≤ 1048576 := by omega
  clear hA0 hval0 hsz0 hsz
  obtain ⟨k, hk⟩ := Hd.pure_HeadPrints b0_0 b0_1 b0_2 b0_3 b0_4 b0_5 l0 ub0 hw0 hx0
  refine (U.headracelaw08_HeadPrints.calls k b0_0 b0_1 b0_2 b0_3 b0_4 b0_5 A0 c0 l0 true W hC0 hc0 hk hG).mono fun e W' ⟨he, bel⟩ => ?_
  subst he
  exact ⟨_, rfl, _, _, _, [], _, [], hW', trodAll_mk1 (shut_bool Tryz.underlying4 _), (trodAll_cons_mk (Below.trod Laid.laidOut (by kernel_rfl) (of_decide_eq_true (by kernel_rfl)) k0 bel lt0) trodAll_mk0), rfl, bel.frame _, fun h => by cases h⟩
theorem fact0 : (Rows.headPrintsUptoRow.wf (OpenSpec.ofChange ((Rows.OpenSpec.upto Rows.headPrintsSpec).bare))) = true := by kernel_rfl
theorem fact1 : (laidOutB (Tryz.pinned.checked.prog)) = true := by kernel_rfl
theorem fact2 : (mapsRowed (Tryz.pinned.checked.prog)) = true := by kernel_rfl
theorem fact3 : (Tryz.f3.params.all ((Tryz.pinned.checked.prog).readableRec ·)) = true := by kernel_rfl
theorem fact4 : (namedTie (Tryz.pinned.checked.prog) Rows.headPrintsUptoRow.named ((Rows.OpenSpec.upto Rows.headPrintsSpec).bare).vars) = true := by kernel_rfl
theorem fact5 : ((Rows.headPrintsUptoRow.stops == [])) = true := by kernel_rfl
theorem fact6 : (((Tryz.pinned.checked.prog).stops == [])) = true := by kernel_rfl
theorem fact7 : ((Rows.headPrintsUptoRow.knobs == [])) = true := by kernel_rfl
theorem fact8 : (((Tryz.pinned.checked.prog).stopKnobs == [])) = true := by kernel_rfl
theorem fact9 : ((Rows.headPrintsUptoRow.inPlace == (Tryz.pinned.checked.prog).inPlace 3)) = true := by kernel_rfl
theorem fact10 : ((Rows.headPrintsUptoRow.unfollowed == (Tryz.pinned.checked.prog).unfollowed 3)) = true := by kernel_rfl
theorem fact11 : ((Rows.headPrintsUptoRow.recurses == (Tryz.pinned.checked.prog).recurses 3)) = true := by kernel_rfl
theorem fact12 : ((Rows.headPrintsUptoRow.named == (Tryz.pinned.checked.prog).varsNamed 3)) = true := by kernel_rfl
theorem fact13 : ((Rows.headPrintsUptoRow.maps == (Tryz.f3.params.toList ++ ((Rows.OpenSpec.upto Rows.headPrintsSpec).bare).plain.varTypes (Tryz.pinned.checked.prog)).any ((Tryz.pinned.checked.prog).mapsRec ·))) = true := by kernel_rfl
theorem fact14 : ((Rows.headPrintsUptoRow.ifaces == (Tryz.f3.params.toList ++ ((Rows.OpenSpec.upto Rows.headPrintsSpec).bare).plain.varTypes (Tryz.pinned.checked.prog)).any ((Tryz.pinned.checked.prog).ifacesRec ·))) = true := by kernel_rfl
theorem fact15 : ((Rows.headPrintsUptoRow.mapsOut == (Tryz.pinned.checked.prog).mapsAmong Tryz.f3.resultTypes.toList)) = true := by kernel_rfl
theorem fact16 : ((Rows.headPrintsUptoRow.loops == (Tryz.f3.params.toList ++ ((Rows.OpenSpec.upto Rows.headPrintsSpec).bare).plain.varTypes (Tryz.pinned.checked.prog)).any ((Tryz.pinned.checked.prog).loopsFrom ·))) = true := by kernel_rfl
theorem fact17 : ((Rows.headPrintsUptoRow.wideKeys == (Tryz.f3.params.toList ++ ((Rows.OpenSpec.upto Rows.headPrintsSpec).bare).plain.varTypes (Tryz.pinned.checked.prog) ++ Tryz.f3.resultTypes.toList).any ((Tryz.pinned.checked.prog).wideKeysFrom ·))) = true := by kernel_rfl
theorem fact18 : (((Rows.OpenSpec.upto Rows.headPrintsSpec).bare).vars.all ((Tryz.pinned.checked.prog).varReadable ·)) = true := by kernel_rfl
theorem fact19 : (Tryz.f3.resultTypes.all (fun t => (Tryz.pinned.checked.prog).readableRec t && decide (t < (Tryz.pinned.checked.prog).types.size))) = true := by kernel_rfl
theorem fact20 : ((Rows.headPrintsUptoRow.ifacesOut == Tryz.f3.resultTypes.toList.any ((Tryz.pinned.checked.prog).ifacesRec ·))) = true := by kernel_rfl
theorem fact21 : ((Rows.headPrintsUptoRow.loopsOut == Tryz.f3.resultTypes.toList.any ((Tryz.pinned.checked.prog).loopsFrom ·))) = true := by kernel_rfl
theorem fact22 : ((Rows.headPrintsUptoRow.plainKeys == (Tryz.pinned.checked.prog).plainKeys)) = true := by kernel_rfl
theorem fact23 : (Rows.headPrintsUptoRow.shortTexts.isNone) = true := by kernel_rfl
theorem fact24 : ((Tryz.pinned.checked.prog).stopsHeard) = true := by kernel_rfl
theorem fact25 : ((Tryz.pinned.checked.prog).mayEnter) = true := by kernel_rfl
theorem fact26 : ((Rows.headPrintsUptoRow.lifted == (Tryz.pinned.checked.prog).liftsFinal)) = true := by kernel_rfl
theorem fact27 : (((Tryz.pinned.checked.prog).make == some Rows.headPrintsUptoRow.make)) = true := by kernel_rfl
theorem fact28 : ((Rows.headPrintsUptoRow.kinds == (if Rows.headPrintsUptoRow.domain.isEmpty then [] else Tryz.f3.params.toList.map fun t => match (Tryz.pinned.checked.prog).underlying t with | some (.int k) => some k | _ => none))) = true := by kernel_rfl
theorem fact29 : ((Rows.headPrintsUptoRow.pinned == Rows.headPrintsUptoRow.pinnedBy)) = true := by kernel_rfl
theorem fact30 : ((Rows.headPrintsUptoRow.veiled == (Tryz.f3.params.toList ++ ((Rows.OpenSpec.upto Rows.headPrintsSpec).bare).plain.varTypes (Tryz.pinned.checked.prog) ++ Tryz.f3.resultTypes.toList).any ((Tryz.pinned.checked.prog).veiledRec ·))) = true := by kernel_rfl
theorem fact31 : (Rows.headPrintsUptoRow.veiledFits (Tryz.pinned.checked.prog) Tryz.f3.params.toList (Tryz.f3.params.toList ++ ((Rows.OpenSpec.upto Rows.headPrintsSpec).bare).plain.varTypes (Tryz.pinned.checked.prog) ++ Tryz.f3.resultTypes.toList)) = true := by kernel_rfl
theorem both {a b : Bool} (ha : a = true) (hb : b = true) : (a && b) = true := by rw [ha, hb]; rfl
set_option maxRecDepth 100000 in
theorem closed : joinedFacts Tryz.pinned.checked.prog 3 Tryz.f3 (Rows.OpenSpec.upto Rows.headPrintsSpec).bare Rows.headPrintsUptoRow = true := by
  unfold joinedFacts
  refine both ?_ fact31
  refine both ?_ fact30
  refine both ?_ fact29
  refine both ?_ fact28
  refine both ?_ fact27
  refine both ?_ fact26
  refine both ?_ fact25
  refine both ?_ fact24
  refine both ?_ fact23
  refine both ?_ fact22
  refine both ?_ fact21
  refine both ?_ fact20
  refine both ?_ fact19
  refine both ?_ fact18
  refine both ?_ fact17
  refine both ?_ fact16
  refine both ?_ fact15
  refine both ?_ fact14
  refine both ?_ fact13
  refine both ?_ fact12
  refine both ?_ fact11
  refine both ?_ fact10
  refine both ?_ fact9
  refine both ?_ fact8
  refine both ?_ fact7
  refine both ?_ fact6
  refine both ?_ fact5
  refine both ?_ fact4
  refine both ?_ fact3
  refine both ?_ fact2
  refine both ?_ fact1
  exact fact0
theorem over : Rows.HeadPrintsUptoSaid :=
  OpenClaim.holds_of_cond 3 Tryz.f3 rfl rfl rfl rfl rfl rfl rfl ⟨rfl, rfl, rfl, rfl, rfl⟩ rfl rfl rfl rfl rfl (by kernel_rfl) Tryz.func3 closed
    (of_decide_eq_true (by kernel_rfl)) (by unfold Func.isWrapper; first | (rw [if_pos (by decide +kernel)]; kernel_rfl) | (rw [if_neg (by decide +kernel)]; exact ⟨rfl, rfl⟩))
    (fun os started H enc _ F => by rw [OpenClaim.pre_eq_preRow]; exact lifted os started H enc F)
theorem plain (f : FuncId) (fn : Func) (hf : Tryz.pinned.checked.prog.funcNamed "headrace/headracelaw08.HeadPrints" = some f) (hfn : Tryz.pinned.checked.prog.funcs[f]? = some fn) :
    true = Tryz.pinned.checked.prog.looks [] ∧ ∀ (j : Nat) t, fn.params[j]? = some t → Tryz.pinned.checked.prog.wantsStandIn t = false := by
  obtain rfl : f = 3 := Option.some.inj ((show Tryz.prog.funcNamed "headrace/headracelaw08.HeadPrints" = some 3 by kernel_rfl).symm.trans hf) |>.symm
  obtain rfl : fn = Tryz.f3 := (Option.some.inj (Tryz.func3.symm.trans hfn)).symm
  refine ⟨by kernel_rfl, fun j t ht => ?_⟩
  rw [Tryz.params3] at ht
  have hm := Array.mem_of_getElem? ht
  have h : t = 24 := by simpa using hm
  rcases h with rfl
  · exact (show Tryz.prog.wantsStandIn 24 = false by kernel_rfl)
end Go.Proofs.YtmlgejgnjfbblaaGreatDoor.headPrints
namespace Go.Proofs.YtmlgejgnjfbblaaGreatDoor
/-- ████ THE CARD ████ -/
theorem headPrints_card : Rows.HeadPrintsUptoCardSaid :=
  Claim7.holds_tied_plain_at .later [] _ _ _ _ headPrints.over (fun _ h => by cases h) (by kernel_rfl) (fun _ h => by cases h) headPrintsUpto_row_tie rfl ⟨rfl, rfl⟩ (by kernel_rfl) rfl headPrints.plain (by kernel_rfl)
#print axioms headPrints_card
end Go.Proofs.YtmlgejgnjfbblaaGreatDoor
