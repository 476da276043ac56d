/- ClientPieces: THE STATEMENT Rows.ClientPiecesUptoCardSaid. What is proved: for every input that the row lets in, of bulk at most 1048576, the law returns true and its arguments read as before; under what the row lists of the library's variables, which the card ties to the program's text. Laid by programs of this session (hp.py, rows.py); the walk and the plain law are in the texts that it imports. -/
import Derived.Test.YtccolnlfjbgnmaaGreatDoorLCPieces
import Derived.Test.YtccolnlfjbgnmaaGreatDoorLaid
import Derived.Test.YtccolnlfjbgnmaaGreatDoorSlOpen
import Derived.Test.YtccolnlfjbgnmaaGreatDoorIntOpen
namespace Go.Proofs.YtccolnlfjbgnmaaGreatDoor.clientPieces
open Go.ChangeShapes Go.WideShapes Go.ChangeAt Go.RowKit
open Go.ChangeMaps (open_string shut_string)
set_option linter.unusedVariables false
set_option linter.unusedSimpArgs false
theorem reads (os : Os) {H : Type} (enc : TypeId × Value → H) : ∃ places, DataW.whole enc Tryz.prog ((Laid.laidWorld os).forCall (fun _ _ => 0) ⟨#[], #[.slice none 0 0, .slice none 0 0], []⟩).memory Tryz.f10.params.toList Rows.clientPiecesSpec.vars false (#[.slice none 0 0, .slice none 0 0] : Array Value).toList 8 = some ([.nil, .nil], [], places) :=
  ⟨[], by kernel_rfl⟩
set_option maxRecDepth 100000 in
theorem lifted (os : Os) (started : os.Started) (H : Type) (enc : TypeId × Value → H) (F : Stop.Interp) :
    ReturnsInHanded {} Tryz.checked os 10 .any ((Rows.OpenSpec.upto Rows.clientPiecesSpec).preRow enc Tryz.prog Tryz.f10 Rows.clientPiecesUptoRow.domain false Rows.clientPiecesUptoRow.laid) (((Rows.OpenSpec.upto Rows.clientPiecesSpec).at F).post enc Tryz.prog Tryz.f10 false true false false) := by
  obtain ⟨places, hx⟩ := reads os enc
  refine returnsInHanded_of_row (C := Tryz.checked) (s := (Rows.OpenSpec.upto Rows.clientPiecesSpec)) Laid.own started (by kernel_rfl) Tryz.func10
    (witness_row_at (enc := enc) (C := Tryz.checked) false (Laid.laidWorld os) #[.slice none 0 0, .slice none 0 0] rfl (by kernel_rfl) (by kernel_rfl) (by kernel_rfl)
      (OpenSpec.preRow_of_cond 8 hx (by kernel_rfl) (fun k hk => by cases hk; kernel_rfl) (by kernel_rfl) (Laid.laid_met os #[.slice none 0 0, .slice none 0 0]))) ?_
  intro W base args ds gs before hval0 hW hcnd hk0 hsz0 hL hShO _
  have hG : GInv W := Laid.ginv hL hShO
  have hsz : (DataW.weightsEach Tryz.prog (Tryz.f10.params.toList ++ Rows.clientPiecesSpec.plain.varTypes Tryz.prog) (ds ++ gs)).all (· ≤ reachBytes) = true := hsz0
  have hval : ∀ (j : Nat) t v, Tryz.f10.params[j]? = some t → args[j]? = some v → Value.okWide Tryz.prog W .any base t v := hval0
  have hW' := hW
  obtain ⟨p, q, hA0, hV, rfl, hfz, hnd⟩ := hW
  have hA : DataW.TrodAll enc Tryz.prog W 0 (fun _ => true) true Tryz.f10.params.toList args.toList ds p := hA0
  rw [Tryz.params10] at hA hval hsz
  obtain ⟨v0, vs0, d0, ds0, p0, q0, hargs, rfl, rfl, h0, r0⟩ := trodAll_cons hA
  obtain ⟨v1, vs1, d1, ds1, p1, q1, rfl, rfl, rfl, h1, r1⟩ := trodAll_cons r0
  obtain ⟨rfl, rfl, rfl⟩ := trodAll_nil r1
  obtain rfl : args = #[v0, v1] := by cases args; simp_all
  obtain ⟨rfl, rfl⟩ := trodVars_none hV
  have k0 := h0
  have lt0 : ∀ x ∈ p0, x.block < W.heap.size := by obtain ⟨m, hm⟩ := k0; exact DataW.trod_lt m _ _ _ hm
  obtain ⟨A0, l0, c0, rfl, hc0, hC0, hb0, hw0⟩ := SlOpen.open_bytes (hval 0 33 v0 rfl rfl) h0
  have k1 := h1
  have lt1 : ∀ x ∈ p1, x.block < W.heap.size := by obtain ⟨m, hm⟩ := k1; exact DataW.trod_lt m _ _ _ hm
  obtain ⟨A1, l1, c1, rfl, hc1, hC1, hb1, hw1⟩ := IntOpen.open_nums (hval 1 75 v1 rfl rfl) h1
  have hbulk : Rows.uptoBulkAll _ ≤ 1048576 := of_decide_eq_true (hk0 _ rfl)
  simp only [Rows.uptoBulkAll, List.append_nil] at hbulk
  (try simp only [Rows.uptoBulk, Array.length_toList] at hbulk)
  have ub0 : l0.length ≤ 1048576 := by omega
  have ub1 : l1.length ≤ 1048576 := by omega
  clear hA0 hval0 hsz0 hsz
  obtain ⟨k, hk⟩ := Px.pure_ClientPieces l0 l1 ub0 hw0 ub1 hw1
  refine (P.headracelaw23_ClientPieces.calls k A0 c0 l0 A1 c1 l1 true W hC0 hc0 hC1 hc1 hk hG).mono fun e W' ⟨he, bel⟩ => ?_
  subst he
  exact ⟨_, rfl, _, _, _, [], _, [], hW', trodAll_mk1 (shut_bool Tryz.underlying4 _), (trodAll_cons_mk (Below.trod Laid.laidOut (by kernel_rfl) (of_decide_eq_true (by kernel_rfl)) k0 bel lt0) (trodAll_cons_mk (Below.trod Laid.laidOut (by kernel_rfl) (of_decide_eq_true (by kernel_rfl)) k1 bel lt1) trodAll_mk0)), rfl, bel.frame _, fun h => by cases h⟩
theorem fact0 : (Rows.clientPiecesUptoRow.wf (OpenSpec.ofChange ((Rows.OpenSpec.upto Rows.clientPiecesSpec).bare))) = true := by kernel_rfl
theorem fact1 : (laidOutB (Tryz.pinned.checked.prog)) = true := by kernel_rfl
theorem fact2 : (mapsRowed (Tryz.pinned.checked.prog)) = true := by kernel_rfl
theorem fact3 : (Tryz.f10.params.all ((Tryz.pinned.checked.prog).readableRec ·)) = true := by kernel_rfl
theorem fact4 : (namedTie (Tryz.pinned.checked.prog) Rows.clientPiecesUptoRow.named ((Rows.OpenSpec.upto Rows.clientPiecesSpec).bare).vars) = true := by kernel_rfl
theorem fact5 : ((Rows.clientPiecesUptoRow.stops == [])) = true := by kernel_rfl
theorem fact6 : (((Tryz.pinned.checked.prog).stops == [])) = true := by kernel_rfl
theorem fact7 : ((Rows.clientPiecesUptoRow.knobs == [])) = true := by kernel_rfl
theorem fact8 : (((Tryz.pinned.checked.prog).stopKnobs == [])) = true := by kernel_rfl
theorem fact9 : ((Rows.clientPiecesUptoRow.inPlace == (Tryz.pinned.checked.prog).inPlace 10)) = true := by kernel_rfl
theorem fact10 : ((Rows.clientPiecesUptoRow.unfollowed == (Tryz.pinned.checked.prog).unfollowed 10)) = true := by kernel_rfl
theorem fact11 : ((Rows.clientPiecesUptoRow.recurses == (Tryz.pinned.checked.prog).recurses 10)) = true := by kernel_rfl
theorem fact12 : ((Rows.clientPiecesUptoRow.named == (Tryz.pinned.checked.prog).varsNamed 10)) = true := by kernel_rfl
theorem fact13 : ((Rows.clientPiecesUptoRow.maps == (Tryz.f10.params.toList ++ ((Rows.OpenSpec.upto Rows.clientPiecesSpec).bare).plain.varTypes (Tryz.pinned.checked.prog)).any ((Tryz.pinned.checked.prog).mapsRec ·))) = true := by kernel_rfl
theorem fact14 : ((Rows.clientPiecesUptoRow.ifaces == (Tryz.f10.params.toList ++ ((Rows.OpenSpec.upto Rows.clientPiecesSpec).bare).plain.varTypes (Tryz.pinned.checked.prog)).any ((Tryz.pinned.checked.prog).ifacesRec ·))) = true := by kernel_rfl
theorem fact15 : ((Rows.clientPiecesUptoRow.mapsOut == (Tryz.pinned.checked.prog).mapsAmong Tryz.f10.resultTypes.toList)) = true := by kernel_rfl
theorem fact16 : ((Rows.clientPiecesUptoRow.loops == (Tryz.f10.params.toList ++ ((Rows.OpenSpec.upto Rows.clientPiecesSpec).bare).plain.varTypes (Tryz.pinned.checked.prog)).any ((Tryz.pinned.checked.prog).loopsFrom ·))) = true := by kernel_rfl
theorem fact17 : ((Rows.clientPiecesUptoRow.wideKeys == (Tryz.f10.params.toList ++ ((Rows.OpenSpec.upto Rows.clientPiecesSpec).bare).plain.varTypes (Tryz.pinned.checked.prog) ++ Tryz.f10.resultTypes.toList).any ((Tryz.pinned.checked.prog).wideKeysFrom ·))) = true := by kernel_rfl
theorem fact18 : (((Rows.OpenSpec.upto Rows.clientPiecesSpec).bare).vars.all ((Tryz.pinned.checked.prog).varReadable ·)) = true := by kernel_rfl
theorem fact19 : (Tryz.f10.resultTypes.all (fun t => (Tryz.pinned.checked.prog).readableRec t && decide (t < (Tryz.pinned.checked.prog).types.size))) = true := by kernel_rfl
theorem fact20 : ((Rows.clientPiecesUptoRow.ifacesOut == Tryz.f10.resultTypes.toList.any ((Tryz.pinned.checked.prog).ifacesRec ·))) = true := by kernel_rfl
theorem fact21 : ((Rows.clientPiecesUptoRow.loopsOut == Tryz.f10.resultTypes.toList.any ((Tryz.pinned.checked.prog).loopsFrom ·))) = true := by kernel_rfl
theorem fact22 : ((Rows.clientPiecesUptoRow.plainKeys == (Tryz.pinned.checked.prog).plainKeys)) = true := by kernel_rfl
theorem fact23 : (Rows.clientPiecesUptoRow.shortTexts.isNone) = true := by kernel_rfl
theorem fact24 : ((Tryz.pinned.checked.prog).stopsHeard) = true := by kernel_rfl
theorem fact25 : ((Tryz.pinned.checked.prog).mayEnter) = true := by kernel_rfl
theorem fact26 : ((Rows.clientPiecesUptoRow.lifted == (Tryz.pinned.checked.prog).liftsFinal)) = true := by kernel_rfl
theorem fact27 : (((Tryz.pinned.checked.prog).make == some Rows.clientPiecesUptoRow.make)) = true := by kernel_rfl
theorem fact28 : ((Rows.clientPiecesUptoRow.kinds == (if Rows.clientPiecesUptoRow.domain.isEmpty then [] else Tryz.f10.params.toList.map fun t => match (Tryz.pinned.checked.prog).underlying t with | some (.int k) => some k | _ => none))) = true := by kernel_rfl
theorem fact29 : ((Rows.clientPiecesUptoRow.pinned == Rows.clientPiecesUptoRow.pinnedBy)) = true := by kernel_rfl
theorem fact30 : ((Rows.clientPiecesUptoRow.veiled == (Tryz.f10.params.toList ++ ((Rows.OpenSpec.upto Rows.clientPiecesSpec).bare).plain.varTypes (Tryz.pinned.checked.prog) ++ Tryz.f10.resultTypes.toList).any ((Tryz.pinned.checked.prog).veiledRec ·))) = true := by kernel_rfl
theorem fact31 : (Rows.clientPiecesUptoRow.veiledFits (Tryz.pinned.checked.prog) Tryz.f10.params.toList (Tryz.f10.params.toList ++ ((Rows.OpenSpec.upto Rows.clientPiecesSpec).bare).plain.varTypes (Tryz.pinned.checked.prog) ++ Tryz.f10.resultTypes.toList)) = true := by kernel_rfl
theorem both {a b : Bool} (ha : a = true) (hb : b = true) : (a && b) = true := by rw [ha, hb]; rfl
set_option maxRecDepth 100000 in
theorem closed : joinedFacts Tryz.pinned.checked.prog 10 Tryz.f10 (Rows.OpenSpec.upto Rows.clientPiecesSpec).bare Rows.clientPiecesUptoRow = true := by
  unfold joinedFacts
  refine both ?_ fact31
  refine both ?_ fact30
  refine both ?_ fact29
  refine both ?_ fact28
  refine both ?_ fact27
  refine both ?_ fact26
  refine both ?_ fact25
  refine both ?_ fact24
  refine both ?_ fact23
  refine both ?_ fact22
  refine both ?_ fact21
  refine both ?_ fact20
  refine both ?_ fact19
  refine both ?_ fact18
  refine both ?_ fact17
  refine both ?_ fact16
  refine both ?_ fact15
  refine both ?_ fact14
  refine both ?_ fact13
  refine both ?_ fact12
  refine both ?_ fact11
  refine both ?_ fact10
  refine both ?_ fact9
  refine both ?_ fact8
  refine both ?_ fact7
  refine both ?_ fact6
  refine both ?_ fact5
  refine both ?_ fact4
  refine both ?_ fact3
  refine both ?_ fact2
  refine both ?_ fact1
  exact fact0
theorem over : Rows.ClientPiecesUptoSaid :=
  OpenClaim.holds_of_cond 10 Tryz.f10 rfl rfl rfl rfl rfl rfl rfl ⟨rfl, rfl, rfl, rfl, rfl⟩ rfl rfl rfl rfl rfl (by kernel_rfl) Tryz.func10 closed
    (of_decide_eq_true (by kernel_rfl)) (by unfold Func.isWrapper; first | (rw [if_pos (by decide +kernel)]; kernel_rfl) | (rw [if_neg (by decide +kernel)]; exact ⟨rfl, rfl⟩))
    (fun os started H enc _ F => by rw [OpenClaim.pre_eq_preRow]; exact lifted os started H enc F)
theorem plain (f : FuncId) (fn : Func) (hf : Tryz.pinned.checked.prog.funcNamed "headrace/headracelaw23.ClientPieces" = some f) (hfn : Tryz.pinned.checked.prog.funcs[f]? = some fn) :
    true = Tryz.pinned.checked.prog.looks [] ∧ ∀ (j : Nat) t, fn.params[j]? = some t → Tryz.pinned.checked.prog.wantsStandIn t = false := by
  obtain rfl : f = 10 := Option.some.inj ((show Tryz.prog.funcNamed "headrace/headracelaw23.ClientPieces" = some 10 by kernel_rfl).symm.trans hf) |>.symm
  obtain rfl : fn = Tryz.f10 := (Option.some.inj (Tryz.func10.symm.trans hfn)).symm
  refine ⟨by kernel_rfl, fun j t ht => ?_⟩
  rw [Tryz.params10] at ht
  have hm := Array.mem_of_getElem? ht
  have h : t = 33 ∨ t = 75 := by simpa using hm
  rcases h with rfl | rfl
  · exact (show Tryz.prog.wantsStandIn 33 = false by kernel_rfl)
  · exact (show Tryz.prog.wantsStandIn 75 = false by kernel_rfl)
end Go.Proofs.YtccolnlfjbgnmaaGreatDoor.clientPieces
namespace Go.Proofs.YtccolnlfjbgnmaaGreatDoor
/-- ████ THE CARD ████ -/
theorem clientPieces_card : Rows.ClientPiecesUptoCardSaid :=
  Claim7.holds_tied_plain_at .later [] _ _ _ _ clientPieces.over (fun _ h => by cases h) (by kernel_rfl) (fun _ h => by cases h) clientPiecesUpto_row_tie rfl ⟨rfl, rfl⟩ (by kernel_rfl) rfl clientPieces.plain (by kernel_rfl)
#print axioms clientPieces_card
end Go.Proofs.YtccolnlfjbgnmaaGreatDoor
