/- UpstreamNil: THE STATEMENT Rows.UpstreamNilCardSaid. What is proved: for every input that the row lets in the law returns true and its arguments read as before; under what the row lists of the library's variables, which the card ties to the program's text. Laid by programs of this session (hp.py, rows.py); the walk and the plain law are in the texts that it imports. -/
import Derived.Test.YtccolnlfjbgnmaaGreatDoorLUNil
import Derived.Test.YtccolnlfjbgnmaaGreatDoorLaid
import Derived.Test.YtccolnlfjbgnmaaGreatDoorSlOpen
namespace Go.Proofs.YtccolnlfjbgnmaaGreatDoor.upstreamNil
open Go.ChangeShapes Go.WideShapes Go.ChangeAt Go.RowKit
open Go.ChangeMaps (open_string shut_string)
set_option linter.unusedVariables false
set_option linter.unusedSimpArgs false
theorem reads (os : Os) {H : Type} (enc : TypeId × Value → H) : ∃ places, DataW.whole enc Tryz.prog ((Laid.laidWorld os).forCall (fun _ _ => 0) ⟨#[], #[.slice none 0 0], []⟩).memory Tryz.f14.params.toList Rows.upstreamNilSpec.vars false (#[.slice none 0 0] : Array Value).toList 8 = some ([.nil], [], places) :=
  ⟨[], by kernel_rfl⟩
set_option maxRecDepth 100000 in
theorem lifted (os : Os) (started : os.Started) (H : Type) (enc : TypeId × Value → H) (F : Stop.Interp) :
    ReturnsInHanded {} Tryz.checked os 14 .any ((OpenSpec.ofChange Rows.upstreamNilSpec).preRow enc Tryz.prog Tryz.f14 Rows.upstreamNilRow.domain false Rows.upstreamNilRow.laid) (((OpenSpec.ofChange Rows.upstreamNilSpec).at F).post enc Tryz.prog Tryz.f14 false true false false) := by
  obtain ⟨places, hx⟩ := reads os enc
  refine returnsInHanded_of_row (C := Tryz.checked) (s := (OpenSpec.ofChange Rows.upstreamNilSpec)) Laid.own started (by kernel_rfl) Tryz.func14
    (witness_row_at (enc := enc) (C := Tryz.checked) false (Laid.laidWorld os) #[.slice none 0 0] rfl (by kernel_rfl) (by kernel_rfl) (by kernel_rfl)
      (OpenSpec.preRow_of_cond 8 hx (by kernel_rfl) (fun k hk => by cases hk) (by kernel_rfl) (Laid.laid_met os #[.slice none 0 0]))) ?_
  intro W base args ds gs before hval0 hW hcnd hk0 hsz0 hL hShO _
  have hG : GInv W := Laid.ginv hL hShO
  have hsz : (DataW.weightsEach Tryz.prog (Tryz.f14.params.toList ++ Rows.upstreamNilSpec.plain.varTypes Tryz.prog) (ds ++ gs)).all (· ≤ reachBytes) = true := hsz0
  have hval : ∀ (j : Nat) t v, Tryz.f14.params[j]? = some t → args[j]? = some v → Value.okWide Tryz.prog W .any base t v := hval0
  have hW' := hW
  obtain ⟨p, q, hA0, hV, rfl, hfz, hnd⟩ := hW
  have hA : DataW.TrodAll enc Tryz.prog W 0 (fun _ => true) true Tryz.f14.params.toList args.toList ds p := hA0
  rw [Tryz.params14] at hA hval hsz
  obtain ⟨v0, vs0, d0, ds0, p0, q0, hargs, rfl, rfl, h0, r0⟩ := trodAll_cons hA
  obtain ⟨rfl, rfl, rfl⟩ := trodAll_nil r0
  obtain rfl : args = #[v0] := by cases args; simp_all
  obtain ⟨rfl, rfl⟩ := trodVars_none hV
  have k0 := h0
  have lt0 : ∀ x ∈ p0, x.block < W.heap.size := by obtain ⟨m, hm⟩ := k0; exact DataW.trod_lt m _ _ _ hm
  obtain ⟨A0, l0, c0, rfl, hc0, hC0, hb0, hw0⟩ := SlOpen.open_bytes (hval 0 33 v0 rfl rfl) h0
  clear hA0 hval0 hsz0 hsz
  obtain ⟨k, hk⟩ := Px.pure_UpstreamNil l0 hw0
  refine (P.headracelaw24_UpstreamNil.calls k A0 c0 l0 true W hC0 hc0 hk hG).mono fun e W' ⟨he, bel⟩ => ?_
  subst he
  exact ⟨_, rfl, _, _, _, [], _, [], hW', trodAll_mk1 (shut_bool Tryz.underlying4 _), (trodAll_cons_mk (Below.trod Laid.laidOut (by kernel_rfl) (of_decide_eq_true (by kernel_rfl)) k0 bel lt0) trodAll_mk0), rfl, bel.frame _, fun h => by cases h⟩
theorem fact0 : (Rows.upstreamNilRow.wf (OpenSpec.ofChange ((OpenSpec.ofChange Rows.upstreamNilSpec).bare))) = true := by kernel_rfl
theorem fact1 : (laidOutB (Tryz.pinned.checked.prog)) = true := by kernel_rfl
theorem fact2 : (mapsRowed (Tryz.pinned.checked.prog)) = true := by kernel_rfl
theorem fact3 : (Tryz.f14.params.all ((Tryz.pinned.checked.prog).readableRec ·)) = true := by kernel_rfl
theorem fact4 : (namedTie (Tryz.pinned.checked.prog) Rows.upstreamNilRow.named ((OpenSpec.ofChange Rows.upstreamNilSpec).bare).vars) = true := by kernel_rfl
theorem fact5 : ((Rows.upstreamNilRow.stops == [])) = true := by kernel_rfl
theorem fact6 : (((Tryz.pinned.checked.prog).stops == [])) = true := by kernel_rfl
theorem fact7 : ((Rows.upstreamNilRow.knobs == [])) = true := by kernel_rfl
theorem fact8 : (((Tryz.pinned.checked.prog).stopKnobs == [])) = true := by kernel_rfl
theorem fact9 : ((Rows.upstreamNilRow.inPlace == (Tryz.pinned.checked.prog).inPlace 14)) = true := by kernel_rfl
theorem fact10 : ((Rows.upstreamNilRow.unfollowed == (Tryz.pinned.checked.prog).unfollowed 14)) = true := by kernel_rfl
theorem fact11 : ((Rows.upstreamNilRow.recurses == (Tryz.pinned.checked.prog).recurses 14)) = true := by kernel_rfl
theorem fact12 : ((Rows.upstreamNilRow.named == (Tryz.pinned.checked.prog).varsNamed 14)) = true := by kernel_rfl
theorem fact13 : ((Rows.upstreamNilRow.maps == (Tryz.f14.params.toList ++ ((OpenSpec.ofChange Rows.upstreamNilSpec).bare).plain.varTypes (Tryz.pinned.checked.prog)).any ((Tryz.pinned.checked.prog).mapsRec ·))) = true := by kernel_rfl
theorem fact14 : ((Rows.upstreamNilRow.ifaces == (Tryz.f14.params.toList ++ ((OpenSpec.ofChange Rows.upstreamNilSpec).bare).plain.varTypes (Tryz.pinned.checked.prog)).any ((Tryz.pinned.checked.prog).ifacesRec ·))) = true := by kernel_rfl
theorem fact15 : ((Rows.upstreamNilRow.mapsOut == (Tryz.pinned.checked.prog).mapsAmong Tryz.f14.resultTypes.toList)) = true := by kernel_rfl
theorem fact16 : ((Rows.upstreamNilRow.loops == (Tryz.f14.params.toList ++ ((OpenSpec.ofChange Rows.upstreamNilSpec).bare).plain.varTypes (Tryz.pinned.checked.prog)).any ((Tryz.pinned.checked.prog).loopsFrom ·))) = true := by kernel_rfl
theorem fact17 : ((Rows.upstreamNilRow.wideKeys == (Tryz.f14.params.toList ++ ((OpenSpec.ofChange Rows.upstreamNilSpec).bare).plain.varTypes (Tryz.pinned.checked.prog) ++ Tryz.f14.resultTypes.toList).any ((Tryz.pinned.checked.prog).wideKeysFrom ·))) = true := by kernel_rfl
theorem fact18 : (((OpenSpec.ofChange Rows.upstreamNilSpec).bare).vars.all ((Tryz.pinned.checked.prog).varReadable ·)) = true := by kernel_rfl
theorem fact19 : (Tryz.f14.resultTypes.all (fun t => (Tryz.pinned.checked.prog).readableRec t && decide (t < (Tryz.pinned.checked.prog).types.size))) = true := by kernel_rfl
theorem fact20 : ((Rows.upstreamNilRow.ifacesOut == Tryz.f14.resultTypes.toList.any ((Tryz.pinned.checked.prog).ifacesRec ·))) = true := by kernel_rfl
theorem fact21 : ((Rows.upstreamNilRow.loopsOut == Tryz.f14.resultTypes.toList.any ((Tryz.pinned.checked.prog).loopsFrom ·))) = true := by kernel_rfl
theorem fact22 : ((Rows.upstreamNilRow.plainKeys == (Tryz.pinned.checked.prog).plainKeys)) = true := by kernel_rfl
theorem fact23 : (Rows.upstreamNilRow.shortTexts.isNone) = true := by kernel_rfl
theorem fact24 : ((Tryz.pinned.checked.prog).stopsHeard) = true := by kernel_rfl
theorem fact25 : ((Tryz.pinned.checked.prog).mayEnter) = true := by kernel_rfl
theorem fact26 : ((Rows.upstreamNilRow.lifted == (Tryz.pinned.checked.prog).liftsFinal)) = true := by kernel_rfl
theorem fact27 : (((Tryz.pinned.checked.prog).make == some Rows.upstreamNilRow.make)) = true := by kernel_rfl
theorem fact28 : ((Rows.upstreamNilRow.kinds == (if Rows.upstreamNilRow.domain.isEmpty then [] else Tryz.f14.params.toList.map fun t => match (Tryz.pinned.checked.prog).underlying t with | some (.int k) => some k | _ => none))) = true := by kernel_rfl
theorem fact29 : ((Rows.upstreamNilRow.pinned == Rows.upstreamNilRow.pinnedBy)) = true := by kernel_rfl
theorem fact30 : ((Rows.upstreamNilRow.veiled == (Tryz.f14.params.toList ++ ((OpenSpec.ofChange Rows.upstreamNilSpec).bare).plain.varTypes (Tryz.pinned.checked.prog) ++ Tryz.f14.resultTypes.toList).any ((Tryz.pinned.checked.prog).veiledRec ·))) = true := by kernel_rfl
theorem fact31 : (Rows.upstreamNilRow.veiledFits (Tryz.pinned.checked.prog) Tryz.f14.params.toList (Tryz.f14.params.toList ++ ((OpenSpec.ofChange Rows.upstreamNilSpec).bare).plain.varTypes (Tryz.pinned.checked.prog) ++ Tryz.f14.resultTypes.toList)) = true := by kernel_rfl
theorem both {a b : Bool} (ha : a = true) (hb : b = true) : (a && b) = true := by rw [ha, hb]; rfl
set_option maxRecDepth 100000 in
theorem closed : joinedFacts Tryz.pinned.checked.prog 14 Tryz.f14 (OpenSpec.ofChange Rows.upstreamNilSpec).bare Rows.upstreamNilRow = true := by
  unfold joinedFacts
  refine both ?_ fact31
  refine both ?_ fact30
  refine both ?_ fact29
  refine both ?_ fact28
  refine both ?_ fact27
  refine both ?_ fact26
  refine both ?_ fact25
  refine both ?_ fact24
  refine both ?_ fact23
  refine both ?_ fact22
  refine both ?_ fact21
  refine both ?_ fact20
  refine both ?_ fact19
  refine both ?_ fact18
  refine both ?_ fact17
  refine both ?_ fact16
  refine both ?_ fact15
  refine both ?_ fact14
  refine both ?_ fact13
  refine both ?_ fact12
  refine both ?_ fact11
  refine both ?_ fact10
  refine both ?_ fact9
  refine both ?_ fact8
  refine both ?_ fact7
  refine both ?_ fact6
  refine both ?_ fact5
  refine both ?_ fact4
  refine both ?_ fact3
  refine both ?_ fact2
  refine both ?_ fact1
  exact fact0
theorem over : Rows.UpstreamNilSaid :=
  OpenClaim.holds_of_cond 14 Tryz.f14 rfl rfl rfl rfl rfl rfl rfl ⟨rfl, rfl, rfl, rfl, rfl⟩ rfl rfl rfl rfl rfl (by kernel_rfl) Tryz.func14 closed
    (of_decide_eq_true (by kernel_rfl)) (by unfold Func.isWrapper; first | (rw [if_pos (by decide +kernel)]; kernel_rfl) | (rw [if_neg (by decide +kernel)]; exact ⟨rfl, rfl⟩))
    (fun os started H enc _ F => by rw [OpenClaim.pre_eq_preRow]; exact lifted os started H enc F)
theorem plain (f : FuncId) (fn : Func) (hf : Tryz.pinned.checked.prog.funcNamed "headrace/headracelaw24.UpstreamNil" = some f) (hfn : Tryz.pinned.checked.prog.funcs[f]? = some fn) :
    true = Tryz.pinned.checked.prog.looks [] ∧ ∀ (j : Nat) t, fn.params[j]? = some t → Tryz.pinned.checked.prog.wantsStandIn t = false := by
  obtain rfl : f = 14 := Option.some.inj ((show Tryz.prog.funcNamed "headrace/headracelaw24.UpstreamNil" = some 14 by kernel_rfl).symm.trans hf) |>.symm
  obtain rfl : fn = Tryz.f14 := (Option.some.inj (Tryz.func14.symm.trans hfn)).symm
  refine ⟨by kernel_rfl, fun j t ht => ?_⟩
  rw [Tryz.params14] at ht
  have hm := Array.mem_of_getElem? ht
  have h : t = 33 := by simpa using hm
  rcases h with rfl
  · exact (show Tryz.prog.wantsStandIn 33 = false by kernel_rfl)
end Go.Proofs.YtccolnlfjbgnmaaGreatDoor.upstreamNil
namespace Go.Proofs.YtccolnlfjbgnmaaGreatDoor
/-- ████ THE CARD ████ -/
theorem upstreamNil_card : Rows.UpstreamNilCardSaid :=
  Claim7.holds_tied_plain_at .later [] _ _ _ _ upstreamNil.over (fun _ h => by cases h) (by kernel_rfl) (fun _ h => by cases h) upstreamNil_row_tie rfl ⟨rfl, rfl⟩ (by kernel_rfl) rfl upstreamNil.plain (by kernel_rfl)
#print axioms upstreamNil_card
end Go.Proofs.YtccolnlfjbgnmaaGreatDoor
