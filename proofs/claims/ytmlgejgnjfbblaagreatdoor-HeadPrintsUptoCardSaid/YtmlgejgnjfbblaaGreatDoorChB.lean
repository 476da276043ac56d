/- Package chunked, by hand: what a byte of a size line does; own text of this session. -/
import Derived.Test.YtmlgejgnjfbblaaGreatDoorChA
import Derived.Test.YtmlgejgnjfbblaaGreatDoorPx2
import Derived.Test.YtmlgejgnjfbblaaGreatDoorPx4
import Derived.Test.YtmlgejgnjfbblaaGreatDoorShelf
import Derived.Deep.RegionLaw
namespace Go.Proofs.YtmlgejgnjfbblaaGreatDoor.Chk
open Go.RowKit Go.Proofs.YtmlgejgnjfbblaaGreatDoorW.PrintWords Go.Proofs.YtmlgejgnjfbblaaGreatDoorW.PrintLast
set_option linter.unusedVariables false
theorem cut_len (l : List UInt8) (b : UInt8) : (Lib.cut l [b]).1.length ≤ l.length ∧ (Lib.cut l [b]).2.1.length ≤ l.length := by
  unfold Lib.cut
  split <;> simp <;> omega
/-- strings.Cut. -/
theorem cut_calls (s : ByteArray) (b : UInt8) (w : World) (hs : s.size < 4294967281) (hG : GInv w) :
    Calls Tryz.prog 50 #[.string s, .string ⟨#[b]⟩] w fun e w' => e = .returned (.tuple #[.string (Px.mkB (Lib.cut s.data.toList [b]).1), .string (Px.mkB (Lib.cut s.data.toList [b]).2.1), .bool (Lib.cut s.data.toList [b]).2.2]) ∧ Below w.heap.size w w' := by
  obtain ⟨n, hn⟩ := hG.ml
  refine (Tryz.strings_Cut s ⟨#[b]⟩ n w hs hn).mono ?_
  rintro e w' ⟨rfl, k, rfl⟩
  exact ⟨rfl, pw_below_drewN (Below.refl _ _) k⟩
theorem value_calls (s : ByteArray) (r : Bool) (w : World) (hs : s.size ≤ 281474976710656) (h : Px.value s.data.toList = r) :
    Calls Tryz.prog 31 #[.string s] w fun e w' => e = .returned (.bool r) ∧ Below w.heap.size w w' := by
  obtain ⟨k, hk⟩ := (Px.ev_Value s (by omega)).rounds
  rw [h] at hk
  exact P.lexis_Value.calls k s r w hk
end Go.Proofs.YtmlgejgnjfbblaaGreatDoor.Chk
/- Package chunked, by hand: what a byte of a size line does (the walks); own text of this session. -/
namespace Go.Proofs.YtmlgejgnjfbblaaGreatDoor.Chk
open Go.RowKit Go.Proofs.YtmlgejgnjfbblaaGreatDoorW.PrintWords Go.Proofs.YtmlgejgnjfbblaaGreatDoorW.PrintLast
set_option linter.unusedVariables false
theorem stay_low {F : Nat → Prop} {w w1 w2 : World} (h : Stay F w w1) (hb : Below w1.heap.size w1 w2) : Stay F w w2 :=
  h.trans (Stay.below (F := fun _ => False) hb) (fun i hi => hi.elim)
end Go.Proofs.YtmlgejgnjfbblaaGreatDoor.Chk
/- Package fields, plainly: Check; and the contracts that a trailer's line asks; own text of this session. -/
namespace Go.Proofs.YtmlgejgnjfbblaaGreatDoor.Chk
open Go.RowKit Go.Proofs.YtmlgejgnjfbblaaGreatDoorW.PrintWords Go.Proofs.YtmlgejgnjfbblaaGreatDoorW.PrintLast Px
set_option linter.unusedVariables false
theorem rd_fld {l r : List Fld} {f : Fld} {i : Nat} (h : l.drop i = f :: r) : P.rd_T45 l (i : Int) = f := by
  have hi := Px.drop_lt h
  unfold P.rd_T45
  rw [Int.toNat_natCast, List.getD_eq_getElem?_getD, List.getElem?_eq_getElem hi]
  have := List.drop_eq_getElem_cons hi
  rw [h] at this
  injection this with h1 _
  rw [← h1]; rfl
theorem trim_calls (s : ByteArray) (w : World) (hs : s.size ≤ 4611686018427387904) :
    Calls Tryz.prog 47 #[.string s] w fun e w' => e = .returned (.string (Px.mkB (Hr.trim s.data.toList))) ∧ Below w.heap.size w w' := Lex.lexTrim_calls s w hs
theorem info_fld : (Tryz.prog.info? 45).map (fun i => (i.zero, i.size, i.bytes)) = some (some (.agg #[.string ⟨#[]⟩, .string ⟨#[]⟩]), 2, 32) := by kernel_rfl
end Go.Proofs.YtmlgejgnjfbblaaGreatDoor.Chk
/- Package chunked, by hand: what a byte of a trailer's line does (the walks); own text of this session. -/
namespace Go.Proofs.YtmlgejgnjfbblaaGreatDoor.Chk
open Go.RowKit Go.Proofs.YtmlgejgnjfbblaaGreatDoorW.PrintWords Go.Proofs.YtmlgejgnjfbblaaGreatDoorW.PrintLast
set_option linter.unusedVariables false
theorem trim_len (l : Hr.Bs) : (Hr.trim l).length ≤ l.length := by
  rw [Px.trim_eq]
  unfold Px.trimL Px.trimR
  refine Nat.le_trans (List.Sublist.length_le (List.dropWhile_sublist _)) ?_
  rw [List.length_reverse]
  refine Nat.le_trans (List.Sublist.length_le (List.dropWhile_sublist _)) ?_
  rw [List.length_reverse]
  exact Nat.le_refl _
end Go.Proofs.YtmlgejgnjfbblaaGreatDoor.Chk
