/- Package lexis, by hand: Trim, and what List's closure does; own text of this session. -/
import Derived.Test.YtmfhhhokacjgeaaDoorLex3
import Derived.Shelf.Strings.SlTrimAscii
namespace Go.Proofs.YtmfhhhokacjgeaaDoor.Lex
open Go.RowKit Go.Proofs.YtmfhhhokacjgeaaDoorW.PrintWords Go.Proofs.Hr Go.Shelf Go.Lib
set_option linter.unusedVariables false
theorem trim_calls (a0 : ByteArray) (w : World) (hs : a0.size ≤ 4611686018427387904) :
    Calls Tryd.prog 90 #[.string a0, .string ⟨#[32, 9]⟩] w fun e w' => e = .returned (.string ⟨(trim a0.data.toList).toArray⟩) ∧ Below w.heap.size w w' :=
  Any.strings_Trim_laid Tryd.lays160 (by kernel_rfl) a0 ⟨#[32, 9]⟩ w (by omega) (by decide) (ascii_of_all (by decide))
theorem lexTrim_calls (a0 : ByteArray) (w : World) (hs : a0.size ≤ 4611686018427387904) :
    Calls Tryd.prog 78 #[.string a0] w fun e w' => e = .returned (.string ⟨(trim a0.data.toList).toArray⟩) ∧ Below w.heap.size w w' := by
  have H := Lib.hid (trim_calls a0 w hs)
  generalize hr : (⟨(trim a0.data.toList).toArray⟩ : ByteArray) = r at H ⊢
  clear hr
  go_enter Tryd.func78, Tryd.ntmps78
  go_wp2_with (go_at_call 90; refine H.out.mono ?_; rintro e w' ⟨rfl, hB⟩)
  go_ret
  exact ⟨rfl, hB⟩
structure LInv (B : Nat) (a0 : ByteArray) (fr : Int) (v : Value) (xs : List ByteArray) (w : World) : Prop where
  s : w.heap[B]? = some (.cells #[.string a0] 9 (0, 0))
  o : w.heap[B + 1]? = some (.cells #[v] 83 (0, 0))
  f : w.heap[B + 2]? = some (.cells #[.int .i64 fr] 3 (0, 0))
  r : Kd.string.R 9 w (B + 3) (fun k => B + 3 ≤ k) v xs
theorem cell_one {w : World} {b : Nat} {v : Value} {t : TypeId} (h : w.heap[b]? = some (.cells #[v] t (0, 0))) : w.cell? ⟨b, 0, none⟩ = some v := by
  unfold World.cell?; simp [h]
theorem free_one {w : World} {b : Nat} {v : Value} {t : TypeId} (h : w.heap[b]? = some (.cells #[v] t (0, 0))) : w.frozen? ⟨b, 0, none⟩ = false := by
  unfold World.frozen?; simp [h]
theorem lt_blk {w : World} {b : Nat} {o : Obj} (h : w.heap[b]? = some o) : b < w.heap.size := (Array.getElem?_eq_some_iff.1 h).1
theorem LInv.below {B : Nat} {a0 : ByteArray} {fr : Int} {v : Value} {xs : List ByteArray} {w w' : World} (h : LInv B a0 fr v xs w) (hb : Below w.heap.size w w') : LInv B a0 fr v xs w' :=
  ⟨(hb.block _ (lt_blk h.s)).trans h.s, (hb.block _ (lt_blk h.o)).trans h.o, (hb.block _ (lt_blk h.f)).trans h.f, Kd.R_below h.r hb⟩
theorem info_str : (Tryd.prog.info? 9).map (fun i => (i.zero, i.size, i.bytes)) = some (some (.string ⟨#[]⟩), 1, 16) := by kernel_rfl
theorem set_one {w : World} {b : Nat} {u v : Value} {t : TypeId} (h : w.heap[b]? = some (.cells #[u] t (0, 0))) : (w.setCell ⟨b, 0, none⟩ v).heap[b]? = some (.cells #[v] t (0, 0)) := by
  rw [setCell_block h]; rfl
theorem set_other {w : World} {b c : Nat} {v : Value} {k : Nat} (h : c ≠ b) : (w.setCell ⟨b, k, none⟩ v).heap[c]? = w.heap[c]? := by
  unfold World.setCell
  simp only [Array.getElem?_modify]
  rw [if_neg (fun e => h e.symm)]
theorem LInv.setF {B : Nat} {a0 : ByteArray} {fr fr' : Int} {v : Value} {xs : List ByteArray} {w : World} (h : LInv B a0 fr v xs w) : LInv B a0 fr' v xs (w.setCell ⟨B + 2, 0, none⟩ (.int .i64 fr')) :=
  ⟨(set_other (by omega)).trans h.s, (set_other (by omega)).trans h.o, set_one h.f, Kd.R_step h.r (fun k hk _ => set_other (by omega))⟩
def PutPost (B : Nat) (a0 : ByteArray) (t1 : Int) (ys : List ByteArray) (w : World) (e : Ending) (w' : World) : Prop :=
  e = .returned (.tuple #[]) ∧ (∃ v', LInv B a0 (t1 + 1) v' ys w') ∧ Below B w w'
set_option maxRecDepth 100000 in
set_option maxHeartbeats 2000000 in
theorem put_calls (B : Nat) (a0 : ByteArray) (fr t1 : Int) (v : Value) (xs : List ByteArray) (w : World) (h : LInv B a0 fr v xs w) (h0 : 0 ≤ fr) (h1 : fr ≤ t1) (h2 : t1 ≤ a0.size) (hs : a0.size ≤ 4398046511104) (hx : xs.length ≤ 4398046511104) :
    Calls Tryd.prog 85 #[.int .i64 t1, .pointer (some ⟨B, 0, none⟩), .pointer (some ⟨B + 2, 0, none⟩), .pointer (some ⟨B + 1, 0, none⟩)] w fun e w' => e = .returned (.tuple #[]) ∧
      (∃ v', LInv B a0 (t1 + 1) v' (let t := trim (a0.extract fr.toNat t1.toNat).data.toList; if t = [] then xs else xs ++ [⟨t.toArray⟩]) w') ∧ Below B w w' := by
  generalize hys : (let t := trim (a0.extract fr.toNat t1.toNat).data.toList; if t = [] then xs else xs ++ [(⟨t.toArray⟩ : ByteArray)]) = ys
  have HY := Aside0.mk hys
  clear hys
  show Calls _ _ _ _ (PutPost B a0 t1 ys w)
  have HI := Aside0.mk h
  have hcS := cell_one h.s
  have hcO := cell_one h.o
  have hcF := cell_one h.f
  clear h
  go_enter Tryd.func85, Tryd.ntmps85
  go_wp2_with fail
  refine (lexTrim_calls _ w (by rw [ByteArray.size_extract]; omega)).mono ?_
  rintro e w1 ⟨rfl, hb⟩
  replace HY := HY.out
  generalize ht : trim (a0.extract fr.toNat t1.toNat).data.toList = t at HY ⊢
  clear ht
  replace HY := Aside0.mk HY
  have HI1 := Aside0.mk (HI.out.below hb)
  have HB := Aside0.mk hb
  have hlt := lt_blk HI.out.f
  clear hb hcS hcO hcF
  have HLT := Aside0.mk hlt
  have HSZ := Aside0.mk HB.out.size
  clear hlt
  by_cases hz : t = []
  · have hemp : t.isEmpty = true := by rw [hz]; rfl
    have hcF := cell_one HI1.out.f
    have hfF := free_one HI1.out.f
    have hys : xs = ys := by rw [← HY.out, hz]; rfl
    clear hz
    have HYS := Aside0.mk hys
    clear hys
    go_wp2
    refine bodyPost_end (results_none rfl _ _ _) rfl ⟨rfl, ⟨v, HYS.out ▸ HI1.out.setF⟩, (HB.out.mono (by have := HLT.out; omega)).setCell (show B ≤ B + 2 by omega) _⟩
  · have hemp : t.isEmpty = false := by cases t with | nil => exact absurd rfl hz | cons => rfl
    have hcO := cell_one HI1.out.o
    have hys : xs ++ [⟨t.toArray⟩] = ys := by rw [← HY.out]; simp only [hz, if_false]
    clear hz
    have HYS := Aside0.mk hys
    clear hys
    go_wp2_with (at_builtin; refine Kd.R_append Kd.string (w0 := w1) (B + 3) rfl (.tmp 13) (.tmp 15) 83 9 (.string ⟨#[]⟩) 16 rfl Tryd.underlying83 info_str rfl (by decide) (by omega) v xs ⟨t.toArray⟩ [.string ⟨t.toArray⟩] (fun k => B + 3 ≤ k) (fun _ => False) rfl rfl ?aP (fun _ hk => hk.elim) ?aF ?aO ?aB ?aS ?aL ?_)
    case aP => rfl
    case aF => intro k hk; have := HLT.out; have := HSZ.out; omega
    case aO => exact HI1.out.r
    case aB => exact Below.refl _ _
    case aS => have := HLT.out; have := HSZ.out; omega
    case aL => omega
    intro v1 w2 hR hb2 hg hat
    have hl3 : B + 2 < w1.heap.size := by have := HLT.out; have := HSZ.out; omega
    have hne : ∀ k, k < B + 3 → some k ≠ v.ownBlock := by
      intro k hk e
      have := Kd.R_base HI1.out.r k e.symm
      omega
    have hO2 : w2.heap[B + 1]? = some (.cells #[v] 83 (0, 0)) := (hg.block _ (by omega) (hne _ (by omega))).trans HI1.out.o
    have hF2 : w2.heap[B + 2]? = some (.cells #[.int .i64 fr] 3 (0, 0)) := (hg.block _ (by omega) (hne _ (by omega))).trans HI1.out.f
    have hS2 : w2.heap[B]? = some (.cells #[.string a0] 9 (0, 0)) := (hg.block _ (by omega) (hne _ (by omega))).trans HI1.out.s
    have hcO2 := cell_one hO2
    have hfO2 := free_one hO2
    obtain ⟨A1, c1, e1⟩ := Kd.R_slice hR
    rw [show (xs ++ [(⟨t.toArray⟩ : ByteArray)]).length = xs.length + 1 from by simp] at e1
    subst e1
    have hcF3 := cell_one ((set_other (w := w2) (b := B + 1) (k := 0) (v := .slice A1 (xs.length + 1) c1) (c := B + 2) (by omega)).trans hF2)
    have hfF3 := free_one ((set_other (w := w2) (b := B + 1) (k := 0) (v := .slice A1 (xs.length + 1) c1) (c := B + 2) (by omega)).trans hF2)
    have HR := Aside0.mk hR
    have HB2 := Aside0.mk hb2
    have HO2 := Aside0.mk hO2
    have HF2 := Aside0.mk hF2
    have HS2 := Aside0.mk hS2
    clear hR hb2 hg hat hne hO2 hF2 hS2 hl3 hcO
    go_wp2
    refine bodyPost_end (results_none rfl _ _ _) rfl ⟨rfl, ⟨.slice A1 (xs.length + 1) c1, ?_⟩, ?_⟩
    · rw [← HYS.out]
      exact LInv.setF (fr := fr) ⟨(set_other (by omega)).trans HS2.out, set_one HO2.out, (set_other (by omega)).trans HF2.out, Kd.R_step HR.out (fun k hk _ => set_other (by omega))⟩
    · have hB : B ≤ w.heap.size := by have := HLT.out; omega
      have h5 : Below B w w2 := (HB.out.mono hB).trans (HB2.out.mono (by omega))
      exact (h5.setCell (show B ≤ B + 1 by omega) _).setCell (show B ≤ B + 2 by omega) _
end Go.Proofs.YtmfhhhokacjgeaaDoor.Lex
