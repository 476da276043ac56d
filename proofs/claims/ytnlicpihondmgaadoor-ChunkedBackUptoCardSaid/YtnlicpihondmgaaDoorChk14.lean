/- Package chunked, by hand: what Trailers comes to; own text of this session (NOT BUILT YET). -/
import Derived.Test.YtnlicpihondmgaaDoorChkH
import Derived.Lib.SliceRun
namespace Go.Proofs.YtnlicpihondmgaaDoor.Chk
open Go.RowKit Go.Proofs.YtnlicpihondmgaaDoorW.PrintWords Go.Proofs.YtnlicpihondmgaaDoorW.PrintLast
set_option linter.unusedVariables false
set_option linter.unusedSimpArgs false
def ClonePost (l : List Fld) (w : World) (e : Ending) (w' : World) : Prop :=
  ∃ (A1 : Option Addr) (c1 : Nat), e = .returned (.slice A1 l.length c1) ∧ Kd.C P.k49 w' A1 l.length l ∧ l.length ≤ c1 ∧ Below w.heap.size w w'
set_option maxHeartbeats 4000000 in
set_option maxRecDepth 100000 in
theorem clone_calls (l : List Fld) (A : Option Addr) (c : Nat) (w : World) (hr : Kd.C P.k49 w A l.length l) (hc : l.length ≤ c) (hl : l.length ≤ 4294960000) :
    Calls Tryd.prog 40 #[.slice A l.length c] w (ClonePost l w) := by
  cases A with
  | none =>
    have h0 : l = [] := by
      rcases l with _ | ⟨f, r⟩
      · rfl
      · obtain ⟨ad, h, _⟩ := hr.2.2 (by simp)
        cases h
    subst h0
    have hq : ∀ W, (binOp .eql 32 (.slice none 0 c) (.slice none 0 0)).run Tryd.prog W = .ok (.bool true) W := fun W => Go.Lib.run_eql_slice_nil W 32 49 none 0 c 0 0 Tryd.underlying32
    clear hr hl
    go_enter Tryd.func40, Tryd.ntmps40
    go_wp2
    go_ret
    exact ⟨none, 0, rfl, Kd.C_nil _ _, Nat.le_refl _, Below.refl _ _⟩
  | some ad =>
    have HR := Aside0.mk hr
    have HL := Aside0.mk hl
    obtain ⟨N, hN⟩ : ∃ N, N = l.length := ⟨_, rfl⟩
    have HN := Aside0.mk hN
    rw [← hN]
    have hOw : (w.alloc (.cells #[] 49)).ownsRow w.heap.size 49 2 (.slice (some ⟨w.heap.size, 0, none⟩) 0 0) 0 [] := by simpa using World.ownsRow_lit (base := w.heap.size) (e := 49) (size := 2) w #[] 0 (Nat.le_refl _) (by decide) (by rfl)
    have hO : fldK.R 49 (w.alloc (.cells #[] 49)) w.heap.size (fun _ => True) (.slice (some ⟨w.heap.size, 0, none⟩) 0 0) [] :=
      ⟨fun _ _ => trivial, [], hOw, Reps.none _ _⟩
    have HO := Aside0.mk hO
    have hq : ∀ W, (binOp .eql 32 (.slice (some ad) N c) (.slice none 0 0)).run Tryd.prog W = .ok (.bool false) W := fun W => Go.Lib.run_eql_slice_nil W 32 49 (some ad) N c 0 0 Tryd.underlying32
    clear hr hc hl hN hO hOw
    go_enter Tryd.func40, Tryd.ntmps40
    go_wp2_with (at_builtin; refine Kd.R_append_rows fldK (Rr := P.k49.K (w.alloc (.cells #[] 49))) (w0 := w.alloc (.cells #[] 49)) w.heap.size rfl (.tmp 5) (.tmp 6) 32 49 (.agg #[.string ⟨#[]⟩, .string ⟨#[]⟩]) 32 rfl Tryd.underlying32 info_fld rfl (by decide) (by omega) _ [] l (some ad) N c (fun _ => True) (fun _ => False) rfl rfl HO.out (by rw [HN.out]; exact Kd.C_alloc HR.out _) (fun x cs hx => by rw [P.k49_open hx]; exact P.k49_mkM _ _ _ x) (fun _ h => h.elim) (fun _ _ => trivial) (Below.refl _ _) (below_size (below_alloc (Below.refl _ _) _)) (by have := HL.out; have := HN.out; simp only [List.length_nil]; omega) ?_; intro v1 w1 hR hb hg hat; have HR1 := Aside0.mk hR; have HB1 := Aside0.mk ((below_alloc (Below.refl w.heap.size w) (.cells #[] 49)).trans hb); clear hR hb hg hat)
    go_ret
    obtain ⟨A1, c1, e1, h1, h2⟩ := Kd.R_reads HR1.out
    rw [List.nil_append] at e1 h1 h2
    subst e1
    exact ⟨A1, c1, rfl, h2, h1, HB1.out⟩
set_option maxHeartbeats 4000000 in
set_option maxRecDepth 100000 in
theorem trailers_calls (w : World) (F : Nat → Prop) (p : Nat) (vl vo vt : Value) (d : Dec) (h : Rep w F p vl vo vt d) (hw : d.whole = true) (hl : d.tr.length ≤ 4294960000) :
    Calls Tryd.prog 23 #[.pointer (some ⟨p, 0, none⟩)] w (ClonePost d.tr w) := by
  obtain ⟨A, c, hv, hcap, hC⟩ := Kd.R_reads h.tr
  subst hv
  have hz5 : w.cell? ⟨p, 5, none⟩ = some (.slice A d.tr.length c) := (blk_cell h.blk 5).trans rfl
  have hz6 : w.cell? ⟨p, 6, none⟩ = some (.bool true) := by rw [← hw]; exact (blk_cell h.blk 6).trans rfl
  have HK := Aside0.mk (clone_calls d.tr A c w hC hcap hl)
  clear h hw hl hC hcap
  go_enter Tryd.func23, Tryd.ntmps23
  go_wp2_with fail
  refine HK.out.mono ?_
  rintro e w1 ⟨A1, c1, rfl, h1, h2, h3⟩
  have H1 := Aside0.mk h1
  have H2 := Aside0.mk h2
  have H3 := Aside0.mk h3
  clear h1 h2 h3
  go_wp2
  go_ret
  exact ⟨A1, c1, rfl, H1.out, H2.out, H3.out⟩
end Go.Proofs.YtnlicpihondmgaaDoor.Chk
