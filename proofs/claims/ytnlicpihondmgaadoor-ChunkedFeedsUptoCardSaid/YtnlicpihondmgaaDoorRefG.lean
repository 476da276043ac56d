/- Feed in pieces against the reference, plainly; Trailers of any decoder; own text of this session. -/
import Derived.Test.YtnlicpihondmgaaDoorRfA
import Derived.Test.YtnlicpihondmgaaDoorLBack
namespace Go.Proofs.YtnlicpihondmgaaDoor.Chk
open Go.RowKit Go.Proofs.YtnlicpihondmgaaDoorW.PrintWords Go.Proofs.YtnlicpihondmgaaDoorW.PrintLast
set_option linter.unusedVariables false
set_option linter.unusedSimpArgs false
theorem feed_join (d : Dec) (a b : List Int) (n : Nat) : feedGo d (a ++ b) n = feedGo (feedGo d a n).1 b (feedGo d a n).2 := by
  rw [feed_append]
  split
  · rename_i h
    rw [h]
  · rename_i h
    rcases (feed_len a d n).2.2 with h2 | h2
    · exact absurd h2 h
    · exact (feed_stop _ _ _ (.inr h2)).symm
theorem feed_cont (d : Dec) (a b : List Int) (r q : Dec × Nat) (hr : feedGo d a 0 = r) (hq : feedGo { r.1 with out := [] } b 0 = q) : feedGo d (a ++ b) 0 = (q.1.pre r.1.out, q.2 + r.2) := by
  rw [feed_join, hr]
  have e : r.1 = ({ r.1 with out := [] } : Dec).pre r.1.out := by
    obtain ⟨⟨a1, a2, a3, a4, a5, a6, a7, a8⟩, n⟩ := r
    simp [Dec.pre]
  have h2 := feed_shift b (({ r.1 with out := [] } : Dec).pre r.1.out) 0 r.2
  rw [Nat.zero_add] at h2
  rw [← e] at h2
  rw [h2]
  have h3 := feed_pre r.1.out b { r.1 with out := [] } 0
  rw [← e, hq] at h3
  rw [h3]
set_option maxHeartbeats 4000000 in
set_option maxRecDepth 100000 in
theorem trailers_no (w : World) (F : Nat → Prop) (p : Nat) (vl vo vt : Value) (d : Dec) (h : Rep w F p vl vo vt d) (hw : d.whole = false) :
    Calls Tryd.prog 23 #[.pointer (some ⟨p, 0, none⟩)] w (ClonePost [] w) := by
  have hz6 : w.cell? ⟨p, 6, none⟩ = some (.bool false) := by rw [← hw]; exact (blk_cell h.blk 6).trans rfl
  clear h hw
  go_enter Tryd.func23, Tryd.ntmps23
  go_wp2
  go_ret
  exact ⟨none, 0, rfl, Kd.C_nil _ _, Nat.le_refl _, Below.refl _ _⟩
theorem trailers_any (w : World) (F : Nat → Prop) (p : Nat) (vl vo vt : Value) (d : Dec) (h : Rep w F p vl vo vt d) (hl : d.tr.length ≤ 4294960000) :
    Calls Tryd.prog 23 #[.pointer (some ⟨p, 0, none⟩)] w (ClonePost (if d.whole = true then d.tr else []) w) := by
  cases hw : d.whole with
  | true => exact trailers_calls w F p vl vo vt d h hw hl
  | false => exact trailers_no w F p vl vo vt d h hw
end Go.Proofs.YtnlicpihondmgaaDoor.Chk
