/- Package world's laws, by hand: a world and two rows beside it; own text of this session. -/
import Derived.Test.YtlbedgiebcpncaaVld9
namespace Go.Proofs.Ytlbedgiebcpncaa.Wld
open Go.RowKit Go.Proofs.YtlbedgiebcpncaaW.PrintWords Go.Proofs.YtlbedgiebcpncaaW.PrintLast Go.Maps
set_option linter.unusedVariables false
set_option linter.unusedSimpArgs false
section
variable {w0 w w1 w' : World} {p bm q : Nat} {vw vs vd : Value} {c : Int} {en : Bool} {ws ss : List Int} {room : Int} {ds : List Int}
theorem St.move (h : St w p bm q vw vs vd c en ws ss room ds) (hm : ∀ k, Ft p bm q vw vs vd k → w'.heap[k]? = w.heap[k]?) : St w' p bm q vw vs vd c en ws ss room ds := by
  refine ⟨(hm p (.inl rfl)).trans h.blkP, ?_, (hm q (.inr (.inr (.inl rfl)))).trans h.blkQ, h.rw.keep (fun i hi _ => hm i (.inr (.inr (.inr (.inl hi))))), h.rs.keep (fun i hi _ => hm i (.inr (.inr (.inr (.inr (.inl hi)))))), h.rd.keep (fun i hi _ => hm i (.inr (.inr (.inr (.inr (.inr hi)))))), h.apart⟩
  obtain ⟨es, clock, hb, r⟩ := h.own
  exact ⟨es, clock, (hm bm (.inr (.inl rfl))).trans hb, r⟩
/-- A world, and two rows of the law's own. -/
structure Law (w0 w : World) (p bm q : Nat) (vw vs vd : Value) (c : Int) (en : Bool) (ws ss : List Int) (room : Int) (ds : List Int) (v6 v7 : Value) (cm rd : List Int) : Prop where
  s : Sit w0 w p bm q vw vs vd c en ws ss room ds
  e6 : Ext (Ft p bm q vw vs vd) w v6 cm
  e7 : Ext (Ft p bm q vw vs vd) w v7 rd
  ap : ∀ i, v6.ownBlock = some i → v7.ownBlock = some i → False
  b6 : ∀ i, v6.ownBlock = some i → w0.heap.size ≤ i
  b7 : ∀ i, v7.ownBlock = some i → w0.heap.size ≤ i
variable {v6 v7 : Value} {cm rd : List Int}
theorem Law.new (h : Sit w0 w p bm q vw vs vd c en ws ss room ds) : Law w0 w p bm q vw vs vd c en ws ss room ds (.slice none 0 0) (.slice none 0 0) [] [] :=
  ⟨h, ⟨Row.nil _ _ _, fun i hi => by simp [Value.ownBlock] at hi⟩, ⟨Row.nil _ _ _, fun i hi => by simp [Value.ownBlock] at hi⟩, fun i hi => by simp [Value.ownBlock] at hi, fun i hi => by simp [Value.ownBlock] at hi, fun i hi => by simp [Value.ownBlock] at hi⟩
theorem Law.op {vw' vs' vd' : Value} {en' : Bool} {ws' ss' : List Int} {room' : Int} {ds' : List Int} (h : Law w0 w p bm q vw vs vd c en ws ss room ds v6 v7 cm rd) (hst : St w' p bm q vw' vs' vd' c en' ws' ss' room' ds')
    (hf : ∀ k, Ft p bm q vw' vs' vd' k → Ft p bm q vw vs vd k ∨ w.heap.size ≤ k) (hs : Stay (Ft p bm q vw vs vd) w w') : Law w0 w' p bm q vw' vs' vd' c en' ws' ss' room' ds' v6 v7 cm rd :=
  ⟨h.s.go hst hf hs, h.e6.go hf hs, h.e7.go hf hs, h.ap, h.b6, h.b7⟩
theorem Law.low (h : Law w0 w p bm q vw vs vd c en ws ss room ds v6 v7 cm rd) (hb : Below w.heap.size w w') : Law w0 w' p bm q vw vs vd c en ws ss room ds v6 v7 cm rd := ⟨h.s.low hb, h.e6.low hb, h.e7.low hb, h.ap, h.b6, h.b7⟩
theorem Law.add6 {v6' : Value} {cm' : List Int} (h : Law w0 w p bm q vw vs vd c en ws ss room ds v6 v7 cm rd) (hg : w.grownBy w1 v6.ownBlock) (hat : v6'.ownBlock = v6.ownBlock ∨ ∃ i, v6'.ownBlock = some i ∧ w.heap.size ≤ i) (hR : Row .u8 5 w1 v6' cm') :
    Law w0 w1 p bm q vw vs vd c en ws ss room ds v6' v7 cm' rd := by
  have ht := at_to hat
  have hst : St w1 p bm q vw vs vd c en ws ss room ds := h.s.st.move (fun k hk => hg.block k (h.s.st.lt k hk) (fun e => h.e6.2 k e.symm hk))
  refine ⟨⟨hst, h.s.base, h.s.below.grown hg h.s.below.size h.b6⟩, ⟨hR, fun i hi => ?_⟩, ⟨h.e7.1.keep (fun i hi hl => hg.block i hl (fun e => h.ap i e.symm hi)), h.e7.2⟩, fun i hi h7 => ?_, fun i hi => ?_, h.b7⟩
  · rcases ht i hi with h2 | h2
    · exact h.e6.2 i h2
    · exact fun hf => by have := h.s.st.lt i hf; omega
  · rcases ht i hi with h2 | h2
    · exact h.ap i h2 h7
    · have := h.e7.1.lt i h7; omega
  · rcases ht i hi with h2 | h2
    · exact h.b6 i h2
    · exact Nat.le_trans h.s.below.size h2
theorem Law.swap (h : Law w0 w p bm q vw vs vd c en ws ss room ds v6 v7 cm rd) : Law w0 w p bm q vw vs vd c en ws ss room ds v7 v6 rd cm := ⟨h.s, h.e7, h.e6, fun i h1 h2 => h.ap i h2 h1, h.b7, h.b6⟩
theorem Law.add7 {v7' : Value} {rd' : List Int} (h : Law w0 w p bm q vw vs vd c en ws ss room ds v6 v7 cm rd) (hg : w.grownBy w1 v7.ownBlock) (hat : v7'.ownBlock = v7.ownBlock ∨ ∃ i, v7'.ownBlock = some i ∧ w.heap.size ≤ i) (hR : Row .u8 5 w1 v7' rd') :
    Law w0 w1 p bm q vw vs vd c en ws ss room ds v6 v7' cm rd' := (h.swap.add6 hg hat hR).swap
end
/-- An element of a row of rows. -/
theorem at_row {w : World} {A : Option Addr} {n : Nat} {ps : List (List Int)} (h : Kd.C (Kd.slice 5 (Kd.int .u8)) w A n ps) (kk : Nat) (hk : kk < ps.length) (hn : ps.length = n) :
    ∃ ad Ab cb, A = some ad ∧ w.cell? (ad.add kk) = some (.slice Ab (ps[kk]).length cb) ∧ (ps[kk]).length ≤ cb ∧ Kd.C (Kd.int .u8) w Ab (ps[kk]).length ps[kk] := by
  obtain ⟨ad, c, e, _, hK, hc⟩ := Kd.C_get h [] (kk : Int) (by omega) (by omega)
  rw [Int.toNat_natCast] at hK hc
  have hd : ps.getD kk [] = ps[kk] := by rw [List.getD_eq_getElem?_getD, List.getElem?_eq_getElem hk]; rfl
  rw [hd] at hK
  obtain ⟨Ab, cb, e2, h2, h3⟩ := hK
  subst e2
  have h4 := hc 0 _ rfl
  have h5 : (kk * (Kd.slice 5 (Kd.int .u8)).sz + 0) = kk := by show kk * 1 + 0 = kk; omega
  rw [h5] at h4
  exact ⟨ad, Ab, cb, e, h4, h2, h3⟩
theorem row_le (ps : List (List Int)) (kk : Nat) (h : kk < ps.length) : (ps.take (kk + 1)).flatten.length = (ps.take kk).flatten.length + (ps[kk]).length ∧ (ps.take (kk + 1)).flatten.length ≤ ps.flatten.length := by
  have e1 : ps.take (kk + 1) = ps.take kk ++ [ps[kk]] := by rw [List.take_succ_eq_append_getElem h]
  have e2 : ps.flatten = (ps.take (kk + 1)).flatten ++ (ps.drop (kk + 1)).flatten := by rw [← List.flatten_append, List.take_append_drop]
  refine ⟨by rw [e1, List.flatten_append]; simp, ?_⟩
  rw [e2, List.length_append]
  omega
end Go.Proofs.Ytlbedgiebcpncaa.Wld
