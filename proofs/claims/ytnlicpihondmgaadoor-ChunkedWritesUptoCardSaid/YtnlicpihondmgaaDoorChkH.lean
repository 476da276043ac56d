/- Package chunked: Chunk, and rows of rows of bytes; own text of this session. -/
import Derived.Test.YtnlicpihondmgaaDoorChkG
namespace Go.Proofs.YtnlicpihondmgaaDoor.Chk
open Go.RowKit Go.Proofs.YtnlicpihondmgaaDoorW.PrintWords Go.Proofs.YtnlicpihondmgaaDoorW.PrintLast
set_option linter.unusedVariables false
set_option linter.unusedSimpArgs false
/-- Numbers that are bytes. -/
def isB (b : List Int) : Bool := b.all fun x => decide (0 ≤ x) && decide (x ≤ 255)
theorem nums_str (b : List Int) (hw : isB b = true) : nOf (strOfNums b).data.toList = b := by
  unfold isB at hw
  rw [strOfNums_data]
  unfold nOf
  rw [List.map_map]
  refine (List.map_congr_left (g := id) (fun x hx => ?_)).trans (by simp)
  have h := List.all_eq_true.1 hw x hx
  simp only [Bool.and_eq_true, decide_eq_true_eq] at h
  have h2 : x.toNat < 256 := by omega
  simp only [Function.comp, id]
  rw [UInt8.toNat_ofNat', Nat.mod_eq_of_lt h2]
  omega
theorem hex_len (n : Nat) : (Hr.hex n).length ≤ 17 := by
  have := Px.hexGo_length 17 n []
  simp only [List.length_nil] at this
  show (Hr.hexGo 17 n []).length ≤ _
  omega
theorem nOf_app (a b : List UInt8) : nOf (a ++ b) = nOf a ++ nOf b := by unfold nOf; rw [List.map_append]
theorem chunk_f (b : List Int) (hw : isB b = true) (hn : b.length ≤ 1099511627776) : P.chunked_Chunk.f b = some (chunkB b) := by
  unfold P.chunked_Chunk.f chunkB
  by_cases hb : b = []
  · subst hb; rfl
  · have hp := List.length_pos_iff.2 hb
    rw [if_neg (by omega), if_neg hb, Px.lHexText, if_neg (by omega)]
    have hs : (Px.mkB (Hr.hex (b.length : Int).toNat)).size ≤ 17 := by rw [Px.mkB_size]; exact hex_len _
    have hs2 : (Px.mkB (Hr.hex (b.length : Int).toNat), (0 : Int)).1.size ≤ 17 := hs
    have hz : (⟨#[13, 10]⟩ : ByteArray).size = 2 := rfl
    show (if (Px.mkB (Hr.hex (b.length : Int).toNat)).size + 2 ≤ 9223372036854775807 then _ else _) = _
    rw [if_pos (by omega), if_pos (by rw [ByteArray.size_append, strOfNums_size, hz]; omega), if_pos (by rw [ByteArray.size_append, ByteArray.size_append, strOfNums_size, hz]; omega), if_pos (by rw [ByteArray.size_append, ByteArray.size_append, ByteArray.size_append, strOfNums_size, hz]; omega)]
    congr 1
    simp only [ByteArray.data_append, Array.toList_append, nOf_app, nums_str b hw, Px.mkB_data, Int.toNat_natCast]
    rfl
theorem chunk_calls (b : List Int) (A : Option Addr) (c : Nat) (w : World) (hr : Kd.C (Kd.int .u8) w A b.length b) (hc : b.length ≤ c) (hw : isB b = true) (hn : b.length ≤ 1099511627776) (hG : GInv w) :
    Calls Tryd.prog 19 #[.slice A b.length c] w fun e w' => ∃ (A1 : Option Addr) (c1 : Nat), e = .returned (.slice A1 (chunkB b).length c1) ∧ (Kd.int .u8).C w' A1 (chunkB b).length (chunkB b) ∧ Below w.heap.size w w' := by
  refine (P.chunked_Chunk.calls A c b (chunkB b) w hr hc (chunk_f b hw hn) hG).mono ?_
  rintro e w' ⟨v, rfl, ⟨A1, c1, e1, _, hF⟩, hb⟩
  subst e1
  exact ⟨A1, c1, rfl, hF w' (fun _ _ _ => rfl), hb⟩
theorem chunkB_len (b : List Int) : (chunkB b).length ≤ b.length + 21 := by
  unfold chunkB
  split
  · simp
  · have := hex_len b.length
    simp only [List.length_append, nOf_length, List.length_cons, List.length_nil]
    omega
theorem flat_chunk (ps : List (List Int)) : (ps.flatMap chunkB).length ≤ ps.flatten.length + 21 * ps.length := by
  induction ps with
  | nil => simp
  | cons b r ih =>
    have := chunkB_len b
    rw [List.flatMap_cons, List.flatten_cons, List.length_append, List.length_append, List.length_cons]
    omega
/-- An element of a row of rows. -/
theorem at_row {w : World} {A : Option Addr} {n : Nat} {ps : List (List Int)} (h : Kd.C (Kd.slice 5 (Kd.int .u8)) w A n ps) (kk : Nat) (hk : kk < ps.length) (hn : ps.length = n) :
    ∃ ad Ab cb, A = some ad ∧ w.cell? (ad.add kk) = some (.slice Ab (ps[kk]).length cb) ∧ (ps[kk]).length ≤ cb ∧ Kd.C (Kd.int .u8) w Ab (ps[kk]).length ps[kk] := by
  obtain ⟨ad, c, e, _, hK, hc⟩ := Kd.C_get h [] (kk : Int) (by omega) (by omega)
  rw [Int.toNat_natCast] at hK hc
  have hd : ps.getD kk [] = ps[kk] := by rw [List.getD_eq_getElem?_getD, List.getElem?_eq_getElem hk]; rfl
  rw [hd] at hK
  obtain ⟨Ab, cb, e2, h2, h3⟩ := hK
  subst e2
  have h4 := hc 0 _ rfl
  have h5 : (kk * (Kd.slice 5 (Kd.int .u8)).sz + 0) = kk := by show kk * 1 + 0 = kk; omega
  rw [h5] at h4
  exact ⟨ad, Ab, cb, e, h4, h2, h3⟩
theorem row_le (ps : List (List Int)) (kk : Nat) (h : kk < ps.length) : (ps.take kk).flatten.length + (ps[kk]).length ≤ ps.flatten.length := by
  have e : ps.flatten = (ps.take kk).flatten ++ (ps[kk] ++ (ps.drop (kk + 1)).flatten) := by
    rw [← List.flatten_cons, ← List.drop_eq_getElem_cons h, ← List.flatten_append, List.take_append_drop]
  rw [e, List.length_append, List.length_append]
  omega
/-- Two rows that are built side by side. -/
structure Two (w : World) (base : Nat) (v u : Value) (xs ys : List Int) : Prop where
  a : (Kd.int .u8).R 5 w base (fun k => some k ≠ u.ownBlock) v xs
  b : (Kd.int .u8).R 5 w base (fun k => some k ≠ v.ownBlock) u ys
theorem Two.below {w w1 : World} {base : Nat} {v u : Value} {xs ys : List Int} (h : Two w base v u xs ys) (hb : Below w.heap.size w w1) : Two w1 base v u xs ys := ⟨Kd.R_below h.a hb, Kd.R_below h.b hb⟩
theorem Two.nil (w : World) (base : Nat) : Two w base (.slice none 0 0) (.slice none 0 0) [] [] := ⟨Kd.R_nil _ _ _ _ _, Kd.R_nil _ _ _ _ _⟩
theorem Two.first {w w1 : World} {base : Nat} {v u v1 : Value} {xs ys xs1 : List Int} (h : Two w base v u xs ys) (hg : w.grownBy w1 v.ownBlock) (hat : v1.ownBlock = v.ownBlock ∨ ∃ b, v1.ownBlock = some b ∧ w.heap.size ≤ b)
    (hR : (Kd.int .u8).R 5 w1 base (fun k => some k ≠ u.ownBlock) v1 xs1) : Two w1 base v1 u xs1 ys :=
  ⟨hR, Kd.R_mono (Kd.R_after (ok := fun _ => True) (Kd.R_mono h.b (fun k hk => ⟨trivial, hk⟩)) hg hat) (fun k hk => hk.2)⟩
theorem Two.second {w w1 : World} {base : Nat} {v u u1 : Value} {xs ys ys1 : List Int} (h : Two w base v u xs ys) (hg : w.grownBy w1 u.ownBlock) (hat : u1.ownBlock = u.ownBlock ∨ ∃ b, u1.ownBlock = some b ∧ w.heap.size ≤ b)
    (hR : (Kd.int .u8).R 5 w1 base (fun k => some k ≠ v.ownBlock) u1 ys1) : Two w1 base v u1 xs ys1 :=
  ⟨Kd.R_mono (Kd.R_after (ok := fun _ => True) (Kd.R_mono h.a (fun k hk => ⟨trivial, hk⟩)) hg hat) (fun k hk => hk.2), hR⟩
end Go.Proofs.YtnlicpihondmgaaDoor.Chk
