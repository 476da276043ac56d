/- Package chunked, by hand: what lined comes to; own text of this session. -/
import Derived.Test.YtnlicpihondmgaaDoorChk1
import Derived.OwnWalk
namespace Go.Proofs.YtnlicpihondmgaaDoor.Chk
open Go.RowKit Go.Proofs.YtnlicpihondmgaaDoorW.PrintWords Go.Proofs.YtnlicpihondmgaaDoorW.PrintLast
set_option linter.unusedVariables false
def LinedPost (w : World) (F : Nat → Prop) (p : Nat) (vo vt : Value) (d : Dec) (r : List Int × Option ByteArray × Int) (e : Ending) (w' : World) : Prop :=
  e = .returned (lineRes r) ∧ (∃ vl', Rep w' (fun k => F k ∨ w.heap.size ≤ k) p vl' vo vt { d with line := r.1 }) ∧ Stay F w w'
theorem ret3 {s t : ByteArray} (h : s = t) (b : Bool) (n : Int) : Ending.returned (.tuple #[.string s, .bool b, .int .i64 n]) = .returned (.tuple #[.string t, .bool b, .int .i64 n]) := by rw [h]
set_option maxHeartbeats 4000000 in
set_option maxRecDepth 100000 in
theorem lined_e10 (w : World) (F : Nat → Prop) (p : Nat) (vl vo vt : Value) (d : Dec) (c : Int) (h : Rep w F p vl vo vt d) (hl : d.line.length ≤ 1099511627776) (hn : d.line.length = 0) (hc : c = 10) :
    Calls Tryd.prog 43 #[.pointer (some ⟨p, 0, none⟩), .int .u8 c] w (LinedPost w F p vo vt d (d.line, none, 100)) := by
  have hz2 : w.cell? ⟨p, 2, none⟩ = some vl := (blk_cell h.blk 2).trans rfl
  have hf2 := blk_frozen h.blk 2
  obtain ⟨A, n, hv, hcap, hC⟩ := Kd.R_reads h.line
  have HR := Aside0.mk h
  have HL := Aside0.mk hl
  have HN := Aside0.mk hn
  obtain ⟨N, hN⟩ : ∃ N, N = d.line.length := ⟨_, rfl⟩
  rw [← hN] at hv hC hcap hn
  have HNN := Aside0.mk hN
  clear h hl hN
  subst hv
  subst hn
  have hcast : ((0 : Nat) : Int) = 0 := rfl
  subst hc
  go_enter Tryd.func43, Tryd.ntmps43
  go_wp2
  go_ret3
  exact ⟨rfl, ⟨_, HR.out.mono (fun _ hk => .inl hk)⟩, Stay.refl _ _⟩
set_option maxHeartbeats 4000000 in
set_option maxRecDepth 100000 in
theorem lined_e13 (w : World) (F : Nat → Prop) (p : Nat) (vl vo vt : Value) (d : Dec) (c : Int) (h : Rep w F p vl vo vt d) (hl : d.line.length ≤ 1099511627776) (hn : d.line.length = 0) (hc : c = 13) :
    Calls Tryd.prog 43 #[.pointer (some ⟨p, 0, none⟩), .int .u8 c] w (LinedPost w F p vo vt d (d.line ++ [13], none, 0)) := by
  have hz2 : w.cell? ⟨p, 2, none⟩ = some vl := (blk_cell h.blk 2).trans rfl
  have hf2 := blk_frozen h.blk 2
  obtain ⟨A, n, hv, hcap, hC⟩ := Kd.R_reads h.line
  have HR := Aside0.mk h
  have HL := Aside0.mk hl
  have HN := Aside0.mk hn
  obtain ⟨N, hN⟩ : ∃ N, N = d.line.length := ⟨_, rfl⟩
  rw [← hN] at hv hC hcap hn
  have HNN := Aside0.mk hN
  clear h hl hN
  subst hv
  subst hn
  have hcast : ((0 : Nat) : Int) = 0 := rfl
  subst hc
  go_enter Tryd.func43, Tryd.ntmps43
  go_wp2_with (at_builtin; refine Kd.R_append (Kd.int .u8) (w0 := w) 0 rfl (.tmp 59) (.tmp 61) 22 5 (.int .u8 0) 1 rfl Tryd.underlying22 info_u8 rfl (by decide) (by omega) _ d.line 13 [.int .u8 13] (fun k => (F k ∨ w.heap.size ≤ k) ∧ some k ≠ vo.ownBlock) (fun _ => False) rfl rfl ?aP (fun _ hk => hk.elim) ?aF ?aO ?aB ?aS ?aL ?_)
  case aP => rfl
  case aF => exact fun k hk => ⟨.inr hk, R_fresh HR.out.out k hk⟩
  case aO => exact Kd.R_mono HR.out.line (fun k hk => ⟨.inl hk.1, hk.2⟩)
  case aB => exact Below.refl _ _
  try (case aS => omega)
  case aL => have := HL.out; omega
  intro v1 w1 hR hb hg hat
  obtain ⟨hb1, hrep, hst⟩ := HR.out.lineTo hg hat hR
  obtain ⟨A1, c1, e1⟩ := Kd.R_slice hR
  rw [List.length_append, List.length_singleton] at e1
  have hz2 : w1.cell? ⟨p, 2, none⟩ = some (.slice A 0 n) := (blk_cell hb1 2).trans rfl
  have hf2 := blk_frozen hb1 2
  have HP := Aside0.mk hrep
  have HS := Aside0.mk hst
  have HE := Aside0.mk e1
  clear hR hb hg hat hb1 hrep hst
  subst e1
  go_wp2
  go_ret3
  exact ⟨rfl, ⟨_, HP.out⟩, HS.out⟩
set_option maxHeartbeats 4000000 in
set_option maxRecDepth 100000 in
theorem lined_e (w : World) (F : Nat → Prop) (p : Nat) (vl vo vt : Value) (d : Dec) (c : Int) (h : Rep w F p vl vo vt d) (hl : d.line.length ≤ 1099511627776) (hn : d.line.length = 0) (hc : ¬ c = 10) (hc3 : ¬ c = 13) :
    Calls Tryd.prog 43 #[.pointer (some ⟨p, 0, none⟩), .int .u8 c] w (LinedPost w F p vo vt d (d.line ++ [c], none, 0)) := by
  have hz2 : w.cell? ⟨p, 2, none⟩ = some vl := (blk_cell h.blk 2).trans rfl
  have hf2 := blk_frozen h.blk 2
  obtain ⟨A, n, hv, hcap, hC⟩ := Kd.R_reads h.line
  have HR := Aside0.mk h
  have HL := Aside0.mk hl
  have HN := Aside0.mk hn
  obtain ⟨N, hN⟩ : ∃ N, N = d.line.length := ⟨_, rfl⟩
  rw [← hN] at hv hC hcap hn
  have HNN := Aside0.mk hN
  clear h hl hN
  subst hv
  subst hn
  have hcast : ((0 : Nat) : Int) = 0 := rfl
  have bc : (c == 10) = false := by simpa using hc
  have bc3 : (c != 13) = true := by simpa using hc3
  go_enter Tryd.func43, Tryd.ntmps43
  go_wp2_with (at_builtin; refine Kd.R_append (Kd.int .u8) (w0 := w) 0 rfl (.tmp 59) (.tmp 61) 22 5 (.int .u8 0) 1 rfl Tryd.underlying22 info_u8 rfl (by decide) (by omega) _ d.line c [.int .u8 c] (fun k => (F k ∨ w.heap.size ≤ k) ∧ some k ≠ vo.ownBlock) (fun _ => False) rfl rfl ?aP (fun _ hk => hk.elim) ?aF ?aO ?aB ?aS ?aL ?_)
  case aP => rfl
  case aF => exact fun k hk => ⟨.inr hk, R_fresh HR.out.out k hk⟩
  case aO => exact Kd.R_mono HR.out.line (fun k hk => ⟨.inl hk.1, hk.2⟩)
  case aB => exact Below.refl _ _
  try (case aS => omega)
  case aL => have := HL.out; omega
  intro v1 w1 hR hb hg hat
  obtain ⟨hb1, hrep, hst⟩ := HR.out.lineTo hg hat hR
  obtain ⟨A1, c1, e1⟩ := Kd.R_slice hR
  rw [List.length_append, List.length_singleton] at e1
  have hz2 : w1.cell? ⟨p, 2, none⟩ = some (.slice A 0 n) := (blk_cell hb1 2).trans rfl
  have hf2 := blk_frozen hb1 2
  have HP := Aside0.mk hrep
  have HS := Aside0.mk hst
  have HE := Aside0.mk e1
  clear hR hb hg hat hb1 hrep hst
  subst e1
  go_wp2
  go_ret3
  exact ⟨rfl, ⟨_, HP.out⟩, HS.out⟩
set_option maxHeartbeats 4000000 in
set_option maxRecDepth 100000 in
theorem lined_10 (w : World) (F : Nat → Prop) (p : Nat) (vl vo vt : Value) (d : Dec) (c : Int) (h : Rep w F p vl vo vt d) (hl : d.line.length ≤ 1099511627776) (X : Int) (hn : 0 < d.line.length) (hX : rd d.line ((d.line.length : Int) - 1) = X) (hx13 : ¬ X = 13) (hc : c = 10) :
    Calls Tryd.prog 43 #[.pointer (some ⟨p, 0, none⟩), .int .u8 c] w (LinedPost w F p vo vt d (d.line, none, 100)) := by
  have hz2 : w.cell? ⟨p, 2, none⟩ = some vl := (blk_cell h.blk 2).trans rfl
  have hf2 := blk_frozen h.blk 2
  obtain ⟨A, n, hv, hcap, hC⟩ := Kd.R_reads h.line
  have HR := Aside0.mk h
  have HL := Aside0.mk hl
  have HN := Aside0.mk hn
  obtain ⟨N, hN⟩ : ∃ N, N = d.line.length := ⟨_, rfl⟩
  rw [← hN] at hv hC hcap hn
  have HNN := Aside0.mk hN
  clear h hl hN
  subst hv
  have hpos : (0 : Int) < (N : Int) := by omega
  have hNle : (N : Int) ≤ 1099511627776 := by have := HL.out; have := HNN.out; omega
  have hi0 : (0 : Int) ≤ (N : Int) - 1 := by omega
  have hi1 : (N : Int) - 1 < (N : Int) := by omega
  obtain ⟨ad, eA, hx⟩ := Kd.at_int hC ((N : Int) - 1) (by omega) (by omega)
  cases eA
  have hxr : rd d.line ((N : Int) - 1) = X := by rw [HNN.out]; exact hX
  rw [hxr, show ((N : Int) - 1).toNat = N - 1 from by omega] at hx
  clear hxr
  have HX := Aside0.mk hX
  clear hX
  subst hc
  have b13 : (X == 13) = false := by simpa using hx13
  go_enter Tryd.func43, Tryd.ntmps43
  go_wp2
  go_ret3
  exact ⟨rfl, ⟨_, HR.out.mono (fun _ hk => .inl hk)⟩, Stay.refl _ _⟩
set_option maxHeartbeats 4000000 in
set_option maxRecDepth 100000 in
theorem lined_13 (w : World) (F : Nat → Prop) (p : Nat) (vl vo vt : Value) (d : Dec) (c : Int) (h : Rep w F p vl vo vt d) (hl : d.line.length ≤ 1099511627776) (hn : 0 < d.line.length) (hX : rd d.line ((d.line.length : Int) - 1) = 13) (hc : ¬ c = 10) :
    Calls Tryd.prog 43 #[.pointer (some ⟨p, 0, none⟩), .int .u8 c] w (LinedPost w F p vo vt d (d.line, none, 100)) := by
  have hz2 : w.cell? ⟨p, 2, none⟩ = some vl := (blk_cell h.blk 2).trans rfl
  have hf2 := blk_frozen h.blk 2
  obtain ⟨A, n, hv, hcap, hC⟩ := Kd.R_reads h.line
  have HR := Aside0.mk h
  have HL := Aside0.mk hl
  have HN := Aside0.mk hn
  obtain ⟨N, hN⟩ : ∃ N, N = d.line.length := ⟨_, rfl⟩
  rw [← hN] at hv hC hcap hn
  have HNN := Aside0.mk hN
  clear h hl hN
  subst hv
  have hpos : (0 : Int) < (N : Int) := by omega
  have hNle : (N : Int) ≤ 1099511627776 := by have := HL.out; have := HNN.out; omega
  have hi0 : (0 : Int) ≤ (N : Int) - 1 := by omega
  have hi1 : (N : Int) - 1 < (N : Int) := by omega
  obtain ⟨ad, eA, hx⟩ := Kd.at_int hC ((N : Int) - 1) (by omega) (by omega)
  cases eA
  have hxr : rd d.line ((N : Int) - 1) = 13 := by rw [HNN.out]; exact hX
  rw [hxr, show ((N : Int) - 1).toNat = N - 1 from by omega] at hx
  clear hxr
  have HX := Aside0.mk hX
  clear hX
  have bc : (c == 10) = false := by simpa using hc
  go_enter Tryd.func43, Tryd.ntmps43
  go_wp2
  go_ret3
  exact ⟨rfl, ⟨_, HR.out.mono (fun _ hk => .inl hk)⟩, Stay.refl _ _⟩
set_option maxHeartbeats 4000000 in
set_option maxRecDepth 100000 in
theorem lined_n13 (w : World) (F : Nat → Prop) (p : Nat) (vl vo vt : Value) (d : Dec) (c : Int) (h : Rep w F p vl vo vt d) (hl : d.line.length ≤ 1099511627776) (X : Int) (hn : 0 < d.line.length) (hX : rd d.line ((d.line.length : Int) - 1) = X) (hx13 : ¬ X = 13) (hc : c = 13) :
    Calls Tryd.prog 43 #[.pointer (some ⟨p, 0, none⟩), .int .u8 c] w (LinedPost w F p vo vt d (d.line ++ [13], none, 0)) := by
  have hz2 : w.cell? ⟨p, 2, none⟩ = some vl := (blk_cell h.blk 2).trans rfl
  have hf2 := blk_frozen h.blk 2
  obtain ⟨A, n, hv, hcap, hC⟩ := Kd.R_reads h.line
  have HR := Aside0.mk h
  have HL := Aside0.mk hl
  have HN := Aside0.mk hn
  obtain ⟨N, hN⟩ : ∃ N, N = d.line.length := ⟨_, rfl⟩
  rw [← hN] at hv hC hcap hn
  have HNN := Aside0.mk hN
  clear h hl hN
  subst hv
  have hpos : (0 : Int) < (N : Int) := by omega
  have hNle : (N : Int) ≤ 1099511627776 := by have := HL.out; have := HNN.out; omega
  have hi0 : (0 : Int) ≤ (N : Int) - 1 := by omega
  have hi1 : (N : Int) - 1 < (N : Int) := by omega
  obtain ⟨ad, eA, hx⟩ := Kd.at_int hC ((N : Int) - 1) (by omega) (by omega)
  cases eA
  have hxr : rd d.line ((N : Int) - 1) = X := by rw [HNN.out]; exact hX
  rw [hxr, show ((N : Int) - 1).toNat = N - 1 from by omega] at hx
  clear hxr
  have HX := Aside0.mk hX
  clear hX
  subst hc
  have b13 : (X == 13) = false := by simpa using hx13
  go_enter Tryd.func43, Tryd.ntmps43
  go_wp2_with (at_builtin; refine Kd.R_append (Kd.int .u8) (w0 := w) 0 rfl (.tmp 59) (.tmp 61) 22 5 (.int .u8 0) 1 rfl Tryd.underlying22 info_u8 rfl (by decide) (by omega) _ d.line 13 [.int .u8 13] (fun k => (F k ∨ w.heap.size ≤ k) ∧ some k ≠ vo.ownBlock) (fun _ => False) rfl rfl ?aP (fun _ hk => hk.elim) ?aF ?aO ?aB ?aS ?aL ?_)
  case aP => rfl
  case aF => exact fun k hk => ⟨.inr hk, R_fresh HR.out.out k hk⟩
  case aO => exact Kd.R_mono HR.out.line (fun k hk => ⟨.inl hk.1, hk.2⟩)
  case aB => exact Below.refl _ _
  try (case aS => omega)
  case aL => have := HL.out; omega
  intro v1 w1 hR hb hg hat
  obtain ⟨hb1, hrep, hst⟩ := HR.out.lineTo hg hat hR
  obtain ⟨A1, c1, e1⟩ := Kd.R_slice hR
  rw [List.length_append, List.length_singleton] at e1
  have hz2 : w1.cell? ⟨p, 2, none⟩ = some (.slice (some ad) N n) := (blk_cell hb1 2).trans rfl
  have hf2 := blk_frozen hb1 2
  have HP := Aside0.mk hrep
  have HS := Aside0.mk hst
  have HE := Aside0.mk e1
  clear hR hb hg hat hb1 hrep hst
  subst e1
  go_wp2
  go_ret3
  exact ⟨rfl, ⟨_, HP.out⟩, HS.out⟩
set_option maxHeartbeats 4000000 in
set_option maxRecDepth 100000 in
theorem lined_n (w : World) (F : Nat → Prop) (p : Nat) (vl vo vt : Value) (d : Dec) (c : Int) (h : Rep w F p vl vo vt d) (hl : d.line.length ≤ 1099511627776) (X : Int) (hn : 0 < d.line.length) (hX : rd d.line ((d.line.length : Int) - 1) = X) (hx13 : ¬ X = 13) (hc : ¬ c = 10) (hc3 : ¬ c = 13) (hs : d.line.length < 8192) :
    Calls Tryd.prog 43 #[.pointer (some ⟨p, 0, none⟩), .int .u8 c] w (LinedPost w F p vo vt d (d.line ++ [c], none, 0)) := by
  have hz2 : w.cell? ⟨p, 2, none⟩ = some vl := (blk_cell h.blk 2).trans rfl
  have hf2 := blk_frozen h.blk 2
  obtain ⟨A, n, hv, hcap, hC⟩ := Kd.R_reads h.line
  have HR := Aside0.mk h
  have HL := Aside0.mk hl
  have HN := Aside0.mk hn
  obtain ⟨N, hN⟩ : ∃ N, N = d.line.length := ⟨_, rfl⟩
  rw [← hN] at hv hC hcap hn
  have HNN := Aside0.mk hN
  clear h hl hN
  subst hv
  have hpos : (0 : Int) < (N : Int) := by omega
  have hNle : (N : Int) ≤ 1099511627776 := by have := HL.out; have := HNN.out; omega
  have hi0 : (0 : Int) ≤ (N : Int) - 1 := by omega
  have hi1 : (N : Int) - 1 < (N : Int) := by omega
  obtain ⟨ad, eA, hx⟩ := Kd.at_int hC ((N : Int) - 1) (by omega) (by omega)
  cases eA
  have hxr : rd d.line ((N : Int) - 1) = X := by rw [HNN.out]; exact hX
  rw [hxr, show ((N : Int) - 1).toNat = N - 1 from by omega] at hx
  clear hxr
  have HX := Aside0.mk hX
  clear hX
  have hs' : ¬ (8192 : Int) ≤ (N : Int) := by have := HNN.out; omega
  have bc : (c == 10) = false := by simpa using hc
  have bc3 : (c != 13) = true := by simpa using hc3
  have b13 : (X == 13) = false := by simpa using hx13
  go_enter Tryd.func43, Tryd.ntmps43
  go_wp2_with (at_builtin; refine Kd.R_append (Kd.int .u8) (w0 := w) 0 rfl (.tmp 59) (.tmp 61) 22 5 (.int .u8 0) 1 rfl Tryd.underlying22 info_u8 rfl (by decide) (by omega) _ d.line c [.int .u8 c] (fun k => (F k ∨ w.heap.size ≤ k) ∧ some k ≠ vo.ownBlock) (fun _ => False) rfl rfl ?aP (fun _ hk => hk.elim) ?aF ?aO ?aB ?aS ?aL ?_)
  case aP => rfl
  case aF => exact fun k hk => ⟨.inr hk, R_fresh HR.out.out k hk⟩
  case aO => exact Kd.R_mono HR.out.line (fun k hk => ⟨.inl hk.1, hk.2⟩)
  case aB => exact Below.refl _ _
  try (case aS => omega)
  case aL => have := HL.out; omega
  intro v1 w1 hR hb hg hat
  obtain ⟨hb1, hrep, hst⟩ := HR.out.lineTo hg hat hR
  obtain ⟨A1, c1, e1⟩ := Kd.R_slice hR
  rw [List.length_append, List.length_singleton] at e1
  have hz2 : w1.cell? ⟨p, 2, none⟩ = some (.slice (some ad) N n) := (blk_cell hb1 2).trans rfl
  have hf2 := blk_frozen hb1 2
  have HP := Aside0.mk hrep
  have HS := Aside0.mk hst
  have HE := Aside0.mk e1
  clear hR hb hg hat hb1 hrep hst
  subst e1
  go_wp2
  go_ret3
  exact ⟨rfl, ⟨_, HP.out⟩, HS.out⟩
set_option maxHeartbeats 4000000 in
set_option maxRecDepth 100000 in
theorem lined_long (w : World) (F : Nat → Prop) (p : Nat) (vl vo vt : Value) (d : Dec) (c : Int) (h : Rep w F p vl vo vt d) (hl : d.line.length ≤ 1099511627776) (X : Int) (hn : 0 < d.line.length) (hX : rd d.line ((d.line.length : Int) - 1) = X) (hx13 : ¬ X = 13) (hc : ¬ c = 10) (hc3 : ¬ c = 13) (hs : 8192 ≤ d.line.length) :
    Calls Tryd.prog 43 #[.pointer (some ⟨p, 0, none⟩), .int .u8 c] w (LinedPost w F p vo vt d (d.line, none, 100)) := by
  have hz2 : w.cell? ⟨p, 2, none⟩ = some vl := (blk_cell h.blk 2).trans rfl
  have hf2 := blk_frozen h.blk 2
  obtain ⟨A, n, hv, hcap, hC⟩ := Kd.R_reads h.line
  have HR := Aside0.mk h
  have HL := Aside0.mk hl
  have HN := Aside0.mk hn
  obtain ⟨N, hN⟩ : ∃ N, N = d.line.length := ⟨_, rfl⟩
  rw [← hN] at hv hC hcap hn
  have HNN := Aside0.mk hN
  clear h hl hN
  subst hv
  have hpos : (0 : Int) < (N : Int) := by omega
  have hNle : (N : Int) ≤ 1099511627776 := by have := HL.out; have := HNN.out; omega
  have hi0 : (0 : Int) ≤ (N : Int) - 1 := by omega
  have hi1 : (N : Int) - 1 < (N : Int) := by omega
  obtain ⟨ad, eA, hx⟩ := Kd.at_int hC ((N : Int) - 1) (by omega) (by omega)
  cases eA
  have hxr : rd d.line ((N : Int) - 1) = X := by rw [HNN.out]; exact hX
  rw [hxr, show ((N : Int) - 1).toNat = N - 1 from by omega] at hx
  clear hxr
  have HX := Aside0.mk hX
  clear hX
  have hs' : (8192 : Int) ≤ (N : Int) := by have := HNN.out; omega
  have bc : (c == 10) = false := by simpa using hc
  have bc3 : (c != 13) = true := by simpa using hc3
  have b13 : (X == 13) = false := by simpa using hx13
  go_enter Tryd.func43, Tryd.ntmps43
  go_wp2
  go_ret3
  exact ⟨rfl, ⟨_, HR.out.mono (fun _ hk => .inl hk)⟩, Stay.refl _ _⟩
set_option maxHeartbeats 4000000 in
set_option maxRecDepth 100000 in
theorem lined_whole (w : World) (F : Nat → Prop) (p : Nat) (vl vo vt : Value) (d : Dec) (c : Int) (h : Rep w F p vl vo vt d) (hl : d.line.length ≤ 1099511627776) (hn : 0 < d.line.length) (hX : rd d.line ((d.line.length : Int) - 1) = 13) (hc : c = 10) :
    Calls Tryd.prog 43 #[.pointer (some ⟨p, 0, none⟩), .int .u8 c] w (LinedPost w F p vo vt d ([], some (strOfNums (d.line.take (d.line.length - 1))), 0)) := by
  have hz2 : w.cell? ⟨p, 2, none⟩ = some vl := (blk_cell h.blk 2).trans rfl
  have hf2 := blk_frozen h.blk 2
  obtain ⟨A, n, hv, hcap, hC⟩ := Kd.R_reads h.line
  have HR := Aside0.mk h
  have HL := Aside0.mk hl
  have HN := Aside0.mk hn
  obtain ⟨N, hN⟩ : ∃ N, N = d.line.length := ⟨_, rfl⟩
  rw [← hN] at hv hC hcap hn
  have HNN := Aside0.mk hN
  clear h hl hN
  subst hv
  have hpos : (0 : Int) < (N : Int) := by omega
  have hNle : (N : Int) ≤ 1099511627776 := by have := HL.out; have := HNN.out; omega
  have hi0 : (0 : Int) ≤ (N : Int) - 1 := by omega
  have hi1 : (N : Int) - 1 < (N : Int) := by omega
  obtain ⟨ad, eA, hx⟩ := Kd.at_int hC ((N : Int) - 1) (by omega) (by omega)
  cases eA
  have hxr : rd d.line ((N : Int) - 1) = 13 := by rw [HNN.out]; exact hX
  rw [hxr, show ((N : Int) - 1).toNat = N - 1 from by omega] at hx
  clear hxr
  have HX := Aside0.mk hX
  clear hX
  subst hc
  obtain ⟨A2, c2, e2, hc2, hC2⟩ := Kd.R_reads (Kd.R_take HR.out.line (m := N - 1) (by have := HNN.out; omega))
  have hlt : (d.line.take (N - 1)).length = N - 1 := by rw [List.length_take]; have := HNN.out; omega
  rw [hlt] at e2 hC2
  injection e2 with e3 _ e4; subst e3; subst e4
  have hcv := Kd.C_string (P := Tryd.prog) (c := n) Tryd.underlying22 Tryd.underlying5 Tryd.underlying9 hC2
  have hW := Aside0.mk HR.out.lineNil
  have hS : Aside0 (Stay F w (w.setCell ⟨p, 2, none⟩ (.slice none 0 0))) := ⟨(Stay.refl F w).set HR.out.inF _⟩
  clear hc2 hC2 hlt
  go_enter Tryd.func43, Tryd.ntmps43
  go_wp2
  go_ret3
  exact ⟨ret3 (by rw [HNN.out]; rfl) _ _, ⟨_, hW.out.mono (fun _ hk => .inl hk)⟩, hS.out⟩
end Go.Proofs.YtnlicpihondmgaaDoor.Chk
