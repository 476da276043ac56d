/- BodyBehind: the walk; own text of this session (gen_lbehind.py). -/
import Derived.Test.YtcfmihghgecefaaDoorLBodB
import Derived.Test.YtcfmihghgecefaaDoorRfG2
import Derived.Test.YtcfmihghgecefaaDoorBdC
namespace Go.Proofs.YtcfmihghgecefaaDoor.Bod
open Go.RowKit Go.Proofs.YtcfmihghgecefaaDoorW.PrintWords Go.Proofs.YtcfmihghgecefaaDoorW.PrintLast Chk
open P (askB asked11)
set_option linter.unusedVariables false
set_option linter.unusedSimpArgs false
theorem ask_parts {kind len most : Int} (h : askB kind len most = 0) : (kind = 1 ∨ kind = 2 ∨ kind = 3 ∨ kind = 4) ∧ (0 ≤ len ∧ len ≤ 9007199254740992) ∧ (¬ kind = 2 → len = 0) ∧ ∃ r, newB kind len most = some r := by
  have h1 : ¬ (kind < 1 ∨ 4 < kind ∨ (len < 0 ∨ 9007199254740992 < len) ∨ (¬ kind = 2 ∧ ¬ len = 0) ∨ (most < 0 ∨ 9007199254740992 < most)) := by
    intro h1
    unfold askB at h
    rw [if_pos h1] at h
    cases h
  have h2 : ¬ (kind = 2 ∧ most < len) := by
    intro h2
    unfold askB at h
    rw [if_neg h1, if_pos h2] at h
    cases h
  refine ⟨by omega, by omega, by omega, ?_⟩
  unfold newB
  split
  · rename_i k2
    rw [if_neg (fun h => h2 ⟨k2, h⟩)]
    exact ⟨_, rfl⟩
  · split <;> exact ⟨_, rfl⟩
set_option maxHeartbeats 8000000 in
set_option maxRecDepth 100000 in
theorem behind_calls (kind len : Int) (keep : Bool) (A0 : Option Addr) (c0 : Nat) (b : List Int) (A1 : Option Addr) (c1 : Nat) (more : List Int) (w : World) (hr0 : Kd.C (Kd.int .u8) w A0 b.length b) (hc0 : b.length ≤ c0) (hr1 : Kd.C (Kd.int .u8) w A1 more.length more) (hc1 : more.length ≤ c1) (hb0 : b.length ≤ 900000000) (hb1 : more.length ≤ 900000000) (hG : GInv w) :
    Calls Tryd.prog 3 #[.agg #[.int .i64 kind, .int .i64 len, .bool keep], .slice A0 b.length c0, .slice A1 more.length c1] w fun e w' => e = .returned (.bool true) ∧ Below w.heap.size w w' := by
  have HA := Aside0.mk (fun (W : World) (hW : Below w.heap.size w W) => all11_calls kind len keep 1000000 (by decide) (by decide) b (by omega) A0 c0 W (Kd.C_below hr0 hW) hc0)
  have HAs := Aside0.mk (fun W => P.headraceref11_Asked.calls 5 kind len keep 1000000 _ W (asked11 kind len 1000000 keep))
  have HMo := Aside0.mk (fun (h : askB kind len 1000000 = 0) (r : Bd) (hr : newB kind len 1000000 = some r) (hf : BFine r) => behind_all (b := b) (more := more) (ask_parts h).1 (ask_parts h).2.1 (ask_parts h).2.2.1 (by decide) (by decide) hr hf)
  have HNw := Aside0.mk (fun (h : askB kind len 1000000 = 0) (W : World) => newB_calls kind len 1000000 keep W (ask_parts h).1 (ask_parts h).2.1 (ask_parts h).2.2.1 (by decide) (by decide))
  have HEx := Aside0.mk (fun (h : askB kind len 1000000 = 0) => (ask_parts h).2.2.2)
  obtain ⟨a, ha⟩ : ∃ a, a = askB kind len 1000000 := ⟨_, rfl⟩
  rw [← ha] at HAs HMo HNw HEx
  clear ha
  rcases hS : seenB kind len 1000000 b with ⟨out, tr, n, wh, er⟩
  rw [hS] at HA HMo
  have HG := Aside0.mk hG
  have HC0 := Aside0.mk hr0
  have HC1 := Aside0.mk hr1
  have HTl : Aside0 (b.length + more.length ≤ 1800000000) := ⟨by omega⟩
  clear hS hr0 hr1 hG
  obtain ⟨L, hL⟩ : ∃ L, L = b.length := ⟨_, rfl⟩
  have HL := Aside0.mk hL
  rw [← hL] at HA hc0 hb0 HC0 ⊢
  clear hL
  obtain ⟨M, hM⟩ : ∃ M, M = more.length := ⟨_, rfl⟩
  have HM := Aside0.mk hM
  rw [← hM] at hc1 hb1 HC1 ⊢
  clear hM
  by_cases ha0 : a = 0
  case neg =>
    have bn : (a != 0) = true := by simpa using ha0
    go_enter Tryd.func3, Tryd.ntmps3
    go_wp2_with fail
    with_reducible refine (HA.out _ (by repeat (first | exact below_alloc (Below.refl _ _) _ | apply below_drew1 | apply pw_below_drewN))).mono ?_
    rintro e w2 ⟨vO, vT, rfl, hO, hT, hb⟩
    obtain ⟨A2, c2, e2, hc2, hC2⟩ := Kd.R_reads hO
    subst e2
    obtain ⟨AT, cT, eT, hcT, hCT⟩ := Kd.R_reads hT
    subst eT
    have HC2 := Aside0.mk hC2
    have HB2 := Aside0.mk (below_step (below_alloc (Below.refl w.heap.size w) (.cells #[.int .i64 kind, .int .i64 len, .bool keep] 23)) hb)
    have HK2 := Aside0.mk (blk_below (blk_new w (.cells #[.int .i64 kind, .int .i64 len, .bool keep] 23)) hb)
    clear hb hO hT hc2 hC2 hcT hCT
    obtain ⟨N2, hN2⟩ : ∃ N2, N2 = out.length := ⟨_, rfl⟩
    have HN2 := Aside0.mk hN2
    rw [← hN2] at HC2 ⊢
    clear hN2
    obtain ⟨W3, hW3⟩ : ∃ W3, W3 = w2.alloc (.cells #[.slice A2 N2 c2, .slice AT tr.length cT, .int .i64 (n : Int), .bool wh, .int .i64 er] 27) := ⟨_, rfl⟩
    have HW3 := Aside0.mk hW3
    have hB3 : Below w.heap.size w W3 := by rw [hW3]; exact below_alloc HB2.out _
    have hK3 : W3.heap[w.heap.size]? = some (.cells #[.int .i64 kind, .int .i64 len, .bool keep] 23 (0, 0)) := by rw [hW3]; exact blk_alloc HK2.out _
    have hS3 : W3.heap[w2.heap.size]? = some (.cells #[.slice A2 N2 c2, .slice AT tr.length cT, .int .i64 (n : Int), .bool wh, .int .i64 er] 27 (0, 0)) := by rw [hW3]; exact blk_new w2 _
    have HB23 : Aside0 (Below w2.heap.size w2 W3) := ⟨by rw [hW3]; exact below_alloc (Below.refl _ _) _⟩
    have hz0 : W3.cell? ⟨w.heap.size, 0, none⟩ = some (.int .i64 kind) := (blk_cell hK3 0).trans rfl
    have hz1 : W3.cell? ⟨w.heap.size, 1, none⟩ = some (.int .i64 len) := (blk_cell hK3 1).trans rfl
    have hz2 : W3.cell? ⟨w.heap.size, 2, none⟩ = some (.bool keep) := (blk_cell hK3 2).trans rfl
    have hf0 := blk_frozen hK3 0
    have hf1 := blk_frozen hK3 1
    have hf2 := blk_frozen hK3 2
    have HB3 := Aside0.mk hB3
    have HK3 := Aside0.mk hK3
    have HS3 := Aside0.mk hS3
    clear hW3 hB3 hK3 hS3
    go_wp2_with (rewrite [← HW3.out])
    refine (HAs.out _).mono ?_
    rintro e w4 ⟨rfl, hb4⟩
    have HB4 := Aside0.mk (below_step HB3.out hb4)
    have HB34 := Aside0.mk hb4
    have HK4 := Aside0.mk (blk_below HK3.out hb4)
    have HS4 := Aside0.mk (blk_below HS3.out hb4)
    have gz0 : w4.cell? ⟨w.heap.size, 0, none⟩ = some (.int .i64 kind) := (blk_cell HK4.out 0).trans rfl
    have gz1 : w4.cell? ⟨w.heap.size, 1, none⟩ = some (.int .i64 len) := (blk_cell HK4.out 1).trans rfl
    have gz2 : w4.cell? ⟨w.heap.size, 2, none⟩ = some (.bool keep) := (blk_cell HK4.out 2).trans rfl
    have gf0 := blk_frozen HK4.out 0
    have gf1 := blk_frozen HK4.out 1
    have gf2 := blk_frozen HK4.out 2
    have gy3 : w4.cell? ⟨w2.heap.size, 3, none⟩ = some (.bool wh) := (blk_cell HS4.out 3).trans rfl
    have gx3 := blk_frozen HS4.out 3
    clear hb4 hz0 hz1 hz2 hf0 hf1 hf2
    go_wp2_with fail
    refine (Bod.speaks_calls _).mono ?_
    rintro e w8 ⟨rfl, hb⟩
    have HB8 := Aside0.mk (below_step HB4.out hb)
    clear hb
    go_wp2
    go_ret
    exact ⟨rfl, HB8.out⟩
  case pos =>
    subst ha0
    rcases wh with _ | _
    case false =>
      go_enter Tryd.func3, Tryd.ntmps3
      go_wp2_with fail
      with_reducible refine (HA.out _ (by repeat (first | exact below_alloc (Below.refl _ _) _ | apply below_drew1 | apply pw_below_drewN))).mono ?_
      rintro e w2 ⟨vO, vT, rfl, hO, hT, hb⟩
      obtain ⟨A2, c2, e2, hc2, hC2⟩ := Kd.R_reads hO
      subst e2
      obtain ⟨AT, cT, eT, hcT, hCT⟩ := Kd.R_reads hT
      subst eT
      have HC2 := Aside0.mk hC2
      have HB2 := Aside0.mk (below_step (below_alloc (Below.refl w.heap.size w) (.cells #[.int .i64 kind, .int .i64 len, .bool keep] 23)) hb)
      have HK2 := Aside0.mk (blk_below (blk_new w (.cells #[.int .i64 kind, .int .i64 len, .bool keep] 23)) hb)
      clear hb hO hT hc2 hC2 hcT hCT
      obtain ⟨N2, hN2⟩ : ∃ N2, N2 = out.length := ⟨_, rfl⟩
      have HN2 := Aside0.mk hN2
      rw [← hN2] at HC2 ⊢
      clear hN2
      obtain ⟨W3, hW3⟩ : ∃ W3, W3 = w2.alloc (.cells #[.slice A2 N2 c2, .slice AT tr.length cT, .int .i64 (n : Int), .bool false, .int .i64 er] 27) := ⟨_, rfl⟩
      have HW3 := Aside0.mk hW3
      have hB3 : Below w.heap.size w W3 := by rw [hW3]; exact below_alloc HB2.out _
      have hK3 : W3.heap[w.heap.size]? = some (.cells #[.int .i64 kind, .int .i64 len, .bool keep] 23 (0, 0)) := by rw [hW3]; exact blk_alloc HK2.out _
      have hS3 : W3.heap[w2.heap.size]? = some (.cells #[.slice A2 N2 c2, .slice AT tr.length cT, .int .i64 (n : Int), .bool false, .int .i64 er] 27 (0, 0)) := by rw [hW3]; exact blk_new w2 _
      have HB23 : Aside0 (Below w2.heap.size w2 W3) := ⟨by rw [hW3]; exact below_alloc (Below.refl _ _) _⟩
      have hz0 : W3.cell? ⟨w.heap.size, 0, none⟩ = some (.int .i64 kind) := (blk_cell hK3 0).trans rfl
      have hz1 : W3.cell? ⟨w.heap.size, 1, none⟩ = some (.int .i64 len) := (blk_cell hK3 1).trans rfl
      have hz2 : W3.cell? ⟨w.heap.size, 2, none⟩ = some (.bool keep) := (blk_cell hK3 2).trans rfl
      have hf0 := blk_frozen hK3 0
      have hf1 := blk_frozen hK3 1
      have hf2 := blk_frozen hK3 2
      have HB3 := Aside0.mk hB3
      have HK3 := Aside0.mk hK3
      have HS3 := Aside0.mk hS3
      clear hW3 hB3 hK3 hS3
      go_wp2_with (rewrite [← HW3.out])
      refine (HAs.out _).mono ?_
      rintro e w4 ⟨rfl, hb4⟩
      have HB4 := Aside0.mk (below_step HB3.out hb4)
      have HB34 := Aside0.mk hb4
      have HK4 := Aside0.mk (blk_below HK3.out hb4)
      have HS4 := Aside0.mk (blk_below HS3.out hb4)
      have gz0 : w4.cell? ⟨w.heap.size, 0, none⟩ = some (.int .i64 kind) := (blk_cell HK4.out 0).trans rfl
      have gz1 : w4.cell? ⟨w.heap.size, 1, none⟩ = some (.int .i64 len) := (blk_cell HK4.out 1).trans rfl
      have gz2 : w4.cell? ⟨w.heap.size, 2, none⟩ = some (.bool keep) := (blk_cell HK4.out 2).trans rfl
      have gf0 := blk_frozen HK4.out 0
      have gf1 := blk_frozen HK4.out 1
      have gf2 := blk_frozen HK4.out 2
      have gy3 : w4.cell? ⟨w2.heap.size, 3, none⟩ = some (.bool false) := (blk_cell HS4.out 3).trans rfl
      have gx3 := blk_frozen HS4.out 3
      clear hb4 hz0 hz1 hz2 hf0 hf1 hf2
      go_wp2_with fail
      refine (Bod.speaks_calls _).mono ?_
      rintro e w8 ⟨rfl, hb⟩
      have HB8 := Aside0.mk (below_step HB4.out hb)
      clear hb
      go_wp2
      go_ret
      exact ⟨rfl, HB8.out⟩
    case true =>
      obtain ⟨r, hr⟩ := HEx.out rfl
      have HNx := Aside0.mk (HNw.out rfl)
      rw [hr] at HNx
      clear HNw
      have HMx : Aside0 (BFine r → n ≤ b.length ∧ (feedB r (b.take n ++ more)).1.whole = true ∧ (feedB r (b.take n ++ more)).1.wrong = 0 ∧ (feedB r (b.take n ++ more)).2.1 = out ∧ (feedB r (b.take n ++ more)).2.2 = n) := ⟨fun hf => HMo.out rfl r hr hf rfl⟩
      have HNr := Aside0.mk hr
      clear HMo HEx
      clear hr
      go_enter Tryd.func3, Tryd.ntmps3
      go_wp2_with fail
      with_reducible refine (HA.out _ (by repeat (first | exact below_alloc (Below.refl _ _) _ | apply below_drew1 | apply pw_below_drewN))).mono ?_
      rintro e w2 ⟨vO, vT, rfl, hO, hT, hb⟩
      obtain ⟨A2, c2, e2, hc2, hC2⟩ := Kd.R_reads hO
      subst e2
      obtain ⟨AT, cT, eT, hcT, hCT⟩ := Kd.R_reads hT
      subst eT
      have HC2 := Aside0.mk hC2
      have HB2 := Aside0.mk (below_step (below_alloc (Below.refl w.heap.size w) (.cells #[.int .i64 kind, .int .i64 len, .bool keep] 23)) hb)
      have HK2 := Aside0.mk (blk_below (blk_new w (.cells #[.int .i64 kind, .int .i64 len, .bool keep] 23)) hb)
      clear hb hO hT hc2 hC2 hcT hCT
      obtain ⟨N2, hN2⟩ : ∃ N2, N2 = out.length := ⟨_, rfl⟩
      have HN2 := Aside0.mk hN2
      rw [← hN2] at HC2 ⊢
      clear hN2
      obtain ⟨W3, hW3⟩ : ∃ W3, W3 = w2.alloc (.cells #[.slice A2 N2 c2, .slice AT tr.length cT, .int .i64 (n : Int), .bool true, .int .i64 er] 27) := ⟨_, rfl⟩
      have HW3 := Aside0.mk hW3
      have hB3 : Below w.heap.size w W3 := by rw [hW3]; exact below_alloc HB2.out _
      have hK3 : W3.heap[w.heap.size]? = some (.cells #[.int .i64 kind, .int .i64 len, .bool keep] 23 (0, 0)) := by rw [hW3]; exact blk_alloc HK2.out _
      have hS3 : W3.heap[w2.heap.size]? = some (.cells #[.slice A2 N2 c2, .slice AT tr.length cT, .int .i64 (n : Int), .bool true, .int .i64 er] 27 (0, 0)) := by rw [hW3]; exact blk_new w2 _
      have HB23 : Aside0 (Below w2.heap.size w2 W3) := ⟨by rw [hW3]; exact below_alloc (Below.refl _ _) _⟩
      have hz0 : W3.cell? ⟨w.heap.size, 0, none⟩ = some (.int .i64 kind) := (blk_cell hK3 0).trans rfl
      have hz1 : W3.cell? ⟨w.heap.size, 1, none⟩ = some (.int .i64 len) := (blk_cell hK3 1).trans rfl
      have hz2 : W3.cell? ⟨w.heap.size, 2, none⟩ = some (.bool keep) := (blk_cell hK3 2).trans rfl
      have hf0 := blk_frozen hK3 0
      have hf1 := blk_frozen hK3 1
      have hf2 := blk_frozen hK3 2
      have HB3 := Aside0.mk hB3
      have HK3 := Aside0.mk hK3
      have HS3 := Aside0.mk hS3
      clear hW3 hB3 hK3 hS3
      go_wp2_with (rewrite [← HW3.out])
      refine (HAs.out _).mono ?_
      rintro e w4 ⟨rfl, hb4⟩
      have HB4 := Aside0.mk (below_step HB3.out hb4)
      have HB34 := Aside0.mk hb4
      have HK4 := Aside0.mk (blk_below HK3.out hb4)
      have HS4 := Aside0.mk (blk_below HS3.out hb4)
      have gz0 : w4.cell? ⟨w.heap.size, 0, none⟩ = some (.int .i64 kind) := (blk_cell HK4.out 0).trans rfl
      have gz1 : w4.cell? ⟨w.heap.size, 1, none⟩ = some (.int .i64 len) := (blk_cell HK4.out 1).trans rfl
      have gz2 : w4.cell? ⟨w.heap.size, 2, none⟩ = some (.bool keep) := (blk_cell HK4.out 2).trans rfl
      have gf0 := blk_frozen HK4.out 0
      have gf1 := blk_frozen HK4.out 1
      have gf2 := blk_frozen HK4.out 2
      have gy3 : w4.cell? ⟨w2.heap.size, 3, none⟩ = some (.bool true) := (blk_cell HS4.out 3).trans rfl
      have gx3 := blk_frozen HS4.out 3
      clear hb4 hz0 hz1 hz2 hf0 hf1 hf2
      go_wp2_with fail
      refine (HNx.out _).mono ?_
      rintro e w5 ⟨hb5, p, rfl, hR5⟩
      obtain ⟨hn, hMw, hMr, hMo, hMn⟩ := HMx.out hR5.fine
      rw [← HL.out] at hn
      have HU := Aside0.mk hR5
      have HB35 := Aside0.mk (below_step HB34.out hb5)
      have HB5 := Aside0.mk (below_step HB4.out hb5)
      have HC05 := Aside0.mk (Bod.C_take (Kd.C_below HC0.out HB5.out) n hn)
      have HC15 := Aside0.mk (Kd.C_below HC1.out HB5.out)
      have HTn : Aside0 ((b.take n).length = n) := ⟨by rw [List.length_take, ← HL.out]; omega⟩
      have HS5 := blk_below HS4.out hb5
      have kz2 : w5.cell? ⟨w2.heap.size, 2, none⟩ = some (.int .i64 (n : Int)) := (blk_cell HS5 2).trans rfl
      have kf2 := blk_frozen HS5 2
      have hnc : n ≤ c0 := Nat.le_trans hn hc0
      clear hR5 hb5 gz0 gz1 gz2 gf0 gf1 gf2 gy3 gx3 HS5
      go_wp2_with (first
        | ((with_reducible refine gate_builtin (b := .append) (xs := #[.tmp 38, .tmp 42]) rfl ?_); at_builtin; go_loud (refine Kd.R_append_row (Value.int .u8) 0 (h1 := fun _ => rfl) (w0 := w5) w5.heap.size rfl (.tmp 38) (.tmp 42) 24 5 (.int .u8 0) 1 rfl Tryd.underlying24 info_u8 rfl (by decide) (.slice none 0 0) [] (b.take n) A0 n c0 (fun k => w5.heap.size ≤ k) rfl (by first | rfl | (simp; done)) (fun k hk => hk) (Kd.R_nil _ _ _ _ _) HC05.out (by repeat (first | exact Below.refl _ _ | apply below_drew1 | apply pw_below_drewN)) (Nat.le_refl _) (by have h7 : ([] : List Int).length = 0 := rfl; rw [h7]; omega) ?_; intro v6 w6 hR6 hb6 hg6 hat6; rw [List.nil_append] at hR6; obtain ⟨A6, c6, e6, hc6, hC6⟩ := Kd.R_reads hR6; rw [HTn.out] at e6; subst e6; have HR6 := Aside0.mk hR6; have HB6 := Aside0.mk hb6; have HC16 := Aside0.mk (Kd.C_below HC15.out hb6); clear hc6 hC6 hR6 hb6 hg6 hat6))
        | ((with_reducible refine gate_builtin (b := .append) (xs := #[.tmp 44, .tmp 45]) rfl ?_); at_builtin; go_loud (refine Kd.R_append_row (Value.int .u8) 0 (h1 := fun _ => rfl) (w0 := w5) w5.heap.size rfl (.tmp 44) (.tmp 45) 24 5 (.int .u8 0) 1 rfl Tryd.underlying24 info_u8 rfl (by decide) (.slice A6 n c6) (b.take n) more A1 M c1 (fun k => w5.heap.size ≤ k) rfl rfl (fun k hk => Nat.le_trans HB6.out.size hk) HR6.out HC16.out HB6.out HB6.out.size (by have h7 := HTl.out; have h8 := HM.out; have h9 := HTn.out; have h10 := HL.out; omega) ?_; intro v7 w7 hR7 hb7 hg7 hat7; obtain ⟨A7, c7, e7, hc7, hC7⟩ := Kd.R_reads hR7; obtain ⟨T7, hT7⟩ : ∃ T7, T7 = (b.take n ++ more).length := ⟨_, rfl⟩; rw [← hT7] at e7 hc7; subst e7; have HR7 := Aside0.mk hR7; have HT7 := Aside0.mk hT7; have Hc7 := Aside0.mk hc7; have HB7 := Aside0.mk hb7; clear hc7 hC7 hR7 hb7 hg7 hat7 hT7)))
      have HB37 := Aside0.mk (below_step HB35.out HB7.out)
      have HB07 := Aside0.mk (below_step HB5.out HB7.out)
      have HTt : Aside0 ((b.take n ++ more).length ≤ 1800000000) := ⟨by rw [List.length_append, HTn.out]; have h7 := HTl.out; have h8 := HM.out; have h10 := HL.out; omega⟩
      have hr0 := newB_zero HNr.out
      have h9 := feedB_calls w w7 (fun k => w4.heap.size ≤ k ∧ k < w5.heap.size) p r A7 c7 (b.take n ++ more) (HU.out.below HB7.out) ⟨HG.out, HB07.out, fun k hk => Nat.le_trans HB4.out.size hk.1⟩ (by rw [hr0.2.2]; have := HTt.out; omega) (by rw [hr0.2.1, hr0.2.2]; have := HTt.out; omega) (by rw [← HT7.out]; exact Hc7.out) (fun W' hs => by
        obtain ⟨A', c', e', _, hC'⟩ := Kd.R_reads (Kd.R_step HR7.out (fun k hk hl => hs.block k hl (fun h5 => by have := h5.2; omega)))
        injection e' with e1 _ e2
        subst e1
        exact hC')
      rw [← HT7.out] at h9
      refine h9.mono ?_
      rintro e w8 ⟨v8, he, ⟨F8, G8, hU8, hR8, hF8, hG8⟩, hs8⟩
      clear h9 hr0
      rw [hMn, hMw, hMr] at he
      subst he
      rw [hMo] at hR8
      obtain ⟨A8, c8, e8, hc8, hC8⟩ := Kd.R_reads hR8
      rw [← HN2.out] at e8 hC8
      subst e8
      have HB38 := Aside0.mk (hs8.out HB37.out (fun k hk => Nat.le_trans HB34.out.size hk.1) HB37.out.size)
      have HB08 := Aside0.mk (hs8.out HB07.out (fun k hk => Nat.le_trans HB4.out.size hk.1) HB07.out.size)
      have HS8 := blk_below HS3.out HB38.out
      have kz0 : w8.cell? ⟨w2.heap.size, 0, none⟩ = some (.slice A2 N2 c2) := (blk_cell HS8 0).trans rfl
      have kf0 := blk_frozen HS8 0
      have kz22 : w8.cell? ⟨w2.heap.size, 2, none⟩ = some (.int .i64 (n : Int)) := (blk_cell HS8 2).trans rfl
      have kf22 := blk_frozen HS8 2
      have hcv1 : (convert 24 9 (.slice A8 N2 c8)).run Tryd.prog w8 = Result.ok (.string (strOfNums out)) w8 := Kd.C_string Tryd.underlying24 Tryd.underlying5 Tryd.underlying9 hC8
      have hcv2 : (convert 24 9 (.slice A2 N2 c2)).run Tryd.prog w8 = Result.ok (.string (strOfNums out)) w8 := Kd.C_string Tryd.underlying24 Tryd.underlying5 Tryd.underlying9 (Kd.C_below HC2.out (below_step HB23.out HB38.out))
      clear hU8 hR8 hF8 hG8 hs8 hc8 hC8 HS8 hMn hMo hMw hMr
      generalize strOfNums out = sP at *
      go_wp2_with fail
      refine (Bod.speaks_calls _).mono ?_
      rintro e w10 ⟨rfl, hb⟩
      have HB10 := Aside0.mk (below_step (by repeat (first | exact HB08.out | apply below_alloc | apply below_drew1 | apply pw_below_drewN)) hb)
      clear hb
      go_wp2
      go_ret
      exact ⟨rfl, HB10.out⟩
end Go.Proofs.YtcfmihghgecefaaDoor.Bod
namespace Go.Proofs.YtcfmihghgecefaaDoor.P
open Go.RowKit Go.Proofs.YtcfmihghgecefaaDoorW.PrintWords Go.Proofs.YtcfmihghgecefaaDoorW.PrintLast Chk Px
set_option linter.unusedVariables false
def headracelaw11_BodyBehind.f (k : Nat) (a0 a1 : Int) (a2 : Bool) (l0 l1 : List Int) : Option Bool := if l0.length ≤ 1048576 ∧ l1.length ≤ 1048576 then some true else none
theorem headracelaw11_BodyBehind.calls (k : Nat) (a0 a1 : Int) (a2 : Bool) (A0 : Option Addr) (c0 : Nat) (l0 : List Int) (A1 : Option Addr) (c1 : Nat) (l1 : List Int) (r : Bool) (w : World) (hr0 : Kd.C (Kd.int .u8) w A0 l0.length l0) (hc0 : l0.length ≤ c0) (hr1 : Kd.C (Kd.int .u8) w A1 l1.length l1) (hc1 : l1.length ≤ c1) (h : headracelaw11_BodyBehind.f k a0 a1 a2 l0 l1 = some r) (hG_ : GInv w) :
    Calls Tryd.prog 3 #[.agg #[.int .i64 a0, .int .i64 a1, .bool a2], .slice A0 l0.length c0, .slice A1 l1.length c1] w fun e w' => e = .returned (.bool r) ∧ Below w.heap.size w w' := by
  unfold headracelaw11_BodyBehind.f at h
  split at h
  · rename_i hb
    obtain rfl := Option.some.inj h
    exact Bod.behind_calls a0 a1 a2 A0 c0 l0 A1 c1 l1 w hr0 hc0 hr1 hc1 (by have := hb.1; omega) (by have := hb.2; omega) hG_
  · cases h
end Go.Proofs.YtcfmihghgecefaaDoor.P
namespace Go.Proofs.YtcfmihghgecefaaDoor.Px
theorem pure_BodyBehind (a0 a1 : Int) (a2 : Bool) (l r : List Int) (_ : (Go.Lit.int .i64 a0).wf = true) (_ : (Go.Lit.int .i64 a1).wf = true) (h1 : l.length ≤ 1048576) (_ : ∀ x ∈ l, (Go.Lit.int .u8 x).wf = true) (h2 : r.length ≤ 1048576) (_ : ∀ x ∈ r, (Go.Lit.int .u8 x).wf = true) : ∃ k, P.headracelaw11_BodyBehind.f k a0 a1 a2 l r = some true := ⟨0, by unfold P.headracelaw11_BodyBehind.f; rw [if_pos ⟨h1, h2⟩]⟩
end Go.Proofs.YtcfmihghgecefaaDoor.Px
