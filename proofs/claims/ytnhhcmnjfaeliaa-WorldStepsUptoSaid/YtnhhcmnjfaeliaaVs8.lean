/- The reference's world with any connections: Write; own text of this session. -/
import Derived.Test.YtnhhcmnjfaeliaaVsB
import Derived.Deep.CutRange
namespace Go.Proofs.Ytnhhcmnjfaeliaa.Vm
open Wld hiding St Ft Next cellsQ cellsP ReadPost ptrE ptrE_none ptrE_some law zeroP Key key_of info_u8 info_int ne_t ne_blk ne_map grown_below
open Go.RowKit Go.Proofs.YtnhhcmnjfaeliaaW.PrintWords Go.Proofs.YtnhhcmnjfaeliaaW.PrintLast Go.Maps
set_option linter.unusedVariables false
set_option linter.unusedSimpArgs false
section
variable {P : Program} {ops : Array Oper} {o : Oper} {a : Act} {Q : Exit → Act → World → Prop} {Kc : Act → World → Prop}
/-- append of one number, just built, as one step of a region that draws its order. -/
theorem step_append_one {k : IntKind} {t e : TypeId} {bytes : Nat} {W : World} {u : Int} (hw : Region.wanted o (yielded ops a.tmps) = true) (s x : Operand)
    (ho : o.op = .call { callee := .builtin .append, args := #[s, x], argTypes := #[t, t] })
    (ht : P.underlying t = some (.slice e)) (hinfo : (P.info? e).map (fun i => (i.zero, i.size, i.bytes)) = some (some (.int k 0), 1, bytes)) (hb0 : 0 < bytes)
    (v : Value) (xs : List Int) (hs : a.eval s = v) (hx : a.eval x = .slice (some ⟨W.heap.size, 0, none⟩) 1 1)
    (h : Row k e W v xs) (hl : (xs.length + 1) * bytes ≤ 140737488355328)
    (hK : ∀ v1 w1, Row k e w1 v1 (xs ++ [u]) → W.grownBy w1 v.ownBlock → (v1.ownBlock = v.ownBlock ∨ ∃ i, v1.ownBlock = some i ∧ W.heap.size ≤ i) → Kc (a.put o.dst v1) w1) :
    if Region.wanted o (yielded ops a.tmps) = true then Oper.wp P o a (W.alloc (.cells #[.int k u] e)) Kc Q else Kc (a.put o.dst undef) (W.alloc (.cells #[.int k u] e)) :=
  step_append_row (b := [u]) hw s x ho ht hinfo hb0 v xs (some ⟨W.heap.size, 0, none⟩) 1 1 hs hx (h.below (below_alloc (Below.refl _ _) _)) (C_blk (xs := [u]) (blk_new W (.cells #[.int k u] e)) (fun i hi => by match i, hi with | 0, _ => rfl) (by simp)) rfl hl
    (fun v1 w1 hR hg hat => hK v1 w1 hR (World.grownBy.trans (World.grownBy_alloc W _ _) hg) (hat.imp id (fun ⟨i, e, hi⟩ => ⟨i, e, Nat.le_trans (below_alloc (Below.refl W.heap.size W) _).size hi⟩)))
end
section
variable {w w1 w2 : World} {x n cap : Nat} {vL vD : Value} {L A B : List Rc} {y : Rc} {ds : List Int} {ad : Addr} {c : Int}
set_option maxRecDepth 100000 in
theorem rwrite_no (h : RW w x vL vD L ds) (hno : NoC L c) (hl : L.length ≤ 1000000000) (v : Value) :
    Calls Try.prog 28 #[.pointer (some ⟨x, 0, none⟩), .int .i64 c, v] w fun e w' => e = .returned (.tuple #[.int .i64 0, .int .i64 6]) ∧ Below w.heap.size w w' := by
  have HF := Aside0.mk (rat_no h hno hl)
  clear h hno hl
  go_enter Try.func28, Try.ntmps28
  go_wp2_with (go_at_call 8; refine HF.out.mono ?_; rintro e w1 ⟨rfl, hb⟩; have HB := Aside0.mk hb; clear hb)
  first | go_ret2 | go_ret
  exact ⟨rfl, by repeat (first | exact HB.out | apply below_drew1 | apply pw_below_drewN)⟩
/-- While bytes are written. -/
def WrI (w wr : World) (x n cap : Nat) (ad : Addr) (vD : Value) (A B : List Rc) (y : Rc) (ds b : List Int) (kk : Nat) (v : Value) : Prop :=
  RW wr x (.slice (some ad) n cap) vD (A ++ { y with vs := v, ss := y.ss ++ b.take kk, room := y.room - kk } :: B) ds ∧
  (∀ k, RFt x (.slice (some ad) n cap) vD (A ++ { y with vs := v, ss := y.ss ++ b.take kk, room := y.room - kk } :: B) k → RFt x (.slice (some ad) n cap) vD (A ++ y :: B) k ∨ w.heap.size ≤ k) ∧
  Stay (RFt x (.slice (some ad) n cap) vD (A ++ y :: B)) w wr
theorem WrI.low {w wr wr2 : World} {b : List Int} {kk : Nat} {v : Value} (h : WrI w wr x n cap ad vD A B y ds b kk v) (hb : Below wr.heap.size wr wr2) : WrI w wr2 x n cap ad vD A B y ds b kk v :=
  ⟨h.1.below hb, h.2.1, stay_low h.2.2 hb⟩
/-- One byte more. -/
def WrJ (w wr : World) (x n cap : Nat) (ad : Addr) (vD : Value) (A B : List Rc) (y : Rc) (ds b : List Int) (kk : Nat) (u : Int) (v : Value) : Prop :=
  RW wr x (.slice (some ad) n cap) vD (A ++ { y with vs := v, ss := y.ss ++ b.take kk ++ [u], room := y.room - kk } :: B) ds ∧
  (∀ k, RFt x (.slice (some ad) n cap) vD (A ++ { y with vs := v, ss := y.ss ++ b.take kk ++ [u], room := y.room - kk } :: B) k → RFt x (.slice (some ad) n cap) vD (A ++ y :: B) k ∨ w.heap.size ≤ k) ∧
  Stay (RFt x (.slice (some ad) n cap) vD (A ++ y :: B)) w wr
theorem WrJ.mk' {w wr w3 : World} {b : List Int} {kk : Nat} {u : Int} {v v1 : Value} (h : RW w x (.slice (some ad) n cap) vD (A ++ y :: B) ds) (hW : WrI w wr x n cap ad vD A B y ds b kk v)
    (h1 : RW w3 x (.slice (some ad) n cap) vD (A ++ { y with vs := v1, ss := y.ss ++ b.take kk ++ [u], room := y.room - kk } :: B) ds)
    (hft : ∀ k, RFt x (.slice (some ad) n cap) vD (A ++ { y with vs := v1, ss := y.ss ++ b.take kk ++ [u], room := y.room - kk } :: B) k → RFt x (.slice (some ad) n cap) vD (A ++ { y with vs := v, ss := y.ss ++ b.take kk, room := y.room - kk } :: B) k ∨ wr.drew.heap.size ≤ k)
    (hsy : Stay (RFt x (.slice (some ad) n cap) vD (A ++ { y with vs := v, ss := y.ss ++ b.take kk, room := y.room - kk } :: B)) wr.drew w3) : WrJ w w3 x n cap ad vD A B y ds b kk u v1 := by
  have hs : Stay (RFt x (.slice (some ad) n cap) vD (A ++ y :: B)) w wr.drew := stay_low hW.2.2 (below_drew (Below.refl _ _))
  refine ⟨h1, fun k hk => ?_, hs.trans hsy hW.2.1⟩
  rcases hft k hk with h5 | h5
  · exact hW.2.1 k h5
  · exact .inr (Nat.le_trans hs.size h5)
theorem WrJ.fin {w wr : World} {b : List Int} {kk i j : Nat} {u : Int} {v u2 : Value} (h : RW w x (.slice (some ad) n cap) vD (A ++ y :: B) ds) (hJ : WrJ w wr x n cap ad vD A B y ds b kk u v)
    (h1 : RW (wr.setCell ⟨(ad.add i).block, j, none⟩ u2) x (.slice (some ad) n cap) vD (A ++ { y with vs := v, ss := y.ss ++ b.take (kk + 1), room := y.room - ((kk + 1 : Nat) : Int) } :: B) ds) : WrI w (wr.setCell ⟨(ad.add i).block, j, none⟩ u2) x n cap ad vD A B y ds b (kk + 1) v :=
  ⟨h1, fun k hk => hJ.2.1 k (RFt.flag (y := { y with vs := v, ss := y.ss ++ b.take kk ++ [u], room := y.room - kk }) (y' := { y with vs := v, ss := y.ss ++ b.take (kk + 1), room := y.room - ((kk + 1 : Nat) : Int) }) rfl rfl k hk), stay_cell h (add_block _ _) hJ.2.2 _⟩
set_option maxHeartbeats 8000000 in
set_option maxRecDepth 100000 in
theorem rwrite_yes (h : RW w x vL vD (A ++ y :: B) ds) (hyc : y.c = c) (ho : y.op = true) (hl : (A ++ y :: B).length ≤ 1000000000) (Ab : Option Addr) (N cb : Nat) (b : List Int) (hN : N = b.length) (hcb : N ≤ cb)
    (hb : ∀ w', Stay (RFt x vL vD (A ++ y :: B)) w w' → (Kd.int .u8).C w' Ab b.length b) (m : Nat) (hm : (m : Int) = min (b.length : Int) y.room) (hr0 : 0 ≤ y.room) (hr1 : y.room ≤ 1048576) (hlg : y.ss.length + m ≤ 100000000) :
    Calls Try.prog 28 #[.pointer (some ⟨x, 0, none⟩), .int .i64 c, .slice Ab N cb] w fun e w' => e = .returned (.tuple #[.int .i64 (m : Int), .int .i64 0]) ∧ ∃ v1, RNext w x vL vD (A ++ y :: B) ds (A ++ { y with vs := v1, ss := y.ss ++ b.take m, room := y.room - m } :: B) ds w' := by
  have HF := Aside0.mk (rat_yes h hyc ho hl)
  obtain ⟨ad, cap, rfl, hadd, _⟩ := h.conn
  have H := Aside0.mk h
  have hi : A.length < (A ++ y :: B).length := by rw [List.length_append, List.length_cons]; omega
  obtain ⟨n, hn⟩ : ∃ n, n = (A ++ y :: B).length := ⟨_, rfl⟩
  rw [← hn] at H hi hl hb ⊢
  obtain ⟨i, hi2⟩ : ∃ i, i = A.length := ⟨_, rfl⟩
  have HI := Aside0.mk hi2
  rw [← hi2] at HF hi
  have hiz : (i : Int) < (n : Int) := by omega
  have hi0 : ¬ ((i : Int) < 0) := by omega
  rw [← hN] at hm
  have hm2 : m ≤ 1048576 := by omega
  have HB0 := Aside0.mk hb
  have HN := Aside0.mk hN
  have HL := Aside0.mk hlg
  have HM := Aside0.mk hm
  have HR0 := Aside0.mk hr0
  have HR1 := Aside0.mk hr1
  clear h hyc ho hadd hn hi2 hb hN hlg hm hr0 hr1
  go_enter Try.func28, Try.ntmps28
  go_wp2_with (go_at_call 8; refine HF.out.mono ?_; rintro e w1 ⟨rfl, hb⟩; have HB := Aside0.mk hb; clear hb)
  go_loopw [9] (fun x9 wr => ∃ (kk : Nat) (v : Value), kk ≤ m ∧ x9 = .int .i64 kk ∧ Aside0 (WrI w wr x n cap ad vD A B y ds b kk v)) (fun v9 _ => m - (intOf v9).toNat)
  case atStart => exact ⟨0, y.vs, Nat.zero_le _, rfl, ⟨by
    have e : ({ y with vs := y.vs, ss := y.ss ++ b.take 0, room := y.room - ((0 : Nat) : Int) } : Rc) = y := by simp
    unfold WrI
    rw [e]
    exact ⟨H.out.below HB.out, fun k hk => .inl hk, Stay.below HB.out⟩⟩⟩
  case round =>
    obtain ⟨kk, v, hkk, rfl, HW⟩ := hrel
    have hz0 : wr.cell? ⟨x, 0, none⟩ = some (.slice (some ad) n cap) := (blk_cell HW.out.1.blk 0).trans rfl
    have hz5 := HW.out.1.cellAt 5 _ rfl
    have hz4 := HW.out.1.cellAt 4 _ rfl
    rw [← HI.out] at hz5 hz4
    obtain ⟨As, cs, ev, _⟩ := (HW.out.1.rs _ (List.mem_append_right _ List.mem_cons_self)).slice
    obtain ⟨S, hS⟩ : ∃ S, S = (y.ss ++ b.take kk).length := ⟨_, rfl⟩
    have HSl := Aside0.mk hS
    replace ev : v = .slice As S cs := by rw [hS]; exact ev
    subst ev
    obtain ⟨rm, hrm⟩ : ∃ rm, rm = y.room := ⟨_, rfl⟩
    have HRm := Aside0.mk hrm
    replace hz5 : wr.cell? ⟨(ad.add (i * 6)).block, (ad.add (i * 6)).off + 5, none⟩ = some (.int .i64 (rm - (kk : Int))) := by rw [hrm]; exact hz5
    replace hz4 : wr.cell? ⟨(ad.add (i * 6)).block, (ad.add (i * 6)).off + 4, none⟩ = some (.slice As S cs) := hz4
    clear hS hrm
    by_cases hlt : kk < m
    · have hkN : (kk : Int) < (N : Int) := by have := HM.out; omega
      have hkr : 0 < rm - (kk : Int) := by have := HM.out; have := HRm.out; omega
      obtain ⟨adb, eAb, hzb⟩ : ∃ adb, Ab = some adb ∧ wr.cell? (adb.add kk) = some (.int .u8 (b.getD kk 0)) := by
        have hrd := Kd.reads_of_C (enc := Value.int .u8) (d := (0 : Int)) (h1 := fun _ => rfl) (HB0.out wr HW.out.2.2)
        obtain ⟨adb, e, hcell⟩ := hrd.2.2 (by have := HN.out; omega)
        exact ⟨adb, e, hcell kk (by have := HN.out; omega)⟩
      subst eAb
      have HS := Aside0.mk (take_snoc' (xs := b) (k := kk) (by have := HN.out; omega))
      obtain ⟨u, hu⟩ : ∃ u, u = b.getD kk 0 := ⟨_, rfl⟩
      rw [← hu] at hzb HS
      have hza : ∀ o, (wr.alloc o).cell? ⟨x, 0, none⟩ = some (.slice (some ad) n cap) := fun o => (Below.cell (below_alloc (Below.refl _ _) o) (World.block_lt_of_cell? wr _ hz0)).trans hz0
      have hza4 : ∀ o, (wr.alloc o).cell? ⟨(ad.add (i * 6)).block, (ad.add (i * 6)).off + 4, none⟩ = some (.slice As S cs) := fun o => (Below.cell (below_alloc (Below.refl _ _) o) (World.block_lt_of_cell? wr _ hz4)).trans hz4
      have e5 : IntKind.i64.wrap (rm - (kk : Int) - 1) = rm - (kk : Int) - 1 := IntWalk.i64_in _ (by have := HRm.out; have := HR1.out; omega)
      clear hu
      go_wp2
      go_cut [] from 15 to 68 (fun wc => ∃ v1, Aside0 (WrJ w wc x n cap ad vD A B y ds b kk u v1))
      case first =>
        go_region_law (refine step_append_one (W := wr.drew) (bytes := 1) (by rfl) (.tmp 42) (.tmp 47) rfl Try.underlying30 info_u8 (by decide) (.slice As S cs) (y.ss ++ b.take kk) rfl rfl (HW.out.1.drew.rs _ (List.mem_append_right _ List.mem_cons_self)) (by rw [← HSl.out]; have h5 := HSl.out; have h6 := HL.out; rw [List.length_append, List.length_take] at h5; omega) ?_; intro v1 w2 hR hg hat; obtain ⟨A1, c1, e1', _⟩ := hR.slice; obtain ⟨N1, hN1⟩ : ∃ N, N = (y.ss ++ b.take kk ++ [u]).length := ⟨_, rfl⟩; rw [← hN1] at e1'; clear hN1; obtain ⟨hst, hft, hsy⟩ := HW.out.1.drew.toS hg hR hat; obtain ⟨hx0, hxc⟩ := HW.out.1.drew.after (fun k hk => .inr hk) hg; have hy4 := hxc 4 _ rfl; rw [← HI.out] at hy4; replace hy4 : w2.cell? ⟨(ad.add (i * 6)).block, (ad.add (i * 6)).off + 4, none⟩ = some (.slice As S cs) := hy4; rw [← HI.out] at hst hsy; have HSt := Aside0.mk hst.1; have hf4 := hst.2; have HFt := Aside0.mk hft; have HSy := Aside0.mk hsy; clear hR hg hat hst hft hsy hxc; subst e1')
        all_goals
          go_wp2
          go_meet
          case rel => exact ⟨_, ⟨WrJ.mk' H.out HW.out HSt.out HFt.out HSy.out⟩⟩
      case rest =>
        obtain ⟨v1, HJ⟩ := hcut
        obtain ⟨A1, c1, ev, _⟩ := (HJ.out.1.rs _ (List.mem_append_right _ List.mem_cons_self)).slice
        replace ev : v1 = .slice A1 (y.ss ++ b.take kk ++ [u]).length c1 := ev
        obtain ⟨N1, hN1⟩ : ∃ N, N = (y.ss ++ b.take kk ++ [u]).length := ⟨_, rfl⟩
        rw [← hN1] at ev
        subst ev
        have hk0 : wc.cell? ⟨x, 0, none⟩ = some (.slice (some ad) n cap) := (blk_cell HJ.out.1.blk 0).trans rfl
        have hk5 := HJ.out.1.cellAt 5 _ rfl
        have hp := HJ.out.1.flag (y' := { y with vs := .slice A1 N1 c1, ss := y.ss ++ b.take kk ++ [u], room := rm - (kk : Int) - 1 }) rfl rfl rfl rfl rfl 5 (by decide) (.int .i64 (rm - (kk : Int) - 1)) rfl
        rw [← HI.out] at hk5 hp
        replace hk5 : wc.cell? ⟨(ad.add (i * 6)).block, (ad.add (i * 6)).off + 5, none⟩ = some (.int .i64 (rm - (kk : Int))) := by rw [HRm.out]; exact hk5
        have HP := Aside0.mk hp.1
        have hf5 := hp.2
        have HEq : Aside0 (({ y with vs := .slice A1 N1 c1, ss := y.ss ++ b.take kk ++ [u], room := rm - (kk : Int) - 1 } : Rc) = { y with vs := .slice A1 N1 c1, ss := y.ss ++ b.take (kk + 1), room := y.room - ((kk + 1 : Nat) : Int) }) := ⟨by
          have h6 : rm - (kk : Int) - 1 = y.room - ((kk + 1 : Nat) : Int) := by rw [HRm.out]; omega
          rw [HS.out, h6, List.append_assoc]⟩
        clear hz0 hz5 hz4 hza hza4 hzb hp hN1
        go_wp2
        go_cut [] from 15 to 68 (fun wd => ∃ v1, Aside0 (WrI w wd x n cap ad vD A B y ds b (kk + 1) v1))
        case first =>
          go_region
          all_goals
            go_wp2
            go_meet
            case rel => exact ⟨_, ⟨WrI.low (WrJ.fin H.out HJ.out (by rw [← HEq.out]; exact HP.out)) (below_drew (Below.refl _ _))⟩⟩
        case rest =>
          obtain ⟨v2, HW2⟩ := hcut
          go_wp2
          go_roundw
          case rel => exact ⟨kk + 1, v2, by omega, by simp, HW2⟩
          case measure => simp [intOf]; omega
    · obtain rfl : kk = m := by omega
      have hend : ¬ ((kk : Int) < (N : Int) ∧ 0 < rm - (kk : Int)) := by have := HM.out; have := HRm.out; omega
      by_cases h1 : (kk : Int) < (N : Int)
      · have h2 : ¬ 0 < rm - (kk : Int) := fun h2 => hend ⟨h1, h2⟩
        clear hend
        go_wp2
        go_ret2
        exact ⟨rfl, _, _, _, HW.out.1, HW.out.2.1, HW.out.2.2⟩
      · clear hend
        go_wp2
        go_ret2
        exact ⟨rfl, _, _, _, HW.out.1, HW.out.2.1, HW.out.2.2⟩
end
end Go.Proofs.Ytnhhcmnjfaeliaa.Vm
