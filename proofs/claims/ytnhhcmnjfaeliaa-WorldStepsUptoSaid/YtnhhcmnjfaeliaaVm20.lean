/- WorldApart: steps in memory; the law's walk; own text of this session. -/
import Derived.Test.YtnhhcmnjfaeliaaVm19
namespace Go.Proofs.Ytnhhcmnjfaeliaa.Vm
open Wld hiding St Ft Next cellsQ cellsP ReadPost ptrE ptrE_none ptrE_some law zeroP Key key_of info_u8 info_int ne_t ne_blk ne_map grown_below
open Go.RowKit Go.Proofs.YtnhhcmnjfaeliaaW.PrintWords Go.Proofs.YtnhhcmnjfaeliaaW.PrintLast Go.Maps
set_option linter.unusedVariables false
set_option linter.unusedSimpArgs false
/-- A step. -/
structure Stp where
  k : Int
  c : Int
  n : Int
  b : List Int
def zStp : Stp := ⟨0, 0, 0, []⟩
def stpK : Kd Stp := Kd.iso (Kd.pair (Kd.int .i64) (Kd.pair (Kd.int .i64) (Kd.pair (Kd.int .i64) (Kd.slice 5 (Kd.int .u8))))) (fun x : Stp => (x.k, x.c, x.n, x.b))
theorem stpK_open {w : World} {x : Stp} {cs : List Value} (h : stpK.K w x cs) : ∃ A c, cs = [.int .i64 x.k, .int .i64 x.c, .int .i64 x.n, .slice A x.b.length c] ∧ x.b.length ≤ c ∧ (Kd.int .u8).C w A x.b.length x.b := by
  obtain ⟨_, _, rfl, rfl, ⟨_, _, rfl, rfl, ⟨_, _, rfl, rfl, ⟨A, c, rfl, l, g⟩⟩⟩⟩ := h
  exact ⟨A, c, rfl, l, g⟩
theorem at_stp {w : World} {A : Option Addr} {n : Nat} {xs : List Stp} (h : Kd.C stpK w A n xs) (i : Int) (h0 : 0 ≤ i) (h1 : i < n) : ∃ ad A3 c3, A = some ad ∧ w.cell? (ad.add (i.toNat * 4)) = some (.int .i64 (xs.getD i.toNat zStp).k) ∧ w.cell? ⟨(ad.add (i.toNat * 4)).block, (ad.add (i.toNat * 4)).off + 1, none⟩ = some (.int .i64 (xs.getD i.toNat zStp).c) ∧ w.cell? ⟨(ad.add (i.toNat * 4)).block, (ad.add (i.toNat * 4)).off + 2, none⟩ = some (.int .i64 (xs.getD i.toNat zStp).n) ∧ w.cell? ⟨(ad.add (i.toNat * 4)).block, (ad.add (i.toNat * 4)).off + 3, none⟩ = some (.slice A3 (xs.getD i.toNat zStp).b.length c3) ∧ (xs.getD i.toNat zStp).b.length ≤ c3 ∧ (Kd.int .u8).C w A3 (xs.getD i.toNat zStp).b.length (xs.getD i.toNat zStp).b := by
  obtain ⟨ad, c, e, _, hK, hc0⟩ := Kd.C_get h zStp i h0 h1
  have hc : ∀ j u, c[j]? = some u → w.cell? (ad.add (i.toNat * 4 + j)) = some u := hc0
  obtain ⟨A3, c3, rfl, l3, g3⟩ := stpK_open hK
  exact ⟨ad, A3, c3, e, hc 0 _ rfl, by rw [← add_field _ _ 1 (by omega)]; exact hc 1 _ rfl, by rw [← add_field _ _ 2 (by omega)]; exact hc 2 _ rfl, by rw [← add_field _ _ 3 (by omega)]; exact hc 3 _ rfl, l3, g3⟩
theorem wf1000 : (Key 1000).wf = true := by decide
/-- asks, of any step on another connection than the one that is looked at. -/
theorem look_asks {w0 w : World} {p bm i x : Nat} {ws ss : List Int} {room : Int} {K C N : Int} {A : Option Addr} {n cb : Nat} (h : Look w0 w p bm i 1000 ws ss room) (hK : K < 7) (hx : Emp w x) (hx0 : w0.heap.size ≤ x) (hc : (Key C).wf = true) (hne : C ≠ 1000) {b : List Int} (hn : n = b.length) (hcb : n ≤ cb) (hb : (Kd.int .u8).C w0 A b.length b) (hi : i ≤ 100000000) :
    Calls Try.prog 6 #[.pointer (some ⟨p, 0, none⟩), .pointer (some ⟨x, 0, none⟩), .agg #[.int .i64 K, .int .i64 C, .int .i64 N, .slice A n cb]] w fun e w' => ∃ b : Bool, e = .returned (.bool b) ∧ Look w0 w' p bm (i + 1) 1000 ws ss room := by
  obtain ⟨x0, sz, Dm, vd, L, hA, h1, r⟩ := h
  refine (asks_calls hK ⟨sz, Dm, vd, L, hA⟩ hx hx0 hc (by rw [h1]; exact hne) hn hcb hb hi).mono ?_
  rintro e w' ⟨b, rfl, sz', Dm', vd', L', hA'⟩
  exact ⟨b, rfl, x0, sz', Dm', vd', L', hA', h1, r⟩
end Go.Proofs.Ytnhhcmnjfaeliaa.Vm
