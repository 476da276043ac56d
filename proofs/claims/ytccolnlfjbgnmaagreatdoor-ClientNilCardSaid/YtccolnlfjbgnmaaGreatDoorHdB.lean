/- Package head: are two heads the same; a head's text, plainly; own text of this session. -/
import Derived.Test.YtccolnlfjbgnmaaGreatDoorHdA
namespace Go.Proofs.YtccolnlfjbgnmaaGreatDoor.Hd
open Go.RowKit Go.Proofs.YtccolnlfjbgnmaaGreatDoorW.PrintWords Go.Proofs.YtccolnlfjbgnmaaGreatDoorW.PrintLast Chk Px Hr
set_option linter.unusedVariables false
set_option linter.unusedSimpArgs false
theorem ba_eq {a b : ByteArray} (h : a.data.toList = b.data.toList) : a = b := by rw [← mkB_of a, ← mkB_of b, h]
theorem ev_plainF_l0 (l : List Fld) (hl : l.length ≤ 4611686018427387904) (r : List Fld) : ∀ i : Nat, l.drop i = r → Ev (fun k => P.headraceplain_Fields.l0 k l l (l.length : Int) (i : Int)) true := by
  induction r with
  | nil =>
    intro i hi
    have := drop_nil hi
    refine Ev.step (fun k => rfl) ?_
    simp only [P.headraceplain_Fields.l0, if_neg (show ¬ (i : Int) < (l.length : Int) by omega)]
    exact Ev.now _
  | cons x r ih =>
    intro i hi
    have hlt := drop_lt hi
    refine Ev.step (fun k => rfl) ?_
    simp only [P.headraceplain_Fields.l0, if_pos (show (i : Int) < (l.length : Int) by omega), if_pos (show 0 ≤ (i : Int) by omega), rd_fld hi, w64 (show i < 9223372036854775807 by omega), beq_self_eq_true, Bool.not_true, Bool.or_self, Bool.false_eq_true, if_false]
    exact ih (i + 1) (drop_succ hi)
/-- headraceplain.Head of one head twice. -/
theorem plain_same (a : Head) (A B : Option Addr) (c d : Nat) (w : World) (hb : a.f6.length ≤ 4611686018427387904) (h0 : Kd.C P.k37 w A a.f6.length a.f6) (hc : a.f6.length ≤ c) (h1 : Kd.C P.k37 w B a.f6.length a.f6) (hd : a.f6.length ≤ d) :
    Calls Tryz.prog 19 #[hdV a (.slice A a.f6.length c), hdV a (.slice B a.f6.length d)] w fun e w' => e = .returned (.bool true) ∧ Below w.heap.size w w' := by
  have hv : Ev (fun k => P.headraceplain_Head.f k a.f0 a.f1 a.f2 a.f3 a.f4 a.f5 a.f6 a.f0 a.f1 a.f2 a.f3 a.f4 a.f5 a.f6) true := by
    unfold P.headraceplain_Head.f
    simp only [beq_self_eq_true, if_true]
    refine Ev.bind (r := true) ?_ (Ev.now _)
    unfold P.headraceplain_Fields.f
    simp only [if_true]
    exact ev_plainF_l0 a.f6 hb a.f6 0 rfl
  obtain ⟨k, hk⟩ := hv.rounds
  exact P.headraceplain_Head.calls k _ _ _ _ _ _ A c _ _ _ _ _ _ _ B d _ _ w h0 hc h1 hd hk
end Go.Proofs.YtccolnlfjbgnmaaGreatDoor.Hd
