/- BodyExact: the walk; own text of this session. -/
import Derived.Test.YtnlicpihondmgaaDoorBod4
import Derived.Deep.QuietTactic
namespace Go.Proofs.YtnlicpihondmgaaDoor.P
open Go.RowKit Go.Proofs.YtnlicpihondmgaaDoorW.PrintWords Go.Proofs.YtnlicpihondmgaaDoorW.PrintLast Chk
set_option linter.unusedVariables false
set_option linter.unusedSimpArgs false
set_option maxHeartbeats 4000000 in
set_option maxRecDepth 100000 in
theorem headracelaw11_BodyExact.arg (length : Int) (v : Value) (w : World) (h : length < 0) :
    Calls Tryd.prog 9 #[.int .i64 length, v] w fun e w' => e = .returned (.bool true) ∧ Below w.heap.size w w' := by
    have hq : length < 0 := h
    go_enter Tryd.func9, Tryd.ntmps9
    go_wp2_with fail
    refine (Bod.newLen_arg length 100000 _ _ (.inl h)).mono ?_
    rintro e w1 ⟨rfl, hb1⟩
    have HB1 := Aside0.mk hb1
    clear hb1
    go_wp2_with fail
    refine (Bod.speaks_calls _).mono ?_
    rintro e w9 ⟨rfl, hb9⟩
    have HB9 := Aside0.mk (below_step (by repeat (first | exact HB1.out | apply below_drew1 | apply pw_below_drewN)) hb9)
    clear hb9
    go_wp2
    go_ret
    exact ⟨rfl, HB9.out⟩
set_option maxHeartbeats 4000000 in
set_option maxRecDepth 100000 in
theorem headracelaw11_BodyExact.long (length : Int) (v : Value) (w : World) (h : 100000 < length) (h2 : length ≤ 9007199254740992) :
    Calls Tryd.prog 9 #[.int .i64 length, v] w fun e w' => e = .returned (.bool true) ∧ Below w.heap.size w w' := by
    have hq : ¬ length < 0 := by omega
    go_enter Tryd.func9, Tryd.ntmps9
    go_wp2_with fail
    refine (Bod.newLen_long length 100000 _ _ (by decide) h h2).mono ?_
    rintro e w1 ⟨rfl, hb1⟩
    have HB1 := Aside0.mk hb1
    clear hb1
    go_wp2_with fail
    refine (Bod.speaks_calls _).mono ?_
    rintro e w9 ⟨rfl, hb9⟩
    have HB9 := Aside0.mk (below_step (by repeat (first | exact HB1.out | apply below_drew1 | apply pw_below_drewN)) hb9)
    clear hb9
    go_wp2
    go_ret
    exact ⟨rfl, HB9.out⟩
set_option maxHeartbeats 4000000 in
set_option maxRecDepth 100000 in
theorem headracelaw11_BodyExact.huge (length : Int) (v : Value) (w : World) (h : 9007199254740992 < length) :
    Calls Tryd.prog 9 #[.int .i64 length, v] w fun e w' => e = .returned (.bool true) ∧ Below w.heap.size w w' := by
    have hq : ¬ length < 0 := by omega
    have hq2 : 100000 < length := by omega
    go_enter Tryd.func9, Tryd.ntmps9
    go_wp2_with fail
    refine (Bod.newLen_arg length 100000 _ _ (.inr h)).mono ?_
    rintro e w1 ⟨rfl, hb1⟩
    have HB1 := Aside0.mk hb1
    clear hb1
    go_wp2_with fail
    refine (Bod.speaks_calls _).mono ?_
    rintro e w9 ⟨rfl, hb9⟩
    have HB9 := Aside0.mk (below_step (by repeat (first | exact HB1.out | apply below_drew1 | apply pw_below_drewN)) hb9)
    clear hb9
    go_wp2
    go_ret
    exact ⟨rfl, HB9.out⟩
set_option maxHeartbeats 8000000 in
set_option maxRecDepth 100000 in
theorem headracelaw11_BodyExact.zero (length : Int) (b : List Int) (A : Option Addr) (c : Nat) (w : World) (hr : Kd.C (Kd.int .u8) w A b.length b) (hc : b.length ≤ c) (h0 : length = 0) :
    Calls Tryd.prog 9 #[.int .i64 length, .slice A b.length c] w fun e w' => e = .returned (.bool true) ∧ Below w.heap.size w w' := by
    have HR := Aside0.mk hr
    have Hc := Aside0.mk hc
    obtain ⟨N, hN⟩ : ∃ N, N = b.length := ⟨_, rfl⟩
    have HN := Aside0.mk hN
    have hlt : ¬ (N : Int) < 0 := by omega
    rw [← hN]
    clear hN
    subst h0
    clear hr hc
    go_enter Tryd.func9, Tryd.ntmps9
    go_wp2_with fail
    refine (Bod.newLen_ok 0 100000 _ _ (by decide) (by decide) (by decide)).mono ?_
    rintro e w1 ⟨p, rfl, hp, hr1, hb1⟩
    have HP := Aside0.mk hp
    have HR1 := Aside0.mk (show Bod.Rd w1 p 0 0 2 (.pointer none) true 0 from hr1)
    have HB1 := Aside0.mk hb1
    clear hp hr1 hb1
    go_wp2_with fail
    refine (Bod.feedWhole_calls _ w1 p HR1.out).mono ?_
    rintro e w2 ⟨rfl, hb2⟩
    have HR2 := Aside0.mk (HR1.out.below hb2)
    have HB2 := Aside0.mk (below_step HB1.out hb2)
    have HRq := Aside0.mk (fun q => HR2.out.below (pw_below_drewN (Below.refl _ _) q))
    have HBq := Aside0.mk (fun q => pw_below_drewN HB2.out q)
    have hcv1 : ∀ q, (convert 22 9 (.slice none 0 0)).run Tryd.prog (w2.drewN q) = Result.ok (.string ⟨#[]⟩) (w2.drewN q) := fun q => Kd.C_string (xs := []) Tryd.underlying22 Tryd.underlying5 Tryd.underlying9 (Kd.C_nil _ _)
    have hcB : Kd.C (Kd.int .u8) w2 A 0 (b.take 0) := Bod.C_take (Kd.C_below HR.out HB2.out) 0 (Nat.zero_le _)
    have hcv2 : ∀ q, (convert 22 9 (.slice A 0 c)).run Tryd.prog (w2.drewN q) = Result.ok (.string ⟨#[]⟩) (w2.drewN q) := fun q => Kd.C_string (xs := []) Tryd.underlying22 Tryd.underlying5 Tryd.underlying9 (Kd.C_below hcB (pw_below_drewN (Below.refl _ _) q))
    clear hb2 hcB
    go_wp2
    go_quiet (fail)
    all_goals
      go_wp2_with fail
      refine (Bod.end_whole p _ (HRq.out _)).mono ?_
      rintro e w3 ⟨rfl, hr3, hs3⟩
      have HB3 := Aside0.mk (hs3.out (HBq.out _) (fun k hk => by rw [hk]; exact HP.out) (HBq.out _).size)
      clear hr3 hs3
      go_wp2_with fail
      refine (Bod.speaks_calls _).mono ?_
      rintro e w9 ⟨rfl, hb9⟩
      have HB9 := Aside0.mk (below_step (by repeat (first | exact HB3.out | apply below_drew1 | apply pw_below_drewN)) hb9)
      clear hb9
      go_wp2
      go_ret
      exact ⟨rfl, HB9.out⟩
set_option maxHeartbeats 8000000 in
set_option maxRecDepth 100000 in
theorem headracelaw11_BodyExact.cut (length : Int) (b : List Int) (A : Option Addr) (c : Nat) (w : World) (hr : Kd.C (Kd.int .u8) w A b.length b) (hc : b.length ≤ c) (h0 : 0 < length) (h1 : length ≤ 100000) (h2 : (b.length : Int) < length) :
    Calls Tryd.prog 9 #[.int .i64 length, .slice A b.length c] w fun e w' => e = .returned (.bool true) ∧ Below w.heap.size w w' := by
    have HR := Aside0.mk hr
    have Hc := Aside0.mk hc
    obtain ⟨N, hN⟩ : ∃ N, N = b.length := ⟨_, rfl⟩
    obtain ⟨n, hn⟩ : ∃ n, n = min b.length length.toNat := ⟨_, rfl⟩
    have HN := Aside0.mk hN
    have Hn := Aside0.mk hn
    have bz : (length == 0) = false := by have : ¬ length = 0 := by omega
                                          simpa using this
    obtain rfl : n = N := by omega
    have hlt : (n : Int) < length := by omega
    have bw : (length - (n : Int) == 0) = false := by have : ¬ length - (n : Int) = 0 := by omega
                                                      simpa using this
    have hnl : (n : Int) ≤ 100000 := by omega
    have hnc : n ≤ c := by omega
    rw [← hN]
    clear hN hn
    clear hr hc
    go_enter Tryd.func9, Tryd.ntmps9
    go_wp2_with fail
    refine (Bod.newLen_ok length 100000 _ _ (by omega) (by omega) (by decide)).mono ?_
    rintro e w1 ⟨p, rfl, hp, hr1, hb1⟩
    rw [bz] at hr1
    have HP := Aside0.mk hp
    have HR1 := Aside0.mk hr1
    have HB1 := Aside0.mk hb1
    clear hp hr1 hb1
    go_wp2_with fail
    have hfd := Bod.feedLen_calls b n A c w1 p length 0 (.pointer none) HR1.out (fun u => Kd.C_below HR.out (HB1.out.setCell (p := ⟨p, 0, none⟩) HP.out u)) Hc.out (by omega) (by omega) (by omega) Hn.out (by decide) (by decide)
    rw [← HN.out] at hfd
    refine hfd.mono ?_
    rintro e w2 ⟨A2, c2, rfl, hx2, hr2, hs2⟩
    rw [bw] at hr2
    have hlen : (b.take n).length = n := by rw [List.length_take]; have := Hn.out; have := HN.out; omega
    have hcv1 : ∀ q, (convert 22 9 (.slice A2 n c2)).run Tryd.prog (w2.drewN q) = Result.ok (.string (strOfNums (b.take n))) (w2.drewN q) := fun q => Bod.str2 (n := n) hlen (Kd.R_below hx2 (pw_below_drewN (Below.refl _ _) q)) A2 c2 rfl
    have HB2 := Aside0.mk (hs2.out HB1.out (fun k hk => by rw [hk]; exact HP.out) HB1.out.size)
    have hcB : Kd.C (Kd.int .u8) w2 A n (b.take n) := Bod.C_take (Kd.C_below HR.out HB2.out) n (by have := Hn.out; have := HN.out; omega)
    have hcv2 : ∀ q, (convert 22 9 (.slice A n c)).run Tryd.prog (w2.drewN q) = Result.ok (.string (strOfNums (b.take n))) (w2.drewN q) := by
      intro q
      have h5 := Kd.C_string (P := Tryd.prog) (c := c) Tryd.underlying22 Tryd.underlying5 Tryd.underlying9 (Kd.C_below (hlen ▸ hcB) (pw_below_drewN (Below.refl _ _) q))
      rw [hlen] at h5
      exact h5
    have HRq := Aside0.mk (fun q => hr2.below (pw_below_drewN (Below.refl _ _) q))
    have HBq := Aside0.mk (fun q => pw_below_drewN HB2.out q)
    have hss : (strOfNums (b.take n)).size ≤ 100000 := by rw [strOfNums_size, hlen]; omega
    have HR2 := Aside0.mk hr2
    clear hx2 hr2 hs2 hfd hcB hlen
    generalize strOfNums (b.take n) = sB at *
    go_wp2
    go_quiet (fail)
    all_goals
      go_wp2_with fail
      refine (Bod.end_cut p _ (HRq.out _)).mono ?_
      rintro e w3 ⟨rfl, hr3, hs3⟩
      have HB3 := Aside0.mk (hs3.out (HBq.out _) (fun k hk => by rw [hk]; exact HP.out) (HBq.out _).size)
      clear hr3 hs3
      go_wp2_with fail
      refine (Bod.speaks_calls _).mono ?_
      rintro e w9 ⟨rfl, hb9⟩
      have HB9 := Aside0.mk (below_step (by repeat (first | exact HB3.out | apply below_drew1 | apply pw_below_drewN)) hb9)
      clear hb9
      go_wp2
      go_ret
      exact ⟨rfl, HB9.out⟩
set_option maxHeartbeats 8000000 in
set_option maxRecDepth 100000 in
theorem headracelaw11_BodyExact.full (length : Int) (b : List Int) (A : Option Addr) (c : Nat) (w : World) (hr : Kd.C (Kd.int .u8) w A b.length b) (hc : b.length ≤ c) (h0 : 0 < length) (h1 : length ≤ 100000) (h2 : length ≤ (b.length : Int)) :
    Calls Tryd.prog 9 #[.int .i64 length, .slice A b.length c] w fun e w' => e = .returned (.bool true) ∧ Below w.heap.size w w' := by
    have HR := Aside0.mk hr
    have Hc := Aside0.mk hc
    obtain ⟨N, hN⟩ : ∃ N, N = b.length := ⟨_, rfl⟩
    obtain ⟨n, hn⟩ : ∃ n, n = min b.length length.toNat := ⟨_, rfl⟩
    have HN := Aside0.mk hN
    have Hn := Aside0.mk hn
    have bz : (length == 0) = false := by have : ¬ length = 0 := by omega
                                          simpa using this
    obtain rfl : length = (n : Int) := by omega
    have hlt : ¬ (N : Int) < (n : Int) := by omega
    have hnN : n ≤ N := by omega
    have bw : ((n : Int) - (n : Int) == 0) = true := by simp
    have hnl : (n : Int) ≤ 100000 := by omega
    have hnc : n ≤ c := by omega
    rw [← hN]
    clear hN hn
    clear hr hc
    go_enter Tryd.func9, Tryd.ntmps9
    go_wp2_with fail
    refine (Bod.newLen_ok (n : Int) 100000 _ _ (by omega) (by omega) (by decide)).mono ?_
    rintro e w1 ⟨p, rfl, hp, hr1, hb1⟩
    rw [bz] at hr1
    have HP := Aside0.mk hp
    have HR1 := Aside0.mk hr1
    have HB1 := Aside0.mk hb1
    clear hp hr1 hb1
    go_wp2_with fail
    have hfd := Bod.feedLen_calls b n A c w1 p (n : Int) 0 (.pointer none) HR1.out (fun u => Kd.C_below HR.out (HB1.out.setCell (p := ⟨p, 0, none⟩) HP.out u)) Hc.out (by omega) (by omega) (by omega) Hn.out (by decide) (by decide)
    rw [← HN.out] at hfd
    refine hfd.mono ?_
    rintro e w2 ⟨A2, c2, rfl, hx2, hr2, hs2⟩
    rw [bw] at hr2
    have hlen : (b.take n).length = n := by rw [List.length_take]; have := Hn.out; have := HN.out; omega
    have hcv1 : ∀ q, (convert 22 9 (.slice A2 n c2)).run Tryd.prog (w2.drewN q) = Result.ok (.string (strOfNums (b.take n))) (w2.drewN q) := fun q => Bod.str2 (n := n) hlen (Kd.R_below hx2 (pw_below_drewN (Below.refl _ _) q)) A2 c2 rfl
    have HB2 := Aside0.mk (hs2.out HB1.out (fun k hk => by rw [hk]; exact HP.out) HB1.out.size)
    have hcB : Kd.C (Kd.int .u8) w2 A n (b.take n) := Bod.C_take (Kd.C_below HR.out HB2.out) n (by have := Hn.out; have := HN.out; omega)
    have hcv2 : ∀ q, (convert 22 9 (.slice A n c)).run Tryd.prog (w2.drewN q) = Result.ok (.string (strOfNums (b.take n))) (w2.drewN q) := by
      intro q
      have h5 := Kd.C_string (P := Tryd.prog) (c := c) Tryd.underlying22 Tryd.underlying5 Tryd.underlying9 (Kd.C_below (hlen ▸ hcB) (pw_below_drewN (Below.refl _ _) q))
      rw [hlen] at h5
      exact h5
    have HRq := Aside0.mk (fun q => hr2.below (pw_below_drewN (Below.refl _ _) q))
    have HBq := Aside0.mk (fun q => pw_below_drewN HB2.out q)
    have hss : (strOfNums (b.take n)).size ≤ 100000 := by rw [strOfNums_size, hlen]; omega
    have HR2 := Aside0.mk hr2
    clear hx2 hr2 hs2 hfd hcB hlen
    generalize strOfNums (b.take n) = sB at *
    go_wp2
    go_quiet (fail)
    all_goals
      go_wp2_with fail
      refine (Bod.end_whole p _ (HRq.out _)).mono ?_
      rintro e w3 ⟨rfl, hr3, hs3⟩
      have HB3 := Aside0.mk (hs3.out (HBq.out _) (fun k hk => by rw [hk]; exact HP.out) (HBq.out _).size)
      clear hr3 hs3
      go_wp2_with fail
      refine (Bod.speaks_calls _).mono ?_
      rintro e w9 ⟨rfl, hb9⟩
      have HB9 := Aside0.mk (below_step (by repeat (first | exact HB3.out | apply below_drew1 | apply pw_below_drewN)) hb9)
      clear hb9
      go_wp2
      go_ret
      exact ⟨rfl, HB9.out⟩
def headracelaw11_BodyExact.f (k : Nat) (a0 : Int) (l1 : List Int) : Option Bool := some true
theorem headracelaw11_BodyExact.calls (k : Nat) (a0 : Int) (A1 : Option Addr) (c1 : Nat) (l1 : List Int) (r : Bool) (w : World) (hr1 : Kd.C (Kd.int .u8) w A1 l1.length l1) (hc1 : l1.length ≤ c1) (h : headracelaw11_BodyExact.f k a0 l1 = some r) (hG_ : GInv w) :
    Calls Tryd.prog 9 #[.int .i64 a0, .slice A1 l1.length c1] w fun e w' => e = .returned (.bool r) ∧ Below w.heap.size w w' := by
  obtain rfl := Option.some.inj h
  by_cases h0 : a0 < 0
  · exact headracelaw11_BodyExact.arg a0 _ w h0
  by_cases h1 : 9007199254740992 < a0
  · exact headracelaw11_BodyExact.huge a0 _ w h1
  by_cases h2 : 100000 < a0
  · exact headracelaw11_BodyExact.long a0 _ w h2 (by omega)
  by_cases h3 : a0 = 0
  · exact headracelaw11_BodyExact.zero a0 l1 A1 c1 w hr1 hc1 h3
  by_cases h4 : (l1.length : Int) < a0
  · exact headracelaw11_BodyExact.cut a0 l1 A1 c1 w hr1 hc1 (by omega) (by omega) h4
  · exact headracelaw11_BodyExact.full a0 l1 A1 c1 w hr1 hc1 (by omega) (by omega) (by omega)
end Go.Proofs.YtnlicpihondmgaaDoor.P
namespace Go.Proofs.YtnlicpihondmgaaDoor.Px
theorem pure_BodyExact (a : Int) (l : List Int) (_ : (Go.Lit.int .i64 a).wf = true) (_ : ∀ x ∈ l, (Go.Lit.int .u8 x).wf = true) : ∃ k, P.headracelaw11_BodyExact.f k a l = some true := ⟨0, rfl⟩
end Go.Proofs.YtnlicpihondmgaaDoor.Px
