/- Package world's laws, by hand: the nil world; WorldNil; own text of this session. -/
import Derived.Test.YtlbedgiebcpncaaVld8
namespace Go.Proofs.Ytlbedgiebcpncaa.Wld
open Go.RowKit Go.Proofs.YtlbedgiebcpncaaW.PrintWords Go.Proofs.YtlbedgiebcpncaaW.PrintLast Go.Maps
set_option linter.unusedVariables false
set_option linter.unusedSimpArgs false
set_option maxRecDepth 100000 in
theorem at_nil (c : Int) (w : World)  :
    Calls Try.prog 26 #[.pointer none, .int .i64 c] w fun e w' => e = .returned (.pointer none) ∧ w' = w := by
  go_enter Try.func26, Try.ntmps26
  go_wp2
  go_ret
  exact ⟨rfl, rfl⟩
set_option maxRecDepth 100000 in
theorem draw_nil0 (n : Int) (w : World) (h : n < 1) :
    Calls Try.prog 23 #[.pointer none, .int .i64 n] w fun e w' => e = .returned (.tuple #[.int .i64 0, .int .i64 1]) ∧ w' = w := by
  go_enter Try.func23, Try.ntmps23
  go_wp2
  go_ret2
  exact ⟨rfl, rfl⟩
set_option maxRecDepth 100000 in
theorem draw_nil1 (n : Int) (w : World) (h : 1 ≤ n) :
    Calls Try.prog 23 #[.pointer none, .int .i64 n] w fun e w' => e = .returned (.tuple #[.int .i64 0, .int .i64 0]) ∧ w' = w := by
  have h1 : ¬ n < 1 := by omega
  go_enter Try.func23, Try.ntmps23
  go_wp2
  go_ret2
  exact ⟨rfl, rfl⟩
set_option maxRecDepth 100000 in
theorem waits_nil (c : Int) (w : World)  :
    Calls Try.prog 12 #[.pointer none, .int .i64 c] w fun e w' => e = .returned (.tuple #[.int .i64 0, .bool false]) ∧ w' = w := by
  go_enter Try.func12, Try.ntmps12
  go_wp2_with (go_at_call 26; refine (at_nil c w).mono ?_; rintro e w1 ⟨rfl, rfl⟩)
  go_ret2
  exact ⟨rfl, rfl⟩
set_option maxRecDepth 100000 in
theorem open_nil0 (c : Int) (w : World) (h : c < 0) :
    Calls Try.prog 9 #[.pointer none, .int .i64 c] w fun e w' => e = .returned (.int .i64 1) ∧ w' = w := by
  go_enter Try.func9, Try.ntmps9
  go_wp2
  go_returns
  exact ⟨rfl, rfl⟩
set_option maxRecDepth 100000 in
theorem open_nil1 (c : Int) (w : World) (h : 0 ≤ c) :
    Calls Try.prog 9 #[.pointer none, .int .i64 c] w fun e w' => e = .returned (.int .i64 5) ∧ w' = w := by
  have h1 : ¬ c < 0 := by omega
  go_enter Try.func9, Try.ntmps9
  go_wp2
  go_returns
  exact ⟨rfl, rfl⟩
set_option maxRecDepth 100000 in
theorem give_nil0 (n : Int) (w : World) (h : n < 0) :
    Calls Try.prog 24 #[.pointer none, .int .i64 n] w fun e w' => e = .returned (.int .i64 1) ∧ w' = w := by
  go_enter Try.func24, Try.ntmps24
  go_wp2
  go_returns
  exact ⟨rfl, rfl⟩
set_option maxRecDepth 100000 in
theorem give_nil1 (n : Int) (w : World) (h : 4294967295 < n) :
    Calls Try.prog 24 #[.pointer none, .int .i64 n] w fun e w' => e = .returned (.int .i64 1) ∧ w' = w := by
  have h1 : ¬ n < 0 := by omega
  go_enter Try.func24, Try.ntmps24
  go_wp2
  go_returns
  exact ⟨rfl, rfl⟩
set_option maxRecDepth 100000 in
theorem give_nil2 (n : Int) (w : World) (h : 0 ≤ n) (h2 : n ≤ 4294967295) :
    Calls Try.prog 24 #[.pointer none, .int .i64 n] w fun e w' => e = .returned (.int .i64 5) ∧ w' = w := by
  have h1 : ¬ n < 0 := by omega
  have h3 : ¬ 4294967295 < n := by omega
  go_enter Try.func24, Try.ntmps24
  go_wp2
  go_returns
  exact ⟨rfl, rfl⟩
set_option maxRecDepth 100000 in
theorem close_nil (c : Int) (w : World)  :
    Calls Try.prog 25 #[.pointer none, .int .i64 c] w fun e w' => e = .returned (.int .i64 6) ∧ w' = w := by
  go_enter Try.func25, Try.ntmps25
  go_wp2_with (go_at_call 26; refine (at_nil c w).mono ?_; rintro e w1 ⟨rfl, rfl⟩)
  go_returns
  exact ⟨rfl, rfl⟩
set_option maxRecDepth 100000 in
theorem all_nil  (w : World)  :
    Calls Try.prog 21 #[.pointer none] w fun e w' => e = .returned (.slice none 0 0) ∧ w' = w := by
  go_enter Try.func21, Try.ntmps21
  go_wp2
  go_returns
  exact ⟨rfl, rfl⟩
set_option maxRecDepth 100000 in
theorem sent_nil (c : Int) (w : World)  :
    Calls Try.prog 16 #[.pointer none, .int .i64 c] w fun e w' => e = .returned (.slice none 0 0) ∧ w' = w := by
  go_enter Try.func16, Try.ntmps16
  go_wp2
  go_returns
  exact ⟨rfl, rfl⟩
set_option maxHeartbeats 4000000 in
set_option maxRecDepth 100000 in
theorem nil_a0 (c n : Int) (w : World) (hc : c < 0) (hn : n < 0) :
    Calls Try.prog 6 #[.int .i64 c, .int .i64 n] w fun e w' => e = .returned (.bool true) ∧ Below w.heap.size w w' := by
  have hn1 : ¬ 1 ≤ n := by omega
  have hn2 : n < 1 := by omega
  have hd : decide (1 ≤ n) = false := by simpa using hn1
  have K1 := Aside0.mk (draw_nil0 n w (by omega))
  have K2 := Aside0.mk (waits_nil c w)
  have K3 := Aside0.mk (open_nil0 c w hc)
  have K4 := Aside0.mk (give_nil0 n w hn)
  have K5 := Aside0.mk (close_nil c w)
  have K6 := Aside0.mk (all_nil w)
  have K7 := Aside0.mk (sent_nil c w)
  have K8 := Aside0.mk (speaks_calls w)
  go_enter Try.func6, Try.ntmps6
  go_wp2_with fail
  refine K1.out.mono ?_
  rintro e w1 ⟨rfl, rfl⟩
  go_wp2_with fail
  refine K2.out.mono ?_
  rintro e w1 ⟨rfl, rfl⟩
  go_wp2_with fail
  refine K3.out.mono ?_
  rintro e w1 ⟨rfl, rfl⟩
  go_wp2_with fail
  refine K4.out.mono ?_
  rintro e w1 ⟨rfl, rfl⟩
  go_wp2_with fail
  refine K5.out.mono ?_
  rintro e w1 ⟨rfl, rfl⟩
  go_wp2_with fail
  refine K6.out.mono ?_
  rintro e w1 ⟨rfl, rfl⟩
  go_wp2_with fail
  refine K7.out.mono ?_
  rintro e w1 ⟨rfl, rfl⟩
  go_wp2_with fail
  refine K8.out.mono ?_
  rintro e w1 ⟨rfl, hb⟩
  have HB := Aside0.mk hb
  clear hb
  go_wp2
  go_ret
  exact ⟨rfl, HB.out⟩
set_option maxHeartbeats 4000000 in
set_option maxRecDepth 100000 in
theorem nil_a1 (c n : Int) (w : World) (hc : c < 0) (hn : n = 0) :
    Calls Try.prog 6 #[.int .i64 c, .int .i64 n] w fun e w' => e = .returned (.bool true) ∧ Below w.heap.size w w' := by
  subst hn
  have K1 := Aside0.mk (draw_nil0 0 w (by decide))
  have K2 := Aside0.mk (waits_nil c w)
  have K3 := Aside0.mk (open_nil0 c w hc)
  have K4 := Aside0.mk (give_nil2 0 w (by decide) (by decide))
  have K5 := Aside0.mk (close_nil c w)
  have K6 := Aside0.mk (all_nil w)
  have K7 := Aside0.mk (sent_nil c w)
  have K8 := Aside0.mk (speaks_calls w)
  go_enter Try.func6, Try.ntmps6
  go_wp2_with fail
  refine K1.out.mono ?_
  rintro e w1 ⟨rfl, rfl⟩
  go_wp2_with fail
  refine K2.out.mono ?_
  rintro e w1 ⟨rfl, rfl⟩
  go_wp2_with fail
  refine K3.out.mono ?_
  rintro e w1 ⟨rfl, rfl⟩
  go_wp2_with fail
  refine K4.out.mono ?_
  rintro e w1 ⟨rfl, rfl⟩
  go_wp2_with fail
  refine K5.out.mono ?_
  rintro e w1 ⟨rfl, rfl⟩
  go_wp2_with fail
  refine K6.out.mono ?_
  rintro e w1 ⟨rfl, rfl⟩
  go_wp2_with fail
  refine K7.out.mono ?_
  rintro e w1 ⟨rfl, rfl⟩
  go_wp2_with fail
  refine K8.out.mono ?_
  rintro e w1 ⟨rfl, hb⟩
  have HB := Aside0.mk hb
  clear hb
  go_wp2
  go_ret
  exact ⟨rfl, HB.out⟩
set_option maxHeartbeats 4000000 in
set_option maxRecDepth 100000 in
theorem nil_a2 (c n : Int) (w : World) (hc : c < 0) (hn : 1 ≤ n) (hm : n ≤ 4294967295) :
    Calls Try.prog 6 #[.int .i64 c, .int .i64 n] w fun e w' => e = .returned (.bool true) ∧ Below w.heap.size w w' := by
  have hn1 : ¬ n < 0 := by omega
  have hn2 : ¬ n < 1 := by omega
  have hn3 : ¬ 4294967295 < n := by omega
  have K1 := Aside0.mk (draw_nil1 n w hn)
  have K2 := Aside0.mk (waits_nil c w)
  have K3 := Aside0.mk (open_nil0 c w hc)
  have K4 := Aside0.mk (give_nil2 n w (by omega) hm)
  have K5 := Aside0.mk (close_nil c w)
  have K6 := Aside0.mk (all_nil w)
  have K7 := Aside0.mk (sent_nil c w)
  have K8 := Aside0.mk (speaks_calls w)
  go_enter Try.func6, Try.ntmps6
  go_wp2_with fail
  refine K1.out.mono ?_
  rintro e w1 ⟨rfl, rfl⟩
  go_wp2_with fail
  refine K2.out.mono ?_
  rintro e w1 ⟨rfl, rfl⟩
  go_wp2_with fail
  refine K3.out.mono ?_
  rintro e w1 ⟨rfl, rfl⟩
  go_wp2_with fail
  refine K4.out.mono ?_
  rintro e w1 ⟨rfl, rfl⟩
  go_wp2_with fail
  refine K5.out.mono ?_
  rintro e w1 ⟨rfl, rfl⟩
  go_wp2_with fail
  refine K6.out.mono ?_
  rintro e w1 ⟨rfl, rfl⟩
  go_wp2_with fail
  refine K7.out.mono ?_
  rintro e w1 ⟨rfl, rfl⟩
  go_wp2_with fail
  refine K8.out.mono ?_
  rintro e w1 ⟨rfl, hb⟩
  have HB := Aside0.mk hb
  clear hb
  go_wp2
  go_ret
  exact ⟨rfl, HB.out⟩
set_option maxHeartbeats 4000000 in
set_option maxRecDepth 100000 in
theorem nil_a3 (c n : Int) (w : World) (hc : c < 0) (hn : 4294967295 < n) :
    Calls Try.prog 6 #[.int .i64 c, .int .i64 n] w fun e w' => e = .returned (.bool true) ∧ Below w.heap.size w w' := by
  have hn0 : 1 ≤ n := by omega
  have hn1 : ¬ n < 0 := by omega
  have hn2 : ¬ n < 1 := by omega
  have K1 := Aside0.mk (draw_nil1 n w (by omega))
  have K2 := Aside0.mk (waits_nil c w)
  have K3 := Aside0.mk (open_nil0 c w hc)
  have K4 := Aside0.mk (give_nil1 n w hn)
  have K5 := Aside0.mk (close_nil c w)
  have K6 := Aside0.mk (all_nil w)
  have K7 := Aside0.mk (sent_nil c w)
  have K8 := Aside0.mk (speaks_calls w)
  go_enter Try.func6, Try.ntmps6
  go_wp2_with fail
  refine K1.out.mono ?_
  rintro e w1 ⟨rfl, rfl⟩
  go_wp2_with fail
  refine K2.out.mono ?_
  rintro e w1 ⟨rfl, rfl⟩
  go_wp2_with fail
  refine K3.out.mono ?_
  rintro e w1 ⟨rfl, rfl⟩
  go_wp2_with fail
  refine K4.out.mono ?_
  rintro e w1 ⟨rfl, rfl⟩
  go_wp2_with fail
  refine K5.out.mono ?_
  rintro e w1 ⟨rfl, rfl⟩
  go_wp2_with fail
  refine K6.out.mono ?_
  rintro e w1 ⟨rfl, rfl⟩
  go_wp2_with fail
  refine K7.out.mono ?_
  rintro e w1 ⟨rfl, rfl⟩
  go_wp2_with fail
  refine K8.out.mono ?_
  rintro e w1 ⟨rfl, hb⟩
  have HB := Aside0.mk hb
  clear hb
  go_wp2
  go_ret
  exact ⟨rfl, HB.out⟩
set_option maxHeartbeats 4000000 in
set_option maxRecDepth 100000 in
theorem nil_b0 (c n : Int) (w : World) (hc : 0 ≤ c) (hn : n < 0) :
    Calls Try.prog 6 #[.int .i64 c, .int .i64 n] w fun e w' => e = .returned (.bool true) ∧ Below w.heap.size w w' := by
  have hc1 : ¬ c < 0 := by omega
  have hn1 : ¬ 1 ≤ n := by omega
  have hn2 : n < 1 := by omega
  have hd : decide (1 ≤ n) = false := by simpa using hn1
  have K1 := Aside0.mk (draw_nil0 n w (by omega))
  have K2 := Aside0.mk (waits_nil c w)
  have K3 := Aside0.mk (open_nil1 c w hc)
  have K4 := Aside0.mk (give_nil0 n w hn)
  have K5 := Aside0.mk (close_nil c w)
  have K6 := Aside0.mk (all_nil w)
  have K7 := Aside0.mk (sent_nil c w)
  have K8 := Aside0.mk (speaks_calls w)
  go_enter Try.func6, Try.ntmps6
  go_wp2_with fail
  refine K1.out.mono ?_
  rintro e w1 ⟨rfl, rfl⟩
  go_wp2_with fail
  refine K2.out.mono ?_
  rintro e w1 ⟨rfl, rfl⟩
  go_wp2_with fail
  refine K3.out.mono ?_
  rintro e w1 ⟨rfl, rfl⟩
  go_wp2_with fail
  refine K4.out.mono ?_
  rintro e w1 ⟨rfl, rfl⟩
  go_wp2_with fail
  refine K5.out.mono ?_
  rintro e w1 ⟨rfl, rfl⟩
  go_wp2_with fail
  refine K6.out.mono ?_
  rintro e w1 ⟨rfl, rfl⟩
  go_wp2_with fail
  refine K7.out.mono ?_
  rintro e w1 ⟨rfl, rfl⟩
  go_wp2_with fail
  refine K8.out.mono ?_
  rintro e w1 ⟨rfl, hb⟩
  have HB := Aside0.mk hb
  clear hb
  go_wp2
  go_ret
  exact ⟨rfl, HB.out⟩
set_option maxHeartbeats 4000000 in
set_option maxRecDepth 100000 in
theorem nil_b1 (c n : Int) (w : World) (hc : 0 ≤ c) (hn : n = 0) :
    Calls Try.prog 6 #[.int .i64 c, .int .i64 n] w fun e w' => e = .returned (.bool true) ∧ Below w.heap.size w w' := by
  have hc1 : ¬ c < 0 := by omega
  subst hn
  have K1 := Aside0.mk (draw_nil0 0 w (by decide))
  have K2 := Aside0.mk (waits_nil c w)
  have K3 := Aside0.mk (open_nil1 c w hc)
  have K4 := Aside0.mk (give_nil2 0 w (by decide) (by decide))
  have K5 := Aside0.mk (close_nil c w)
  have K6 := Aside0.mk (all_nil w)
  have K7 := Aside0.mk (sent_nil c w)
  have K8 := Aside0.mk (speaks_calls w)
  go_enter Try.func6, Try.ntmps6
  go_wp2_with fail
  refine K1.out.mono ?_
  rintro e w1 ⟨rfl, rfl⟩
  go_wp2_with fail
  refine K2.out.mono ?_
  rintro e w1 ⟨rfl, rfl⟩
  go_wp2_with fail
  refine K3.out.mono ?_
  rintro e w1 ⟨rfl, rfl⟩
  go_wp2_with fail
  refine K4.out.mono ?_
  rintro e w1 ⟨rfl, rfl⟩
  go_wp2_with fail
  refine K5.out.mono ?_
  rintro e w1 ⟨rfl, rfl⟩
  go_wp2_with fail
  refine K6.out.mono ?_
  rintro e w1 ⟨rfl, rfl⟩
  go_wp2_with fail
  refine K7.out.mono ?_
  rintro e w1 ⟨rfl, rfl⟩
  go_wp2_with fail
  refine K8.out.mono ?_
  rintro e w1 ⟨rfl, hb⟩
  have HB := Aside0.mk hb
  clear hb
  go_wp2
  go_ret
  exact ⟨rfl, HB.out⟩
set_option maxHeartbeats 4000000 in
set_option maxRecDepth 100000 in
theorem nil_b2 (c n : Int) (w : World) (hc : 0 ≤ c) (hn : 1 ≤ n) (hm : n ≤ 4294967295) :
    Calls Try.prog 6 #[.int .i64 c, .int .i64 n] w fun e w' => e = .returned (.bool true) ∧ Below w.heap.size w w' := by
  have hc1 : ¬ c < 0 := by omega
  have hn1 : ¬ n < 0 := by omega
  have hn2 : ¬ n < 1 := by omega
  have hn3 : ¬ 4294967295 < n := by omega
  have K1 := Aside0.mk (draw_nil1 n w hn)
  have K2 := Aside0.mk (waits_nil c w)
  have K3 := Aside0.mk (open_nil1 c w hc)
  have K4 := Aside0.mk (give_nil2 n w (by omega) hm)
  have K5 := Aside0.mk (close_nil c w)
  have K6 := Aside0.mk (all_nil w)
  have K7 := Aside0.mk (sent_nil c w)
  have K8 := Aside0.mk (speaks_calls w)
  go_enter Try.func6, Try.ntmps6
  go_wp2_with fail
  refine K1.out.mono ?_
  rintro e w1 ⟨rfl, rfl⟩
  go_wp2_with fail
  refine K2.out.mono ?_
  rintro e w1 ⟨rfl, rfl⟩
  go_wp2_with fail
  refine K3.out.mono ?_
  rintro e w1 ⟨rfl, rfl⟩
  go_wp2_with fail
  refine K4.out.mono ?_
  rintro e w1 ⟨rfl, rfl⟩
  go_wp2_with fail
  refine K5.out.mono ?_
  rintro e w1 ⟨rfl, rfl⟩
  go_wp2_with fail
  refine K6.out.mono ?_
  rintro e w1 ⟨rfl, rfl⟩
  go_wp2_with fail
  refine K7.out.mono ?_
  rintro e w1 ⟨rfl, rfl⟩
  go_wp2_with fail
  refine K8.out.mono ?_
  rintro e w1 ⟨rfl, hb⟩
  have HB := Aside0.mk hb
  clear hb
  go_wp2
  go_ret
  exact ⟨rfl, HB.out⟩
set_option maxHeartbeats 4000000 in
set_option maxRecDepth 100000 in
theorem nil_b3 (c n : Int) (w : World) (hc : 0 ≤ c) (hn : 4294967295 < n) :
    Calls Try.prog 6 #[.int .i64 c, .int .i64 n] w fun e w' => e = .returned (.bool true) ∧ Below w.heap.size w w' := by
  have hc1 : ¬ c < 0 := by omega
  have hn0 : 1 ≤ n := by omega
  have hn1 : ¬ n < 0 := by omega
  have hn2 : ¬ n < 1 := by omega
  have K1 := Aside0.mk (draw_nil1 n w (by omega))
  have K2 := Aside0.mk (waits_nil c w)
  have K3 := Aside0.mk (open_nil1 c w hc)
  have K4 := Aside0.mk (give_nil1 n w hn)
  have K5 := Aside0.mk (close_nil c w)
  have K6 := Aside0.mk (all_nil w)
  have K7 := Aside0.mk (sent_nil c w)
  have K8 := Aside0.mk (speaks_calls w)
  go_enter Try.func6, Try.ntmps6
  go_wp2_with fail
  refine K1.out.mono ?_
  rintro e w1 ⟨rfl, rfl⟩
  go_wp2_with fail
  refine K2.out.mono ?_
  rintro e w1 ⟨rfl, rfl⟩
  go_wp2_with fail
  refine K3.out.mono ?_
  rintro e w1 ⟨rfl, rfl⟩
  go_wp2_with fail
  refine K4.out.mono ?_
  rintro e w1 ⟨rfl, rfl⟩
  go_wp2_with fail
  refine K5.out.mono ?_
  rintro e w1 ⟨rfl, rfl⟩
  go_wp2_with fail
  refine K6.out.mono ?_
  rintro e w1 ⟨rfl, rfl⟩
  go_wp2_with fail
  refine K7.out.mono ?_
  rintro e w1 ⟨rfl, rfl⟩
  go_wp2_with fail
  refine K8.out.mono ?_
  rintro e w1 ⟨rfl, hb⟩
  have HB := Aside0.mk hb
  clear hb
  go_wp2
  go_ret
  exact ⟨rfl, HB.out⟩
theorem nil_law (c n : Int) (w : World) :
    Calls Try.prog 6 #[.int .i64 c, .int .i64 n] w fun e w' => e = .returned (.bool true) ∧ Below w.heap.size w w' := by
  by_cases hc : c < 0
  · by_cases h0 : n < 0
    · exact nil_a0 c n w hc h0
    by_cases h1 : n = 0
    · exact nil_a1 c n w hc h1
    by_cases h2 : n ≤ 4294967295
    · exact nil_a2 c n w hc (by omega) h2
    · exact nil_a3 c n w hc (by omega)
  · by_cases h0 : n < 0
    · exact nil_b0 c n w (by omega) h0
    by_cases h1 : n = 0
    · exact nil_b1 c n w (by omega) h1
    by_cases h2 : n ≤ 4294967295
    · exact nil_b2 c n w (by omega) (by omega) h2
    · exact nil_b3 c n w (by omega) (by omega)
end Go.Proofs.Ytlbedgiebcpncaa.Wld
