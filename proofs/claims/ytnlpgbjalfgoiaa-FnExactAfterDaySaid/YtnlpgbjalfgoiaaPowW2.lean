/- Chapter 22: walks of laws on a battery, by value. -/
import Derived.Test.YtnlpgbjalfgoiaaPowB
import Derived.Test.YtnlpgbjalfgoiaaPowC
import Derived.Test.YtnlpgbjalfgoiaaTyBattery
namespace Go.Proofs.Ytnlpgbjalfgoiaa
open Go.RowKit
set_option linter.unusedVariables false

theorem spec_least' (f nw u lo v : Int) (ok : Bool) (hv : leastV f nw u lo = (v, ok)) (w : World) :
    Calls Try.prog 18 #[.agg #[.int .i64 f, .int .i64 nw, .int .i64 u, .int .i64 lo]] w fun e w' => e = .returned (.tuple #[.int .i64 v, .bool ok]) ∧ Below w.heap.size w w' := by
  have h := spec_leastSun f nw u lo w
  rw [hv] at h; exact h
theorem impl_least' (f nw u lo v : Int) (ok : Bool) (hv : leastV f nw u lo = (v, ok)) (w : World) :
    Calls Try.prog 19 #[.agg #[.int .i64 f, .int .i64 nw, .int .i64 u, .int .i64 lo]] w fun e w' => e = .returned (.tuple #[.int .i64 v, .bool ok]) ∧ Below w.heap.size w w' := by
  have h := impl_leastSun f nw u lo w
  rw [hv] at h; exact h

theorem walk_FnExactLeastSun (a b c d : Int) (w : World) :
    Calls Try.prog 4 #[.agg #[.int .i64 a, .int .i64 b, .int .i64 c, .int .i64 d]] w fun e w' => e = .returned (.bool true) ∧ Below w.heap.size w w' := by
  cases hB : leastV a b c d with
  | mk v ok =>
    cases ok
    all_goals
      go_enter Try.func4, Try.ntmps4
      go_wp2_with fail
      refine (to_battery _ _ _ _ _).mono ?_
      rintro e w1 ⟨rfl, hb1⟩
      obtain ⟨qc1, qf1⟩ := bcell hb1
      go_wp2_with fail
      refine (spec_least' _ _ _ _ _ _ hB _).mono ?_
      rintro e w2 ⟨rfl, hb2⟩
      obtain ⟨qc2, qf2⟩ := bcell hb2
      have z1 := hb1.size; have z2 := hb2.size
      simp only [World.size_alloc] at z1
      have y2 : w.heap.size < w1.heap.size := by omega
      go_wp2_with fail
      refine (to_battery _ _ _ _ _).mono ?_
      rintro e w3 ⟨rfl, hb3⟩
      go_wp2_with fail
      refine (impl_least' _ _ _ _ _ _ hB _).mono ?_
      rintro e w4 ⟨rfl, hb4⟩
      go_wp2
      go_returns
      exact ⟨rfl, below_call (below_call (below_call (below_call (by go_grown) hb1) hb2) hb3) hb4⟩

theorem walk_FnExactDarkDays (a b c d : Int) (w : World) :
    Calls Try.prog 6 #[.agg #[.int .i64 a, .int .i64 b, .int .i64 c, .int .i64 d]] w fun e w' => e = .returned (.bool true) ∧ Below w.heap.size w w' := by
  cases hB : batB a b c d
  · go_enter Try.func6, Try.ntmps6
    go_wp2_with fail
    refine (to_battery _ _ _ _ _).mono ?_
    rintro e w1 ⟨rfl, hb1⟩
    obtain ⟨qc1, qf1⟩ := bcell hb1
    go_wp2_with fail
    refine (spec_darkNo _ _ _ _ hB _).mono ?_
    rintro e w2 ⟨rfl, hb2⟩
    obtain ⟨qc2, qf2⟩ := bcell hb2
    have z1 := hb1.size; have z2 := hb2.size
    simp only [World.size_alloc] at z1
    have y2 : w.heap.size < w1.heap.size := by omega
    go_wp2_with fail
    refine (to_battery _ _ _ _ _).mono ?_
    rintro e w3 ⟨rfl, hb3⟩
    go_wp2_with fail
    refine (impl_darkNo _ _ _ _ hB _).mono ?_
    rintro e w4 ⟨rfl, hb4⟩
    go_wp2
    go_returns
    exact ⟨rfl, below_call (below_call (below_call (below_call (by go_grown) hb1) hb2) hb3) hb4⟩
  · go_enter Try.func6, Try.ntmps6
    go_wp2_with fail
    refine (to_battery _ _ _ _ _).mono ?_
    rintro e w1 ⟨rfl, hb1⟩
    obtain ⟨qc1, qf1⟩ := bcell hb1
    go_wp2_with fail
    refine (spec_dark _ _ _ _ hB _).mono ?_
    rintro e w2 ⟨k, hk, rfl, hb2⟩
    obtain ⟨qc2, qf2⟩ := bcell hb2
    have z1 := hb1.size; have z2 := hb2.size
    simp only [World.size_alloc] at z1
    have y2 : w.heap.size < w1.heap.size := by omega
    go_wp2_with fail
    refine (to_battery _ _ _ _ _).mono ?_
    rintro e w3 ⟨rfl, hb3⟩
    go_wp2_with fail
    refine (impl_dark _ _ _ _ hB _).mono ?_
    rintro e w4 ⟨k', hk', rfl, hb4⟩
    obtain rfl : k = k' := dark_one hk hk'
    go_wp2
    go_returns
    exact ⟨rfl, below_call (below_call (below_call (below_call (by go_grown) hb1) hb2) hb3) hb4⟩

set_option maxHeartbeats 400000 in
theorem walk_FnExactAfterDay (a b c d s : Int) (w : World) (hs : -9223372036854775808 ≤ s ∧ s ≤ 9223372036854775807) :
    Calls Try.prog 7 #[.agg #[.int .i64 a, .int .i64 b, .int .i64 c, .int .i64 d], .int .i64 s] w fun e w' => e = .returned (.bool true) ∧ Below w.heap.size w w' := by
  have hfa := frozen_al; have hfo := frozen_out
  clear hs
  cases hB : (batB a b c d && inB s 0 1000)
  · skip
    go_enter Try.func7, Try.ntmps7
    go_wp2_with fail
    refine (to_battery _ _ _ _ _).mono ?_
    rintro e w1 ⟨rfl, hb1⟩
    obtain ⟨qc1, qf1⟩ := bcell hb1
    have hz1 := hb1.size
    try simp only [World.size_alloc, World.size_setCell, World.size_drew] at hz1
    have hq1 : Below w.heap.size w w1 := below_call (by go_grown) hb1
    try have hl0_1 : w.heap.size < w1.heap.size := by omega
    try have hl1_1 : w.heap.size + 1 < w1.heap.size := by omega
    try have hl2_1 : w.heap.size + 2 < w1.heap.size := by omega
    try have hl3_1 : w.heap.size + 3 < w1.heap.size := by omega
    go_wp2_with fail
    refine (spec_afterDayNo _ _ _ _ _ hB _).mono ?_
    rintro e w2 ⟨rfl, hb2⟩
    obtain ⟨qc2, qf2⟩ := bcell hb2
    have hz2 := hb2.size
    try simp only [World.size_alloc, World.size_setCell, World.size_drew] at hz2
    have hq2 : Below w.heap.size w w2 := below_call (by go_grown) hb2
    try have hl0_2 : w.heap.size < w2.heap.size := by omega
    try have hl1_2 : w.heap.size + 1 < w2.heap.size := by omega
    try have hl2_2 : w.heap.size + 2 < w2.heap.size := by omega
    try have hl3_2 : w.heap.size + 3 < w2.heap.size := by omega
    try have hn1_2 : w1.heap.size < w2.heap.size := by omega
    go_wp2_with fail
    refine (to_battery _ _ _ _ _).mono ?_
    rintro e w3 ⟨rfl, hb3⟩
    obtain ⟨qc3, qf3⟩ := bcell hb3
    have hz3 := hb3.size
    try simp only [World.size_alloc, World.size_setCell, World.size_drew] at hz3
    have hq3 : Below w.heap.size w w3 := below_call (by go_grown) hb3
    try have hl0_3 : w.heap.size < w3.heap.size := by omega
    try have hl1_3 : w.heap.size + 1 < w3.heap.size := by omega
    try have hl2_3 : w.heap.size + 2 < w3.heap.size := by omega
    try have hl3_3 : w.heap.size + 3 < w3.heap.size := by omega
    try have hn1_3 : w1.heap.size < w3.heap.size := by omega
    try have hn2_3 : w2.heap.size < w3.heap.size := by omega
    go_wp2_with fail
    refine (impl_afterDayNo _ _ _ _ _ hB _).mono ?_
    rintro e w4 ⟨rfl, hb4⟩
    obtain ⟨qc4, qf4⟩ := bcell hb4
    have hz4 := hb4.size
    try simp only [World.size_alloc, World.size_setCell, World.size_drew] at hz4
    have hq4 : Below w.heap.size w w4 := below_call (by go_grown) hb4
    try have hl0_4 : w.heap.size < w4.heap.size := by omega
    try have hl1_4 : w.heap.size + 1 < w4.heap.size := by omega
    try have hl2_4 : w.heap.size + 2 < w4.heap.size := by omega
    try have hl3_4 : w.heap.size + 3 < w4.heap.size := by omega
    try have hn1_4 : w1.heap.size < w4.heap.size := by omega
    try have hn2_4 : w2.heap.size < w4.heap.size := by omega
    try have hn3_4 : w3.heap.size < w4.heap.size := by omega
    go_wp2_with fail
    refine (eq_battery _ _ _ _ _ _ _ _ true (by simp) _).mono ?_
    rintro e w5 ⟨rfl, hb5⟩
    obtain ⟨qc5, qf5⟩ := bcell hb5
    have hz5 := hb5.size
    try simp only [World.size_alloc, World.size_setCell, World.size_drew] at hz5
    have hq5 : Below w.heap.size w w5 := below_call (by go_grown) hb5
    try have hl0_5 : w.heap.size < w5.heap.size := by omega
    try have hl1_5 : w.heap.size + 1 < w5.heap.size := by omega
    try have hl2_5 : w.heap.size + 2 < w5.heap.size := by omega
    try have hl3_5 : w.heap.size + 3 < w5.heap.size := by omega
    try have hn1_5 : w1.heap.size < w5.heap.size := by omega
    try have hn2_5 : w2.heap.size < w5.heap.size := by omega
    try have hn3_5 : w3.heap.size < w5.heap.size := by omega
    try have hn4_5 : w4.heap.size < w5.heap.size := by omega
    go_wp2
    go_returns
    exact ⟨rfl, hq5⟩
  · generalize hN : aNow a b c d s = nw'
    cases hR : aRan a b c d s
    all_goals
      go_enter Try.func7, Try.ntmps7
      go_wp2_with fail
      refine (to_battery _ _ _ _ _).mono ?_
      rintro e w1 ⟨rfl, hb1⟩
      obtain ⟨qc1, qf1⟩ := bcell hb1
      have hz1 := hb1.size
      try simp only [World.size_alloc, World.size_setCell, World.size_drew] at hz1
      have hq1 : Below w.heap.size w w1 := below_call (by go_grown) hb1
      try have hl0_1 : w.heap.size < w1.heap.size := by omega
      try have hl1_1 : w.heap.size + 1 < w1.heap.size := by omega
      try have hl2_1 : w.heap.size + 2 < w1.heap.size := by omega
      try have hl3_1 : w.heap.size + 3 < w1.heap.size := by omega
      go_wp2_with fail
      refine (spec_afterDay _ _ _ _ _ hB _ _ hN hR _).mono ?_
      rintro e w2 ⟨rfl, hb2⟩
      obtain ⟨qc2, qf2⟩ := bcell hb2
      have hz2 := hb2.size
      try simp only [World.size_alloc, World.size_setCell, World.size_drew] at hz2
      have hq2 : Below w.heap.size w w2 := below_call (by go_grown) hb2
      try have hl0_2 : w.heap.size < w2.heap.size := by omega
      try have hl1_2 : w.heap.size + 1 < w2.heap.size := by omega
      try have hl2_2 : w.heap.size + 2 < w2.heap.size := by omega
      try have hl3_2 : w.heap.size + 3 < w2.heap.size := by omega
      try have hn1_2 : w1.heap.size < w2.heap.size := by omega
      go_wp2_with fail
      refine (to_battery _ _ _ _ _).mono ?_
      rintro e w3 ⟨rfl, hb3⟩
      obtain ⟨qc3, qf3⟩ := bcell hb3
      have hz3 := hb3.size
      try simp only [World.size_alloc, World.size_setCell, World.size_drew] at hz3
      have hq3 : Below w.heap.size w w3 := below_call (by go_grown) hb3
      try have hl0_3 : w.heap.size < w3.heap.size := by omega
      try have hl1_3 : w.heap.size + 1 < w3.heap.size := by omega
      try have hl2_3 : w.heap.size + 2 < w3.heap.size := by omega
      try have hl3_3 : w.heap.size + 3 < w3.heap.size := by omega
      try have hn1_3 : w1.heap.size < w3.heap.size := by omega
      try have hn2_3 : w2.heap.size < w3.heap.size := by omega
      go_wp2_with fail
      refine (impl_afterDay _ _ _ _ _ hB _ _ hN hR _).mono ?_
      rintro e w4 ⟨rfl, hb4⟩
      obtain ⟨qc4, qf4⟩ := bcell hb4
      have hz4 := hb4.size
      try simp only [World.size_alloc, World.size_setCell, World.size_drew] at hz4
      have hq4 : Below w.heap.size w w4 := below_call (by go_grown) hb4
      try have hl0_4 : w.heap.size < w4.heap.size := by omega
      try have hl1_4 : w.heap.size + 1 < w4.heap.size := by omega
      try have hl2_4 : w.heap.size + 2 < w4.heap.size := by omega
      try have hl3_4 : w.heap.size + 3 < w4.heap.size := by omega
      try have hn1_4 : w1.heap.size < w4.heap.size := by omega
      try have hn2_4 : w2.heap.size < w4.heap.size := by omega
      try have hn3_4 : w3.heap.size < w4.heap.size := by omega
      go_wp2_with fail
      refine (eq_battery _ _ _ _ _ _ _ _ true (by simp) _).mono ?_
      rintro e w5 ⟨rfl, hb5⟩
      obtain ⟨qc5, qf5⟩ := bcell hb5
      have hz5 := hb5.size
      try simp only [World.size_alloc, World.size_setCell, World.size_drew] at hz5
      have hq5 : Below w.heap.size w w5 := below_call (by go_grown) hb5
      try have hl0_5 : w.heap.size < w5.heap.size := by omega
      try have hl1_5 : w.heap.size + 1 < w5.heap.size := by omega
      try have hl2_5 : w.heap.size + 2 < w5.heap.size := by omega
      try have hl3_5 : w.heap.size + 3 < w5.heap.size := by omega
      try have hn1_5 : w1.heap.size < w5.heap.size := by omega
      try have hn2_5 : w2.heap.size < w5.heap.size := by omega
      try have hn3_5 : w3.heap.size < w5.heap.size := by omega
      try have hn4_5 : w4.heap.size < w5.heap.size := by omega
      go_wp2
      go_returns
      exact ⟨rfl, hq5⟩
end Go.Proofs.Ytnlpgbjalfgoiaa
