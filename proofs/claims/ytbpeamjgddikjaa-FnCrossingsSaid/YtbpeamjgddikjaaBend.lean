/- Chapter 18: bends, and the side of a segment on which a place lies. -/
import Derived.Test.YtbpeamjgddikjaaPlaceK
import Derived.Test.YtbpeamjgddikjaaTyBend
namespace Go.Proofs.Ytbpeamjgddikjaa
open Go.RowKit
set_option linter.unusedVariables false
set_option linter.unusedSimpArgs false

theorem mul_bd {a b : Int} (a1 : -999 ≤ a) (a2 : a ≤ 999) (b1 : -999 ≤ b) (b2 : b ≤ 999) : -998001 ≤ a * b ∧ a * b ≤ 998001 := by
  have h1 : 0 ≤ (999 - a) * (999 + b) := Int.mul_nonneg (by omega) (by omega)
  have h2 : 0 ≤ (999 + a) * (999 - b) := Int.mul_nonneg (by omega) (by omega)
  have h3 : 0 ≤ (999 - a) * (999 - b) := Int.mul_nonneg (by omega) (by omega)
  have h4 : 0 ≤ (999 + a) * (999 + b) := Int.mul_nonneg (by omega) (by omega)
  have e1 : (999 - a) * (999 + b) = 998001 + 999 * b - 999 * a - a * b := by rw [Int.sub_mul, Int.mul_add, Int.mul_add]; omega
  have e2 : (999 + a) * (999 - b) = 998001 - 999 * b + 999 * a - a * b := by rw [Int.add_mul, Int.mul_sub, Int.mul_sub]; omega
  have e3 : (999 - a) * (999 - b) = 998001 - 999 * b - 999 * a + a * b := by rw [Int.sub_mul, Int.mul_sub, Int.mul_sub]; omega
  have e4 : (999 + a) * (999 + b) = 998001 + 999 * b + 999 * a + a * b := by rw [Int.add_mul, Int.mul_add, Int.mul_add]; omega
  omega
def segB (ax ay bx by' : Int) : Bool := plB ax ay && plB bx by' && !(decide (ax = bx) && decide (ay = by'))
def sgn (n : Int) : Int := if 0 < n then 1 else if n < 0 then -1 else 0
def sideI (ax ay bx by' px py : Int) : Int := sgn ((bx - ax) * (py - ay) - (by' - ay) * (px - ax))
theorem impl_sign (n v : Int) (hv : sgn n = v) (w : World) :
    Calls Try.prog 92 #[.int .i64 n] w fun e w' => e = .returned (.int .i64 v) ∧ w = w' := by
  unfold sgn at hv
  by_cases h1 : 0 < n
  · obtain rfl : 1 = v := by rw [if_pos h1] at hv; exact hv
    clear hv
    go_enter Try.func92, Try.ntmps92
    go_wp2
    go_ret
    exact ⟨rfl, rfl⟩
  · by_cases h2 : n < 0
    · obtain rfl : -1 = v := by rw [if_neg h1, if_pos h2] at hv; exact hv
      clear hv
      go_enter Try.func92, Try.ntmps92
      go_wp2
      go_ret
      exact ⟨rfl, rfl⟩
    · obtain rfl : 0 = v := by rw [if_neg h1, if_neg h2] at hv; exact hv
      obtain rfl : n = 0 := by omega
      clear hv h1 h2
      go_enter Try.func92, Try.ntmps92
      go_wp2
      go_ret
      exact ⟨rfl, rfl⟩
structure Pl (x y : Int) : Prop where
  x1 : 0 ≤ x
  x2 : x ≤ 999
  y1 : 0 ≤ y
  y2 : y ≤ 999
theorem pl_of {x y : Int} (h : plB x y = true) : Pl x y := by
  simp only [plB, inB, Bool.and_eq_true, decide_eq_true_eq] at h
  exact ⟨by omega, by omega, by omega, by omega⟩
theorem spec_bend (x y : Int) (v : Bool) (hv : plB x y = v) (w : World) :
    Calls Try.prog 76 #[.agg #[.int .i64 x, .int .i64 y]] w fun e w' => e = .returned (.bool v) ∧ Below w.heap.size w w' := by
  go_enter Try.func76, Try.ntmps76
  go_wp2_with (go_at_call 63; refine (spec_place _ _ _ (by assumption) _).mono ?_; rintro e w' ⟨rfl, rfl⟩)
  go_returns
  exact ⟨rfl, by go_grown⟩
theorem impl_bend (x y : Int) (v : Bool) (hv : plB x y = v) (w : World) :
    Calls Try.prog 51 #[.agg #[.int .i64 x, .int .i64 y]] w fun e w' => e = .returned (.bool v) ∧ Below w.heap.size w w' := by
  go_enter Try.func51, Try.ntmps51
  go_wp2_with (go_at_call 64; refine (impl_place _ _ _ (by assumption) _).mono ?_; rintro e w' ⟨rfl, rfl⟩)
  go_returns
  exact ⟨rfl, by go_grown⟩
set_option maxHeartbeats 1000000 in
theorem spec_seg (ax ay bx by' : Int) (v : Bool) (hv : segB ax ay bx by' = v) (w : World) :
    Calls Try.prog 41 #[.agg #[.int .i64 ax, .int .i64 ay], .agg #[.int .i64 bx, .int .i64 by']] w fun e w' => e = .returned (.bool v) ∧ Below w.heap.size w w' := by
  have hfa := frozen_al; have hfo := frozen_out
  have HV := hide hv
  clear hv
  cases h1 : plB ax ay
  · obtain rfl : false = v := by rw [← HV.out, segB, h1]; rfl
    have H1 := hide h1; clear h1
    go_enter Try.func41, Try.ntmps41
    go_wp2_with fail
    refine (spec_bend _ _ _ H1.out _).mono ?_
    rintro e w1 ⟨rfl, hb1⟩
    obtain ⟨qc1, qf1⟩ := bcell hb1
    have hz1 := hb1.size
    try simp only [World.size_alloc, World.size_setCell, World.size_drew] at hz1
    have hq1 : Below w.heap.size w w1 := below_call (by go_grown) hb1
    try have hl0_1 : w.heap.size < w1.heap.size := by omega
    try have hl1_1 : w.heap.size + 1 < w1.heap.size := by omega
    try have hl2_1 : w.heap.size + 2 < w1.heap.size := by omega
    try have hl3_1 : w.heap.size + 3 < w1.heap.size := by omega
    go_wp2
    go_returns
    exact ⟨rfl, hq1⟩
  · cases h2 : plB bx by'
    · obtain rfl : false = v := by rw [← HV.out, segB, h1, h2]; rfl
      have H1 := hide h1; have H2 := hide h2; clear h1 h2
      go_enter Try.func41, Try.ntmps41
      go_wp2_with fail
      refine (spec_bend _ _ _ H1.out _).mono ?_
      rintro e w1 ⟨rfl, hb1⟩
      obtain ⟨qc1, qf1⟩ := bcell hb1
      have hz1 := hb1.size
      try simp only [World.size_alloc, World.size_setCell, World.size_drew] at hz1
      have hq1 : Below w.heap.size w w1 := below_call (by go_grown) hb1
      try have hl0_1 : w.heap.size < w1.heap.size := by omega
      try have hl1_1 : w.heap.size + 1 < w1.heap.size := by omega
      try have hl2_1 : w.heap.size + 2 < w1.heap.size := by omega
      try have hl3_1 : w.heap.size + 3 < w1.heap.size := by omega
      go_wp2_with fail
      refine (spec_bend _ _ _ H2.out _).mono ?_
      rintro e w2 ⟨rfl, hb2⟩
      obtain ⟨qc2, qf2⟩ := bcell hb2
      have hz2 := hb2.size
      try simp only [World.size_alloc, World.size_setCell, World.size_drew] at hz2
      have hq2 : Below w.heap.size w w2 := below_call (by go_grown) hb2
      try have hl0_2 : w.heap.size < w2.heap.size := by omega
      try have hl1_2 : w.heap.size + 1 < w2.heap.size := by omega
      try have hl2_2 : w.heap.size + 2 < w2.heap.size := by omega
      try have hl3_2 : w.heap.size + 3 < w2.heap.size := by omega
      try have hn1_2 : w1.heap.size < w2.heap.size := by omega
      go_wp2
      go_returns
      exact ⟨rfl, hq2⟩
    · have hv : (!(decide (ax = bx) && decide (ay = by'))) = v := by rw [← HV.out, segB, h1, h2]; rfl
      by_cases hx : ax = bx
      · subst hx
        by_cases hy : ay = by'
        · subst hy
          obtain rfl : false = v := by simpa using hv
          have H1 := hide h1; have H2 := hide h2; clear h1 h2 hv
          go_enter Try.func41, Try.ntmps41
          go_wp2_with fail
          refine (spec_bend _ _ _ H1.out _).mono ?_
          rintro e w1 ⟨rfl, hb1⟩
          obtain ⟨qc1, qf1⟩ := bcell hb1
          have hz1 := hb1.size
          try simp only [World.size_alloc, World.size_setCell, World.size_drew] at hz1
          have hq1 : Below w.heap.size w w1 := below_call (by go_grown) hb1
          try have hl0_1 : w.heap.size < w1.heap.size := by omega
          try have hl1_1 : w.heap.size + 1 < w1.heap.size := by omega
          try have hl2_1 : w.heap.size + 2 < w1.heap.size := by omega
          try have hl3_1 : w.heap.size + 3 < w1.heap.size := by omega
          go_wp2_with fail
          refine (spec_bend _ _ _ H2.out _).mono ?_
          rintro e w2 ⟨rfl, hb2⟩
          obtain ⟨qc2, qf2⟩ := bcell hb2
          have hz2 := hb2.size
          try simp only [World.size_alloc, World.size_setCell, World.size_drew] at hz2
          have hq2 : Below w.heap.size w w2 := below_call (by go_grown) hb2
          try have hl0_2 : w.heap.size < w2.heap.size := by omega
          try have hl1_2 : w.heap.size + 1 < w2.heap.size := by omega
          try have hl2_2 : w.heap.size + 2 < w2.heap.size := by omega
          try have hl3_2 : w.heap.size + 3 < w2.heap.size := by omega
          try have hn1_2 : w1.heap.size < w2.heap.size := by omega
          go_wp2
          go_returns
          exact ⟨rfl, hq2⟩
        · skip
          obtain rfl : true = v := by simpa [hy] using hv
          have H1 := hide h1; have H2 := hide h2; clear h1 h2 hv
          go_enter Try.func41, Try.ntmps41
          go_wp2_with fail
          refine (spec_bend _ _ _ H1.out _).mono ?_
          rintro e w1 ⟨rfl, hb1⟩
          obtain ⟨qc1, qf1⟩ := bcell hb1
          have hz1 := hb1.size
          try simp only [World.size_alloc, World.size_setCell, World.size_drew] at hz1
          have hq1 : Below w.heap.size w w1 := below_call (by go_grown) hb1
          try have hl0_1 : w.heap.size < w1.heap.size := by omega
          try have hl1_1 : w.heap.size + 1 < w1.heap.size := by omega
          try have hl2_1 : w.heap.size + 2 < w1.heap.size := by omega
          try have hl3_1 : w.heap.size + 3 < w1.heap.size := by omega
          go_wp2_with fail
          refine (spec_bend _ _ _ H2.out _).mono ?_
          rintro e w2 ⟨rfl, hb2⟩
          obtain ⟨qc2, qf2⟩ := bcell hb2
          have hz2 := hb2.size
          try simp only [World.size_alloc, World.size_setCell, World.size_drew] at hz2
          have hq2 : Below w.heap.size w w2 := below_call (by go_grown) hb2
          try have hl0_2 : w.heap.size < w2.heap.size := by omega
          try have hl1_2 : w.heap.size + 1 < w2.heap.size := by omega
          try have hl2_2 : w.heap.size + 2 < w2.heap.size := by omega
          try have hl3_2 : w.heap.size + 3 < w2.heap.size := by omega
          try have hn1_2 : w1.heap.size < w2.heap.size := by omega
          go_wp2
          go_returns
          exact ⟨rfl, hq2⟩
      · skip
        obtain rfl : true = v := by simpa [hx] using hv
        have H1 := hide h1; have H2 := hide h2; clear h1 h2 hv
        go_enter Try.func41, Try.ntmps41
        go_wp2_with fail
        refine (spec_bend _ _ _ H1.out _).mono ?_
        rintro e w1 ⟨rfl, hb1⟩
        obtain ⟨qc1, qf1⟩ := bcell hb1
        have hz1 := hb1.size
        try simp only [World.size_alloc, World.size_setCell, World.size_drew] at hz1
        have hq1 : Below w.heap.size w w1 := below_call (by go_grown) hb1
        try have hl0_1 : w.heap.size < w1.heap.size := by omega
        try have hl1_1 : w.heap.size + 1 < w1.heap.size := by omega
        try have hl2_1 : w.heap.size + 2 < w1.heap.size := by omega
        try have hl3_1 : w.heap.size + 3 < w1.heap.size := by omega
        go_wp2_with fail
        refine (spec_bend _ _ _ H2.out _).mono ?_
        rintro e w2 ⟨rfl, hb2⟩
        obtain ⟨qc2, qf2⟩ := bcell hb2
        have hz2 := hb2.size
        try simp only [World.size_alloc, World.size_setCell, World.size_drew] at hz2
        have hq2 : Below w.heap.size w w2 := below_call (by go_grown) hb2
        try have hl0_2 : w.heap.size < w2.heap.size := by omega
        try have hl1_2 : w.heap.size + 1 < w2.heap.size := by omega
        try have hl2_2 : w.heap.size + 2 < w2.heap.size := by omega
        try have hl3_2 : w.heap.size + 3 < w2.heap.size := by omega
        try have hn1_2 : w1.heap.size < w2.heap.size := by omega
        go_wp2
        go_returns
        exact ⟨rfl, hq2⟩
set_option maxHeartbeats 1000000 in
theorem impl_seg (ax ay bx by' : Int) (v : Bool) (hv : segB ax ay bx by' = v) (w : World) :
    Calls Try.prog 43 #[.agg #[.int .i64 ax, .int .i64 ay], .agg #[.int .i64 bx, .int .i64 by']] w fun e w' => e = .returned (.bool v) ∧ Below w.heap.size w w' := by
  have hfa := frozen_al; have hfo := frozen_out
  have HV := hide hv
  clear hv
  cases h1 : plB ax ay
  · obtain rfl : false = v := by rw [← HV.out, segB, h1]; rfl
    have H1 := hide h1; clear h1
    go_enter Try.func43, Try.ntmps43
    go_wp2_with fail
    refine (impl_bend _ _ _ H1.out _).mono ?_
    rintro e w1 ⟨rfl, hb1⟩
    obtain ⟨qc1, qf1⟩ := bcell hb1
    have hz1 := hb1.size
    try simp only [World.size_alloc, World.size_setCell, World.size_drew] at hz1
    have hq1 : Below w.heap.size w w1 := below_call (by go_grown) hb1
    try have hl0_1 : w.heap.size < w1.heap.size := by omega
    try have hl1_1 : w.heap.size + 1 < w1.heap.size := by omega
    try have hl2_1 : w.heap.size + 2 < w1.heap.size := by omega
    try have hl3_1 : w.heap.size + 3 < w1.heap.size := by omega
    go_wp2
    go_returns
    exact ⟨rfl, hq1⟩
  · cases h2 : plB bx by'
    · obtain rfl : false = v := by rw [← HV.out, segB, h1, h2]; rfl
      have H1 := hide h1; have H2 := hide h2; clear h1 h2
      go_enter Try.func43, Try.ntmps43
      go_wp2_with fail
      refine (impl_bend _ _ _ H1.out _).mono ?_
      rintro e w1 ⟨rfl, hb1⟩
      obtain ⟨qc1, qf1⟩ := bcell hb1
      have hz1 := hb1.size
      try simp only [World.size_alloc, World.size_setCell, World.size_drew] at hz1
      have hq1 : Below w.heap.size w w1 := below_call (by go_grown) hb1
      try have hl0_1 : w.heap.size < w1.heap.size := by omega
      try have hl1_1 : w.heap.size + 1 < w1.heap.size := by omega
      try have hl2_1 : w.heap.size + 2 < w1.heap.size := by omega
      try have hl3_1 : w.heap.size + 3 < w1.heap.size := by omega
      go_wp2_with fail
      refine (impl_bend _ _ _ H2.out _).mono ?_
      rintro e w2 ⟨rfl, hb2⟩
      obtain ⟨qc2, qf2⟩ := bcell hb2
      have hz2 := hb2.size
      try simp only [World.size_alloc, World.size_setCell, World.size_drew] at hz2
      have hq2 : Below w.heap.size w w2 := below_call (by go_grown) hb2
      try have hl0_2 : w.heap.size < w2.heap.size := by omega
      try have hl1_2 : w.heap.size + 1 < w2.heap.size := by omega
      try have hl2_2 : w.heap.size + 2 < w2.heap.size := by omega
      try have hl3_2 : w.heap.size + 3 < w2.heap.size := by omega
      try have hn1_2 : w1.heap.size < w2.heap.size := by omega
      go_wp2
      go_returns
      exact ⟨rfl, hq2⟩
    · have hv : (!(decide (ax = bx) && decide (ay = by'))) = v := by rw [← HV.out, segB, h1, h2]; rfl
      by_cases hx : ax = bx
      · subst hx
        by_cases hy : ay = by'
        · subst hy
          obtain rfl : false = v := by simpa using hv
          have H1 := hide h1; have H2 := hide h2; clear h1 h2 hv
          go_enter Try.func43, Try.ntmps43
          go_wp2_with fail
          refine (impl_bend _ _ _ H1.out _).mono ?_
          rintro e w1 ⟨rfl, hb1⟩
          obtain ⟨qc1, qf1⟩ := bcell hb1
          have hz1 := hb1.size
          try simp only [World.size_alloc, World.size_setCell, World.size_drew] at hz1
          have hq1 : Below w.heap.size w w1 := below_call (by go_grown) hb1
          try have hl0_1 : w.heap.size < w1.heap.size := by omega
          try have hl1_1 : w.heap.size + 1 < w1.heap.size := by omega
          try have hl2_1 : w.heap.size + 2 < w1.heap.size := by omega
          try have hl3_1 : w.heap.size + 3 < w1.heap.size := by omega
          go_wp2_with fail
          refine (impl_bend _ _ _ H2.out _).mono ?_
          rintro e w2 ⟨rfl, hb2⟩
          obtain ⟨qc2, qf2⟩ := bcell hb2
          have hz2 := hb2.size
          try simp only [World.size_alloc, World.size_setCell, World.size_drew] at hz2
          have hq2 : Below w.heap.size w w2 := below_call (by go_grown) hb2
          try have hl0_2 : w.heap.size < w2.heap.size := by omega
          try have hl1_2 : w.heap.size + 1 < w2.heap.size := by omega
          try have hl2_2 : w.heap.size + 2 < w2.heap.size := by omega
          try have hl3_2 : w.heap.size + 3 < w2.heap.size := by omega
          try have hn1_2 : w1.heap.size < w2.heap.size := by omega
          go_wp2
          go_returns
          exact ⟨rfl, hq2⟩
        · skip
          obtain rfl : true = v := by simpa [hy] using hv
          have H1 := hide h1; have H2 := hide h2; clear h1 h2 hv
          go_enter Try.func43, Try.ntmps43
          go_wp2_with fail
          refine (impl_bend _ _ _ H1.out _).mono ?_
          rintro e w1 ⟨rfl, hb1⟩
          obtain ⟨qc1, qf1⟩ := bcell hb1
          have hz1 := hb1.size
          try simp only [World.size_alloc, World.size_setCell, World.size_drew] at hz1
          have hq1 : Below w.heap.size w w1 := below_call (by go_grown) hb1
          try have hl0_1 : w.heap.size < w1.heap.size := by omega
          try have hl1_1 : w.heap.size + 1 < w1.heap.size := by omega
          try have hl2_1 : w.heap.size + 2 < w1.heap.size := by omega
          try have hl3_1 : w.heap.size + 3 < w1.heap.size := by omega
          go_wp2_with fail
          refine (impl_bend _ _ _ H2.out _).mono ?_
          rintro e w2 ⟨rfl, hb2⟩
          obtain ⟨qc2, qf2⟩ := bcell hb2
          have hz2 := hb2.size
          try simp only [World.size_alloc, World.size_setCell, World.size_drew] at hz2
          have hq2 : Below w.heap.size w w2 := below_call (by go_grown) hb2
          try have hl0_2 : w.heap.size < w2.heap.size := by omega
          try have hl1_2 : w.heap.size + 1 < w2.heap.size := by omega
          try have hl2_2 : w.heap.size + 2 < w2.heap.size := by omega
          try have hl3_2 : w.heap.size + 3 < w2.heap.size := by omega
          try have hn1_2 : w1.heap.size < w2.heap.size := by omega
          go_wp2
          go_returns
          exact ⟨rfl, hq2⟩
      · skip
        obtain rfl : true = v := by simpa [hx] using hv
        have H1 := hide h1; have H2 := hide h2; clear h1 h2 hv
        go_enter Try.func43, Try.ntmps43
        go_wp2_with fail
        refine (impl_bend _ _ _ H1.out _).mono ?_
        rintro e w1 ⟨rfl, hb1⟩
        obtain ⟨qc1, qf1⟩ := bcell hb1
        have hz1 := hb1.size
        try simp only [World.size_alloc, World.size_setCell, World.size_drew] at hz1
        have hq1 : Below w.heap.size w w1 := below_call (by go_grown) hb1
        try have hl0_1 : w.heap.size < w1.heap.size := by omega
        try have hl1_1 : w.heap.size + 1 < w1.heap.size := by omega
        try have hl2_1 : w.heap.size + 2 < w1.heap.size := by omega
        try have hl3_1 : w.heap.size + 3 < w1.heap.size := by omega
        go_wp2_with fail
        refine (impl_bend _ _ _ H2.out _).mono ?_
        rintro e w2 ⟨rfl, hb2⟩
        obtain ⟨qc2, qf2⟩ := bcell hb2
        have hz2 := hb2.size
        try simp only [World.size_alloc, World.size_setCell, World.size_drew] at hz2
        have hq2 : Below w.heap.size w w2 := below_call (by go_grown) hb2
        try have hl0_2 : w.heap.size < w2.heap.size := by omega
        try have hl1_2 : w.heap.size + 1 < w2.heap.size := by omega
        try have hl2_2 : w.heap.size + 2 < w2.heap.size := by omega
        try have hl3_2 : w.heap.size + 3 < w2.heap.size := by omega
        try have hn1_2 : w1.heap.size < w2.heap.size := by omega
        go_wp2
        go_returns
        exact ⟨rfl, hq2⟩
set_option maxHeartbeats 1000000 in
theorem spec_side (ax ay bx by' px py v : Int) (hv : sideI ax ay bx by' px py = v) (ha : Pl ax ay) (hb : Pl bx by') (hp : Pl px py) (w : World) :
    Calls Try.prog 77 #[.agg #[.int .i64 ax, .int .i64 ay], .agg #[.int .i64 bx, .int .i64 by'], .agg #[.int .i64 px, .int .i64 py]] w fun e w' => e = .returned (.int .i64 v) ∧ Below w.heap.size w w' := by
  obtain ⟨a1, a2, a3, a4⟩ := ha; obtain ⟨b1, b2, b3, b4⟩ := hb; obtain ⟨p1, p2, p3, p4⟩ := hp
  obtain ⟨m1, m2⟩ := mul_bd (a := bx - ax) (b := py - ay) (by omega) (by omega) (by omega) (by omega)
  obtain ⟨m3, m4⟩ := mul_bd (a := by' - ay) (b := px - ax) (by omega) (by omega) (by omega) (by omega)
  have hmm : min 1 (max (-1) ((bx - ax) * (py - ay) - (by' - ay) * (px - ax))) = v := by
    rw [← hv]; unfold sideI sgn; split <;> (try split) <;> omega
  have HM := hide hmm
  clear hv hmm
  go_enter Try.func77, Try.ntmps77
  go_wp2_with (first | (go_at_call 91; refine (spec_most _ _ _ rfl _).mono ?_; rintro e w' ⟨rfl, rfl⟩) | (go_at_call 90; refine (spec_least _ _ _ HM.out _).mono ?_; rintro e w' ⟨rfl, rfl⟩))
  go_returns
  exact ⟨rfl, by go_grown⟩
set_option maxHeartbeats 1000000 in
theorem impl_side (ax ay bx by' px py v : Int) (hv : sideI ax ay bx by' px py = v) (ha : Pl ax ay) (hb : Pl bx by') (hp : Pl px py) (w : World) :
    Calls Try.prog 80 #[.agg #[.int .i64 ax, .int .i64 ay], .agg #[.int .i64 bx, .int .i64 by'], .agg #[.int .i64 px, .int .i64 py]] w fun e w' => e = .returned (.int .i64 v) ∧ Below w.heap.size w w' := by
  obtain ⟨a1, a2, a3, a4⟩ := ha; obtain ⟨b1, b2, b3, b4⟩ := hb; obtain ⟨p1, p2, p3, p4⟩ := hp
  obtain ⟨m1, m2⟩ := mul_bd (a := bx - ax) (b := py - ay) (by omega) (by omega) (by omega) (by omega)
  obtain ⟨m3, m4⟩ := mul_bd (a := by' - ay) (b := px - ax) (by omega) (by omega) (by omega) (by omega)
  have HV := hide hv
  clear hv
  go_enter Try.func80, Try.ntmps80
  go_wp2_with (go_at_call 92; refine (impl_sign _ _ HV.out _).mono ?_; rintro e w' ⟨rfl, rfl⟩)
  go_returns
  exact ⟨rfl, by go_grown⟩
end Go.Proofs.Ytbpeamjgddikjaa
