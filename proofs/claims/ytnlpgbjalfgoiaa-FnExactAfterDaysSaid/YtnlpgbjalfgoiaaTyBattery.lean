/- The helpers of Battery (4 numbers a value): made by gen.py. -/
import Derived.Test.YtnlpgbjalfgoiaaLib
namespace Go.Proofs.Ytnlpgbjalfgoiaa
open Go.RowKit
set_option linter.unusedVariables false
set_option linter.unusedSimpArgs false

theorem to_battery (x0 x1 x2 x3 : Int) (w : World) :
    Calls Try.prog 16 #[.agg #[.int .i64 x0, .int .i64 x1, .int .i64 x2, .int .i64 x3]] w fun e w' => e = .returned (.agg #[.int .i64 x0, .int .i64 x1, .int .i64 x2, .int .i64 x3]) ∧ Below w.heap.size w w' := by
  go_enter Try.func16, Try.ntmps16
  go_wp2
  go_returns
  exact ⟨rfl, by go_grown⟩
theorem eq_battery (x0 x1 x2 x3 y0 y1 y2 y3 : Int) (v : Bool) (hv : (decide (x0 = y0) && decide (x1 = y1) && decide (x2 = y2) && decide (x3 = y3)) = v) (w : World) :
    Calls Try.prog 29 #[.agg #[.int .i64 x0, .int .i64 x1, .int .i64 x2, .int .i64 x3], .agg #[.int .i64 y0, .int .i64 y1, .int .i64 y2, .int .i64 y3]] w fun e w' => e = .returned (.bool v) ∧ Below w.heap.size w w' := by
  by_cases h0 : x0 = y0
  · subst h0
    by_cases h1 : x1 = y1
    · subst h1
      by_cases h2 : x2 = y2
      · subst h2
        by_cases h3 : x3 = y3
        · subst h3
          obtain rfl : true = v := by simpa using hv
          go_enter Try.func29, Try.ntmps29
          go_wp2
          go_returns
          exact ⟨rfl, by go_grown⟩
        · obtain rfl : false = v := by simpa [h3] using hv
          go_enter Try.func29, Try.ntmps29
          go_wp2
          go_returns
          exact ⟨rfl, by go_grown⟩
      · obtain rfl : false = v := by simpa [h2] using hv
        go_enter Try.func29, Try.ntmps29
        go_wp2
        go_returns
        exact ⟨rfl, by go_grown⟩
    · obtain rfl : false = v := by simpa [h1] using hv
      go_enter Try.func29, Try.ntmps29
      go_wp2
      go_returns
      exact ⟨rfl, by go_grown⟩
  · obtain rfl : false = v := by simpa [h0] using hv
    go_enter Try.func29, Try.ntmps29
    go_wp2
    go_returns
    exact ⟨rfl, by go_grown⟩
end Go.Proofs.Ytnlpgbjalfgoiaa
