/- The helpers of Bend (2 numbers a value): made by gen.py. -/
import Derived.Test.YtlnndfnonljhbaaLib
namespace Go.Proofs.Ytlnndfnonljhbaa
open Go.RowKit
set_option linter.unusedVariables false
set_option linter.unusedSimpArgs false

theorem to_bend (x0 x1 : Int) (w : World) :
    Calls Try.prog 9 #[.agg #[.int .i64 x0, .int .i64 x1]] w fun e w' => e = .returned (.agg #[.int .i64 x0, .int .i64 x1]) ∧ Below w.heap.size w w' := by
  go_enter Try.func9, Try.ntmps9
  go_wp2
  go_returns
  exact ⟨rfl, by go_grown⟩
end Go.Proofs.Ytlnndfnonljhbaa
