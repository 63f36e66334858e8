/- Ticks and places. -/
import Derived.Test.YtooiefpinfgclaaNum
namespace Go.Proofs.Ytooiefpinfgclaa
open Go.RowKit
set_option linter.unusedVariables false
set_option linter.unusedSimpArgs false

def plB (x y : Int) : Bool := inB x 0 999 && inB y 0 999
theorem spec_tick (x : Int) (v : Bool) (hv : inB x 0 1000000 = v) (w : World) :
    Calls Try.prog 26 #[.int .i64 x] w fun e w' => e = .returned (.bool v) ∧ w = w' := by
  go_enter Try.func26, Try.ntmps26
  go_wp2_with (go_at_call 43; refine (spec_in _ _ _ _ (by assumption) _).mono ?_; rintro e w' ⟨rfl, rfl⟩)
  go_ret
  exact ⟨rfl, rfl⟩
theorem impl_tick (x : Int) (v : Bool) (hv : inB x 0 1000000 = v) (w : World) :
    Calls Try.prog 27 #[.int .i64 x] w fun e w' => e = .returned (.bool v) ∧ w = w' := by
  go_enter Try.func27, Try.ntmps27
  go_wp2_with (go_at_call 34; refine (impl_in _ _ _ _ (by assumption) _).mono ?_; rintro e w' ⟨rfl, rfl⟩)
  go_ret
  exact ⟨rfl, rfl⟩
end Go.Proofs.Ytooiefpinfgclaa
