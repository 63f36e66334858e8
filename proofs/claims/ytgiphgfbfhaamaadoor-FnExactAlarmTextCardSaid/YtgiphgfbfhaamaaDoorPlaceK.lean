/- Ticks and places. -/
import Derived.Test.YtgiphgfbfhaamaaDoorNum
namespace Go.Proofs.YtgiphgfbfhaamaaDoor
open Go.RowKit
set_option linter.unusedVariables false
set_option linter.unusedSimpArgs false

def plB (x y : Int) : Bool := inB x 0 999 && inB y 0 999
theorem spec_tick (x : Int) (v : Bool) (hv : inB x 0 1000000 = v) (w : World) :
    Calls Tryd.prog 16 #[.int .i64 x] w fun e w' => e = .returned (.bool v) ∧ w = w' := by
  go_enter Tryd.func16, Tryd.ntmps16
  go_wp2_with (go_at_call 17; refine (spec_in _ _ _ _ (by assumption) _).mono ?_; rintro e w' ⟨rfl, rfl⟩)
  go_ret
  exact ⟨rfl, rfl⟩
theorem impl_tick (x : Int) (v : Bool) (hv : inB x 0 1000000 = v) (w : World) :
    Calls Tryd.prog 21 #[.int .i64 x] w fun e w' => e = .returned (.bool v) ∧ w = w' := by
  go_enter Tryd.func21, Tryd.ntmps21
  go_wp2_with (go_at_call 22; refine (impl_in _ _ _ _ (by assumption) _).mono ?_; rintro e w' ⟨rfl, rfl⟩)
  go_ret
  exact ⟨rfl, rfl⟩
end Go.Proofs.YtgiphgfbfhaamaaDoor
