/- Ticks and places. -/
import Derived.Test.YtbogcphbnooboaaNum
namespace Go.Proofs.Ytbogcphbnooboaa
open Go.RowKit
set_option linter.unusedVariables false
set_option linter.unusedSimpArgs false

def plB (x y : Int) : Bool := inB x 0 999 && inB y 0 999
theorem spec_tick (x : Int) (v : Bool) (hv : inB x 0 1000000 = v) (w : World) :
    Calls Try.prog 73 #[.int .i64 x] w fun e w' => e = .returned (.bool v) ∧ w = w' := by
  go_enter Try.func73, Try.ntmps73
  go_wp2_with (go_at_call 74; refine (spec_in _ _ _ _ (by assumption) _).mono ?_; rintro e w' ⟨rfl, rfl⟩)
  go_ret
  exact ⟨rfl, rfl⟩
theorem impl_tick (x : Int) (v : Bool) (hv : inB x 0 1000000 = v) (w : World) :
    Calls Try.prog 76 #[.int .i64 x] w fun e w' => e = .returned (.bool v) ∧ w = w' := by
  go_enter Try.func76, Try.ntmps76
  go_wp2_with (go_at_call 51; refine (impl_in _ _ _ _ (by assumption) _).mono ?_; rintro e w' ⟨rfl, rfl⟩)
  go_ret
  exact ⟨rfl, rfl⟩
theorem spec_place (x y : Int) (v : Bool) (hv : plB x y = v) (w : World) :
    Calls Try.prog 101 #[.int .i64 x, .int .i64 y] w fun e w' => e = .returned (.bool v) ∧ w = w' := by
  unfold plB at hv
  cases h0 : inB x 0 999
  · skip
    obtain rfl : false = v := by simpa [h0] using hv
    go_enter Try.func101, Try.ntmps101
    go_wp2_with (first | (go_at_call 74; refine (spec_in _ _ _ _ (by assumption) _).mono ?_; rintro e w' ⟨rfl, rfl⟩))
    go_ret
    exact ⟨rfl, rfl⟩
  · skip
    cases h1 : inB y 0 999
    · skip
      obtain rfl : false = v := by simpa [h0, h1] using hv
      go_enter Try.func101, Try.ntmps101
      go_wp2_with (first | (go_at_call 74; refine (spec_in _ _ _ _ (by assumption) _).mono ?_; rintro e w' ⟨rfl, rfl⟩))
      go_ret
      exact ⟨rfl, rfl⟩
    · skip
      obtain rfl : true = v := by simpa [h0, h1] using hv
      go_enter Try.func101, Try.ntmps101
      go_wp2_with (first | (go_at_call 74; refine (spec_in _ _ _ _ (by assumption) _).mono ?_; rintro e w' ⟨rfl, rfl⟩))
      go_ret
      exact ⟨rfl, rfl⟩
theorem impl_place (x y : Int) (v : Bool) (hv : plB x y = v) (w : World) :
    Calls Try.prog 99 #[.int .i64 x, .int .i64 y] w fun e w' => e = .returned (.bool v) ∧ w = w' := by
  unfold plB at hv
  cases h0 : inB x 0 999
  · skip
    obtain rfl : false = v := by simpa [h0] using hv
    go_enter Try.func99, Try.ntmps99
    go_wp2_with (first | (go_at_call 51; refine (impl_in _ _ _ _ (by assumption) _).mono ?_; rintro e w' ⟨rfl, rfl⟩))
    go_ret
    exact ⟨rfl, rfl⟩
  · skip
    cases h1 : inB y 0 999
    · skip
      obtain rfl : false = v := by simpa [h0, h1] using hv
      go_enter Try.func99, Try.ntmps99
      go_wp2_with (first | (go_at_call 51; refine (impl_in _ _ _ _ (by assumption) _).mono ?_; rintro e w' ⟨rfl, rfl⟩))
      go_ret
      exact ⟨rfl, rfl⟩
    · skip
      obtain rfl : true = v := by simpa [h0, h1] using hv
      go_enter Try.func99, Try.ntmps99
      go_wp2_with (first | (go_at_call 51; refine (impl_in _ _ _ _ (by assumption) _).mono ?_; rintro e w' ⟨rfl, rfl⟩))
      go_ret
      exact ⟨rfl, rfl⟩
end Go.Proofs.Ytbogcphbnooboaa
