/- Ticks and places. -/
import Derived.Test.YtlnndfnonljhbaaNum
namespace Go.Proofs.Ytlnndfnonljhbaa
open Go.RowKit
set_option linter.unusedVariables false
set_option linter.unusedSimpArgs false

def plB (x y : Int) : Bool := inB x 0 999 && inB y 0 999
theorem spec_tick (x : Int) (v : Bool) (hv : inB x 0 1000000 = v) (w : World) :
    Calls Try.prog 34 #[.int .i64 x] w fun e w' => e = .returned (.bool v) ∧ w = w' := by
  go_enter Try.func34, Try.ntmps34
  go_wp2_with (go_at_call 56; refine (spec_in _ _ _ _ (by assumption) _).mono ?_; rintro e w' ⟨rfl, rfl⟩)
  go_ret
  exact ⟨rfl, rfl⟩
theorem impl_tick (x : Int) (v : Bool) (hv : inB x 0 1000000 = v) (w : World) :
    Calls Try.prog 35 #[.int .i64 x] w fun e w' => e = .returned (.bool v) ∧ w = w' := by
  go_enter Try.func35, Try.ntmps35
  go_wp2_with (go_at_call 47; refine (impl_in _ _ _ _ (by assumption) _).mono ?_; rintro e w' ⟨rfl, rfl⟩)
  go_ret
  exact ⟨rfl, rfl⟩
theorem spec_place (x y : Int) (v : Bool) (hv : plB x y = v) (w : World) :
    Calls Try.prog 49 #[.int .i64 x, .int .i64 y] w fun e w' => e = .returned (.bool v) ∧ w = w' := by
  unfold plB at hv
  cases h0 : inB x 0 999
  · skip
    obtain rfl : false = v := by simpa [h0] using hv
    go_enter Try.func49, Try.ntmps49
    go_wp2_with (first | (go_at_call 56; refine (spec_in _ _ _ _ (by assumption) _).mono ?_; rintro e w' ⟨rfl, rfl⟩))
    go_ret
    exact ⟨rfl, rfl⟩
  · skip
    cases h1 : inB y 0 999
    · skip
      obtain rfl : false = v := by simpa [h0, h1] using hv
      go_enter Try.func49, Try.ntmps49
      go_wp2_with (first | (go_at_call 56; refine (spec_in _ _ _ _ (by assumption) _).mono ?_; rintro e w' ⟨rfl, rfl⟩))
      go_ret
      exact ⟨rfl, rfl⟩
    · skip
      obtain rfl : true = v := by simpa [h0, h1] using hv
      go_enter Try.func49, Try.ntmps49
      go_wp2_with (first | (go_at_call 56; refine (spec_in _ _ _ _ (by assumption) _).mono ?_; rintro e w' ⟨rfl, rfl⟩))
      go_ret
      exact ⟨rfl, rfl⟩
theorem impl_place (x y : Int) (v : Bool) (hv : plB x y = v) (w : World) :
    Calls Try.prog 46 #[.int .i64 x, .int .i64 y] w fun e w' => e = .returned (.bool v) ∧ w = w' := by
  unfold plB at hv
  cases h0 : inB x 0 999
  · skip
    obtain rfl : false = v := by simpa [h0] using hv
    go_enter Try.func46, Try.ntmps46
    go_wp2_with (first | (go_at_call 47; refine (impl_in _ _ _ _ (by assumption) _).mono ?_; rintro e w' ⟨rfl, rfl⟩))
    go_ret
    exact ⟨rfl, rfl⟩
  · skip
    cases h1 : inB y 0 999
    · skip
      obtain rfl : false = v := by simpa [h0, h1] using hv
      go_enter Try.func46, Try.ntmps46
      go_wp2_with (first | (go_at_call 47; refine (impl_in _ _ _ _ (by assumption) _).mono ?_; rintro e w' ⟨rfl, rfl⟩))
      go_ret
      exact ⟨rfl, rfl⟩
    · skip
      obtain rfl : true = v := by simpa [h0, h1] using hv
      go_enter Try.func46, Try.ntmps46
      go_wp2_with (first | (go_at_call 47; refine (impl_in _ _ _ _ (by assumption) _).mono ?_; rintro e w' ⟨rfl, rfl⟩))
      go_ret
      exact ⟨rfl, rfl⟩
end Go.Proofs.Ytlnndfnonljhbaa
