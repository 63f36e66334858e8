/- Ticks and places. -/
import Derived.Test.YteklalbjlmkagaaNum
namespace Go.Proofs.Yteklalbjlmkagaa
open Go.RowKit
set_option linter.unusedVariables false
set_option linter.unusedSimpArgs false

def plB (x y : Int) : Bool := inB x 0 999 && inB y 0 999
theorem spec_tick (x : Int) (v : Bool) (hv : inB x 0 1000000 = v) (w : World) :
    Calls Try.prog 89 #[.int .i64 x] w fun e w' => e = .returned (.bool v) ∧ w = w' := by
  go_enter Try.func89, Try.ntmps89
  go_wp2_with (go_at_call 38; refine (spec_in _ _ _ _ (by assumption) _).mono ?_; rintro e w' ⟨rfl, rfl⟩)
  go_ret
  exact ⟨rfl, rfl⟩
theorem impl_tick (x : Int) (v : Bool) (hv : inB x 0 1000000 = v) (w : World) :
    Calls Try.prog 80 #[.int .i64 x] w fun e w' => e = .returned (.bool v) ∧ w = w' := by
  go_enter Try.func80, Try.ntmps80
  go_wp2_with (go_at_call 40; refine (impl_in _ _ _ _ (by assumption) _).mono ?_; rintro e w' ⟨rfl, rfl⟩)
  go_ret
  exact ⟨rfl, rfl⟩
theorem spec_place (x y : Int) (v : Bool) (hv : plB x y = v) (w : World) :
    Calls Try.prog 90 #[.int .i64 x, .int .i64 y] w fun e w' => e = .returned (.bool v) ∧ w = w' := by
  unfold plB at hv
  cases h0 : inB x 0 999
  · skip
    obtain rfl : false = v := by simpa [h0] using hv
    go_enter Try.func90, Try.ntmps90
    go_wp2_with (first | (go_at_call 38; refine (spec_in _ _ _ _ (by assumption) _).mono ?_; rintro e w' ⟨rfl, rfl⟩))
    go_ret
    exact ⟨rfl, rfl⟩
  · skip
    cases h1 : inB y 0 999
    · skip
      obtain rfl : false = v := by simpa [h0, h1] using hv
      go_enter Try.func90, Try.ntmps90
      go_wp2_with (first | (go_at_call 38; refine (spec_in _ _ _ _ (by assumption) _).mono ?_; rintro e w' ⟨rfl, rfl⟩))
      go_ret
      exact ⟨rfl, rfl⟩
    · skip
      obtain rfl : true = v := by simpa [h0, h1] using hv
      go_enter Try.func90, Try.ntmps90
      go_wp2_with (first | (go_at_call 38; refine (spec_in _ _ _ _ (by assumption) _).mono ?_; rintro e w' ⟨rfl, rfl⟩))
      go_ret
      exact ⟨rfl, rfl⟩
theorem impl_place (x y : Int) (v : Bool) (hv : plB x y = v) (w : World) :
    Calls Try.prog 81 #[.int .i64 x, .int .i64 y] w fun e w' => e = .returned (.bool v) ∧ w = w' := by
  unfold plB at hv
  cases h0 : inB x 0 999
  · skip
    obtain rfl : false = v := by simpa [h0] using hv
    go_enter Try.func81, Try.ntmps81
    go_wp2_with (first | (go_at_call 40; refine (impl_in _ _ _ _ (by assumption) _).mono ?_; rintro e w' ⟨rfl, rfl⟩))
    go_ret
    exact ⟨rfl, rfl⟩
  · skip
    cases h1 : inB y 0 999
    · skip
      obtain rfl : false = v := by simpa [h0, h1] using hv
      go_enter Try.func81, Try.ntmps81
      go_wp2_with (first | (go_at_call 40; refine (impl_in _ _ _ _ (by assumption) _).mono ?_; rintro e w' ⟨rfl, rfl⟩))
      go_ret
      exact ⟨rfl, rfl⟩
    · skip
      obtain rfl : true = v := by simpa [h0, h1] using hv
      go_enter Try.func81, Try.ntmps81
      go_wp2_with (first | (go_at_call 40; refine (impl_in _ _ _ _ (by assumption) _).mono ?_; rintro e w' ⟨rfl, rfl⟩))
      go_ret
      exact ⟨rfl, rfl⟩
end Go.Proofs.Yteklalbjlmkagaa
