/- Ticks and places. -/
import Derived.Test.YtbpeamjgddikjaaNum
namespace Go.Proofs.Ytbpeamjgddikjaa
open Go.RowKit
set_option linter.unusedVariables false
set_option linter.unusedSimpArgs false

def plB (x y : Int) : Bool := inB x 0 999 && inB y 0 999
theorem spec_place (x y : Int) (v : Bool) (hv : plB x y = v) (w : World) :
    Calls Try.prog 63 #[.int .i64 x, .int .i64 y] w fun e w' => e = .returned (.bool v) ∧ w = w' := by
  unfold plB at hv
  cases h0 : inB x 0 999
  · skip
    obtain rfl : false = v := by simpa [h0] using hv
    go_enter Try.func63, Try.ntmps63
    go_wp2_with (first | (go_at_call 53; refine (spec_in _ _ _ _ (by assumption) _).mono ?_; rintro e w' ⟨rfl, rfl⟩))
    go_ret
    exact ⟨rfl, rfl⟩
  · skip
    cases h1 : inB y 0 999
    · skip
      obtain rfl : false = v := by simpa [h0, h1] using hv
      go_enter Try.func63, Try.ntmps63
      go_wp2_with (first | (go_at_call 53; refine (spec_in _ _ _ _ (by assumption) _).mono ?_; rintro e w' ⟨rfl, rfl⟩))
      go_ret
      exact ⟨rfl, rfl⟩
    · skip
      obtain rfl : true = v := by simpa [h0, h1] using hv
      go_enter Try.func63, Try.ntmps63
      go_wp2_with (first | (go_at_call 53; refine (spec_in _ _ _ _ (by assumption) _).mono ?_; rintro e w' ⟨rfl, rfl⟩))
      go_ret
      exact ⟨rfl, rfl⟩
theorem impl_place (x y : Int) (v : Bool) (hv : plB x y = v) (w : World) :
    Calls Try.prog 64 #[.int .i64 x, .int .i64 y] w fun e w' => e = .returned (.bool v) ∧ w = w' := by
  unfold plB at hv
  cases h0 : inB x 0 999
  · skip
    obtain rfl : false = v := by simpa [h0] using hv
    go_enter Try.func64, Try.ntmps64
    go_wp2_with (first | (go_at_call 48; refine (impl_in _ _ _ _ (by assumption) _).mono ?_; rintro e w' ⟨rfl, rfl⟩))
    go_ret
    exact ⟨rfl, rfl⟩
  · skip
    cases h1 : inB y 0 999
    · skip
      obtain rfl : false = v := by simpa [h0, h1] using hv
      go_enter Try.func64, Try.ntmps64
      go_wp2_with (first | (go_at_call 48; refine (impl_in _ _ _ _ (by assumption) _).mono ?_; rintro e w' ⟨rfl, rfl⟩))
      go_ret
      exact ⟨rfl, rfl⟩
    · skip
      obtain rfl : true = v := by simpa [h0, h1] using hv
      go_enter Try.func64, Try.ntmps64
      go_wp2_with (first | (go_at_call 48; refine (impl_in _ _ _ _ (by assumption) _).mono ?_; rintro e w' ⟨rfl, rfl⟩))
      go_ret
      exact ⟨rfl, rfl⟩
end Go.Proofs.Ytbpeamjgddikjaa
