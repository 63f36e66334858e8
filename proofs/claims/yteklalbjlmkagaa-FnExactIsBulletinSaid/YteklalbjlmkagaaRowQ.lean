/- Chapter 24: rows of a bulletin: made by easygen.py. -/
import Derived.Test.YteklalbjlmkagaaPlaceK
import Derived.Test.YteklalbjlmkagaaTyQuakeRow
namespace Go.Proofs.Yteklalbjlmkagaa
open Go.RowKit
set_option linter.unusedVariables false
set_option linter.unusedSimpArgs false

def rowB (i t x y d s g : Int) : Bool := inB i 1 9999 && inB t 0 1000000 && plB x y && inB d 0 700 && inB s (-100) 1000 && inB g 1 4
theorem spec_rsize (x : Int) (v : Bool) (hv : inB x (-100) 1000 = v) (w : World) :
    Calls Try.prog 91 #[.int .i64 x] w fun e w' => e = .returned (.bool v) ∧ w = w' := by
  go_enter Try.func91, Try.ntmps91
  go_wp2_with (go_at_call 38; refine (spec_in _ _ _ _ (by assumption) _).mono ?_; rintro e w' ⟨rfl, rfl⟩)
  go_ret
  exact ⟨rfl, rfl⟩
theorem impl_rsize (x : Int) (v : Bool) (hv : inB x (-100) 1000 = v) (w : World) :
    Calls Try.prog 82 #[.int .i64 x] w fun e w' => e = .returned (.bool v) ∧ w = w' := by
  go_enter Try.func82, Try.ntmps82
  go_wp2_with (go_at_call 40; refine (impl_in _ _ _ _ (by assumption) _).mono ?_; rintro e w' ⟨rfl, rfl⟩)
  go_ret
  exact ⟨rfl, rfl⟩
theorem spec_row (i t x y d s g : Int) (v : Bool) (hv : rowB i t x y d s g = v) (w : World) :
    Calls Try.prog 79 #[.agg #[.int .i64 i, .int .i64 t, .int .i64 x, .int .i64 y, .int .i64 d, .int .i64 s, .int .i64 g]] w fun e w' => e = .returned (.bool v) ∧ Below w.heap.size w w' := by
  unfold rowB at hv
  cases h0 : inB i 1 9999
  · skip
    obtain rfl : false = v := by simpa [h0] using hv
    go_enter Try.func79, Try.ntmps79
    go_wp2_with (first | (go_at_call 38; refine (spec_in _ _ _ _ (by assumption) _).mono ?_; rintro e w' ⟨rfl, rfl⟩) | (go_at_call 89; refine (spec_tick _ _ (by assumption) _).mono ?_; rintro e w' ⟨rfl, rfl⟩) | (go_at_call 90; refine (spec_place _ _ _ (by assumption) _).mono ?_; rintro e w' ⟨rfl, rfl⟩) | (go_at_call 91; refine (spec_rsize _ _ (by assumption) _).mono ?_; rintro e w' ⟨rfl, rfl⟩))
    go_returns
    exact ⟨rfl, by go_grown⟩
  · skip
    cases h1 : inB t 0 1000000
    · skip
      obtain rfl : false = v := by simpa [h0, h1] using hv
      go_enter Try.func79, Try.ntmps79
      go_wp2_with (first | (go_at_call 38; refine (spec_in _ _ _ _ (by assumption) _).mono ?_; rintro e w' ⟨rfl, rfl⟩) | (go_at_call 89; refine (spec_tick _ _ (by assumption) _).mono ?_; rintro e w' ⟨rfl, rfl⟩) | (go_at_call 90; refine (spec_place _ _ _ (by assumption) _).mono ?_; rintro e w' ⟨rfl, rfl⟩) | (go_at_call 91; refine (spec_rsize _ _ (by assumption) _).mono ?_; rintro e w' ⟨rfl, rfl⟩))
      go_returns
      exact ⟨rfl, by go_grown⟩
    · skip
      cases h2 : plB x y
      · skip
        obtain rfl : false = v := by simpa [h0, h1, h2] using hv
        go_enter Try.func79, Try.ntmps79
        go_wp2_with (first | (go_at_call 38; refine (spec_in _ _ _ _ (by assumption) _).mono ?_; rintro e w' ⟨rfl, rfl⟩) | (go_at_call 89; refine (spec_tick _ _ (by assumption) _).mono ?_; rintro e w' ⟨rfl, rfl⟩) | (go_at_call 90; refine (spec_place _ _ _ (by assumption) _).mono ?_; rintro e w' ⟨rfl, rfl⟩) | (go_at_call 91; refine (spec_rsize _ _ (by assumption) _).mono ?_; rintro e w' ⟨rfl, rfl⟩))
        go_returns
        exact ⟨rfl, by go_grown⟩
      · skip
        cases h3 : inB d 0 700
        · skip
          obtain rfl : false = v := by simpa [h0, h1, h2, h3] using hv
          go_enter Try.func79, Try.ntmps79
          go_wp2_with (first | (go_at_call 38; refine (spec_in _ _ _ _ (by assumption) _).mono ?_; rintro e w' ⟨rfl, rfl⟩) | (go_at_call 89; refine (spec_tick _ _ (by assumption) _).mono ?_; rintro e w' ⟨rfl, rfl⟩) | (go_at_call 90; refine (spec_place _ _ _ (by assumption) _).mono ?_; rintro e w' ⟨rfl, rfl⟩) | (go_at_call 91; refine (spec_rsize _ _ (by assumption) _).mono ?_; rintro e w' ⟨rfl, rfl⟩))
          go_returns
          exact ⟨rfl, by go_grown⟩
        · skip
          cases h4 : inB s (-100) 1000
          · skip
            obtain rfl : false = v := by simpa [h0, h1, h2, h3, h4] using hv
            go_enter Try.func79, Try.ntmps79
            go_wp2_with (first | (go_at_call 38; refine (spec_in _ _ _ _ (by assumption) _).mono ?_; rintro e w' ⟨rfl, rfl⟩) | (go_at_call 89; refine (spec_tick _ _ (by assumption) _).mono ?_; rintro e w' ⟨rfl, rfl⟩) | (go_at_call 90; refine (spec_place _ _ _ (by assumption) _).mono ?_; rintro e w' ⟨rfl, rfl⟩) | (go_at_call 91; refine (spec_rsize _ _ (by assumption) _).mono ?_; rintro e w' ⟨rfl, rfl⟩))
            go_returns
            exact ⟨rfl, by go_grown⟩
          · skip
            cases h5 : inB g 1 4
            · skip
              obtain rfl : false = v := by simpa [h0, h1, h2, h3, h4, h5] using hv
              go_enter Try.func79, Try.ntmps79
              go_wp2_with (first | (go_at_call 38; refine (spec_in _ _ _ _ (by assumption) _).mono ?_; rintro e w' ⟨rfl, rfl⟩) | (go_at_call 89; refine (spec_tick _ _ (by assumption) _).mono ?_; rintro e w' ⟨rfl, rfl⟩) | (go_at_call 90; refine (spec_place _ _ _ (by assumption) _).mono ?_; rintro e w' ⟨rfl, rfl⟩) | (go_at_call 91; refine (spec_rsize _ _ (by assumption) _).mono ?_; rintro e w' ⟨rfl, rfl⟩))
              go_returns
              exact ⟨rfl, by go_grown⟩
            · skip
              obtain rfl : true = v := by simpa [h0, h1, h2, h3, h4, h5] using hv
              go_enter Try.func79, Try.ntmps79
              go_wp2_with (first | (go_at_call 38; refine (spec_in _ _ _ _ (by assumption) _).mono ?_; rintro e w' ⟨rfl, rfl⟩) | (go_at_call 89; refine (spec_tick _ _ (by assumption) _).mono ?_; rintro e w' ⟨rfl, rfl⟩) | (go_at_call 90; refine (spec_place _ _ _ (by assumption) _).mono ?_; rintro e w' ⟨rfl, rfl⟩) | (go_at_call 91; refine (spec_rsize _ _ (by assumption) _).mono ?_; rintro e w' ⟨rfl, rfl⟩))
              go_returns
              exact ⟨rfl, by go_grown⟩
theorem impl_row (i t x y d s g : Int) (v : Bool) (hv : rowB i t x y d s g = v) (w : World) :
    Calls Try.prog 62 #[.agg #[.int .i64 i, .int .i64 t, .int .i64 x, .int .i64 y, .int .i64 d, .int .i64 s, .int .i64 g]] w fun e w' => e = .returned (.bool v) ∧ Below w.heap.size w w' := by
  unfold rowB at hv
  cases h1 : inB t 0 1000000
  · skip
    cases h4 : inB i 1 9999
    · skip
      obtain rfl : false = v := by simpa [h1, h4] using hv
      go_enter Try.func62, Try.ntmps62
      go_wp2_with (first | (go_at_call 40; refine (impl_in _ _ _ _ (by assumption) _).mono ?_; rintro e w' ⟨rfl, rfl⟩) | (go_at_call 80; refine (impl_tick _ _ (by assumption) _).mono ?_; rintro e w' ⟨rfl, rfl⟩) | (go_at_call 81; refine (impl_place _ _ _ (by assumption) _).mono ?_; rintro e w' ⟨rfl, rfl⟩) | (go_at_call 82; refine (impl_rsize _ _ (by assumption) _).mono ?_; rintro e w' ⟨rfl, rfl⟩))
      go_returns
      exact ⟨rfl, by go_grown⟩
    · skip
      obtain rfl : false = v := by simpa [h1, h4] using hv
      go_enter Try.func62, Try.ntmps62
      go_wp2_with (first | (go_at_call 40; refine (impl_in _ _ _ _ (by assumption) _).mono ?_; rintro e w' ⟨rfl, rfl⟩) | (go_at_call 80; refine (impl_tick _ _ (by assumption) _).mono ?_; rintro e w' ⟨rfl, rfl⟩) | (go_at_call 81; refine (impl_place _ _ _ (by assumption) _).mono ?_; rintro e w' ⟨rfl, rfl⟩) | (go_at_call 82; refine (impl_rsize _ _ (by assumption) _).mono ?_; rintro e w' ⟨rfl, rfl⟩))
      go_returns
      exact ⟨rfl, by go_grown⟩
  · skip
    cases h2 : plB x y
    · skip
      cases h4 : inB i 1 9999
      · skip
        obtain rfl : false = v := by simpa [h1, h2, h4] using hv
        go_enter Try.func62, Try.ntmps62
        go_wp2_with (first | (go_at_call 40; refine (impl_in _ _ _ _ (by assumption) _).mono ?_; rintro e w' ⟨rfl, rfl⟩) | (go_at_call 80; refine (impl_tick _ _ (by assumption) _).mono ?_; rintro e w' ⟨rfl, rfl⟩) | (go_at_call 81; refine (impl_place _ _ _ (by assumption) _).mono ?_; rintro e w' ⟨rfl, rfl⟩) | (go_at_call 82; refine (impl_rsize _ _ (by assumption) _).mono ?_; rintro e w' ⟨rfl, rfl⟩))
        go_returns
        exact ⟨rfl, by go_grown⟩
      · skip
        obtain rfl : false = v := by simpa [h1, h2, h4] using hv
        go_enter Try.func62, Try.ntmps62
        go_wp2_with (first | (go_at_call 40; refine (impl_in _ _ _ _ (by assumption) _).mono ?_; rintro e w' ⟨rfl, rfl⟩) | (go_at_call 80; refine (impl_tick _ _ (by assumption) _).mono ?_; rintro e w' ⟨rfl, rfl⟩) | (go_at_call 81; refine (impl_place _ _ _ (by assumption) _).mono ?_; rintro e w' ⟨rfl, rfl⟩) | (go_at_call 82; refine (impl_rsize _ _ (by assumption) _).mono ?_; rintro e w' ⟨rfl, rfl⟩))
        go_returns
        exact ⟨rfl, by go_grown⟩
    · skip
      cases h3 : inB d 0 700
      · skip
        cases h4 : inB i 1 9999
        · skip
          obtain rfl : false = v := by simpa [h1, h2, h3, h4] using hv
          go_enter Try.func62, Try.ntmps62
          go_wp2_with (first | (go_at_call 40; refine (impl_in _ _ _ _ (by assumption) _).mono ?_; rintro e w' ⟨rfl, rfl⟩) | (go_at_call 80; refine (impl_tick _ _ (by assumption) _).mono ?_; rintro e w' ⟨rfl, rfl⟩) | (go_at_call 81; refine (impl_place _ _ _ (by assumption) _).mono ?_; rintro e w' ⟨rfl, rfl⟩) | (go_at_call 82; refine (impl_rsize _ _ (by assumption) _).mono ?_; rintro e w' ⟨rfl, rfl⟩))
          go_returns
          exact ⟨rfl, by go_grown⟩
        · skip
          obtain rfl : false = v := by simpa [h1, h2, h3, h4] using hv
          go_enter Try.func62, Try.ntmps62
          go_wp2_with (first | (go_at_call 40; refine (impl_in _ _ _ _ (by assumption) _).mono ?_; rintro e w' ⟨rfl, rfl⟩) | (go_at_call 80; refine (impl_tick _ _ (by assumption) _).mono ?_; rintro e w' ⟨rfl, rfl⟩) | (go_at_call 81; refine (impl_place _ _ _ (by assumption) _).mono ?_; rintro e w' ⟨rfl, rfl⟩) | (go_at_call 82; refine (impl_rsize _ _ (by assumption) _).mono ?_; rintro e w' ⟨rfl, rfl⟩))
          go_returns
          exact ⟨rfl, by go_grown⟩
      · skip
        cases h4 : inB i 1 9999
        · skip
          obtain rfl : false = v := by simpa [h1, h2, h3, h4] using hv
          go_enter Try.func62, Try.ntmps62
          go_wp2_with (first | (go_at_call 40; refine (impl_in _ _ _ _ (by assumption) _).mono ?_; rintro e w' ⟨rfl, rfl⟩) | (go_at_call 80; refine (impl_tick _ _ (by assumption) _).mono ?_; rintro e w' ⟨rfl, rfl⟩) | (go_at_call 81; refine (impl_place _ _ _ (by assumption) _).mono ?_; rintro e w' ⟨rfl, rfl⟩) | (go_at_call 82; refine (impl_rsize _ _ (by assumption) _).mono ?_; rintro e w' ⟨rfl, rfl⟩))
          go_returns
          exact ⟨rfl, by go_grown⟩
        · skip
          cases h5 : inB s (-100) 1000
          · skip
            obtain rfl : false = v := by simpa [h1, h2, h3, h4, h5] using hv
            go_enter Try.func62, Try.ntmps62
            go_wp2_with (first | (go_at_call 40; refine (impl_in _ _ _ _ (by assumption) _).mono ?_; rintro e w' ⟨rfl, rfl⟩) | (go_at_call 80; refine (impl_tick _ _ (by assumption) _).mono ?_; rintro e w' ⟨rfl, rfl⟩) | (go_at_call 81; refine (impl_place _ _ _ (by assumption) _).mono ?_; rintro e w' ⟨rfl, rfl⟩) | (go_at_call 82; refine (impl_rsize _ _ (by assumption) _).mono ?_; rintro e w' ⟨rfl, rfl⟩))
            go_returns
            exact ⟨rfl, by go_grown⟩
          · skip
            cases h6 : inB g 1 4
            · skip
              obtain rfl : false = v := by simpa [h1, h2, h3, h4, h5, h6] using hv
              go_enter Try.func62, Try.ntmps62
              go_wp2_with (first | (go_at_call 40; refine (impl_in _ _ _ _ (by assumption) _).mono ?_; rintro e w' ⟨rfl, rfl⟩) | (go_at_call 80; refine (impl_tick _ _ (by assumption) _).mono ?_; rintro e w' ⟨rfl, rfl⟩) | (go_at_call 81; refine (impl_place _ _ _ (by assumption) _).mono ?_; rintro e w' ⟨rfl, rfl⟩) | (go_at_call 82; refine (impl_rsize _ _ (by assumption) _).mono ?_; rintro e w' ⟨rfl, rfl⟩))
              go_returns
              exact ⟨rfl, by go_grown⟩
            · skip
              obtain rfl : true = v := by simpa [h1, h2, h3, h4, h5, h6] using hv
              go_enter Try.func62, Try.ntmps62
              go_wp2_with (first | (go_at_call 40; refine (impl_in _ _ _ _ (by assumption) _).mono ?_; rintro e w' ⟨rfl, rfl⟩) | (go_at_call 80; refine (impl_tick _ _ (by assumption) _).mono ?_; rintro e w' ⟨rfl, rfl⟩) | (go_at_call 81; refine (impl_place _ _ _ (by assumption) _).mono ?_; rintro e w' ⟨rfl, rfl⟩) | (go_at_call 82; refine (impl_rsize _ _ (by assumption) _).mono ?_; rintro e w' ⟨rfl, rfl⟩))
              go_returns
              exact ⟨rfl, by go_grown⟩
end Go.Proofs.Yteklalbjlmkagaa
