/- Chapter 24: rows of a bulletin: made by easygen.py. -/
import Derived.Test.YtlnndfnonljhbaaPlaceK
import Derived.Test.YtlnndfnonljhbaaTyQuakeRow
namespace Go.Proofs.Ytlnndfnonljhbaa
open Go.RowKit
set_option linter.unusedVariables false
set_option linter.unusedSimpArgs false

def rowB (i t x y d s g : Int) : Bool := inB i 1 9999 && inB t 0 1000000 && plB x y && inB d 0 700 && inB s (-100) 1000 && inB g 1 4
theorem spec_rsize (x : Int) (v : Bool) (hv : inB x (-100) 1000 = v) (w : World) :
    Calls Try.prog 58 #[.int .i64 x] w fun e w' => e = .returned (.bool v) ∧ w = w' := by
  go_enter Try.func58, Try.ntmps58
  go_wp2_with (go_at_call 56; refine (spec_in _ _ _ _ (by assumption) _).mono ?_; rintro e w' ⟨rfl, rfl⟩)
  go_ret
  exact ⟨rfl, rfl⟩
theorem impl_rsize (x : Int) (v : Bool) (hv : inB x (-100) 1000 = v) (w : World) :
    Calls Try.prog 48 #[.int .i64 x] w fun e w' => e = .returned (.bool v) ∧ w = w' := by
  go_enter Try.func48, Try.ntmps48
  go_wp2_with (go_at_call 47; refine (impl_in _ _ _ _ (by assumption) _).mono ?_; rintro e w' ⟨rfl, rfl⟩)
  go_ret
  exact ⟨rfl, rfl⟩
theorem spec_row (i t x y d s g : Int) (v : Bool) (hv : rowB i t x y d s g = v) (w : World) :
    Calls Try.prog 45 #[.agg #[.int .i64 i, .int .i64 t, .int .i64 x, .int .i64 y, .int .i64 d, .int .i64 s, .int .i64 g]] w fun e w' => e = .returned (.bool v) ∧ Below w.heap.size w w' := by
  unfold rowB at hv
  cases h0 : inB i 1 9999
  · skip
    obtain rfl : false = v := by simpa [h0] using hv
    go_enter Try.func45, Try.ntmps45
    go_wp2_with (first | (go_at_call 56; refine (spec_in _ _ _ _ (by assumption) _).mono ?_; rintro e w' ⟨rfl, rfl⟩) | (go_at_call 34; refine (spec_tick _ _ (by assumption) _).mono ?_; rintro e w' ⟨rfl, rfl⟩) | (go_at_call 49; refine (spec_place _ _ _ (by assumption) _).mono ?_; rintro e w' ⟨rfl, rfl⟩) | (go_at_call 58; refine (spec_rsize _ _ (by assumption) _).mono ?_; rintro e w' ⟨rfl, rfl⟩))
    go_returns
    exact ⟨rfl, by go_grown⟩
  · skip
    cases h1 : inB t 0 1000000
    · skip
      obtain rfl : false = v := by simpa [h0, h1] using hv
      go_enter Try.func45, Try.ntmps45
      go_wp2_with (first | (go_at_call 56; refine (spec_in _ _ _ _ (by assumption) _).mono ?_; rintro e w' ⟨rfl, rfl⟩) | (go_at_call 34; refine (spec_tick _ _ (by assumption) _).mono ?_; rintro e w' ⟨rfl, rfl⟩) | (go_at_call 49; refine (spec_place _ _ _ (by assumption) _).mono ?_; rintro e w' ⟨rfl, rfl⟩) | (go_at_call 58; refine (spec_rsize _ _ (by assumption) _).mono ?_; rintro e w' ⟨rfl, rfl⟩))
      go_returns
      exact ⟨rfl, by go_grown⟩
    · skip
      cases h2 : plB x y
      · skip
        obtain rfl : false = v := by simpa [h0, h1, h2] using hv
        go_enter Try.func45, Try.ntmps45
        go_wp2_with (first | (go_at_call 56; refine (spec_in _ _ _ _ (by assumption) _).mono ?_; rintro e w' ⟨rfl, rfl⟩) | (go_at_call 34; refine (spec_tick _ _ (by assumption) _).mono ?_; rintro e w' ⟨rfl, rfl⟩) | (go_at_call 49; refine (spec_place _ _ _ (by assumption) _).mono ?_; rintro e w' ⟨rfl, rfl⟩) | (go_at_call 58; refine (spec_rsize _ _ (by assumption) _).mono ?_; rintro e w' ⟨rfl, rfl⟩))
        go_returns
        exact ⟨rfl, by go_grown⟩
      · skip
        cases h3 : inB d 0 700
        · skip
          obtain rfl : false = v := by simpa [h0, h1, h2, h3] using hv
          go_enter Try.func45, Try.ntmps45
          go_wp2_with (first | (go_at_call 56; refine (spec_in _ _ _ _ (by assumption) _).mono ?_; rintro e w' ⟨rfl, rfl⟩) | (go_at_call 34; refine (spec_tick _ _ (by assumption) _).mono ?_; rintro e w' ⟨rfl, rfl⟩) | (go_at_call 49; refine (spec_place _ _ _ (by assumption) _).mono ?_; rintro e w' ⟨rfl, rfl⟩) | (go_at_call 58; refine (spec_rsize _ _ (by assumption) _).mono ?_; rintro e w' ⟨rfl, rfl⟩))
          go_returns
          exact ⟨rfl, by go_grown⟩
        · skip
          cases h4 : inB s (-100) 1000
          · skip
            obtain rfl : false = v := by simpa [h0, h1, h2, h3, h4] using hv
            go_enter Try.func45, Try.ntmps45
            go_wp2_with (first | (go_at_call 56; refine (spec_in _ _ _ _ (by assumption) _).mono ?_; rintro e w' ⟨rfl, rfl⟩) | (go_at_call 34; refine (spec_tick _ _ (by assumption) _).mono ?_; rintro e w' ⟨rfl, rfl⟩) | (go_at_call 49; refine (spec_place _ _ _ (by assumption) _).mono ?_; rintro e w' ⟨rfl, rfl⟩) | (go_at_call 58; refine (spec_rsize _ _ (by assumption) _).mono ?_; rintro e w' ⟨rfl, rfl⟩))
            go_returns
            exact ⟨rfl, by go_grown⟩
          · skip
            cases h5 : inB g 1 4
            · skip
              obtain rfl : false = v := by simpa [h0, h1, h2, h3, h4, h5] using hv
              go_enter Try.func45, Try.ntmps45
              go_wp2_with (first | (go_at_call 56; refine (spec_in _ _ _ _ (by assumption) _).mono ?_; rintro e w' ⟨rfl, rfl⟩) | (go_at_call 34; refine (spec_tick _ _ (by assumption) _).mono ?_; rintro e w' ⟨rfl, rfl⟩) | (go_at_call 49; refine (spec_place _ _ _ (by assumption) _).mono ?_; rintro e w' ⟨rfl, rfl⟩) | (go_at_call 58; refine (spec_rsize _ _ (by assumption) _).mono ?_; rintro e w' ⟨rfl, rfl⟩))
              go_returns
              exact ⟨rfl, by go_grown⟩
            · skip
              obtain rfl : true = v := by simpa [h0, h1, h2, h3, h4, h5] using hv
              go_enter Try.func45, Try.ntmps45
              go_wp2_with (first | (go_at_call 56; refine (spec_in _ _ _ _ (by assumption) _).mono ?_; rintro e w' ⟨rfl, rfl⟩) | (go_at_call 34; refine (spec_tick _ _ (by assumption) _).mono ?_; rintro e w' ⟨rfl, rfl⟩) | (go_at_call 49; refine (spec_place _ _ _ (by assumption) _).mono ?_; rintro e w' ⟨rfl, rfl⟩) | (go_at_call 58; refine (spec_rsize _ _ (by assumption) _).mono ?_; rintro e w' ⟨rfl, rfl⟩))
              go_returns
              exact ⟨rfl, by go_grown⟩
theorem impl_row (i t x y d s g : Int) (v : Bool) (hv : rowB i t x y d s g = v) (w : World) :
    Calls Try.prog 25 #[.agg #[.int .i64 i, .int .i64 t, .int .i64 x, .int .i64 y, .int .i64 d, .int .i64 s, .int .i64 g]] w fun e w' => e = .returned (.bool v) ∧ Below w.heap.size w w' := by
  unfold rowB at hv
  cases h1 : inB t 0 1000000
  · skip
    cases h4 : inB i 1 9999
    · skip
      obtain rfl : false = v := by simpa [h1, h4] using hv
      go_enter Try.func25, Try.ntmps25
      go_wp2_with (first | (go_at_call 47; refine (impl_in _ _ _ _ (by assumption) _).mono ?_; rintro e w' ⟨rfl, rfl⟩) | (go_at_call 35; refine (impl_tick _ _ (by assumption) _).mono ?_; rintro e w' ⟨rfl, rfl⟩) | (go_at_call 46; refine (impl_place _ _ _ (by assumption) _).mono ?_; rintro e w' ⟨rfl, rfl⟩) | (go_at_call 48; refine (impl_rsize _ _ (by assumption) _).mono ?_; rintro e w' ⟨rfl, rfl⟩))
      go_returns
      exact ⟨rfl, by go_grown⟩
    · skip
      obtain rfl : false = v := by simpa [h1, h4] using hv
      go_enter Try.func25, Try.ntmps25
      go_wp2_with (first | (go_at_call 47; refine (impl_in _ _ _ _ (by assumption) _).mono ?_; rintro e w' ⟨rfl, rfl⟩) | (go_at_call 35; refine (impl_tick _ _ (by assumption) _).mono ?_; rintro e w' ⟨rfl, rfl⟩) | (go_at_call 46; refine (impl_place _ _ _ (by assumption) _).mono ?_; rintro e w' ⟨rfl, rfl⟩) | (go_at_call 48; refine (impl_rsize _ _ (by assumption) _).mono ?_; rintro e w' ⟨rfl, rfl⟩))
      go_returns
      exact ⟨rfl, by go_grown⟩
  · skip
    cases h2 : plB x y
    · skip
      cases h4 : inB i 1 9999
      · skip
        obtain rfl : false = v := by simpa [h1, h2, h4] using hv
        go_enter Try.func25, Try.ntmps25
        go_wp2_with (first | (go_at_call 47; refine (impl_in _ _ _ _ (by assumption) _).mono ?_; rintro e w' ⟨rfl, rfl⟩) | (go_at_call 35; refine (impl_tick _ _ (by assumption) _).mono ?_; rintro e w' ⟨rfl, rfl⟩) | (go_at_call 46; refine (impl_place _ _ _ (by assumption) _).mono ?_; rintro e w' ⟨rfl, rfl⟩) | (go_at_call 48; refine (impl_rsize _ _ (by assumption) _).mono ?_; rintro e w' ⟨rfl, rfl⟩))
        go_returns
        exact ⟨rfl, by go_grown⟩
      · skip
        obtain rfl : false = v := by simpa [h1, h2, h4] using hv
        go_enter Try.func25, Try.ntmps25
        go_wp2_with (first | (go_at_call 47; refine (impl_in _ _ _ _ (by assumption) _).mono ?_; rintro e w' ⟨rfl, rfl⟩) | (go_at_call 35; refine (impl_tick _ _ (by assumption) _).mono ?_; rintro e w' ⟨rfl, rfl⟩) | (go_at_call 46; refine (impl_place _ _ _ (by assumption) _).mono ?_; rintro e w' ⟨rfl, rfl⟩) | (go_at_call 48; refine (impl_rsize _ _ (by assumption) _).mono ?_; rintro e w' ⟨rfl, rfl⟩))
        go_returns
        exact ⟨rfl, by go_grown⟩
    · skip
      cases h3 : inB d 0 700
      · skip
        cases h4 : inB i 1 9999
        · skip
          obtain rfl : false = v := by simpa [h1, h2, h3, h4] using hv
          go_enter Try.func25, Try.ntmps25
          go_wp2_with (first | (go_at_call 47; refine (impl_in _ _ _ _ (by assumption) _).mono ?_; rintro e w' ⟨rfl, rfl⟩) | (go_at_call 35; refine (impl_tick _ _ (by assumption) _).mono ?_; rintro e w' ⟨rfl, rfl⟩) | (go_at_call 46; refine (impl_place _ _ _ (by assumption) _).mono ?_; rintro e w' ⟨rfl, rfl⟩) | (go_at_call 48; refine (impl_rsize _ _ (by assumption) _).mono ?_; rintro e w' ⟨rfl, rfl⟩))
          go_returns
          exact ⟨rfl, by go_grown⟩
        · skip
          obtain rfl : false = v := by simpa [h1, h2, h3, h4] using hv
          go_enter Try.func25, Try.ntmps25
          go_wp2_with (first | (go_at_call 47; refine (impl_in _ _ _ _ (by assumption) _).mono ?_; rintro e w' ⟨rfl, rfl⟩) | (go_at_call 35; refine (impl_tick _ _ (by assumption) _).mono ?_; rintro e w' ⟨rfl, rfl⟩) | (go_at_call 46; refine (impl_place _ _ _ (by assumption) _).mono ?_; rintro e w' ⟨rfl, rfl⟩) | (go_at_call 48; refine (impl_rsize _ _ (by assumption) _).mono ?_; rintro e w' ⟨rfl, rfl⟩))
          go_returns
          exact ⟨rfl, by go_grown⟩
      · skip
        cases h4 : inB i 1 9999
        · skip
          obtain rfl : false = v := by simpa [h1, h2, h3, h4] using hv
          go_enter Try.func25, Try.ntmps25
          go_wp2_with (first | (go_at_call 47; refine (impl_in _ _ _ _ (by assumption) _).mono ?_; rintro e w' ⟨rfl, rfl⟩) | (go_at_call 35; refine (impl_tick _ _ (by assumption) _).mono ?_; rintro e w' ⟨rfl, rfl⟩) | (go_at_call 46; refine (impl_place _ _ _ (by assumption) _).mono ?_; rintro e w' ⟨rfl, rfl⟩) | (go_at_call 48; refine (impl_rsize _ _ (by assumption) _).mono ?_; rintro e w' ⟨rfl, rfl⟩))
          go_returns
          exact ⟨rfl, by go_grown⟩
        · skip
          cases h5 : inB s (-100) 1000
          · skip
            obtain rfl : false = v := by simpa [h1, h2, h3, h4, h5] using hv
            go_enter Try.func25, Try.ntmps25
            go_wp2_with (first | (go_at_call 47; refine (impl_in _ _ _ _ (by assumption) _).mono ?_; rintro e w' ⟨rfl, rfl⟩) | (go_at_call 35; refine (impl_tick _ _ (by assumption) _).mono ?_; rintro e w' ⟨rfl, rfl⟩) | (go_at_call 46; refine (impl_place _ _ _ (by assumption) _).mono ?_; rintro e w' ⟨rfl, rfl⟩) | (go_at_call 48; refine (impl_rsize _ _ (by assumption) _).mono ?_; rintro e w' ⟨rfl, rfl⟩))
            go_returns
            exact ⟨rfl, by go_grown⟩
          · skip
            cases h6 : inB g 1 4
            · skip
              obtain rfl : false = v := by simpa [h1, h2, h3, h4, h5, h6] using hv
              go_enter Try.func25, Try.ntmps25
              go_wp2_with (first | (go_at_call 47; refine (impl_in _ _ _ _ (by assumption) _).mono ?_; rintro e w' ⟨rfl, rfl⟩) | (go_at_call 35; refine (impl_tick _ _ (by assumption) _).mono ?_; rintro e w' ⟨rfl, rfl⟩) | (go_at_call 46; refine (impl_place _ _ _ (by assumption) _).mono ?_; rintro e w' ⟨rfl, rfl⟩) | (go_at_call 48; refine (impl_rsize _ _ (by assumption) _).mono ?_; rintro e w' ⟨rfl, rfl⟩))
              go_returns
              exact ⟨rfl, by go_grown⟩
            · skip
              obtain rfl : true = v := by simpa [h1, h2, h3, h4, h5, h6] using hv
              go_enter Try.func25, Try.ntmps25
              go_wp2_with (first | (go_at_call 47; refine (impl_in _ _ _ _ (by assumption) _).mono ?_; rintro e w' ⟨rfl, rfl⟩) | (go_at_call 35; refine (impl_tick _ _ (by assumption) _).mono ?_; rintro e w' ⟨rfl, rfl⟩) | (go_at_call 46; refine (impl_place _ _ _ (by assumption) _).mono ?_; rintro e w' ⟨rfl, rfl⟩) | (go_at_call 48; refine (impl_rsize _ _ (by assumption) _).mono ?_; rintro e w' ⟨rfl, rfl⟩))
              go_returns
              exact ⟨rfl, by go_grown⟩
theorem spec_isRow (i t x y d s g : Int) (v : Bool) (hv : rowB i t x y d s g = v) (w : World) :
    Calls Try.prog 23 #[.agg #[.int .i64 i, .int .i64 t, .int .i64 x, .int .i64 y, .int .i64 d, .int .i64 s, .int .i64 g]] w fun e w' => e = .returned (.bool v) ∧ Below w.heap.size w w' := by
  go_enter Try.func23, Try.ntmps23
  go_wp2_with fail
  refine (spec_row _ _ _ _ _ _ _ _ hv _).mono ?_
  rintro e w1 ⟨rfl, hb1⟩
  obtain ⟨qc1, qf1⟩ := bcell hb1
  have hz1 := hb1.size
  try simp only [World.size_alloc, World.size_setCell, World.size_drew] at hz1
  have hq1 : Below w.heap.size w w1 := below_call (by go_grown) hb1
  try have hl0_1 : w.heap.size < w1.heap.size := by omega
  try have hl1_1 : w.heap.size + 1 < w1.heap.size := by omega
  try have hl2_1 : w.heap.size + 2 < w1.heap.size := by omega
  try have hl3_1 : w.heap.size + 3 < w1.heap.size := by omega
  go_wp2
  go_returns
  exact ⟨rfl, hq1⟩
end Go.Proofs.Ytlnndfnonljhbaa
