/- Chapter 16: quakes and catalogues. -/
import Derived.Test.YthpagjkkccimiaaPlaceK
import Derived.Test.YthpagjkkccimiaaTyQuake
namespace Go.Proofs.Ythpagjkkccimiaa
open Go.RowKit
set_option linter.unusedVariables false
set_option linter.unusedSimpArgs false

def qkB (t x y s : Int) : Bool := inB t 0 1000000 && plB x y && inB s (-20) 95
theorem impl_qsize (x : Int) (v : Bool) (hv : inB x (-20) 95 = v) (w : World) :
    Calls Try.prog 128 #[.int .i64 x] w fun e w' => e = .returned (.bool v) ∧ w = w' := by
  go_enter Try.func128, Try.ntmps128
  go_wp2_with (go_at_call 84; refine (impl_in _ _ _ _ (by assumption) _).mono ?_; rintro e w' ⟨rfl, rfl⟩)
  go_ret
  exact ⟨rfl, rfl⟩
theorem spec_quake (t x y s : Int) (v : Bool) (hv : qkB t x y s = v) (w : World) :
    Calls Try.prog 135 #[.agg #[.int .i64 t, .int .i64 x, .int .i64 y, .int .i64 s]] w fun e w' => e = .returned (.bool v) ∧ Below w.heap.size w w' := by
  unfold qkB at hv
  cases h0 : inB t 0 1000000
  · skip
    obtain rfl : false = v := by simpa [h0] using hv
    go_enter Try.func135, Try.ntmps135
    go_wp2_with (first | (go_at_call 110; refine (spec_in _ _ _ _ (by assumption) _).mono ?_; rintro e w' ⟨rfl, rfl⟩) | (go_at_call 108; refine (spec_tick _ _ (by assumption) _).mono ?_; rintro e w' ⟨rfl, rfl⟩) | (go_at_call 145; refine (spec_place _ _ _ (by assumption) _).mono ?_; rintro e w' ⟨rfl, rfl⟩))
    go_returns
    exact ⟨rfl, by go_grown⟩
  · skip
    cases h1 : plB x y
    · skip
      obtain rfl : false = v := by simpa [h0, h1] using hv
      go_enter Try.func135, Try.ntmps135
      go_wp2_with (first | (go_at_call 110; refine (spec_in _ _ _ _ (by assumption) _).mono ?_; rintro e w' ⟨rfl, rfl⟩) | (go_at_call 108; refine (spec_tick _ _ (by assumption) _).mono ?_; rintro e w' ⟨rfl, rfl⟩) | (go_at_call 145; refine (spec_place _ _ _ (by assumption) _).mono ?_; rintro e w' ⟨rfl, rfl⟩))
      go_returns
      exact ⟨rfl, by go_grown⟩
    · skip
      cases h2 : inB s (-20) 95
      · skip
        obtain rfl : false = v := by simpa [h0, h1, h2] using hv
        go_enter Try.func135, Try.ntmps135
        go_wp2_with (first | (go_at_call 110; refine (spec_in _ _ _ _ (by assumption) _).mono ?_; rintro e w' ⟨rfl, rfl⟩) | (go_at_call 108; refine (spec_tick _ _ (by assumption) _).mono ?_; rintro e w' ⟨rfl, rfl⟩) | (go_at_call 145; refine (spec_place _ _ _ (by assumption) _).mono ?_; rintro e w' ⟨rfl, rfl⟩))
        go_returns
        exact ⟨rfl, by go_grown⟩
      · skip
        obtain rfl : true = v := by simpa [h0, h1, h2] using hv
        go_enter Try.func135, Try.ntmps135
        go_wp2_with (first | (go_at_call 110; refine (spec_in _ _ _ _ (by assumption) _).mono ?_; rintro e w' ⟨rfl, rfl⟩) | (go_at_call 108; refine (spec_tick _ _ (by assumption) _).mono ?_; rintro e w' ⟨rfl, rfl⟩) | (go_at_call 145; refine (spec_place _ _ _ (by assumption) _).mono ?_; rintro e w' ⟨rfl, rfl⟩))
        go_returns
        exact ⟨rfl, by go_grown⟩
theorem impl_quake (t x y s : Int) (v : Bool) (hv : qkB t x y s = v) (w : World) :
    Calls Try.prog 133 #[.agg #[.int .i64 t, .int .i64 x, .int .i64 y, .int .i64 s]] w fun e w' => e = .returned (.bool v) ∧ Below w.heap.size w w' := by
  unfold qkB at hv
  cases h0 : inB t 0 1000000
  · skip
    obtain rfl : false = v := by simpa [h0] using hv
    go_enter Try.func133, Try.ntmps133
    go_wp2_with (first | (go_at_call 128; refine (impl_qsize _ _ (by assumption) _).mono ?_; rintro e w' ⟨rfl, rfl⟩) | (go_at_call 102; refine (impl_tick _ _ (by assumption) _).mono ?_; rintro e w' ⟨rfl, rfl⟩) | (go_at_call 144; refine (impl_place _ _ _ (by assumption) _).mono ?_; rintro e w' ⟨rfl, rfl⟩))
    go_returns
    exact ⟨rfl, by go_grown⟩
  · skip
    cases h1 : plB x y
    · skip
      obtain rfl : false = v := by simpa [h0, h1] using hv
      go_enter Try.func133, Try.ntmps133
      go_wp2_with (first | (go_at_call 128; refine (impl_qsize _ _ (by assumption) _).mono ?_; rintro e w' ⟨rfl, rfl⟩) | (go_at_call 102; refine (impl_tick _ _ (by assumption) _).mono ?_; rintro e w' ⟨rfl, rfl⟩) | (go_at_call 144; refine (impl_place _ _ _ (by assumption) _).mono ?_; rintro e w' ⟨rfl, rfl⟩))
      go_returns
      exact ⟨rfl, by go_grown⟩
    · skip
      cases h2 : inB s (-20) 95
      · skip
        obtain rfl : false = v := by simpa [h0, h1, h2] using hv
        go_enter Try.func133, Try.ntmps133
        go_wp2_with (first | (go_at_call 128; refine (impl_qsize _ _ (by assumption) _).mono ?_; rintro e w' ⟨rfl, rfl⟩) | (go_at_call 102; refine (impl_tick _ _ (by assumption) _).mono ?_; rintro e w' ⟨rfl, rfl⟩) | (go_at_call 144; refine (impl_place _ _ _ (by assumption) _).mono ?_; rintro e w' ⟨rfl, rfl⟩))
        go_returns
        exact ⟨rfl, by go_grown⟩
      · skip
        obtain rfl : true = v := by simpa [h0, h1, h2] using hv
        go_enter Try.func133, Try.ntmps133
        go_wp2_with (first | (go_at_call 128; refine (impl_qsize _ _ (by assumption) _).mono ?_; rintro e w' ⟨rfl, rfl⟩) | (go_at_call 102; refine (impl_tick _ _ (by assumption) _).mono ?_; rintro e w' ⟨rfl, rfl⟩) | (go_at_call 144; refine (impl_place _ _ _ (by assumption) _).mono ?_; rintro e w' ⟨rfl, rfl⟩))
        go_returns
        exact ⟨rfl, by go_grown⟩

/-- One quake stands before another one. -/
def befB (a0 a1 a2 a3 b0 b1 b2 b3 : Int) : Bool := decide (a0 < b0 ∨ (a0 = b0 ∧ (a1 < b1 ∨ (a1 = b1 ∧ (a2 < b2 ∨ (a2 = b2 ∧ a3 < b3))))))
theorem spec_bef (a0 a1 a2 a3 b0 b1 b2 b3 : Int) (v : Bool) (hv : befB a0 a1 a2 a3 b0 b1 b2 b3 = v) (w : World) :
    Calls Try.prog 136 #[.agg #[.int .i64 a0, .int .i64 a1, .int .i64 a2, .int .i64 a3], .agg #[.int .i64 b0, .int .i64 b1, .int .i64 b2, .int .i64 b3]] w fun e w' => e = .returned (.bool v) ∧ Below w.heap.size w w' := by
  subst hv
  unfold befB
  by_cases h0 : a0 = b0
  · subst h0
    by_cases h1 : a1 = b1
    · subst h1
      by_cases h2 : a2 = b2
      · subst h2
        go_enter Try.func136, Try.ntmps136
        go_wp2
        go_returns
        exact ⟨ret_bool (by simp), by go_grown⟩
      · go_enter Try.func136, Try.ntmps136
        go_wp2
        go_returns
        exact ⟨ret_bool (by simp [h2]), by go_grown⟩
    · go_enter Try.func136, Try.ntmps136
      go_wp2
      go_returns
      exact ⟨ret_bool (by simp [h1]), by go_grown⟩
  · go_enter Try.func136, Try.ntmps136
    go_wp2
    go_returns
    exact ⟨ret_bool (by simp [h0]), by go_grown⟩
end Go.Proofs.Ythpagjkkccimiaa
