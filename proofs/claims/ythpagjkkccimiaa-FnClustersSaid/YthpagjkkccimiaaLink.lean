/- Chapter 19: linkings. -/
import Derived.Test.YthpagjkkccimiaaNum
import Derived.Test.YthpagjkkccimiaaTyLinking
namespace Go.Proofs.Ythpagjkkccimiaa
open Go.RowKit
set_option linter.unusedVariables false
set_option linter.unusedSimpArgs false

def linkB (t f g : Int) : Bool := inB t 0 100000 && inB f 0 500 && inB g 0 100
theorem spec_link (t f g : Int) (v : Bool) (hv : linkB t f g = v) (w : World) :
    Calls Try.prog 92 #[.agg #[.int .i64 t, .int .i64 f, .int .i64 g]] w fun e w' => e = .returned (.bool v) ∧ Below w.heap.size w w' := by
  unfold linkB at hv
  cases h0 : inB t 0 100000
  · skip
    obtain rfl : false = v := by simpa [h0] using hv
    go_enter Try.func92, Try.ntmps92
    go_wp2_with (first | (go_at_call 110; refine (spec_in _ _ _ _ (by assumption) _).mono ?_; rintro e w' ⟨rfl, rfl⟩))
    go_returns
    exact ⟨rfl, by go_grown⟩
  · skip
    cases h1 : inB f 0 500
    · skip
      obtain rfl : false = v := by simpa [h0, h1] using hv
      go_enter Try.func92, Try.ntmps92
      go_wp2_with (first | (go_at_call 110; refine (spec_in _ _ _ _ (by assumption) _).mono ?_; rintro e w' ⟨rfl, rfl⟩))
      go_returns
      exact ⟨rfl, by go_grown⟩
    · skip
      cases h2 : inB g 0 100
      · skip
        obtain rfl : false = v := by simpa [h0, h1, h2] using hv
        go_enter Try.func92, Try.ntmps92
        go_wp2_with (first | (go_at_call 110; refine (spec_in _ _ _ _ (by assumption) _).mono ?_; rintro e w' ⟨rfl, rfl⟩))
        go_returns
        exact ⟨rfl, by go_grown⟩
      · skip
        obtain rfl : true = v := by simpa [h0, h1, h2] using hv
        go_enter Try.func92, Try.ntmps92
        go_wp2_with (first | (go_at_call 110; refine (spec_in _ _ _ _ (by assumption) _).mono ?_; rintro e w' ⟨rfl, rfl⟩))
        go_returns
        exact ⟨rfl, by go_grown⟩
theorem impl_link (t f g : Int) (v : Bool) (hv : linkB t f g = v) (w : World) :
    Calls Try.prog 39 #[.agg #[.int .i64 t, .int .i64 f, .int .i64 g]] w fun e w' => e = .returned (.bool v) ∧ Below w.heap.size w w' := by
  unfold linkB at hv
  cases h0 : inB t 0 100000
  · skip
    obtain rfl : false = v := by simpa [h0] using hv
    go_enter Try.func39, Try.ntmps39
    go_wp2_with (first | (go_at_call 84; refine (impl_in _ _ _ _ (by assumption) _).mono ?_; rintro e w' ⟨rfl, rfl⟩))
    go_returns
    exact ⟨rfl, by go_grown⟩
  · skip
    cases h1 : inB f 0 500
    · skip
      obtain rfl : false = v := by simpa [h0, h1] using hv
      go_enter Try.func39, Try.ntmps39
      go_wp2_with (first | (go_at_call 84; refine (impl_in _ _ _ _ (by assumption) _).mono ?_; rintro e w' ⟨rfl, rfl⟩))
      go_returns
      exact ⟨rfl, by go_grown⟩
    · skip
      cases h2 : inB g 0 100
      · skip
        obtain rfl : false = v := by simpa [h0, h1, h2] using hv
        go_enter Try.func39, Try.ntmps39
        go_wp2_with (first | (go_at_call 84; refine (impl_in _ _ _ _ (by assumption) _).mono ?_; rintro e w' ⟨rfl, rfl⟩))
        go_returns
        exact ⟨rfl, by go_grown⟩
      · skip
        obtain rfl : true = v := by simpa [h0, h1, h2] using hv
        go_enter Try.func39, Try.ntmps39
        go_wp2_with (first | (go_at_call 84; refine (impl_in _ _ _ _ (by assumption) _).mono ?_; rintro e w' ⟨rfl, rfl⟩))
        go_returns
        exact ⟨rfl, by go_grown⟩
theorem spec_isLink (t f g : Int) (v : Bool) (hv : linkB t f g = v) (w : World) :
    Calls Try.prog 40 #[.agg #[.int .i64 t, .int .i64 f, .int .i64 g]] w fun e w' => e = .returned (.bool v) ∧ Below w.heap.size w w' := by
  go_enter Try.func40, Try.ntmps40
  go_wp2_with fail
  refine (spec_link _ _ _ _ hv _).mono ?_
  rintro e w1 ⟨rfl, hb1⟩
  obtain ⟨qc1, qf1⟩ := bcell hb1
  have hz1 := hb1.size
  try simp only [World.size_alloc, World.size_setCell, World.size_drew] at hz1
  have hq1 : Below w.heap.size w w1 := below_call (by go_grown) hb1
  try have hl0_1 : w.heap.size < w1.heap.size := by omega
  try have hl1_1 : w.heap.size + 1 < w1.heap.size := by omega
  try have hl2_1 : w.heap.size + 2 < w1.heap.size := by omega
  try have hl3_1 : w.heap.size + 3 < w1.heap.size := by omega
  go_wp2
  go_returns
  exact ⟨rfl, hq1⟩
end Go.Proofs.Ythpagjkkccimiaa
