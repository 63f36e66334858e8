/- Contracts of the small functions on numbers. -/
import Derived.Test.YteklalbjlmkagaaLib
namespace Go.Proofs.Yteklalbjlmkagaa
open Go.RowKit
set_option linter.unusedVariables false
set_option linter.unusedSimpArgs false

def inB (x a b : Int) : Bool := decide (a ≤ x) && decide (x ≤ b)
theorem inB_of {x a b : Int} (h : inB x a b = true) : a ≤ x ∧ x ≤ b := by simpa [inB] using h
theorem inB_no {x a b : Int} (h : inB x a b = false) : x < a ∨ b < x := by
  unfold inB at h
  by_cases h1 : a ≤ x
  · by_cases h2 : x ≤ b
    · simp [h1, h2] at h
    · omega
  · omega
theorem inB_mk {x a b : Int} (h1 : a ≤ x) (h2 : x ≤ b) : inB x a b = true := by simp [inB, h1, h2]

theorem impl_in (x a b : Int) (v : Bool) (hv : inB x a b = v) (w : World) :
    Calls Try.prog 40 #[.int .i64 x, .int .i64 a, .int .i64 b] w fun e w' => e = .returned (.bool v) ∧ w = w' := by
  subst hv
  unfold inB
  by_cases h1 : a ≤ x <;> by_cases h2 : x ≤ b
  all_goals
    go_enter Try.func40, Try.ntmps40
    go_wp2
    go_ret
    exact ⟨by simp [*], rfl⟩
theorem spec_in (x a b : Int) (v : Bool) (hv : inB x a b = v) (w : World) :
    Calls Try.prog 38 #[.int .i64 x, .int .i64 a, .int .i64 b] w fun e w' => e = .returned (.bool v) ∧ w = w' := by
  subst hv
  unfold inB
  by_cases h1 : a ≤ x <;> by_cases h2 : x ≤ b
  all_goals
    go_enter Try.func38, Try.ntmps38
    go_wp2
    go_ret
    exact ⟨by simp [*], rfl⟩
end Go.Proofs.Yteklalbjlmkagaa
