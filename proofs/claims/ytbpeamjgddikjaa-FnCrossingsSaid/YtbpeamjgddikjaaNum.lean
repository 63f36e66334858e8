/- Contracts of the small functions on numbers. -/
import Derived.Test.YtbpeamjgddikjaaLib
namespace Go.Proofs.Ytbpeamjgddikjaa
open Go.RowKit
set_option linter.unusedVariables false
set_option linter.unusedSimpArgs false

def inB (x a b : Int) : Bool := decide (a ≤ x) && decide (x ≤ b)
theorem inB_of {x a b : Int} (h : inB x a b = true) : a ≤ x ∧ x ≤ b := by simpa [inB] using h
theorem inB_no {x a b : Int} (h : inB x a b = false) : x < a ∨ b < x := by
  unfold inB at h
  by_cases h1 : a ≤ x
  · by_cases h2 : x ≤ b
    · simp [h1, h2] at h
    · omega
  · omega
theorem inB_mk {x a b : Int} (h1 : a ≤ x) (h2 : x ≤ b) : inB x a b = true := by simp [inB, h1, h2]

theorem impl_in (x a b : Int) (v : Bool) (hv : inB x a b = v) (w : World) :
    Calls Try.prog 48 #[.int .i64 x, .int .i64 a, .int .i64 b] w fun e w' => e = .returned (.bool v) ∧ w = w' := by
  subst hv
  unfold inB
  by_cases h1 : a ≤ x <;> by_cases h2 : x ≤ b
  all_goals
    go_enter Try.func48, Try.ntmps48
    go_wp2
    go_ret
    exact ⟨by simp [*], rfl⟩
theorem spec_in (x a b : Int) (v : Bool) (hv : inB x a b = v) (w : World) :
    Calls Try.prog 53 #[.int .i64 x, .int .i64 a, .int .i64 b] w fun e w' => e = .returned (.bool v) ∧ w = w' := by
  subst hv
  unfold inB
  by_cases h1 : a ≤ x <;> by_cases h2 : x ≤ b
  all_goals
    go_enter Try.func53, Try.ntmps53
    go_wp2
    go_ret
    exact ⟨by simp [*], rfl⟩
theorem spec_most (a b v : Int) (hv : max a b = v) (w : World) :
    Calls Try.prog 91 #[.int .i64 a, .int .i64 b] w fun e w' => e = .returned (.int .i64 v) ∧ w = w' := by
  rcases Int.lt_trichotomy a b with h1 | h1 | h1
  · obtain rfl : b = v := by omega
    go_enter Try.func91, Try.ntmps91
    go_wp2
    go_ret
    exact ⟨rfl, rfl⟩
  · subst h1
    obtain rfl : a = v := by omega
    go_enter Try.func91, Try.ntmps91
    go_wp2
    all_goals
      go_ret
      exact ⟨rfl, rfl⟩
  · obtain rfl : a = v := by omega
    go_enter Try.func91, Try.ntmps91
    go_wp2
    go_ret
    exact ⟨rfl, rfl⟩
theorem spec_least (a b v : Int) (hv : min a b = v) (w : World) :
    Calls Try.prog 90 #[.int .i64 a, .int .i64 b] w fun e w' => e = .returned (.int .i64 v) ∧ w = w' := by
  rcases Int.lt_trichotomy a b with h1 | h1 | h1
  · obtain rfl : a = v := by omega
    go_enter Try.func90, Try.ntmps90
    go_wp2
    go_ret
    exact ⟨rfl, rfl⟩
  · subst h1
    obtain rfl : a = v := by omega
    go_enter Try.func90, Try.ntmps90
    go_wp2
    all_goals
      go_ret
      exact ⟨rfl, rfl⟩
  · obtain rfl : b = v := by omega
    go_enter Try.func90, Try.ntmps90
    go_wp2
    go_ret
    exact ⟨rfl, rfl⟩
end Go.Proofs.Ytbpeamjgddikjaa
