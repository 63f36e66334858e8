/- Chapter 21: what is asked of an alarm: made by alaqgen.py. -/
import Derived.Test.YtgiphgfbfhaamaaDoorAlaI
import Derived.Test.YtgiphgfbfhaamaaDoorList
namespace Go.Proofs.YtgiphgfbfhaamaaDoor
open Go.RowKit
set_option linter.unusedVariables false
set_option linter.unusedSimpArgs false

theorem ala_of {x0 x1 : Int} {n : Nat} {X : Nat → Nat → Int} {x3 x4 : Int} (h : alaB x0 x1 n X x3 x4 = true) : (0 ≤ x0 ∧ x0 ≤ 1000000) ∧ (0 ≤ x1 ∧ x1 ≤ 3) ∧ cntB x1 n = true ∧ n ≤ 8 ∧ ∀ i, i < n → hrdOk x0 X i ∧ hrdNew X i := by
  unfold alaB at h
  simp only [Bool.and_eq_true] at h
  exact ⟨inB_of h.1.1.1.1.1, inB_of h.1.1.1.1.2, h.1.2, cntB_8 h.1.2, of_decide_eq_true h.2.1⟩
theorem cnt_one {n : Nat} (h : cntB 1 n = true) : 0 < n := by
  unfold cntB at h; rw [if_pos rfl] at h; have := inB_of h; omega
end Go.Proofs.YtgiphgfbfhaamaaDoor
