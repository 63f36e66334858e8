/- Chapter 18: SideOf. -/
import Derived.Test.YtbpeamjgddikjaaBend
import Derived.Test.YtbpeamjgddikjaaList
namespace Go.Proofs.Ytbpeamjgddikjaa
open Go.RowKit
set_option linter.unusedVariables false
set_option linter.unusedSimpArgs false

theorem seg_of {ax ay bx by' : Int} (h : segB ax ay bx by' = true) : Pl ax ay ∧ Pl bx by' := by
  simp only [segB, Bool.and_eq_true] at h
  exact ⟨pl_of h.1.1, pl_of h.1.2⟩
end Go.Proofs.Ytbpeamjgddikjaa
