/- Keys that have been seen, by any function of places. -/
import Derived.Test.YtgiphgfbfhaamaaDoorMap
import Derived.Carry
namespace Go.Proofs.YtgiphgfbfhaamaaDoor
open Go.RowKit Go.Maps
set_option linter.unusedVariables false
set_option linter.unusedSimpArgs false

def seenF (F : Nat → Int) (k : Nat) : Lit → Bool
  | .int .i64 x => (List.range k).any fun i => decide (F i = x)
  | _ => false
theorem seenF_self (F : Nat → Int) (k : Nat) : seenF F (k + 1) (.int .i64 (F k)) = true := by
  simp [seenF, List.range_succ]
theorem seenF_other (F : Nat → Int) (k : Nat) (x : Lit) (h : x ≠ .int .i64 (F k)) : seenF F (k + 1) x = seenF F k x := by
  unfold seenF
  split
  · rename_i a
    rw [List.range_succ, List.any_append]
    have : (F k = a) = False := by
      apply propext; constructor
      · intro e; exact h (by rw [e])
      · intro f; exact f.elim
    simp [this]
  · rfl
theorem seenF_zero (F : Nat → Int) : (fun _ => false) = seenF F 0 := by
  funext x
  unfold seenF
  split <;> simp
def diffF (m : Nat) (F : Nat → Int) : Bool := decide (∀ i, i < m → ∀ j, j < i → F j ≠ F i)
theorem diffF_no {m : Nat} {F : Nat → Int} {k : Nat} (hk : k < m) (h : seenF F k (.int .i64 (F k)) = true) : diffF m F = false := by
  simp only [seenF, List.any_eq_true, List.mem_range, decide_eq_true_eq] at h
  obtain ⟨i, hi, he⟩ := h
  unfold diffF
  exact decide_eq_false fun H => H k hk i hi he
theorem diffF_step {F : Nat → Int} {k : Nat} (h : seenF F k (.int .i64 (F k)) = false) : ∀ j, j < k → F j ≠ F k := by
  intro j hj e
  have : seenF F k (.int .i64 (F k)) = true := by
    simp only [seenF, List.any_eq_true, List.mem_range, decide_eq_true_eq]
    exact ⟨j, hj, e⟩
  rw [h] at this; cases this
theorem law_intF : Keyed Tryd.prog 3 := int_keyed Tryd.underlying3
theorem zero_boolF (w : World) : (zeroValue 4).run Tryd.prog w = .ok (.bool false) w := by kernel_rfl
theorem wf_i64F {x : Int} (h0 : 0 ≤ x) (h1 : x ≤ 1048576) : (Lit.int .i64 x).wf = true := by
  simp [Lit.wf, IntKind.min, IntKind.max, IntKind.signed, IntKind.bits]; omega
end Go.Proofs.YtgiphgfbfhaamaaDoor
