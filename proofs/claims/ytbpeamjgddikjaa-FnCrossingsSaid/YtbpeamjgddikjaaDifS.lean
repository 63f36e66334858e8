/- Names that have been seen. -/
import Derived.Test.YtbpeamjgddikjaaMap
import Derived.StringKeys
import Derived.Carry
namespace Go.Proofs.Ytbpeamjgddikjaa
open Go.RowKit Go.Maps
set_option linter.unusedVariables false
set_option linter.unusedSimpArgs false

def seenS (F : Nat → ByteArray) (k : Nat) : Lit → Bool
  | .string l => (List.range k).any fun i => decide ((F i).data.toList = l)
  | _ => false
theorem seenS_self (F : Nat → ByteArray) (k : Nat) : seenS F (k + 1) (.string (F k).data.toList) = true := by
  simp [seenS, List.range_succ]
theorem seenS_other (F : Nat → ByteArray) (k : Nat) (x : Lit) (h : x ≠ .string (F k).data.toList) : seenS F (k + 1) x = seenS F k x := by
  unfold seenS
  split
  · rename_i a
    rw [List.range_succ, List.any_append]
    have : ((F k).data.toList = a) = False := by
      apply propext; constructor
      · intro e; exact h (by rw [e])
      · intro f; exact f.elim
    simp [this]
  · rfl
theorem seenS_zero (F : Nat → ByteArray) : (fun _ => false) = seenS F 0 := by
  funext x
  unfold seenS
  split <;> simp
theorem bytes_ext {s t : ByteArray} (h : s.data.toList = t.data.toList) : s = t := by
  cases s with | mk a => cases t with | mk b =>
    simp only at h
    rw [Array.toList_inj.1 h]
def diffS (m : Nat) (F : Nat → ByteArray) : Bool := decide (∀ i, i < m → ∀ j, j < i → F j ≠ F i)
theorem diffS_no {m : Nat} {F : Nat → ByteArray} {k : Nat} (hk : k < m) (h : seenS F k (.string (F k).data.toList) = true) : diffS m F = false := by
  simp only [seenS, List.any_eq_true, List.mem_range, decide_eq_true_eq] at h
  obtain ⟨i, hi, he⟩ := h
  unfold diffS
  exact decide_eq_false fun H => H k hk i hi (bytes_ext he)
theorem diffS_step {F : Nat → ByteArray} {k : Nat} (h : seenS F k (.string (F k).data.toList) = false) : ∀ j, j < k → F j ≠ F k := by
  intro j hj e
  have : seenS F k (.string (F k).data.toList) = true := by
    simp only [seenS, List.any_eq_true, List.mem_range, decide_eq_true_eq]
    exact ⟨j, hj, by rw [e]⟩
  rw [h] at this; cases this
theorem law_strS : Keyed Try.prog 9 := string_keyed Try.underlying9
theorem zero_boolS (w : World) : (zeroValue 4).run Try.prog w = .ok (.bool false) w := by kernel_rfl
end Go.Proofs.Ytbpeamjgddikjaa
