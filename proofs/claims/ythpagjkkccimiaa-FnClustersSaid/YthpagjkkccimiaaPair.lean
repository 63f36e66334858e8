/- The helpers of [][2]int: made by pairgen.py. -/
import Derived.Test.YthpagjkkccimiaaLib
namespace Go.Proofs.Ythpagjkkccimiaa
open Go.RowKit
set_option linter.unusedVariables false
set_option linter.unusedSimpArgs false

theorem info_intA2 : (Try.prog.info? 55).map (fun i => (i.zero, i.size, i.bytes)) = some (some (.agg #[.int .i64 0, .int .i64 0]), 2, 16) := by kernel_rfl
theorem row_one_intA2 {cur : Array Value} {k n : Nat} {F : Nat → Nat → Value} {j0 : Nat} {v : Value} (hs : cur.size = n * 2) (hk : k < n) (hj0 : j0 < 2) (h : ∀ i j, i < n → j < 2 → (i < k ∨ (i = k ∧ j < j0)) → cur[i * 2 + j]? = some (F i j)) (hv : v = F k j0) :
    ∀ i j, i < n → j < 2 → (i < k ∨ (i = k ∧ j < j0 + 1)) → (cur.setIfInBounds (k * 2 + j0) v)[i * 2 + j]? = some (F i j) := by
  intro i j hi hj hij
  rw [Array.getElem?_setIfInBounds]
  by_cases e : i = k ∧ j = j0
  · obtain ⟨rfl, rfl⟩ := e
    rw [if_pos rfl, if_pos (by omega), hv]
  · rw [if_neg (by omega)]
    exact h i j hi hj (by omega)
def mkintA2 (l : Int) (i j : Nat) : Value := .int .i64 (l + i * 2 + j)
end Go.Proofs.Ythpagjkkccimiaa
