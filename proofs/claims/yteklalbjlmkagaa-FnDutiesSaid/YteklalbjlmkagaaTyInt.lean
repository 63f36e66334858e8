/- The helpers of []int: made by gen.py. -/
import Derived.Test.YteklalbjlmkagaaLib
namespace Go.Proofs.Yteklalbjlmkagaa
open Go.RowKit
set_option linter.unusedVariables false
set_option linter.unusedSimpArgs false

theorem info_int : (Try.prog.info? 3).map (fun i => (i.zero, i.size, i.bytes)) = some (some (.int .i64 0), 1, 8) := by kernel_rfl
theorem row_setv_int {cur : Array Value} {k n : Nat} {F : Nat → Nat → Value} {v0 : Value} (hs : cur.size = n * 1) (hk : k < n) (h : ∀ i j, i < k → j < 1 → cur[i * 1 + j]? = some (F i j)) (h0 : v0 = F k 0) :
    ∀ i j, i < k + 1 → j < 1 → (cur.setIfInBounds k v0)[i * 1 + j]? = some (F i j) := by
  intro i j hi hj
  obtain rfl : j = 0 := by omega
  simp only [Array.getElem?_setIfInBounds, Array.size_setIfInBounds]
  by_cases e : i = k
  · subst e
    rw [if_pos (by omega), if_pos (by omega), h0]
  · rw [if_neg (by omega)]
    exact h i 0 (by omega) hj
end Go.Proofs.Yteklalbjlmkagaa
