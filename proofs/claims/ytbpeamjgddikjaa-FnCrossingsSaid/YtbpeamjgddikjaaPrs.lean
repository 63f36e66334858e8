/- Chapter 18: the pairs of faults that meet: plain law, spec. -/
import Derived.Test.YtbpeamjgddikjaaMps
import Derived.Test.YtbpeamjgddikjaaTch
import Derived.Test.YtbpeamjgddikjaaFltQ
import Derived.Test.YtbpeamjgddikjaaReg
import Derived.RegionTactic
import Derived.BigRegion
namespace Go.Proofs.Ytbpeamjgddikjaa
open Go.RowKit
set_option linter.unusedVariables false
set_option linter.unusedSimpArgs false

def tchE (E : Nat → FauE) (i j : Nat) : Bool := touchB (E i).Y (E i).m (E j).Y (E j).m
def rowP (E : Nat → FauE) (i : Nat) : Nat → List (Int × Int)
  | 0 => []
  | q + 1 => if tchE E i (i + 1 + q) = true then rowP E i q ++ [((E i).id, (E (i + 1 + q)).id)] else rowP E i q
def allP (E : Nat → FauE) (n : Nat) : Nat → List (Int × Int)
  | 0 => []
  | k + 1 => allP E n k ++ rowP E k (n - 1 - k)
theorem rowP_len (E : Nat → FauE) (i : Nat) : ∀ q, (rowP E i q).length ≤ q
  | 0 => Nat.le_refl _
  | q + 1 => by
    have := rowP_len E i q
    rw [rowP]; split <;> (try simp only [List.length_append, List.length_cons, List.length_nil]) <;> omega
theorem allP_len (E : Nat → FauE) (n : Nat) : ∀ k, (allP E n k).length ≤ n * k
  | 0 => Nat.zero_le _
  | k + 1 => by
    have h1 := allP_len E n k
    have h2 := rowP_len E k (n - 1 - k)
    rw [allP, List.length_append, Nat.mul_succ]; omega
theorem rowP_yes {E : Nat → FauE} {i q : Nat} (h : tchE E i (i + 1 + q) = true) : rowP E i (q + 1) = rowP E i q ++ [((E i).id, (E (i + 1 + q)).id)] := by rw [rowP, if_pos h]
theorem rowP_no {E : Nat → FauE} {i q : Nat} (h : tchE E i (i + 1 + q) = false) : rowP E i (q + 1) = rowP E i q := by rw [rowP, if_neg (by rw [h]; exact Bool.false_ne_true)]
theorem fau_two {x0 : Int} {s : ByteArray} {n : Nat} {X : Nat → Nat → Int} {x3 : Int} (h : fauB x0 s n X x3 = true) : 2 ≤ n := by
  obtain ⟨_, n2, _⟩ := fau_of h
  exact n2
end Go.Proofs.Ytbpeamjgddikjaa
