/- A list of faults: what the chapter asks of it, and which bend is the nearest. -/
import Derived.Test.YtbpeamjgddikjaaFltA
import Derived.Test.YtbpeamjgddikjaaFauL
import Derived.Test.YtbpeamjgddikjaaDifS
namespace Go.Proofs.Ytbpeamjgddikjaa
open Go.RowKit
set_option linter.unusedVariables false
set_option linter.unusedSimpArgs false

def faOne (E : Nat → FauE) (i : Nat) : Bool := fauB (E i).id (E i).nm (E i).m (E i).Y (E i).sl
def faOk (E : Nat → FauE) (i : Nat) : Prop := faOne E i = true ∧ (0 < i → (E (i - 1)).id < (E i).id)
instance (E : Nat → FauE) (i : Nat) : Decidable (faOk E i) := by unfold faOk; infer_instance
def listB (n : Nat) (E : Nat → FauE) : Bool := decide (∀ i, i < n → faOk E i) && decide (n ≤ 6)
def fnm (E : Nat → FauE) (i : Nat) : ByteArray := (E i).nm
def fausB (n : Nat) (E : Nat → FauE) : Bool := listB n E && diffS n (fnm E)
theorem listB_no {n : Nat} {E : Nat → FauE} {k : Nat} (hk : k < n) (h : ¬ faOk E k) : listB n E = false := by
  unfold listB
  rw [decide_eq_false (fun H => h (H k hk))]; rfl
theorem listB_yes {n : Nat} {E : Nat → FauE} (h : ∀ i, i < n → faOk E i) : listB n E = decide (n ≤ 6) := by
  unfold listB
  rw [decide_eq_true h]; rfl
theorem fausB_no {n : Nat} {E : Nat → FauE} {k : Nat} (hk : k < n) (h : ¬ faOk E k) : fausB n E = false := by
  unfold fausB; rw [listB_no hk h]; rfl
theorem fausB_same {n : Nat} {E : Nat → FauE} {i k : Nat} (hk : k < n) (hi : i < k) (h : (E i).nm = (E k).nm) : fausB n E = false := by
  unfold fausB diffS
  rw [decide_eq_false (fun H => H k hk i hi h), Bool.and_false]
theorem fausB_yes {n : Nat} {E : Nat → FauE} (h : ∀ i, i < n → faOk E i) (h' : ∀ i, i < n → ∀ j, j < i → (E j).nm ≠ (E i).nm) : fausB n E = decide (n ≤ 6) := by
  unfold fausB
  rw [listB_yes h, show diffS n (fnm E) = true from decide_eq_true h', Bool.and_true]
theorem fausB_many {n : Nat} {E : Nat → FauE} (h : 6 < n) : fausB n E = false := by
  unfold fausB listB
  rw [decide_eq_false (show ¬ n ≤ 6 by omega), Bool.and_false]; rfl
theorem fausB_of {n : Nat} {E : Nat → FauE} (h : fausB n E = true) : n ≤ 6 ∧ (∀ i, i < n → faOk E i) ∧ (∀ i, i < n → ∀ j, j < i → (E j).nm ≠ (E i).nm) := by
  unfold fausB listB diffS at h
  simp only [Bool.and_eq_true, decide_eq_true_eq] at h
  exact ⟨h.1.2, h.1.1, h.2⟩
theorem fau_pl {x0 : Int} {s : ByteArray} {n : Nat} {X : Nat → Nat → Int} {x3 : Int} (h : fauB x0 s n X x3 = true) : ∀ i, i < n → Pl (X i 0) (X i 1) := by
  obtain ⟨h1, h2, h3, _⟩ := fau_of h
  intro i hi
  rcases i with _ | p
  · exact (seg_pl (h1 0 (by omega))).1
  · exact (seg_pl (h1 p hi)).2

/-- The nearest so far: fault, bend and square. -/
def nbS (r : Int × Int × Int) (id k d : Int) : Int × Int × Int := if r.2.2 < 0 ∨ d < r.2.2 then (id, k, d) else r
def nbB (e : FauE) (x y : Int) (r : Int × Int × Int) : Nat → Int × Int × Int
  | 0 => r
  | k + 1 => nbS (nbB e x y r k) e.id k (sqI (e.Y k 0) (e.Y k 1) x y)
def nbF (E : Nat → FauE) (x y : Int) : Nat → Int × Int × Int
  | 0 => (0, 0, -1)
  | k + 1 => nbB (E k) x y (nbF E x y k) (E k).m
theorem nbS_take {a b l id k d : Int} (h : l < 0 ∨ d < l) : nbS (a, b, l) id k d = (id, k, d) := by
  unfold nbS; rw [if_pos h]
theorem nbS_keep {a b l id k d : Int} (h1 : ¬ l < 0) (h2 : ¬ d < l) : nbS (a, b, l) id k d = (a, b, l) := by
  unfold nbS; rw [if_neg (fun h => h.elim h1 h2)]
end Go.Proofs.Ytbpeamjgddikjaa
