/- Lists of structs that a call appends to: rows of cells, one after another. -/
import Derived.Test.YteklalbjlmkagaaList
import Derived.Test.YteklalbjlmkagaaGrow
namespace Go.Proofs.Yteklalbjlmkagaa
open Go.RowKit
set_option linter.unusedVariables false
set_option linter.unusedSimpArgs false

theorem flat_get {α : Type} {g : α → List Value} {k : Nat} (hg : ∀ x, (g x).length = k) : ∀ {l : List α} {i j : Nat} (hi : i < l.length), j < k → (l.flatMap g)[i * k + j]? = (g l[i])[j]?
  | [], i, j, hi, hj => absurd hi (by simp)
  | a :: l, 0, j, hi, hj => by
    rw [List.flatMap_cons, Nat.zero_mul, Nat.zero_add, List.getElem?_append_left (by rw [hg]; exact hj)]
    rfl
  | a :: l, i + 1, j, hi, hj => by
    have h1 : (i + 1) * k + j = k + (i * k + j) := by rw [Nat.add_mul]; omega
    rw [List.flatMap_cons, h1, List.getElem?_append_right (by rw [hg]; omega), hg, Nat.add_sub_cancel_left, flat_get hg (by simpa using hi) hj]
    rfl
theorem flat_len {α : Type} {g : α → List Value} {k : Nat} (hg : ∀ x, (g x).length = k) : ∀ (l : List α), (l.flatMap g).length = l.length * k
  | [] => by simp
  | a :: l => by rw [List.flatMap_cons, List.length_append, hg, flat_len hg l, List.length_cons, Nat.add_mul]; omega
theorem flat_snoc {α : Type} {g : α → List Value} (l : List α) (x : α) : l.flatMap g ++ g x = (l ++ [x]).flatMap g := by simp
theorem own_of_rows {α : Type} {g : α → List Value} {w : World} {base n k : Nat} {E : TypeId} {v : Value} {l : List α} {F : Nat → Nat → Value} (hn : n = l.length) (hg : ∀ x, (g x).length = k) (hF : ∀ i j (hi : i < l.length), j < k → (g l[i])[j]? = some (F i j))
    (h : w.ownsRow base E k v n (l.flatMap g)) : Own w base E k v n F := by
  rcases h.2 with ⟨rfl, h0⟩ | ⟨gg, cap, cur, rfl, hgg, hh, hc, hm, hs, ht⟩
  · exact .inl ⟨rfl, h0⟩
  · refine .inr ⟨gg, cap, cur, rfl, hgg, hh, hc, hm, hs, fun i j hi hj => ?_⟩
    have hlt : i * k + j < n * k := by
      have : (i + 1) * k ≤ n * k := Nat.mul_le_mul_right _ hi
      rw [Nat.add_mul] at this; omega
    have h1 : (cur.toList.take (n * k))[i * k + j]? = (l.flatMap g)[i * k + j]? := by rw [ht]
    rw [List.getElem?_take, if_pos hlt, Array.getElem?_toList, flat_get hg (by omega) hj, hF i j (by omega) hj] at h1
    exact h1
theorem cells_at (w : World) (xs : List Value) (t : TypeId) (b : Nat) (hb : b = w.heap.size) : ∀ j u, xs[j]? = some u → (w.alloc (.cells xs.toArray t)).cell? ((⟨b, 0, none⟩ : Addr).add j) = some u := by
  subst hb
  intro j u hu
  have h := (Blk.new w t xs.toArray).cell j
  have e : (⟨w.heap.size, 0, none⟩ : Addr).add j = ⟨w.heap.size, j, none⟩ := by
    unfold Addr.add
    by_cases hj : j = 0 <;> simp [hj]
  rw [e, h]
  simpa using hu
/-- The k fields of a row, as cells. -/
def rowC (k : Nat) (F : Nat → Int) : List Value := (List.range k).map fun j => .int .i64 (F j)
theorem rowC_len (k : Nat) (F : Nat → Int) : (rowC k F).length = k := by simp [rowC]
theorem rowC_get {k j : Nat} (F : Nat → Int) (hj : j < k) : (rowC k F)[j]? = some (.int .i64 (F j)) := by
  simp [rowC, List.getElem?_map, List.getElem?_range hj]
end Go.Proofs.Yteklalbjlmkagaa
