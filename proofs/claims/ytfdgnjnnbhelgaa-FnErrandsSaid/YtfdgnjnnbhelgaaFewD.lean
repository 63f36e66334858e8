/- slices.Delete of one element of a short list of numbers, out of the shelf's contract. -/
import Derived.Test.YtfdgnjnnbhelgaaSrt
import Derived.Test.YtfdgnjnnbhelgaaReg
import Derived.Test.YtfdgnjnnbhelgaaShelf
import Derived.Shelf.Slices.Cells
namespace Go.Proofs.Ytfdgnjnnbhelgaa
open Go.RowKit
set_option linter.unusedVariables false
set_option linter.unusedSimpArgs false

theorem blk_setCells {g : Nat} {t : TypeId} : ∀ (vs : List Value) (o : Nat) {w : World} {cur : Array Value}, Blk w g t cur → ∃ cur', Blk (w.setCells g o vs) g t cur' ∧ cur'.size = cur.size ∧ ∀ i, i < cur.size → cur'[i]? = if o ≤ i ∧ i < o + vs.length then vs[i - o]? else cur[i]?
  | [], o, w, cur, h => ⟨cur, h, rfl, fun i hi => by rw [if_neg (by first | (simp; done) | (simp; omega))]⟩
  | v :: r, o, w, cur, h => by
    obtain ⟨c', h1, h2, h3⟩ := blk_setCells r (o + 1) (h.set_ o v)
    refine ⟨c', h1, by rw [h2, Array.size_setIfInBounds], fun i hi => ?_⟩
    rw [h3 i (by rw [Array.size_setIfInBounds]; exact hi)]
    by_cases h4 : i = o
    · subst h4
      rw [if_neg (by omega), if_pos ⟨Nat.le_refl _, by simp⟩, Array.getElem?_setIfInBounds, if_pos rfl, if_pos hi, Nat.sub_self]
      rfl
    · by_cases h5 : o + 1 ≤ i ∧ i < o + 1 + r.length
      · rw [if_pos h5, if_pos ⟨by omega, by simp only [List.length_cons]; omega⟩, show i - o = (i - (o + 1)) + 1 from by omega]
        rfl
      · rw [if_neg h5, if_neg (by simp only [List.length_cons]; omega), Array.getElem?_setIfInBounds, if_neg (fun e => h4 e.symm)]
theorem grown_setCells {a : World} {g : Nat} : ∀ (vs : List Value) (o : Nat) {w : World}, a.grownBy w (some g) → a.grownBy (w.setCells g o vs) (some g)
  | [], _, _, h => h
  | v :: r, o, w, h => grown_setCells r (o + 1) (grown_setCell h o v)
theorem blk_drewN {w : World} {g : Nat} {t : TypeId} {cur : Array Value} (h : Blk w g t cur) (q : Nat) : Blk (w.drewN q) g t cur := by
  unfold Blk at h ⊢
  rw [World.heap_drewN]; exact h
theorem grown_drewN {a w : World} {row : Option Nat} (h : a.grownBy w row) : ∀ q, a.grownBy (w.drewN q) row
  | 0 => h
  | q + 1 => by have := grown_drew (grown_drewN h q); exact this
theorem del_row (g cap m v base : Nat) (l : List Nat) (w : World) (hl : l.length = m) (hv : v < m) (hown : w.ownsRow base 3 1 (.slice (some ⟨g, 0, none⟩) m cap) m (nl l)) :
    Calls Try.prog 98 #[.slice (some ⟨g, 0, none⟩) m cap, .int .i64 (v : Nat), .int .i64 ((v + 1 : Nat) : Int)] w fun e w' => e = .returned (.slice (some ⟨g, 0, none⟩) ((m - 1 : Nat)) cap) ∧ w.grownBy w' (some g) ∧ w'.ownsRow base 3 1 (.slice (some ⟨g, 0, none⟩) ((m - 1 : Nat)) cap) (m - 1) (nl (l.eraseIdx v)) := by
  rcases hown.2 with ⟨hx, _⟩ | ⟨gg, cp, cur, hx, hg, hh, hc, hm, hs, ht⟩
  · cases hx
  · injection hx with e1 _ e3
    injection e1 with e1
    injection e1 with e1 _ _
    subst e1 e3
    have hB : Blk w g 3 cur := hh
    have hcell : ∀ j, j < m → cur[j]? = some (.int .i64 (l.getD j 0 : Nat)) := fun j hj => by
      have h1 : (cur.toList.take (m * 1))[j]? = (nl l)[j]? := by rw [ht]
      rw [List.getElem?_take, if_pos (by omega), Array.getElem?_toList, nl_get l (by omega)] at h1
      exact h1
    have hz : (l.map (fun (x : Nat) => (x : Int))).length = m := by simp [hl]
    refine (Any.slices_Delete_int_cells Try.laysNm223 g 0 m cap v (v + 1) (l.map (fun (x : Nat) => (x : Int))) w (by omega) hc (by unfold maxLen at hm; omega) (by omega) (by omega) (fun j hj => ?_) (fun j hj => hB.frozen _)).mono ?_
    · rw [Nat.zero_add, hB.cell, hcell j (by omega)]
      simp [List.getD, show j < l.length from by omega]
    · rintro e w' ⟨rfl, q, rfl⟩
      obtain ⟨cur', h1, h2, h3⟩ := blk_setCells (((List.take m (l.map (fun (x : Nat) => (x : Int)))).take v ++ (List.take m (l.map (fun (x : Nat) => (x : Int)))).drop (v + 1) ++ List.replicate (v + 1 - v) 0).map (Value.int .i64)) 0 (blk_drewN hB q)
      refine ⟨by simp only [Nat.add_sub_cancel_left], grown_setCells _ _ (grown_drewN (grown_refl _ _) q), ?_⟩
      refine ⟨by rw [nl_len, List.length_eraseIdx]; simp [hl, hv], .inr ⟨g, cap, cur', rfl, hg, h1, by omega, hm, by rw [h2, hs], ?_⟩⟩
      apply List.ext_getElem?
      intro i
      rw [Nat.mul_one, List.getElem?_take]
      by_cases hi : i < m - 1
      · rw [if_pos hi, Array.getElem?_toList, h3 i (by rw [hs]; omega)]
        have hm1 : List.take m (l.map (fun (x : Nat) => (x : Int))) = l.map (fun (x : Nat) => (x : Int)) := List.take_of_length_le (by omega)
        rw [hm1, if_pos ⟨Nat.zero_le _, by simp; omega⟩, Nat.sub_zero, nl]
        rw [List.getElem?_map, List.getElem?_append_left (by simp; omega), List.eraseIdx_eq_take_drop_succ, ← List.map_take, ← List.map_drop, ← List.map_append, List.getElem?_map, List.getElem?_map]
        cases (List.take v l ++ List.drop (v + 1) l)[i]? <;> rfl
      · rw [if_neg hi, List.getElem?_eq_none (by rw [nl_len, List.length_eraseIdx]; simp [hl, hv]; omega)]
theorem del_row2 (g cap k v base : Nat) (l : List Nat) (w : World) (hl : l.length = k + 1) (hv : v < k + 1) (hown : w.ownsRow base 3 1 (.slice (some ⟨g, 0, none⟩) (k + 1 : Nat) cap) (k + 1) (nl l)) :
    Calls Try.prog 98 #[.slice (some ⟨g, 0, none⟩) (k + 1 : Nat) cap, .int .i64 (v : Nat), .int .i64 ((v : Int) + 1)] w fun e w' => e = .returned (.slice (some ⟨g, 0, none⟩) k cap) ∧ w.grownBy w' (some g) ∧ w'.ownsRow base 3 1 (.slice (some ⟨g, 0, none⟩) k cap) k (nl (l.eraseIdx v)) := by
  have h := del_row g cap (k + 1) v base l w hl hv hown
  simpa using h
end Go.Proofs.Ytfdgnjnnbhelgaa
