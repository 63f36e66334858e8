/- Chapter 23: the plain law on errands left out: the kept list, the marks. -/
import Derived.Test.YtfdgnjnnbhelgaaErrP
import Derived.Test.YtfdgnjnnbhelgaaFewB
import Derived.Test.YtfdgnjnnbhelgaaRv
namespace Go.Proofs.Ytfdgnjnnbhelgaa
open Go.RowKit
set_option linter.unusedVariables false
set_option linter.unusedSimpArgs false

def kfL (n : Nat) (X : Nat → Nat → Int) (k : Nat) : List Nat := ((fwO n X).take k).filter fun x => decide (x ∉ fwN n X)
theorem kfL_yes {n k : Nat} {X : Nat → Nat → Int} (h : k < (fwO n X).length) (hx : (fwO n X).getD k 0 ∉ fwN n X) : kfL n X (k + 1) = kfL n X k ++ [(fwO n X).getD k 0] := by
  unfold kfL
  rw [take_succE h, List.filter_append]
  congr 1
  simp only [List.filter_cons, List.filter_nil]
  rw [if_pos (by simpa using hx)]
theorem kfL_no {n k : Nat} {X : Nat → Nat → Int} (h : k < (fwO n X).length) (hx : (fwO n X).getD k 0 ∈ fwN n X) : kfL n X (k + 1) = kfL n X k := by
  unfold kfL
  rw [take_succE h, List.filter_append]
  simp only [List.filter_cons, List.filter_nil]
  rw [if_neg (by simpa using hx), List.append_nil]
theorem kept_law {n : Nat} {X : Nat → Nat → Int} {u : Bool} (hu : errsB n X = u) {q : Nat} (hq : q = onlyN u n) : (planB n (kfL n X q).length (keptY (kfL n X q)) && errsB n X) = u ∧ 0 = onlyN u (lateL X (keptY (kfL n X q)) (kfL n X q).length).length := by
  cases u
  · simp [hu, onlyN]
  · obtain rfl : q = n := hq
    have hX := (errs_of hu).2
    have hnd : (fwO q X).Nodup := insL_nodup
    have hf := fw_kept (X := X) (order := fwO q X) hnd (q := q) (by rw [fwO_len]; omega)
    have hk : kfL q X q = (fwS X (fwO q X) q).1 := hf.symm
    have hsub : (kfL q X q).Sublist (fwO q X) := (List.filter_sublist).trans (List.take_sublist _ _)
    refine ⟨?_, ?_⟩
    · rw [plan_list (fun x hx => mem_insL.1 (hsub.subset hx)) (hnd.sublist hsub), hu]; rfl
    · have h1 := fw_onT hX (q := q) (Nat.le_refl _)
      have h2 : OnT X 0 (kfL q X q) := by rw [hk]; exact h1
      rw [onT_late h2 (Nat.le_refl _)]; rfl
theorem order_law {n : Nat} {X : Nat → Nat → Int} {u : Bool} (hu : errsB n X = u) {q : Nat} (hq : q = onlyN u n) : (planB n q (keptY (fwO n X)) && errsB n X) = u ∧ onlyN u (fwN n X).length ≤ onlyN u (lateL X (keptY (fwO n X)) q).length := by
  cases u
  · simp [hu, onlyN]
  · obtain rfl : q = n := hq
    have hX := (errs_of hu).2
    have hnd : (fwO q X).Nodup := insL_nodup
    have h1 := plan_list (n := q) (l := fwO q X) (fun x hx => mem_insL.1 hx) hnd
    rw [fwO_len] at h1
    refine ⟨by rw [h1, hu]; rfl, ?_⟩
    simp only [onlyN, if_true]
    exact fw_late hX (Nat.le_refl _)
theorem has_put {O : List Nat} {q x : Nat} (hq : q = O.length) : hasI (fun i _ => ((putAll O O.length).getD i 0 : Nat)) q (x : Int) = decide (x ∈ O) := by
  subst hq
  by_cases h : x ∈ O
  · rw [decide_eq_true h]
    obtain ⟨j, hj, he⟩ := List.mem_iff_getElem.1 h
    have h1 : x ∈ putAll O O.length := mem_putAll.2 ⟨j, hj, by simp [List.getD, hj, he]⟩
    obtain ⟨i, hi, e⟩ := List.mem_iff_getElem.1 h1
    rw [putAll_len] at hi
    exact hasI_yes hi (by simp [List.getD, hi, putAll_len, e])
  · rw [decide_eq_false h]
    refine hasI_no fun i hi e => h ?_
    have hi2 : i < (putAll O O.length).length := by rw [putAll_len]; exact hi
    have h1 : (putAll O O.length).getD i 0 ∈ putAll O O.length := getD_memE hi2
    have h2 : (putAll O O.length).getD i 0 = x := by exact_mod_cast e
    rw [h2] at h1
    obtain ⟨j, hj, he⟩ := mem_putAll.1 h1
    rw [he]; exact getD_memE hj
theorem least_law {n m : Nat} {X Y : Nat → Nat → Int} (he : m = n) (h : (planB n m Y && errsB n X) = true) : (planB n n (keptY (fwO n X)) && errsB n X) = true ∧ mostL X (keptY (fwO n X)) n ≤ mostL X Y m := by
  subst he
  rw [Bool.and_eq_true] at h
  exact ⟨(order_law h.2 rfl).1, edd_least (errs_of h.2).2 h.1⟩
end Go.Proofs.Ytfdgnjnnbhelgaa
