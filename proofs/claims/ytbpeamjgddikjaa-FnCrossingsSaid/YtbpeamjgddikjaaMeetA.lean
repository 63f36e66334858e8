/- Chapter 18: do two segments meet? Made by meetgen.py. -/
import Derived.Test.YtbpeamjgddikjaaBendW
namespace Go.Proofs.Ytbpeamjgddikjaa
open Go.RowKit
set_option linter.unusedVariables false
set_option linter.unusedSimpArgs false

def boxB (ax ay bx by' px py : Int) : Bool := inB px (min ax bx) (max ax bx) && inB py (min ay by') (max ay by')
def meetV (p q r s : Int) (o1 o2 o3 o4 : Bool) : Bool := ((((decide (p = 0) && o1) || (decide (q = 0) && o2)) || (decide (r = 0) && o3)) || (decide (s = 0) && o4)) || (decide (p * q < 0) && decide (r * s < 0))
def meetB (ax ay bx by' cx cy dx dy : Int) : Bool :=
  meetV (sideI ax ay bx by' cx cy) (sideI ax ay bx by' dx dy) (sideI cx cy dx dy ax ay) (sideI cx cy dx dy bx by') (boxB ax ay bx by' cx cy) (boxB ax ay bx by' dx dy) (boxB cx cy dx dy ax ay) (boxB cx cy dx dy bx by')
theorem sgn_bd (n : Int) : -1 ≤ sgn n ∧ sgn n ≤ 1 := by unfold sgn; split <;> (try split) <;> omega
theorem side_bd (ax ay bx by' px py : Int) : -1 ≤ sideI ax ay bx by' px py ∧ sideI ax ay bx by' px py ≤ 1 := sgn_bd _
theorem mul_sm {p q : Int} (h1 : -1 ≤ p ∧ p ≤ 1) (h2 : -1 ≤ q ∧ q ≤ 1) : -1 ≤ p * q ∧ p * q ≤ 1 ∧ (p = 0 → p * q = 0) ∧ (q = 0 → p * q = 0) := by
  rcases (by omega : p = -1 ∨ p = 0 ∨ p = 1) with rfl | rfl | rfl <;> rcases (by omega : q = -1 ∨ q = 0 ∨ q = 1) with rfl | rfl | rfl <;> decide
set_option maxHeartbeats 1000000 in
theorem spec_on (ax ay bx by' px py : Int) (v : Bool) (hv : boxB ax ay bx by' px py = v) (w : World) :
    Calls Try.prog 78 #[.agg #[.int .i64 ax, .int .i64 ay], .agg #[.int .i64 bx, .int .i64 by'], .agg #[.int .i64 px, .int .i64 py]] w fun e w' => e = .returned (.bool v) ∧ Below w.heap.size w w' := by
  unfold boxB at hv
  have hx := fun (o0 o1 o2 : Obj) => BW.cell (w := (((w.alloc o0).alloc o1).alloc o2))
  have HV := hide hv
  clear hv
  cases h0 : inB px (min ax bx) (max ax bx)
  · obtain rfl : false = v := by rw [← HV.out, h0]; rfl
    go_enter Try.func78, Try.ntmps78
    go_wp2
    refine wp_region_bw (by kernel_rfl) (by kernel_rfl) ?_
    repeat (go_big_quiet_step ((first | (go_at_call 90; exact BW.call0 (spec_least _ _ _ rfl _)) | (go_at_call 91; exact BW.call0 (spec_most _ _ _ rfl _)) | (go_at_call 53; exact BW.call0 (spec_in _ _ _ _ (by assumption) _)))))
    refine wpQuiet_end fun w1 hb1 => ?_
    clear hx
    go_wp2
    go_ret
    exact ⟨rfl, below_call (by go_grown) hb1⟩
  · cases h1 : inB py (min ay by') (max ay by')
    · obtain rfl : false = v := by rw [← HV.out, h0, h1]; rfl
      go_enter Try.func78, Try.ntmps78
      go_wp2
      refine wp_region_bw (by kernel_rfl) (by kernel_rfl) ?_
      repeat (go_big_quiet_step ((first | (go_at_call 90; exact BW.call0 (spec_least _ _ _ rfl _)) | (go_at_call 91; exact BW.call0 (spec_most _ _ _ rfl _)) | (go_at_call 53; exact BW.call0 (spec_in _ _ _ _ (by assumption) _)))))
      refine wpQuiet_end fun w1 hb1 => ?_
      clear hx
      go_wp2
      go_ret
      exact ⟨rfl, below_call (by go_grown) hb1⟩
    · obtain rfl : true = v := by rw [← HV.out, h0, h1]; rfl
      go_enter Try.func78, Try.ntmps78
      go_wp2
      refine wp_region_bw (by kernel_rfl) (by kernel_rfl) ?_
      repeat (go_big_quiet_step ((first | (go_at_call 90; exact BW.call0 (spec_least _ _ _ rfl _)) | (go_at_call 91; exact BW.call0 (spec_most _ _ _ rfl _)) | (go_at_call 53; exact BW.call0 (spec_in _ _ _ _ (by assumption) _)))))
      refine wpQuiet_end fun w1 hb1 => ?_
      clear hx
      go_wp2
      go_ret
      exact ⟨rfl, below_call (by go_grown) hb1⟩
set_option maxHeartbeats 1000000 in
theorem impl_boxed (ax ay bx by' px py : Int) (v : Bool) (hv : boxB ax ay bx by' px py = v) (w : World) :
    Calls Try.prog 81 #[.agg #[.int .i64 ax, .int .i64 ay], .agg #[.int .i64 bx, .int .i64 by'], .agg #[.int .i64 px, .int .i64 py]] w fun e w' => e = .returned (.bool v) ∧ Below w.heap.size w w' := by
  unfold boxB at hv
  have HV := hide hv
  clear hv
  cases h0 : inB px (min ax bx) (max ax bx)
  · obtain rfl : false = v := by rw [← HV.out, h0]; rfl
    go_enter Try.func81, Try.ntmps81
    go_wp2_with fail
    all_goals (first | (exfalso; omega) | (refine (impl_in _ _ _ false (by rw [← h0]; congr 1 <;> omega) _).mono ?_; rintro e u ⟨rfl, rfl⟩; go_wp2; go_returns; exact ⟨rfl, by go_grown⟩))
  · cases h1 : inB py (min ay by') (max ay by')
    · obtain rfl : false = v := by rw [← HV.out, h0, h1]; rfl
      go_enter Try.func81, Try.ntmps81
      go_wp2_with fail
      all_goals (first | (exfalso; omega) | (refine (impl_in _ _ _ true (by rw [← h0]; congr 1 <;> omega) _).mono ?_; rintro e u ⟨rfl, rfl⟩; go_wp2_with fail; all_goals (first | (exfalso; omega) | (refine (impl_in _ _ _ false (by rw [← h1]; congr 1 <;> omega) _).mono ?_; rintro e u ⟨rfl, rfl⟩; go_wp2; go_returns; exact ⟨rfl, by go_grown⟩))))
    · obtain rfl : true = v := by rw [← HV.out, h0, h1]; rfl
      go_enter Try.func81, Try.ntmps81
      go_wp2_with fail
      all_goals (first | (exfalso; omega) | (refine (impl_in _ _ _ true (by rw [← h0]; congr 1 <;> omega) _).mono ?_; rintro e u ⟨rfl, rfl⟩; go_wp2_with fail; all_goals (first | (exfalso; omega) | (refine (impl_in _ _ _ true (by rw [← h1]; congr 1 <;> omega) _).mono ?_; rintro e u ⟨rfl, rfl⟩; go_wp2; go_returns; exact ⟨rfl, by go_grown⟩))))
end Go.Proofs.Ytbpeamjgddikjaa
