/- Chapter 23: is a list a plan? (the reference's side) -/
import Derived.Test.YtfdgnjnnbhelgaaVisF
namespace Go.Proofs.Ytfdgnjnnbhelgaa
open Go.RowKit
set_option linter.unusedVariables false
set_option linter.unusedSimpArgs false

theorem arr_take {w : World} {B n m k : Nat} {A : Option Addr} {f : Nat → Nat → Value} (h : Arr w B A n k f) (hm : m ≤ n) : Arr w B A m k f := by
  intro h0
  obtain ⟨b, off, e, hb, hc⟩ := h (by omega)
  exact ⟨b, off, e, hb, fun i j hi hj => hc i j (by omega) hj⟩
theorem seenI_false {Y : Nat → Nat → Int} {k : Nat} {x : Int} (h : ∀ j, j < k → Y j 0 ≠ x) : seenI Y k (.int .i64 x) = false := by
  rw [← Bool.not_eq_true]
  intro H
  simp only [seenI, List.any_eq_true, List.mem_range, decide_eq_true_eq] at H
  obtain ⟨i, hi, he⟩ := H
  exact h i hi he
theorem seenI_true {Y : Nat → Nat → Int} {k : Nat} {x : Int} {j : Nat} (hj : j < k) (he : Y j 0 = x) : seenI Y k (.int .i64 x) = true := by
  simp only [seenI, List.any_eq_true, List.mem_range, decide_eq_true_eq]
  exact ⟨j, hj, he⟩

theorem spec_has (B : Option Addr) (m d : Nat) (x : Int) (Y : Nat → Nat → Int) (v : Bool) (hv : seenI Y m (.int .i64 x) = v) (w : World) (hm : m ≤ 1048576) (hb : Arr w w.heap.size B m 1 (iv Y)) :
    Calls Try.prog 127 #[.slice B m d, .int .i64 x] w fun e w' => e = .returned (.bool v) ∧ w = w' := by
  have HV := hide hv
  clear hv
  go_enter Try.func127, Try.ntmps127
  go_wp2
  go_loop [5] (fun i => ∃ k : Nat, k ≤ m ∧ i = .int .i64 k ∧ ∀ j, j < k → Y j 0 ≠ x) (fun i => m - (intOf i).toNat)
  case atStart => exact ⟨0, Nat.zero_le _, rfl, all_zero⟩
  case round =>
    obtain ⟨k, hk, rfl, hall⟩ := hrel
    have HA := hide hall
    clear hall
    by_cases hlt : k < m
    · obtain ⟨b2, off2, rfl, hbb2, hc2⟩ := hb (by omega)
      have e0 := hc2 k 0 hlt (by omega)
      simp only [Nat.add_zero, Nat.mul_one, iv] at e0
      clear hc2 hb
      by_cases he : Y k 0 = x
      · have hB : (Y k 0 == x) = true := by simp [he]
        have HE := hide he
        clear he
        go_wp2
        go_ret
        exact ⟨ret_bool (by rw [← HV.out, seenI_true hlt HE.out]; rfl), rfl⟩
      · have hB : (Y k 0 == x) = false := by simp [he]
        have HE := hide he
        clear he
        go_wp2
        go_round
        case rel => exact ⟨k + 1, by omega, by go_num, all_snoc HA.out HE.out⟩
        case measure => simp [intOf]; omega
    · obtain rfl : k = m := by omega
      go_wp2
      go_ret
      exact ⟨ret_bool (by rw [← HV.out, seenI_false HA.out]; rfl), rfl⟩

set_option maxHeartbeats 1000000 in
set_option maxRecDepth 100000 in
theorem spec_plan (A B : Option Addr) (n c m d : Nat) (X Y : Nat → Nat → Int) (v : Bool) (hv : (planB n m Y && errsB n X) = v) (w : World) (hn : n ≤ 1048576) (hm : m ≤ 1048576) (hmd : m ≤ d) (ha : Arr w w.heap.size A n 4 (iv X)) (hb : Arr w w.heap.size B m 1 (iv Y)) :
    Calls Try.prog 103 #[.slice A n c, .slice B m d] w fun e w' => e = .returned (.bool v) ∧ Below w.heap.size w w' := by
  have HV := hide hv
  clear hv
  go_enter Try.func103, Try.ntmps103
  go_wp2
  go_loopw [5] (fun i wr => ∃ k : Nat, k ≤ m ∧ i = .int .i64 k ∧ Below w.heap.size w wr ∧ (∀ j, j < k → inB (Y j 0) 0 (n - 1) = true) ∧ ∀ i, i < k → ∀ j, j < i → Y j 0 ≠ Y i 0) (fun i _ => m - (intOf i).toNat)
  case atStart => exact ⟨0, Nat.zero_le _, rfl, by go_grown, all_zero, all_zero⟩
  case round =>
    obtain ⟨k, hk, rfl, hbw, hin, hall⟩ := hrel
    have HI := hide hin; have HA := hide hall
    clear hin hall
    have hbk := hide (arr_take (hb.on hbw) hk)
    by_cases hlt : k < m
    · obtain ⟨b2, off2, rfl, hbb2, hc2⟩ := hb (by omega)
      obtain ⟨q1, q2⟩ := bcell hbw
      have hbl : b2 < wr.heap.size := by have := hbw.size; omega
      have hx := BW.cell (w := wr)
      have e0 := hc2 k 0 hlt (by omega)
      simp only [Nat.add_zero, Nat.mul_one, iv] at e0
      clear hc2 hb
      cases h1 : inB (Y k 0) 0 (n - 1)
      · go_wp2
        refine wp_region_bw (by kernel_rfl) (by kernel_rfl) ?_
        repeat (go_big_quiet_step ((first | (go_at_call 108; exact BW.call0 (spec_in _ _ _ _ (by assumption) _)))))
        refine wpQuiet_end fun w1 hb1 => ?_
        go_wp2
        go_ret
        exact ⟨ret_bool (by rw [← HV.out, planB, show allIn n m Y = false from decide_eq_false fun H => by have := H k hlt; rw [h1] at this; cases this]; rfl), hbw.trans (hb1.mono hbw.size)⟩
      · obtain ⟨t, ht⟩ : ∃ t, seenI Y k (.int .i64 (Y k 0)) = t := ⟨_, rfl⟩
        have HT := hide ht
        clear ht
        cases t
        · go_wp2
          refine wp_region_bw (by kernel_rfl) (by kernel_rfl) ?_
          repeat (go_big_quiet_step ((first | (go_at_call 108; exact BW.call0 (spec_in _ _ _ _ (by assumption) _)) | (go_at_call 127; exact BW.call0 (spec_has _ _ _ _ Y false HT.out _ (by omega) (hbk.out.on (BW.prop _)))))))
          refine wpQuiet_end fun w1 hb1 => ?_
          go_wp2
          go_roundw
          case rel => exact ⟨k + 1, by omega, by go_num, hbw.trans (hb1.mono hbw.size), all_snoc HI.out h1, all_snoc HA.out (diffB_step HT.out)⟩
          case measure => simp [intOf]; omega
        · go_wp2
          refine wp_region_bw (by kernel_rfl) (by kernel_rfl) ?_
          repeat (go_big_quiet_step ((first | (go_at_call 108; exact BW.call0 (spec_in _ _ _ _ (by assumption) _)) | (go_at_call 127; exact BW.call0 (spec_has _ _ _ _ Y true HT.out _ (by omega) (hbk.out.on (BW.prop _)))))))
          refine wpQuiet_end fun w1 hb1 => ?_
          go_wp2
          go_ret
          exact ⟨ret_bool (by rw [← HV.out, planB, diffB_no hlt HT.out]; simp), hbw.trans (hb1.mono hbw.size)⟩
    · obtain rfl : k = m := by omega
      obtain ⟨t, ht⟩ : ∃ t, errsB n X = t := ⟨_, rfl⟩
      have HT := hide ht
      clear ht
      go_wp2_with fail
      refine (spec_good23 _ _ _ X t HT.out _ hn (ha.on hbw)).mono ?_
      rintro e w1 ⟨rfl, hb1⟩
      go_wp2
      go_ret
      exact ⟨ret_bool (by rw [← HV.out, planB, show allIn n k Y = true from decide_eq_true HI.out, show diffB k Y = true from decide_eq_true HA.out, HT.out]; rfl), below_call hbw hb1⟩
end Go.Proofs.Ytfdgnjnnbhelgaa
