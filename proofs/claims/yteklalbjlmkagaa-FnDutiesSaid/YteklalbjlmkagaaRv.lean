/- The great laws' small helpers: made by rvgen.py. -/
import Derived.Test.YteklalbjlmkagaaTyInt
namespace Go.Proofs.Yteklalbjlmkagaa
open Go.RowKit
set_option linter.unusedVariables false
set_option linter.unusedSimpArgs false

def hasI (X : Nat → Nat → Int) (k : Nat) (s : Int) : Bool := decide (∃ i, i < k ∧ X i 0 = s)
theorem hasI_yes {X : Nat → Nat → Int} {k i : Nat} {s : Int} (hi : i < k) (h : X i 0 = s) : hasI X k s = true := decide_eq_true ⟨i, hi, h⟩
theorem hasI_no {X : Nat → Nat → Int} {k : Nat} {s : Int} (h : ∀ i, i < k → X i 0 ≠ s) : hasI X k s = false := decide_eq_false fun ⟨i, hi, e⟩ => h i hi e

theorem r_ints (A A' : Option Addr) (n c m c' : Nat) (X Y : Nat → Nat → Int) (v : Bool) (hv : eqX 1 n m X Y = v) (w : World) (hn : n ≤ 1048576) (hm : m ≤ 1048576) (ha : Arr w w.heap.size A n 1 (iv X)) (ha' : Arr w w.heap.size A' m 1 (iv Y)) :
    Calls Try.prog 14 #[.slice A n c, .slice A' m c'] w fun e w' => e = .returned (.bool v) ∧ Below w.heap.size w w' := by
  by_cases hnm : n = m
  · subst hnm
    go_enter Try.func14, Try.ntmps14
    go_wp2
    go_loopw [5] (fun i wr => ∃ k : Nat, k ≤ n ∧ i = .int .i64 k ∧ Below w.heap.size w wr ∧ ∀ i, i < k → ∀ j, j < 1 → X i j = Y i j) (fun i _ => n - (intOf i).toNat)
    case atStart => exact ⟨0, Nat.zero_le _, rfl, by go_grown, by omega⟩
    case round =>
      obtain ⟨k, hk, rfl, hb, hall⟩ := hrel
      by_cases hlt : k < n
      · obtain ⟨b, off, rfl, hbb, hc⟩ := ha (by omega)
        obtain ⟨b', off', rfl, hbb', hc'⟩ := ha' (by omega)
        obtain ⟨q1, q2⟩ := bcell hb
        have hbl : b < wr.heap.size := by have := hb.size; omega
        have hbl' : b' < wr.heap.size := by have := hb.size; omega
        have hx := BW.cell (w := wr)
        have c0 := hc k 0 hlt (by omega); have e0 := hc' k 0 hlt (by omega)
        simp only [Nat.add_zero, Nat.mul_one, iv] at c0 e0
        have HA := hide hall; have HV := hide hv
        clear hc ha hc' ha' hall hv
        by_cases hd : X k 0 = Y k 0
        · have hB : (X k 0 != Y k 0) = false := by simp [hd]
          have HD := hide hd
          clear hd
          go_wp2
          refine wp_region_bw (by kernel_rfl) (by kernel_rfl) ?_
          repeat (go_big_quiet_step ((first | fail)))
          refine wpQuiet_end fun w1 hb1 => ?_
          go_wp2
          go_roundw
          case rel => exact ⟨k + 1, by omega, by go_num, hb.trans (hb1.mono hb.size), all_snoc HA.out (fun j hj => by obtain rfl : j = 0 := (by omega); exact HD.out)⟩
          case measure => simp [intOf]; omega
        · have hB : (X k 0 != Y k 0) = true := by simp [hd]
          have HD := hide hd
          clear hd
          go_wp2
          refine wp_region_bw (by kernel_rfl) (by kernel_rfl) ?_
          repeat (go_big_quiet_step ((first | fail)))
          refine wpQuiet_end fun w1 hb1 => ?_
          go_wp2
          go_ret
          exact ⟨ret_bool (by rw [← HV.out, eqX_no (fun h => HD.out (h k hlt 0 (by omega)))]; rfl), hb.trans (hb1.mono hb.size)⟩
      · obtain rfl : k = n := by omega
        have HA := hide hall; have HV := hide hv
        clear hall hv
        go_wp2
        go_ret
        exact ⟨ret_bool (by rw [← HV.out, eqX_yes HA.out]; rfl), hb⟩
  · obtain rfl : false = v := by simpa [eqX, hnm] using hv
    go_enter Try.func14, Try.ntmps14
    go_wp2
    go_ret
    exact ⟨rfl, by go_grown⟩
theorem r_big (A : Option Addr) (n c : Nat) (v : Bool) (hv : decide (65536 < (n : Int)) = v) (hn : n ≤ maxLen) (w : World) :
    Calls Try.prog 5 #[.slice A n c] w fun e w' => e = .returned (.bool v) ∧ w = w' := by
  unfold maxLen at hn
  go_enter Try.func5, Try.ntmps5
  go_wp2
  go_ret
  exact ⟨ret_bool (by rw [← hv]; try rfl), rfl⟩
theorem r_has (A : Option Addr) (n c : Nat) (X : Nat → Nat → Int) (s : Int) (v : Bool) (hv : hasI X n s = v) (w : World) (hn : n ≤ 1048576) (ha : Arr w w.heap.size A n 1 (iv X)) :
    Calls Try.prog 21 #[.slice A n c, .int .i64 s] w fun e w' => e = .returned (.bool v) ∧ w = w' := by
  have HV := hide hv
  clear hv
  go_enter Try.func21, Try.ntmps21
  go_wp2
  go_loop [5] (fun i => ∃ k : Nat, k ≤ n ∧ i = .int .i64 k ∧ ∀ i, i < k → X i 0 ≠ s) (fun i => n - (intOf i).toNat)
  case atStart => exact ⟨0, Nat.zero_le _, rfl, all_zero⟩
  case round =>
    obtain ⟨k, hk, rfl, hall⟩ := hrel
    by_cases hlt : k < n
    · obtain ⟨b, off, rfl, hbb, hc⟩ := ha (by omega)
      have c0 := hc k 0 hlt (by omega)
      simp only [Nat.add_zero, Nat.mul_one, iv] at c0
      have HA := hide hall
      clear hall hc
      by_cases he : X k 0 = s
      · go_wp2
        go_ret
        exact ⟨ret_bool (by rw [← HV.out, hasI_yes hlt he]; try rfl), rfl⟩
      · go_wp2
        go_round
        case rel => exact ⟨k + 1, by omega, by go_num, all_snoc HA.out he⟩
        case measure => simp [intOf]; omega
    · obtain rfl : k = n := by omega
      have HA := hide hall
      clear hall
      go_wp2
      go_ret
      exact ⟨ret_bool (by rw [← HV.out, hasI_no HA.out]; try rfl), rfl⟩
end Go.Proofs.Yteklalbjlmkagaa
