/- Chapter 16: catalogues. -/
import Derived.Test.YthpagjkkccimiaaQuakeA
import Derived.Test.YthpagjkkccimiaaCmp
namespace Go.Proofs.Ythpagjkkccimiaa
open Go.RowKit
set_option linter.unusedVariables false
set_option linter.unusedSimpArgs false

def catOk (X : Nat → Nat → Int) (i : Nat) : Prop := qkB (X i 0) (X i 1) (X i 2) (X i 3) = true ∧ (0 < i → befB (X (i - 1) 0) (X (i - 1) 1) (X (i - 1) 2) (X (i - 1) 3) (X i 0) (X i 1) (X i 2) (X i 3) = true)
instance (X : Nat → Nat → Int) (i : Nat) : Decidable (catOk X i) := by unfold catOk; infer_instance
def catB (n : Nat) (X : Nat → Nat → Int) : Bool := decide (∀ i, i < n → catOk X i) && decide (n ≤ 10)
theorem catB_no {n : Nat} {X : Nat → Nat → Int} {k : Nat} (hk : k < n) (h : ¬ catOk X k) : catB n X = false := by
  unfold catB
  rw [decide_eq_false (fun H => h (H k hk))]; rfl
theorem catB_yes {n : Nat} {X : Nat → Nat → Int} (h : ∀ i, i < n → catOk X i) : catB n X = decide (n ≤ 10) := by
  unfold catB
  rw [decide_eq_true h]; rfl
theorem catB_of {n : Nat} {X : Nat → Nat → Int} (h : catB n X = true) : n ≤ 10 ∧ ∀ i, i < n → catOk X i := by
  simp only [catB, Bool.and_eq_true, decide_eq_true_eq] at h
  exact ⟨h.2, h.1⟩
theorem qk_of {t x y s : Int} (h : qkB t x y s = true) : 0 ≤ t ∧ t ≤ 1000000 ∧ 0 ≤ x ∧ x ≤ 999 ∧ 0 ≤ y ∧ y ≤ 999 ∧ -20 ≤ s ∧ s ≤ 95 := by
  simp only [qkB, plB, inB, Bool.and_eq_true, decide_eq_true_eq] at h
  omega
/-- A valid catalogue, in numbers. -/
def catIn (n : Nat) (X : Nat → Nat → Int) : Prop := ∀ i, i < n → 0 ≤ X i 0 ∧ X i 0 ≤ 1000000 ∧ 0 ≤ X i 1 ∧ X i 1 ≤ 999 ∧ 0 ≤ X i 2 ∧ X i 2 ≤ 999 ∧ -20 ≤ X i 3 ∧ X i 3 ≤ 95
theorem catIn_of {n : Nat} {X : Nat → Nat → Int} (h : ∀ i, i < n → catOk X i) : catIn n X := fun i hi => qk_of (h i hi).1
theorem cat_tick {n : Nat} {X : Nat → Nat → Int} (h : ∀ i, i < n → catOk X i) : ∀ {k i : Nat}, i ≤ k → k < n → X i 0 ≤ X k 0
  | 0, i, hi, _ => by obtain rfl : i = 0 := by omega
                      exact Int.le_refl _
  | k + 1, i, hi, hk => by
    by_cases e : i = k + 1
    · subst e; exact Int.le_refl _
    · have h1 := cat_tick h (k := k) (i := i) (by omega) (by omega)
      have h2 := (h (k + 1) hk).2 (by omega)
      simp only [befB, decide_eq_true_eq, Nat.add_sub_cancel] at h2
      omega

set_option maxHeartbeats 2000000 in
theorem spec_good16 (A : Option Addr) (n c : Nat) (X : Nat → Nat → Int) (v : Bool) (hv : catB n X = v) (w : World) (hn : n ≤ 1048576) (ha : Arr w w.heap.size A n 4 (iv X)) :
    Calls Try.prog 120 #[.slice A n c] w fun e w' => e = .returned (.bool v) ∧ Below w.heap.size w w' := by
  have HV := hide hv
  clear hv
  go_enter Try.func120, Try.ntmps120
  go_wp2
  go_loopw [3] (fun i wr => ∃ k : Nat, k ≤ n ∧ i = .int .i64 k ∧ Below w.heap.size w wr ∧ ∀ i, i < k → catOk X i) (fun i _ => n - (intOf i).toNat)
  case atStart => exact ⟨0, Nat.zero_le _, rfl, by go_grown, all_zero⟩
  case round =>
    obtain ⟨k, hk, rfl, hb, hall⟩ := hrel
    by_cases hlt : k < n
    · obtain ⟨b, off, rfl, hbb, hc⟩ := ha (by omega)
      obtain ⟨q1, q2⟩ := bcell hb
      have c0 := hc k 0 hlt (by omega); have c1 := hc k 1 hlt (by omega); have c2 := hc k 2 hlt (by omega); have c3 := hc k 3 hlt (by omega)
      simp only [Nat.add_zero, iv] at c0 c1 c2 c3
      have HA := hide hall
      have hbl : b < wr.heap.size := by have := hb.size; omega
      have hx := BW.cell (w := wr)
      have HC := hide hc
      clear ha hall hc
      cases h1 : qkB (X k 0) (X k 1) (X k 2) (X k 3)
      · go_wp2
        refine wp_region_bw (by kernel_rfl) (by kernel_rfl) ?_
        repeat (go_big_quiet_step ((first | (go_at_call 135; exact BW.call (spec_quake _ _ _ _ _ (by assumption) _)) | (go_at_call 136; exact BW.call (spec_bef _ _ _ _ _ _ _ _ _ (by assumption) _)))))
        refine wpQuiet_end fun w1 hb1 => ?_
        go_wp2
        go_ret
        exact ⟨ret_bool (by rw [← HV.out, catB_no hlt (fun h => by simp [h.1] at h1)]; rfl), hb.trans (hb1.mono hb.size)⟩
      · rcases k with _ | p
        · simp only [Nat.zero_mul, Nat.add_zero] at c0 c1 c2 c3
          go_wp2
          refine wp_region_bw (by kernel_rfl) (by kernel_rfl) ?_
          repeat (go_big_quiet_step ((first | (go_at_call 135; exact BW.call (spec_quake _ _ _ _ _ (by assumption) _)) | (go_at_call 136; exact BW.call (spec_bef _ _ _ _ _ _ _ _ _ (by assumption) _)))))
          refine wpQuiet_end fun w1 hb1 => ?_
          go_wp2
          go_roundw
          case rel => exact ⟨1, by omega, by go_num, hb.trans (hb1.mono hb.size), all_snoc all_zero ⟨h1, by omega⟩⟩
          case measure => simp [intOf]; omega
        · have d0 := HC.out p 0 (by omega) (by omega); have d1 := HC.out p 1 (by omega) (by omega); have d2 := HC.out p 2 (by omega) (by omega); have d3 := HC.out p 3 (by omega) (by omega)
          simp only [Nat.add_zero, iv] at d0 d1 d2 d3
          cases h3 : befB (X p 0) (X p 1) (X p 2) (X p 3) (X (p + 1) 0) (X (p + 1) 1) (X (p + 1) 2) (X (p + 1) 3)
          · go_wp2
            refine wp_region_bw (by kernel_rfl) (by kernel_rfl) ?_
            repeat (go_big_quiet_step ((first | (go_at_call 135; exact BW.call (spec_quake _ _ _ _ _ (by assumption) _)) | (go_at_call 136; exact BW.call (spec_bef _ _ _ _ _ _ _ _ _ (by assumption) _)))))
            refine wpQuiet_end fun w1 hb1 => ?_
            go_wp2
            go_ret
            exact ⟨ret_bool (by rw [← HV.out, catB_no hlt (fun h => by have := h.2 (by omega); simp only [Nat.add_sub_cancel] at this; rw [h3] at this; cases this)]; rfl), hb.trans (hb1.mono hb.size)⟩
          · go_wp2
            refine wp_region_bw (by kernel_rfl) (by kernel_rfl) ?_
            repeat (go_big_quiet_step ((first | (go_at_call 135; exact BW.call (spec_quake _ _ _ _ _ (by assumption) _)) | (go_at_call 136; exact BW.call (spec_bef _ _ _ _ _ _ _ _ _ (by assumption) _)))))
            refine wpQuiet_end fun w1 hb1 => ?_
            go_wp2
            go_roundw
            case rel => exact ⟨p + 2, by omega, by go_num, hb.trans (hb1.mono hb.size), all_snoc HA.out ⟨h1, fun _ => h3⟩⟩
            case measure => simp [intOf]; omega
    · obtain rfl : k = n := by omega
      have HA := hide hall
      clear hall
      go_wp2
      go_ret
      exact ⟨ret_bool (by rw [← HV.out, catB_yes HA.out]; simp; omega), hb⟩
end Go.Proofs.Ythpagjkkccimiaa
