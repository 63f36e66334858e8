/- Chapter 22: lists of days. -/
import Derived.Test.YtfdgnjnnbhelgaaPowA
import Derived.Test.YtfdgnjnnbhelgaaTySunDay
namespace Go.Proofs.Ytfdgnjnnbhelgaa
open Go.RowKit
set_option linter.unusedVariables false
set_option linter.unusedSimpArgs false

def sunOk (X : Nat → Nat → Int) (i : Nat) : Prop := inB (X i 0) 0 9999 = true ∧ inB (X i 1) 0 1000 = true ∧ (0 < i → X i 0 = X (i - 1) 0 + 1)
instance (X : Nat → Nat → Int) (i : Nat) : Decidable (sunOk X i) := by unfold sunOk; infer_instance
def sunB (n : Nat) (X : Nat → Nat → Int) : Bool := decide (∀ i, i < n → sunOk X i) && decide (n ≤ 20)
theorem sunB_no {n : Nat} {X : Nat → Nat → Int} {k : Nat} (hk : k < n) (h : ¬ sunOk X k) : sunB n X = false := by
  unfold sunB
  rw [decide_eq_false (fun H => h (H k hk))]; rfl
theorem sunB_yes {n : Nat} {X : Nat → Nat → Int} (h : ∀ i, i < n → sunOk X i) : sunB n X = decide (n ≤ 20) := by
  unfold sunB
  rw [decide_eq_true h]; rfl
theorem sunB_of {n : Nat} {X : Nat → Nat → Int} (h : sunB n X = true) : n ≤ 20 ∧ ∀ i, i < n → 0 ≤ X i 0 ∧ X i 0 ≤ 9999 ∧ 0 ≤ X i 1 ∧ X i 1 ≤ 1000 ∧ (0 < i → X i 0 = X (i - 1) 0 + 1) := by
  simp only [sunB, Bool.and_eq_true, decide_eq_true_eq] at h
  refine ⟨h.2, fun i hi => ?_⟩
  obtain ⟨h1, h2, h3⟩ := h.1 i hi
  exact ⟨(inB_of h1).1, (inB_of h1).2, (inB_of h2).1, (inB_of h2).2, h3⟩
theorem below3 {w wr w1 : World} {o : Obj} (hb : Below w.heap.size w wr) (hb1 : Below (wr.alloc o).heap.size (wr.alloc o) w1) : Below w.heap.size w w1 :=
  (hb.alloc hb.size o).trans (hb1.mono (by have := hb.size; simp; omega))

set_option maxHeartbeats 1000000 in
theorem spec_good22 (A : Option Addr) (n c : Nat) (X : Nat → Nat → Int) (w : World) (hn : n ≤ 1048576) (ha : Arr w w.heap.size A n 2 (iv X)) :
    Calls Try.prog 79 #[.slice A n c] w fun e w' => e = .returned (.bool (sunB n X)) ∧ Below w.heap.size w w' := by
  go_enter Try.func79, Try.ntmps79
  go_wp2
  go_loopw [3] (fun i wr => ∃ k : Nat, k ≤ n ∧ i = .int .i64 k ∧ Below w.heap.size w wr ∧ ∀ i, i < k → sunOk X i) (fun i _ => n - (intOf i).toNat)
  case atStart => exact ⟨0, Nat.zero_le _, rfl, by go_grown, by omega⟩
  case round =>
    obtain ⟨k, hk, rfl, hb, hall⟩ := hrel
    by_cases hlt : k < n
    · obtain ⟨b, off, rfl, hbb, hc⟩ := ha (by omega)
      obtain ⟨q1, q2⟩ := bcell hb
      have c0 := hc k 0 hlt (by omega)
      have c1 := hc k 1 hlt (by omega)
      simp only [Nat.add_zero, iv] at c0 c1
      have HA := hide hall
      have hbl : b < wr.heap.size := by have := hb.size; omega
      have hx := BW.cell (w := wr)
      have HC := hide hc
      clear ha hall hc
      cases h1 : inB (X k 0) 0 9999
      · go_wp2
        refine wp_region_bw (by kernel_rfl) (by kernel_rfl) ?_
        repeat (go_big_quiet_step ((first | (go_at_call 108; exact BW.call0 (spec_in _ _ _ _ (by assumption) _)) | (go_at_call 85; exact BW.call0 (spec_sun _ _ (by assumption) _)))))
        refine wpQuiet_end fun w1 hb1 => ?_
        go_wp2
        go_ret
        exact ⟨ret_bool (by rw [sunB_no hlt (fun h => by simp [h.1] at h1)]; rfl), hb.trans (hb1.mono hb.size)⟩
      · cases h2 : inB (X k 1) 0 1000
        · go_wp2
          refine wp_region_bw (by kernel_rfl) (by kernel_rfl) ?_
          repeat (go_big_quiet_step ((first | (go_at_call 108; exact BW.call0 (spec_in _ _ _ _ (by assumption) _)) | (go_at_call 85; exact BW.call0 (spec_sun _ _ (by assumption) _)))))
          refine wpQuiet_end fun w1 hb1 => ?_
          go_wp2
          go_ret
          exact ⟨ret_bool (by rw [sunB_no hlt (fun h => by simp [h.2.1] at h2)]; rfl), hb.trans (hb1.mono hb.size)⟩
        · rcases k with _ | p
          · simp only [Nat.zero_mul, Nat.add_zero] at c0 c1
            go_wp2
            refine wp_region_bw (by kernel_rfl) (by kernel_rfl) ?_
            repeat (go_big_quiet_step ((first | (go_at_call 108; exact BW.call0 (spec_in _ _ _ _ (by assumption) _)) | (go_at_call 85; exact BW.call0 (spec_sun _ _ (by assumption) _)))))
            refine wpQuiet_end fun w1 hb1 => ?_
            go_wp2
            go_roundw
            case rel => exact ⟨1, by omega, by go_num, hb.trans (hb1.mono hb.size), all_snoc all_zero ⟨h1, h2, by omega⟩⟩
            case measure => simp [intOf]; omega
          · have d0 := HC.out p 0 (by omega) (by omega)
            simp only [Nat.add_zero, iv] at d0
            have hpd := inB_of (HA.out p (by omega)).1
            obtain ⟨hp1, hp2⟩ := hpd
            by_cases h3 : X (p + 1) 0 = X p 0 + 1
            · have t1 : (X p 0 + 1 != X (p + 1) 0) = false := by simp [h3]
              have H3 := hide h3
              clear h3
              go_wp2
              refine wp_region_bw (by kernel_rfl) (by kernel_rfl) ?_
              repeat (go_big_quiet_step ((first | (go_at_call 108; exact BW.call0 (spec_in _ _ _ _ (by assumption) _)) | (go_at_call 85; exact BW.call0 (spec_sun _ _ (by assumption) _)))))
              refine wpQuiet_end fun w1 hb1 => ?_
              go_wp2
              go_roundw
              case rel => exact ⟨p + 2, by omega, by go_num, hb.trans (hb1.mono hb.size), all_snoc HA.out ⟨h1, h2, fun _ => H3.out⟩⟩
              case measure => simp [intOf]; omega
            · have t1 : (X p 0 + 1 != X (p + 1) 0) = true := by simp; omega
              have H3 := hide h3
              clear h3
              go_wp2
              refine wp_region_bw (by kernel_rfl) (by kernel_rfl) ?_
              repeat (go_big_quiet_step ((first | (go_at_call 108; exact BW.call0 (spec_in _ _ _ _ (by assumption) _)) | (go_at_call 85; exact BW.call0 (spec_sun _ _ (by assumption) _)))))
              refine wpQuiet_end fun w1 hb1 => ?_
              go_wp2
              go_ret
              exact ⟨ret_bool (by rw [sunB_no hlt (fun h => H3.out (h.2.2 (by omega)))]; rfl), hb.trans (hb1.mono hb.size)⟩
    · obtain rfl : k = n := by omega
      have HA := hide hall
      clear hall
      go_wp2
      go_ret
      exact ⟨ret_bool (by rw [sunB_yes HA.out]; simp; omega), hb⟩


set_option maxHeartbeats 1000000 in
theorem impl_areSunDays0 (A : Option Addr) (n c : Nat) (X : Nat → Nat → Int) (w : World) (hn : n ≤ 1048576) (ha : Arr w w.heap.size A n 2 (iv X)) :
    Calls Try.prog 36 #[.slice A n c] w fun e w' => e = .returned (.bool (sunB n X)) ∧ Below w.heap.size w w' := by
  go_enter Try.func36, Try.ntmps36
  go_wp2
  go_loopw [7] (fun i wr => ∃ k : Nat, k ≤ n ∧ i = .int .i64 k ∧ Below w.heap.size w wr ∧ ∀ i, i < k → sunOk X i) (fun i _ => n - (intOf i).toNat)
  case atStart => exact ⟨0, Nat.zero_le _, rfl, by go_grown, all_zero⟩
  case round =>
    obtain ⟨k, hk, rfl, hb, hall⟩ := hrel
    by_cases hlt : k < n
    · obtain ⟨b, off, rfl, hbb, hc⟩ := ha (by omega)
      obtain ⟨q1, q2⟩ := bcell hb
      have c0 := hc k 0 hlt (by omega)
      have c1 := hc k 1 hlt (by omega)
      simp only [Nat.add_zero, iv] at c0 c1
      have HA := hide hall
      have hbl : b < wr.heap.size := by have := hb.size; omega
      have hx := fun (o : Obj) => BW.cell (w := wr.alloc o)
      have HC := hide hc
      clear ha hall hc
      cases h1 : inB (X k 0) 0 9999
      · go_wp2
        refine wp_region_bw (by kernel_rfl) (by kernel_rfl) ?_
        repeat (go_big_quiet_step ((first | (go_at_call 81; exact BW.call0 (impl_in _ _ _ _ (by assumption) _)) | (go_at_call 72; exact BW.call0 (impl_sun _ _ (by assumption) _)))))
        refine wpQuiet_end fun w1 hb1 => ?_
        go_wp2
        go_ret
        exact ⟨ret_bool (by rw [sunB_no hlt (fun h => by simp [h.1] at h1)]; rfl), (below3 hb hb1)⟩
      · cases h2 : inB (X k 1) 0 1000
        · go_wp2
          refine wp_region_bw (by kernel_rfl) (by kernel_rfl) ?_
          repeat (go_big_quiet_step ((first | (go_at_call 81; exact BW.call0 (impl_in _ _ _ _ (by assumption) _)) | (go_at_call 72; exact BW.call0 (impl_sun _ _ (by assumption) _)))))
          refine wpQuiet_end fun w1 hb1 => ?_
          go_wp2
          go_ret
          exact ⟨ret_bool (by rw [sunB_no hlt (fun h => by simp [h.2.1] at h2)]; rfl), (below3 hb hb1)⟩
        · rcases k with _ | p
          · simp only [Nat.zero_mul, Nat.add_zero] at c0 c1
            go_wp2
            refine wp_region_bw (by kernel_rfl) (by kernel_rfl) ?_
            repeat (go_big_quiet_step ((first | (go_at_call 81; exact BW.call0 (impl_in _ _ _ _ (by assumption) _)) | (go_at_call 72; exact BW.call0 (impl_sun _ _ (by assumption) _)))))
            refine wpQuiet_end fun w1 hb1 => ?_
            go_wp2
            go_roundw
            case rel => exact ⟨1, by omega, by go_num, (below3 hb hb1), all_snoc all_zero ⟨h1, h2, by omega⟩⟩
            case measure => simp [intOf]; omega
          · have d0 := HC.out p 0 (by omega) (by omega)
            simp only [Nat.add_zero, iv] at d0
            have hpd := inB_of (HA.out p (by omega)).1
            obtain ⟨hp1, hp2⟩ := hpd
            by_cases h3 : X (p + 1) 0 = X p 0 + 1
            · have t1 : (X (p + 1) 0 != X p 0 + 1) = false := by simp [h3]
              have H3 := hide h3
              clear h3
              go_wp2
              refine wp_region_bw (by kernel_rfl) (by kernel_rfl) ?_
              repeat (go_big_quiet_step ((first | (go_at_call 81; exact BW.call0 (impl_in _ _ _ _ (by assumption) _)) | (go_at_call 72; exact BW.call0 (impl_sun _ _ (by assumption) _)))))
              refine wpQuiet_end fun w1 hb1 => ?_
              go_wp2
              go_roundw
              case rel => exact ⟨p + 2, by omega, by go_num, (below3 hb hb1), all_snoc HA.out ⟨h1, h2, fun _ => H3.out⟩⟩
              case measure => simp [intOf]; omega
            · have t1 : (X (p + 1) 0 != X p 0 + 1) = true := by simp; omega
              have H3 := hide h3
              clear h3
              go_wp2
              refine wp_region_bw (by kernel_rfl) (by kernel_rfl) ?_
              repeat (go_big_quiet_step ((first | (go_at_call 81; exact BW.call0 (impl_in _ _ _ _ (by assumption) _)) | (go_at_call 72; exact BW.call0 (impl_sun _ _ (by assumption) _)))))
              refine wpQuiet_end fun w1 hb1 => ?_
              go_wp2
              go_ret
              exact ⟨ret_bool (by rw [sunB_no hlt (fun h => H3.out (h.2.2 (by omega)))]; rfl), (below3 hb hb1)⟩
    · obtain rfl : k = n := by omega
      have HA := hide hall
      clear hall
      go_wp2
      go_ret
      exact ⟨ret_bool (by rw [sunB_yes HA.out]; simp; omega), hb⟩

theorem impl_areSunDays (A : Option Addr) (n c : Nat) (X : Nat → Nat → Int) (v : Bool) (hv : sunB n X = v) (w : World) (hn : n ≤ 1048576) (ha : Arr w w.heap.size A n 2 (iv X)) :
    Calls Try.prog 36 #[.slice A n c] w fun e w' => e = .returned (.bool v) ∧ Below w.heap.size w w' := by
  subst hv; exact impl_areSunDays0 A n c X w hn ha
theorem spec_sunDays (A : Option Addr) (n c : Nat) (X : Nat → Nat → Int) (v : Bool) (hv : sunB n X = v) (w : World) (hn : n ≤ 1048576) (ha : Arr w w.heap.size A n 2 (iv X)) :
    Calls Try.prog 37 #[.slice A n c] w fun e w' => e = .returned (.bool v) ∧ Below w.heap.size w w' := by
  subst hv
  go_enter Try.func37, Try.ntmps37
  go_wp2_with fail
  refine (spec_good22 _ _ _ X _ hn ha).mono ?_
  rintro e w1 ⟨rfl, hb1⟩
  obtain ⟨qc1, qf1⟩ := bcell hb1
  have hz1 := hb1.size
  try simp only [World.size_alloc, World.size_setCell, World.size_drew] at hz1
  have hq1 : Below w.heap.size w w1 := below_call (by go_grown) hb1
  try have hl0_1 : w.heap.size < w1.heap.size := by omega
  try have hl1_1 : w.heap.size + 1 < w1.heap.size := by omega
  try have hl2_1 : w.heap.size + 2 < w1.heap.size := by omega
  try have hl3_1 : w.heap.size + 3 < w1.heap.size := by omega
  go_wp2
  go_returns
  exact ⟨rfl, hq1⟩

end Go.Proofs.Ytfdgnjnnbhelgaa
