/- Chapter 21: is an alarm valid? Both sides: made by alagen.py. -/
import Derived.Test.YtgiphgfbfhaamaaDoorAla
import Derived.Test.YtgiphgfbfhaamaaDoorDifHeard
namespace Go.Proofs.YtgiphgfbfhaamaaDoor
open Go.RowKit
set_option linter.unusedVariables false
set_option linter.unusedSimpArgs false

theorem cntB_8 {s : Int} {n : Nat} (h : cntB s n = true) : n ≤ 8 := by
  unfold cntB at h
  split at h
  · have := inB_of h; omega
  · split at h
    · have := inB_of h; omega
    · have := of_decide_eq_true h; omega
theorem cntB_big {s : Int} {n : Nat} (h : 8 < n) : cntB s n = false := by
  cases hc : cntB s n
  · rfl
  · have := cntB_8 hc; omega
theorem alaB_end {x0 x1 : Int} {n : Nat} {X : Nat → Nat → Int} {x3 x4 : Int} (h1 : inB x0 0 1000000 = true) (h3 : inB x4 0 x3 = true) (h4 : x3 ≤ 999) (h : ∀ i, i < n → hrdOk x0 X i ∧ hrdNew X i) :
    alaB x0 x1 n X x3 x4 = (inB x1 0 3 && cntB x1 n && (decide (x1 ≠ 1) || decide (x0 - X 0 1 ≤ 500))) := by
  unfold alaB
  rw [h1, h3, decide_eq_true h4, decide_eq_true (p := ∀ i, i < n → hrdOk x0 X i ∧ hrdNew X i) h]
  cases inB x1 0 3 <;> cases cntB x1 n <;> rfl
theorem hrd_bad1 {x0 : Int} {X : Nat → Nat → Int} {k : Nat} (g : inB (X k 0) 1 99 = false) : ¬ (hrdOk x0 X k ∧ hrdNew X k) := fun h => by
  have := inB_no g; have h1 := h.1.1; have h2 := h.1.2.1; omega
theorem hrd_bad2 {x0 : Int} {X : Nat → Nat → Int} {k : Nat} (g : inB (X k 1) 0 x0 = false) : ¬ (hrdOk x0 X k ∧ hrdNew X k) := fun h => by
  have := inB_no g; have h1 := h.1.2.2.1; have h2 := h.1.2.2.2.1; omega
theorem hrd_bad3 {x0 : Int} {X : Nat → Nat → Int} {p : Nat} (g : X (p + 1) 1 < X p 1) : ¬ (hrdOk x0 X (p + 1) ∧ hrdNew X (p + 1)) := fun h => by
  have := h.1.2.2.2.2 (by omega); simp only [Nat.add_sub_cancel] at this; omega
theorem hrd_good0 {x0 : Int} {X : Nat → Nat → Int} (g1 : inB (X 0 0) 1 99 = true) (g2 : inB (X 0 1) 0 x0 = true) : hrdOk x0 X 0 := by
  have h1 := inB_of g1; have h2 := inB_of g2
  exact ⟨h1.1, h1.2, h2.1, h2.2, fun h => absurd h (by omega)⟩
theorem hrd_good1 {x0 : Int} {X : Nat → Nat → Int} {p : Nat} (g1 : inB (X (p + 1) 0) 1 99 = true) (g2 : inB (X (p + 1) 1) 0 x0 = true) (g3 : ¬ X (p + 1) 1 < X p 1) : hrdOk x0 X (p + 1) := by
  have h1 := inB_of g1; have h2 := inB_of g2
  exact ⟨h1.1, h1.2, h2.1, h2.2, fun h => by simp only [Nat.add_sub_cancel]; omega⟩
theorem diff_new {X : Nat → Nat → Int} {n : Nat} (h : diffF n (fun i => X i 0) = true) : ∀ i, i < n → hrdNew X i := fun i hi k hk => of_decide_eq_true h i hi k hk
theorem diff_old {x0 : Int} {X : Nat → Nat → Int} {n : Nat} (h : diffF n (fun i => X i 0) = false) : ∃ i, i < n ∧ ¬ (hrdOk x0 X i ∧ hrdNew X i) := by
  apply Classical.byContradiction
  intro H
  have : diffF n (fun i => X i 0) = true := decide_eq_true fun i hi k hk e => H ⟨i, hi, fun g => g.2 k hk e⟩
  rw [h] at this; cases this

set_option maxHeartbeats 4000000 in
set_option maxRecDepth 100000 in
theorem spec_ala (x0 x1 : Int) (A : Option Addr) (n c : Nat) (X : Nat → Nat → Int) (x3 x4 : Int) (v : Bool) (hv : alaB x0 x1 n X x3 x4 = v) (w : World) (hn : n ≤ 1048576) (hnc : n ≤ c) (ha : Arr w w.heap.size A n 2 (iv X)) :
    Calls Tryd.prog 10 #[.agg #[.int .i64 x0, .int .i64 x1, .slice A n c, .int .i64 x3, .int .i64 x4]] w fun e w' => e = .returned (.bool v) ∧ Below w.heap.size w w' := by
  have HV := hide hv
  clear hv
  have hcx0 : Cells (w.alloc (.cells #[.int .i64 x0, .int .i64 x1, .slice A n c, .int .i64 x3, .int .i64 x4] 30)) w.heap.size [.int .i64 x0, .int .i64 x1, .slice A n c, .int .i64 x3, .int .i64 x4] := Cells.new w _ _ _ rfl
  have hb0 : Below w.heap.size w (w.alloc (.cells #[.int .i64 x0, .int .i64 x1, .slice A n c, .int .i64 x3, .int .i64 x4] 30)) := below_al (Below.refl _ _)
  cases h1 : inB x0 0 1000000
  · skip
    obtain rfl : false = v := by rw [← HV.out]; simp [alaB, h1]
    go_enter Tryd.func10, Tryd.ntmps10
    go_wp2_with (first | (go_at_call 16; refine (spec_tick _ _ (by assumption) _).mono ?_; rintro e w' ⟨rfl, rfl⟩) | (go_at_call 17; refine (spec_in _ _ _ _ (by assumption) _).mono ?_; rintro e w' ⟨rfl, rfl⟩) | (go_at_call 18; refine (spec_cnt _ _ _ (by assumption) _).mono ?_; rintro e w' ⟨rfl, rfl⟩))
    go_ret
    exact ⟨rfl, by go_grown⟩
  cases h2 : inB x1 0 3
  · skip
    obtain rfl : false = v := by rw [← HV.out]; simp [alaB, h2]
    go_enter Tryd.func10, Tryd.ntmps10
    go_wp2_with (first | (go_at_call 16; refine (spec_tick _ _ (by assumption) _).mono ?_; rintro e w' ⟨rfl, rfl⟩) | (go_at_call 17; refine (spec_in _ _ _ _ (by assumption) _).mono ?_; rintro e w' ⟨rfl, rfl⟩) | (go_at_call 18; refine (spec_cnt _ _ _ (by assumption) _).mono ?_; rintro e w' ⟨rfl, rfl⟩))
    go_ret
    exact ⟨rfl, by go_grown⟩
  cases h3 : inB x4 0 x3
  · skip
    obtain rfl : false = v := by rw [← HV.out]; simp [alaB, h3]
    go_enter Tryd.func10, Tryd.ntmps10
    go_wp2_with (first | (go_at_call 16; refine (spec_tick _ _ (by assumption) _).mono ?_; rintro e w' ⟨rfl, rfl⟩) | (go_at_call 17; refine (spec_in _ _ _ _ (by assumption) _).mono ?_; rintro e w' ⟨rfl, rfl⟩) | (go_at_call 18; refine (spec_cnt _ _ _ (by assumption) _).mono ?_; rintro e w' ⟨rfl, rfl⟩))
    go_ret
    exact ⟨rfl, by go_grown⟩
  by_cases h4 : ¬ x3 ≤ 999
  · skip
    obtain rfl : false = v := by rw [← HV.out]; simp [alaB, h4]
    go_enter Tryd.func10, Tryd.ntmps10
    go_wp2_with (first | (go_at_call 16; refine (spec_tick _ _ (by assumption) _).mono ?_; rintro e w' ⟨rfl, rfl⟩) | (go_at_call 17; refine (spec_in _ _ _ _ (by assumption) _).mono ?_; rintro e w' ⟨rfl, rfl⟩) | (go_at_call 18; refine (spec_cnt _ _ _ (by assumption) _).mono ?_; rintro e w' ⟨rfl, rfl⟩))
    go_ret
    exact ⟨rfl, by go_grown⟩
  rw [Classical.not_not] at h4
  cases h5 : cntB x1 n
  · skip
    obtain rfl : false = v := by rw [← HV.out]; simp [alaB, h5]
    go_enter Tryd.func10, Tryd.ntmps10
    go_wp2_with (first | (go_at_call 16; refine (spec_tick _ _ (by assumption) _).mono ?_; rintro e w' ⟨rfl, rfl⟩) | (go_at_call 17; refine (spec_in _ _ _ _ (by assumption) _).mono ?_; rintro e w' ⟨rfl, rfl⟩) | (go_at_call 18; refine (spec_cnt _ _ _ (by assumption) _).mono ?_; rintro e w' ⟨rfl, rfl⟩))
    go_ret
    exact ⟨rfl, by go_grown⟩
  have h8 := cntB_8 h5
  obtain ⟨t0, t1⟩ := inB_of h1
  have H2 := hide h2
  go_enter Tryd.func10, Tryd.ntmps10
  go_wp2_with (first | (go_at_call 16; refine (spec_tick _ _ (by assumption) _).mono ?_; rintro e w' ⟨rfl, rfl⟩) | (go_at_call 17; refine (spec_in _ _ _ _ (by assumption) _).mono ?_; rintro e w' ⟨rfl, rfl⟩) | (go_at_call 18; refine (spec_cnt _ _ _ (by assumption) _).mono ?_; rintro e w' ⟨rfl, rfl⟩))
  have H1 := hide h1; have H3 := hide h3; have H5 := hide h5
  clear h1 h2 h3 h5
  go_loopw [3] (fun y wr => ∃ k : Nat, k ≤ n ∧ y = .int .i64 k ∧ Below w.heap.size w wr ∧ Cells wr w.heap.size [.int .i64 x0, .int .i64 x1, .slice A n c, .int .i64 x3, .int .i64 x4] ∧ ∀ i, i < k → hrdOk x0 X i ∧ hrdNew X i) (fun y _ => n - (intOf y).toNat)
  case atStart => exact ⟨0, Nat.zero_le _, rfl, hb0, hcx0, all_zero⟩
  case round =>
    clear hcx0 hb0
    obtain ⟨k, hk, rfl, hbw, hcx, hall⟩ := hrel
    have l0 := hcx.2 0 _ rfl; have l1 := hcx.2 1 _ rfl; have l2 := hcx.2 2 _ rfl; have l3 := hcx.2 3 _ rfl; have l4 := hcx.2 4 _ rfl; have l5 := hcx.1
    obtain ⟨q1, q2⟩ := bcell hbw
    have hsw := hbw.size
    have HA := hide hall
    clear hall
    by_cases hlt : k < n
    · have HW := hide ((ha.on hbw).on (below_al (Below.refl _ _) : Below wr.heap.size wr (wr.alloc (.cells #[.int .i64 (X k 0), .int .i64 (X k 1)] 44))))
      obtain ⟨b, off, rfl, hbb, hc⟩ := ha (by omega)
      have c0 := hc k 0 hlt (by omega); have c1 := hc k 1 hlt (by omega)
      simp only [Nat.add_zero, iv] at c0 c1
      have HC := hide hc
      have hbl : b < wr.heap.size := by omega
      have hx := BW.cell (w := wr.alloc (.cells #[.int .i64 (X k 0), .int .i64 (X k 1)] 44))
      clear ha hc
      cases g1 : inB (X k 0) 1 99
      · skip
        go_wp2
        refine wp_region_bw (by kernel_rfl) (by kernel_rfl) ?_
        repeat (go_big_quiet_step ((first | (go_at_call 17; exact BW.call0 (spec_in _ _ _ _ (by assumption) _)) | (go_at_call 19; exact BW.call0 (spec_has21 _ _ _ X _ _ (by assumption) _ (by omega) (Arr.pre (HW.out.on (BW.prop _)) (by omega)))))))
        refine wpQuiet_end fun w1 hb1 => ?_
        clear hx
        go_wp2
        go_ret
        exact ⟨ret_bool (by rw [← HV.out, alaB_row hlt (hrd_bad1 g1)]; try rfl), below_call (below_al hbw) hb1⟩
      · skip
        cases g2 : inB (X k 1) 0 x0
        · skip
          go_wp2
          refine wp_region_bw (by kernel_rfl) (by kernel_rfl) ?_
          repeat (go_big_quiet_step ((first | (go_at_call 17; exact BW.call0 (spec_in _ _ _ _ (by assumption) _)) | (go_at_call 19; exact BW.call0 (spec_has21 _ _ _ X _ _ (by assumption) _ (by omega) (Arr.pre (HW.out.on (BW.prop _)) (by omega)))))))
          refine wpQuiet_end fun w1 hb1 => ?_
          clear hx
          go_wp2
          go_ret
          exact ⟨ret_bool (by rw [← HV.out, alaB_row hlt (hrd_bad2 g2)]; try rfl), below_call (below_al hbw) hb1⟩
        · skip
          rcases k with _ | p
          · simp only [Nat.zero_mul, Nat.add_zero] at c0 c1
            cases g4 : hasS X 0 (X 0 0)
            · skip
              have HOK := hide (hrd_good0 (x0 := x0) g1 g2)
              go_wp2
              refine wp_region_bw (by kernel_rfl) (by kernel_rfl) ?_
              repeat (go_big_quiet_step ((first | (go_at_call 17; exact BW.call0 (spec_in _ _ _ _ (by assumption) _)) | (go_at_call 19; exact BW.call0 (spec_has21 _ _ _ X _ _ (by assumption) _ (by omega) (Arr.pre (HW.out.on (BW.prop _)) (by omega)))))))
              refine wpQuiet_end fun w1 hb1 => ?_
              clear hx
              have HC1 := hide ((hcx.alloc _).on hb1)
              go_wp2
              go_roundw
              case rel => exact ⟨_, by omega, by go_num, below_call (below_al hbw) hb1, HC1.out, all_snoc HA.out ⟨HOK.out, hasS_new g4⟩⟩
              case measure => simp [intOf]; omega
            · skip
              go_wp2
              refine wp_region_bw (by kernel_rfl) (by kernel_rfl) ?_
              repeat (go_big_quiet_step ((first | (go_at_call 17; exact BW.call0 (spec_in _ _ _ _ (by assumption) _)) | (go_at_call 19; exact BW.call0 (spec_has21 _ _ _ X _ _ (by assumption) _ (by omega) (Arr.pre (HW.out.on (BW.prop _)) (by omega)))))))
              refine wpQuiet_end fun w1 hb1 => ?_
              clear hx
              go_wp2
              go_ret
              exact ⟨ret_bool (by rw [← HV.out, alaB_row hlt (fun h => hasS_old g4 h.2)]; try rfl), below_call (below_al hbw) hb1⟩
          · have d1 := HC.out p 1 (by omega) (by omega)
            simp only [Nat.add_zero, iv] at d1
            by_cases g3 : X (p + 1) 1 < X p 1
            · skip
              go_wp2
              refine wp_region_bw (by kernel_rfl) (by kernel_rfl) ?_
              repeat (go_big_quiet_step ((first | (go_at_call 17; exact BW.call0 (spec_in _ _ _ _ (by assumption) _)) | (go_at_call 19; exact BW.call0 (spec_has21 _ _ _ X _ _ (by assumption) _ (by omega) (Arr.pre (HW.out.on (BW.prop _)) (by omega)))))))
              refine wpQuiet_end fun w1 hb1 => ?_
              clear hx
              go_wp2
              go_ret
              exact ⟨ret_bool (by rw [← HV.out, alaB_row hlt (hrd_bad3 g3)]; try rfl), below_call (below_al hbw) hb1⟩
            · have g3f : decide (X (p + 1) 1 < X p 1) = false := decide_eq_false g3
              cases g4 : hasS X (p + 1) (X (p + 1) 0)
              · skip
                have HOK := hide (hrd_good1 (x0 := x0) g1 g2 g3)
                go_wp2
                refine wp_region_bw (by kernel_rfl) (by kernel_rfl) ?_
                repeat (go_big_quiet_step ((first | (go_at_call 17; exact BW.call0 (spec_in _ _ _ _ (by assumption) _)) | (go_at_call 19; exact BW.call0 (spec_has21 _ _ _ X _ _ (by assumption) _ (by omega) (Arr.pre (HW.out.on (BW.prop _)) (by omega)))))))
                refine wpQuiet_end fun w1 hb1 => ?_
                clear hx
                have HC1 := hide ((hcx.alloc _).on hb1)
                go_wp2
                go_roundw
                case rel => exact ⟨_, by omega, by go_num, below_call (below_al hbw) hb1, HC1.out, all_snoc HA.out ⟨HOK.out, hasS_new g4⟩⟩
                case measure => simp [intOf]; omega
              · skip
                go_wp2
                refine wp_region_bw (by kernel_rfl) (by kernel_rfl) ?_
                repeat (go_big_quiet_step ((first | (go_at_call 17; exact BW.call0 (spec_in _ _ _ _ (by assumption) _)) | (go_at_call 19; exact BW.call0 (spec_has21 _ _ _ X _ _ (by assumption) _ (by omega) (Arr.pre (HW.out.on (BW.prop _)) (by omega)))))))
                refine wpQuiet_end fun w1 hb1 => ?_
                clear hx
                go_wp2
                go_ret
                exact ⟨ret_bool (by rw [← HV.out, alaB_row hlt (fun h => hasS_old g4 h.2)]; try rfl), below_call (below_al hbw) hb1⟩
    · obtain rfl : k = n := by omega
      have he := alaB_end (x1 := x1) H1.out H3.out h4 HA.out
      rw [HV.out, H2.out, H5.out] at he
      have HE := hide he
      clear he
      have hx := BW.cell (w := wr)
      by_cases hs1 : x1 = 1
      · subst hs1
        have hk0 : 0 < k := by have := H5.out; unfold cntB at this; rw [if_pos rfl] at this; have := inB_of this; omega
        obtain ⟨b, off, rfl, hbb, hc⟩ := ha hk0
        have c1 := hc 0 1 hk0 (by omega)
        simp only [Nat.add_zero, Nat.zero_mul, iv] at c1
        obtain ⟨u1, u2, u3, u4, u5⟩ := (HA.out 0 hk0).1
        have hbl : b < wr.heap.size := by omega
        clear hc ha u5
        by_cases hd : x0 - X 0 1 ≤ 500
        · go_wp2
          refine wp_region_bw (by kernel_rfl) (by kernel_rfl) ?_
          repeat (go_big_quiet_step ((first | fail)))
          refine wpQuiet_end fun w1 hb1 => ?_
          clear hx
          go_wp2
          go_ret
          exact ⟨ret_bool (by rw [HE.out]; simp [hd]), hbw.trans (hb1.mono hbw.size)⟩
        · go_wp2
          refine wp_region_bw (by kernel_rfl) (by kernel_rfl) ?_
          repeat (go_big_quiet_step ((first | fail)))
          refine wpQuiet_end fun w1 hb1 => ?_
          clear hx
          go_wp2
          go_ret
          exact ⟨ret_bool (by rw [HE.out]; simp [hd]), hbw.trans (hb1.mono hbw.size)⟩
      · have e1 : (x1 != 1) = true := by simp [hs1]
        have e2 : (x1 == 1) = false := by simp [hs1]
        go_wp2
        refine wp_region_bw (by kernel_rfl) (by kernel_rfl) ?_
        repeat (go_big_quiet_step ((first | fail)))
        refine wpQuiet_end fun w1 hb1 => ?_
        clear hx
        go_wp2
        go_ret
        exact ⟨ret_bool (by rw [HE.out]; simp [hs1]), hbw.trans (hb1.mono hbw.size)⟩
end Go.Proofs.YtgiphgfbfhaamaaDoor
