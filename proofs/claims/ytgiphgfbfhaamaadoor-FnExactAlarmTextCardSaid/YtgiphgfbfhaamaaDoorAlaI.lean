/- Chapter 21: is an alarm valid? The program's side: made by alagen.py. -/
import Derived.Test.YtgiphgfbfhaamaaDoorAlaV
namespace Go.Proofs.YtgiphgfbfhaamaaDoor
open Go.RowKit
set_option linter.unusedVariables false
set_option linter.unusedSimpArgs false

theorem impl_sid (x : Int) (v : Bool) (hv : inB x 1 99 = v) (w : World) :
    Calls Tryd.prog 23 #[.int .i64 x] w fun e w' => e = .returned (.bool v) ∧ w = w' := by
  go_enter Tryd.func23, Tryd.ntmps23
  go_wp2_with (go_at_call 22; refine (impl_in _ _ _ _ (by assumption) _).mono ?_; rintro e w' ⟨rfl, rfl⟩)
  go_ret
  exact ⟨rfl, rfl⟩
def oldB (n : Nat) (x0 : Int) (X : Nat → Nat → Int) : Bool := decide (∃ i, i < n ∧ 500 < x0 - X i 1)
theorem oldB_yes {n k : Nat} {x0 : Int} {X : Nat → Nat → Int} (hk : k < n) (h : 500 < x0 - X k 1) : oldB n x0 X = true := decide_eq_true ⟨k, hk, h⟩
theorem oldB_no {n : Nat} {x0 : Int} {X : Nat → Nat → Int} (h : ∀ i, i < n → x0 - X i 1 ≤ 500) : oldB n x0 X = false := decide_eq_false fun ⟨i, hi, e⟩ => by have := h i hi; omega
theorem impl_old (x0 x1 : Int) (V : Value) (x3 x4 h0 h1 : Int) (v : Bool) (hv : decide (500 < x0 - h1) = v) (a0 : 0 ≤ x0) (a1 : x0 ≤ 1000000) (b0 : 0 ≤ h1) (b1 : h1 ≤ x0) (w : World) :
    Calls Tryd.prog 27 #[.agg #[.int .i64 x0, .int .i64 x1, V, .int .i64 x3, .int .i64 x4], .agg #[.int .i64 h0, .int .i64 h1]] w fun e w' => e = .returned (.bool v) ∧ Below w.heap.size w w' := by
  go_enter Tryd.func27, Tryd.ntmps27
  go_wp2
  go_ret
  exact ⟨ret_bool (by rw [← hv]; try rfl), by go_grown⟩
set_option maxHeartbeats 1000000 in
theorem idx_old (x0 x1 : Int) (V : Value) (x3 x4 : Int) (A : Option Addr) (n c : Nat) (X : Nat → Nat → Int) (a0 : 0 ≤ x0) (a1 : x0 ≤ 1000000) (hX : ∀ i, i < n → 0 ≤ X i 1 ∧ X i 1 ≤ x0) (w : World) (hn : n ≤ 1048576) (ha : Arr w w.heap.size A n 2 (iv X)) :
    Calls Tryd.prog 30 #[.slice A n c, .func (.func 27) #[.agg #[.int .i64 x0, .int .i64 x1, V, .int .i64 x3, .int .i64 x4]] #[]] w fun e w' => ∃ r : Int, e = .returned (.int .i64 r) ∧ decide (0 ≤ r) = oldB n x0 X ∧ Below w.heap.size w w' := by
  have HX := hide hX
  clear hX
  go_enter Tryd.func30, Tryd.ntmps30
  go_wp2
  go_loopw [8] (fun y wr => ∃ k : Nat, k ≤ n ∧ y = .int .i64 k ∧ Below w.heap.size w wr ∧ ∀ i, i < k → x0 - X i 1 ≤ 500) (fun y _ => n - (intOf y).toNat)
  case atStart => exact ⟨0, Nat.zero_le _, rfl, by go_grown, all_zero⟩
  case round =>
    obtain ⟨k, hk, rfl, hbw, hall⟩ := hrel
    by_cases hlt : k < n
    · obtain ⟨b, off, rfl, hbb, hc⟩ := ha (by omega)
      obtain ⟨q1, q2⟩ := bcell hbw
      have hsw := hbw.size
      have c0 := hc k 0 hlt (by omega); have c1 := hc k 1 hlt (by omega)
      simp only [Nat.add_zero, iv] at c0 c1
      obtain ⟨b0, b1⟩ := HX.out k hlt
      have HA := hide hall
      clear hall hc ha
      by_cases hd : 500 < x0 - X k 1
      · have hd' : decide (500 < x0 - X k 1) = true := decide_eq_true hd
        go_wp2_with fail
        refine (impl_old _ _ _ _ _ _ _ _ hd' a0 a1 b0 b1 _).mono ?_
        rintro e w1 ⟨rfl, hb1⟩
        go_wp2
        go_returns
        exact ⟨_, rfl, by rw [oldB_yes hlt hd]; simp <;> omega, below_call hbw hb1⟩
      · have hd' : decide (500 < x0 - X k 1) = false := decide_eq_false hd
        go_wp2_with fail
        refine (impl_old _ _ _ _ _ _ _ _ hd' a0 a1 b0 b1 _).mono ?_
        rintro e w1 ⟨rfl, hb1⟩
        go_wp2
        go_roundw
        case rel => exact ⟨k + 1, by omega, by go_num, below_call hbw hb1, all_snoc HA.out (by omega)⟩
        case measure => simp [intOf]; omega
    · obtain rfl : k = n := by omega
      have HA := hide hall
      clear hall
      go_wp2
      go_returns
      exact ⟨_, rfl, by rw [oldB_no HA.out]; decide, hbw⟩
theorem has_old (x0 x1 : Int) (V : Value) (x3 x4 : Int) (A : Option Addr) (n c : Nat) (X : Nat → Nat → Int) (v : Bool) (hv : oldB n x0 X = v) (a0 : 0 ≤ x0) (a1 : x0 ≤ 1000000) (hX : ∀ i, i < n → 0 ≤ X i 1 ∧ X i 1 ≤ x0) (w : World) (hn : n ≤ 1048576) (ha : Arr w w.heap.size A n 2 (iv X)) :
    Calls Tryd.prog 26 #[.slice A n c, .func (.func 27) #[.agg #[.int .i64 x0, .int .i64 x1, V, .int .i64 x3, .int .i64 x4]] #[]] w fun e w' => e = .returned (.bool v) ∧ Below w.heap.size w w' := by
  go_enter Tryd.func26, Tryd.ntmps26
  go_wp2_with fail
  refine (idx_old _ _ _ _ _ _ _ _ X a0 a1 hX _ hn ha).mono ?_
  rintro e w1 ⟨r, rfl, hr, hb1⟩
  rw [hv] at hr
  go_wp2
  go_ret
  exact ⟨ret_bool (by rw [← hr]; try rfl), hb1⟩
theorem old_first {n : Nat} {x0 : Int} {X : Nat → Nat → Int} (h : ∀ i, i < n → hrdOk x0 X i) (hn : 0 < n) : oldB n x0 X = !(decide (x0 - X 0 1 ≤ 500)) := by
  by_cases hd : x0 - X 0 1 ≤ 500
  · rw [decide_eq_true hd, oldB_no]
    · rfl
    · intro i hi
      have := hrd_up h i hi
      omega
  · rw [decide_eq_false hd, oldB_yes hn (by omega)]; rfl

set_option maxHeartbeats 4000000 in
set_option maxRecDepth 100000 in
theorem impl_isAla (x0 x1 : Int) (A : Option Addr) (n c : Nat) (X : Nat → Nat → Int) (x3 x4 : Int) (v : Bool) (hv : alaB x0 x1 n X x3 x4 = v) (w : World) (hn : n ≤ 1048576) (hnc : n ≤ c) (ha : Arr w w.heap.size A n 2 (iv X)) :
    Calls Tryd.prog 13 #[.agg #[.int .i64 x0, .int .i64 x1, .slice A n c, .int .i64 x3, .int .i64 x4]] w fun e w' => e = .returned (.bool v) ∧ Below w.heap.size w w' := by
  have HV := hide hv
  clear hv
  have hcx0 : Cells (w.alloc (.cells #[.int .i64 x0, .int .i64 x1, .slice A n c, .int .i64 x3, .int .i64 x4] 30)) w.heap.size [.int .i64 x0, .int .i64 x1, .slice A n c, .int .i64 x3, .int .i64 x4] := Cells.new w _ _ _ rfl
  have hb0 : Below w.heap.size w (w.alloc (.cells #[.int .i64 x0, .int .i64 x1, .slice A n c, .int .i64 x3, .int .i64 x4] 30)) := below_al (Below.refl _ _)
  cases h1 : inB x0 0 1000000
  · skip
    obtain rfl : false = v := by rw [← HV.out]; simp [alaB, h1]
    go_enter Tryd.func13, Tryd.ntmps13
    go_wp2_with (first | (go_at_call 21; refine (impl_tick _ _ (by assumption) _).mono ?_; rintro e w' ⟨rfl, rfl⟩) | (go_at_call 22; refine (impl_in _ _ _ _ (by assumption) _).mono ?_; rintro e w' ⟨rfl, rfl⟩))
    go_ret
    exact ⟨rfl, by go_grown⟩
  by_cases h8 : ¬ n ≤ 8
  · have h5 : cntB x1 n = false := cntB_big (by omega)
    obtain rfl : false = v := by rw [← HV.out]; simp [alaB, h5]
    go_enter Tryd.func13, Tryd.ntmps13
    go_wp2_with (first | (go_at_call 21; refine (impl_tick _ _ (by assumption) _).mono ?_; rintro e w' ⟨rfl, rfl⟩) | (go_at_call 22; refine (impl_in _ _ _ _ (by assumption) _).mono ?_; rintro e w' ⟨rfl, rfl⟩))
    go_ret
    exact ⟨rfl, by go_grown⟩
  rw [Classical.not_not] at h8
  cases h3 : inB x4 0 x3
  · skip
    obtain rfl : false = v := by rw [← HV.out]; simp [alaB, h3]
    go_enter Tryd.func13, Tryd.ntmps13
    go_wp2_with (first | (go_at_call 21; refine (impl_tick _ _ (by assumption) _).mono ?_; rintro e w' ⟨rfl, rfl⟩) | (go_at_call 22; refine (impl_in _ _ _ _ (by assumption) _).mono ?_; rintro e w' ⟨rfl, rfl⟩))
    go_ret
    exact ⟨rfl, by go_grown⟩
  by_cases h4 : ¬ x3 ≤ 999
  · skip
    obtain rfl : false = v := by rw [← HV.out]; simp [alaB, h4]
    go_enter Tryd.func13, Tryd.ntmps13
    go_wp2_with (first | (go_at_call 21; refine (impl_tick _ _ (by assumption) _).mono ?_; rintro e w' ⟨rfl, rfl⟩) | (go_at_call 22; refine (impl_in _ _ _ _ (by assumption) _).mono ?_; rintro e w' ⟨rfl, rfl⟩))
    go_ret
    exact ⟨rfl, by go_grown⟩
  rw [Classical.not_not] at h4
  obtain ⟨t0, t1⟩ := inB_of h1
  have HAA := hide ha
  go_enter Tryd.func13, Tryd.ntmps13
  go_wp2_with (first | (go_at_call 21; refine (impl_tick _ _ (by assumption) _).mono ?_; rintro e w' ⟨rfl, rfl⟩) | (go_at_call 22; refine (impl_in _ _ _ _ (by assumption) _).mono ?_; rintro e w' ⟨rfl, rfl⟩))
  have H1 := hide h1; have H3 := hide h3
  clear h1 h3
  go_loopw [33] (fun y wr => ∃ k : Nat, k ≤ n ∧ y = .int .i64 k ∧ Below w.heap.size w wr ∧ Cells wr w.heap.size [.int .i64 x0, .int .i64 x1, .slice A n c, .int .i64 x3, .int .i64 x4] ∧ ∀ i, i < k → hrdOk x0 X i) (fun y _ => n - (intOf y).toNat)
  case atStart => exact ⟨0, Nat.zero_le _, rfl, hb0, hcx0, all_zero⟩
  case round =>
    clear hcx0 hb0
    obtain ⟨k, hk, rfl, hbw, hcx, hall⟩ := hrel
    have l0 := hcx.2 0 _ rfl; have l1 := hcx.2 1 _ rfl; have l2 := hcx.2 2 _ rfl; have l3 := hcx.2 3 _ rfl; have l4 := hcx.2 4 _ rfl; have l5 := hcx.1
    obtain ⟨q1, q2⟩ := bcell hbw
    have hsw := hbw.size
    have HA := hide hall
    clear hall
    by_cases hlt : k < n
    · have HW := hide ((ha.on hbw).on (below_al (Below.refl _ _) : Below wr.heap.size wr (wr.alloc (.cells #[.int .i64 (X k 0), .int .i64 (X k 1)] 44))))
      obtain ⟨b, off, rfl, hbb, hc⟩ := ha (by omega)
      have c0 := hc k 0 hlt (by omega); have c1 := hc k 1 hlt (by omega)
      simp only [Nat.add_zero, iv] at c0 c1
      have HC := hide hc
      have hbl : b < wr.heap.size := by omega
      have hx := BW.cell (w := wr.alloc (.cells #[.int .i64 (X k 0), .int .i64 (X k 1)] 44))
      clear ha hc
      cases g1 : inB (X k 0) 1 99
      · skip
        go_wp2
        refine wp_region_bw (by kernel_rfl) (by kernel_rfl) ?_
        repeat (go_big_quiet_step ((first | (go_at_call 23; exact BW.call0 (impl_sid _ _ (by assumption) _)) | (go_at_call 22; exact BW.call0 (impl_in _ _ _ _ (by assumption) _)))))
        refine wpQuiet_end fun w1 hb1 => ?_
        clear hx
        go_wp2
        go_ret
        exact ⟨ret_bool (by rw [← HV.out, alaB_row hlt (hrd_bad1 g1)]; try rfl), below_call (below_al hbw) hb1⟩
      · skip
        cases g2 : inB (X k 1) 0 x0
        · skip
          go_wp2
          refine wp_region_bw (by kernel_rfl) (by kernel_rfl) ?_
          repeat (go_big_quiet_step ((first | (go_at_call 23; exact BW.call0 (impl_sid _ _ (by assumption) _)) | (go_at_call 22; exact BW.call0 (impl_in _ _ _ _ (by assumption) _)))))
          refine wpQuiet_end fun w1 hb1 => ?_
          clear hx
          go_wp2
          go_ret
          exact ⟨ret_bool (by rw [← HV.out, alaB_row hlt (hrd_bad2 g2)]; try rfl), below_call (below_al hbw) hb1⟩
        · skip
          rcases k with _ | p
          · simp only [Nat.zero_mul, Nat.add_zero] at c0 c1
            have HOK := hide (hrd_good0 (x0 := x0) g1 g2)
            go_wp2
            refine wp_region_bw (by kernel_rfl) (by kernel_rfl) ?_
            repeat (go_big_quiet_step ((first | (go_at_call 23; exact BW.call0 (impl_sid _ _ (by assumption) _)) | (go_at_call 22; exact BW.call0 (impl_in _ _ _ _ (by assumption) _)))))
            refine wpQuiet_end fun w1 hb1 => ?_
            clear hx
            have HC1 := hide ((hcx.alloc _).on hb1)
            go_wp2
            go_roundw
            case rel => exact ⟨_, by omega, by go_num, below_call (below_al hbw) hb1, HC1.out, all_snoc HA.out HOK.out⟩
            case measure => simp [intOf]; omega
          · have d1 := HC.out p 1 (by omega) (by omega)
            simp only [Nat.add_zero, iv] at d1
            by_cases g3 : X (p + 1) 1 < X p 1
            · skip
              go_wp2
              refine wp_region_bw (by kernel_rfl) (by kernel_rfl) ?_
              repeat (go_big_quiet_step ((first | (go_at_call 23; exact BW.call0 (impl_sid _ _ (by assumption) _)) | (go_at_call 22; exact BW.call0 (impl_in _ _ _ _ (by assumption) _)))))
              refine wpQuiet_end fun w1 hb1 => ?_
              clear hx
              go_wp2
              go_ret
              exact ⟨ret_bool (by rw [← HV.out, alaB_row hlt (hrd_bad3 g3)]; try rfl), below_call (below_al hbw) hb1⟩
            · have g3f : decide (X (p + 1) 1 < X p 1) = false := decide_eq_false g3
              have HOK := hide (hrd_good1 (x0 := x0) g1 g2 g3)
              go_wp2
              refine wp_region_bw (by kernel_rfl) (by kernel_rfl) ?_
              repeat (go_big_quiet_step ((first | (go_at_call 23; exact BW.call0 (impl_sid _ _ (by assumption) _)) | (go_at_call 22; exact BW.call0 (impl_in _ _ _ _ (by assumption) _)))))
              refine wpQuiet_end fun w1 hb1 => ?_
              clear hx
              have HC1 := hide ((hcx.alloc _).on hb1)
              go_wp2
              go_roundw
              case rel => exact ⟨_, by omega, by go_num, below_call (below_al hbw) hb1, HC1.out, all_snoc HA.out HOK.out⟩
              case measure => simp [intOf]; omega
    · obtain rfl : k = n := by omega
      go_wp2_with fail
      cases hD : diffF k (fun i => X i 0)
      · refine (differ_heard _ _ _ X _ hD _ (by omega) (HAA.out.on hbw) (fun i hi => by have := HA.out i hi; unfold hrdOk at this; omega)).mono ?_
        rintro e w1 ⟨rfl, hb1⟩
        obtain ⟨j, hj, hbad⟩ := diff_old (x0 := x0) hD
        have HB := hide (alaB_row (x1 := x1) (x3 := x3) (x4 := x4) hj hbad)
        clear hbad hD
        go_wp2
        go_ret
        exact ⟨ret_bool (by rw [← HV.out, HB.out]; try rfl), below_call hbw hb1⟩
      · refine (differ_heard _ _ _ X _ hD _ (by omega) (HAA.out.on hbw) (fun i hi => by have := HA.out i hi; unfold hrdOk at this; omega)).mono ?_
        rintro e w1 ⟨rfl, hb1⟩
        have hN := diff_new hD
        have he := alaB_end (x1 := x1) H1.out H3.out h4 (fun i hi => ⟨HA.out i hi, hN i hi⟩)
        rw [HV.out] at he
        have HE := hide he
        have hq1 : Below w.heap.size w w1 := below_call hbw hb1
        have hcx1 := hcx.on hb1
        clear he hN hD l0 l1 l2 l3 l4 l5 q1 q2
        have l0 := hcx1.2 0 _ rfl; have l1 := hcx1.2 1 _ rfl; have l2 := hcx1.2 2 _ rfl; have l3 := hcx1.2 3 _ rfl; have l4 := hcx1.2 4 _ rfl; have l5 := hcx1.1
        by_cases s1 : x1 = 1
        · subst s1
          have hc1 : cntB 1 k = inB k 1 2 := by unfold cntB; rw [if_pos rfl]
          cases hI : inB (k : Int) 1 2
          · have HE2 := hide (show v = false by rw [HE.out, hc1, hI]; rfl)
            go_wp2_with (go_at_call 22; refine (impl_in _ _ _ _ (by assumption) _).mono ?_; rintro e w' ⟨rfl, rfl⟩)
            go_ret
            exact ⟨ret_bool (by rw [HE2.out]; try rfl), hq1⟩
          · have hk0 : 0 < k := by have := inB_of hI; omega
            have hof := old_first HA.out hk0
            cases hO : oldB k x0 X
            · have hd : decide (x0 - X 0 1 ≤ 500) = true := by rw [hO] at hof; revert hof; generalize decide (x0 - X 0 1 ≤ 500) = d; cases d <;> intro h <;> first | rfl | exact absurd h (by decide)
              have HE2 := hide (show v = true by rw [HE.out, hc1, hI, hd]; rfl)
              clear hd hof
              go_wp2_with (go_at_call 22; refine (impl_in _ _ _ _ (by assumption) _).mono ?_; rintro e w' ⟨rfl, rfl⟩)
              refine (has_old _ _ _ _ _ _ _ _ X _ hO t0 t1 (fun i hi => by have := HA.out i hi; unfold hrdOk at this; omega) _ (by omega) (HAA.out.on hq1)).mono ?_
              rintro e w2 ⟨rfl, hb2⟩
              go_wp2
              go_ret
              exact ⟨ret_bool (by rw [HE2.out]; try rfl), below_call hq1 hb2⟩
            · have hd : decide (x0 - X 0 1 ≤ 500) = false := by rw [hO] at hof; revert hof; generalize decide (x0 - X 0 1 ≤ 500) = d; cases d <;> intro h <;> first | rfl | exact absurd h (by decide)
              have HE2 := hide (show v = false by rw [HE.out, hc1, hI, hd]; rfl)
              clear hd hof
              go_wp2_with (go_at_call 22; refine (impl_in _ _ _ _ (by assumption) _).mono ?_; rintro e w' ⟨rfl, rfl⟩)
              refine (has_old _ _ _ _ _ _ _ _ X _ hO t0 t1 (fun i hi => by have := HA.out i hi; unfold hrdOk at this; omega) _ (by omega) (HAA.out.on hq1)).mono ?_
              rintro e w2 ⟨rfl, hb2⟩
              go_wp2
              go_ret
              exact ⟨ret_bool (by rw [HE2.out]; try rfl), below_call hq1 hb2⟩
        · have e1 : (x1 == 1) = false := by simp [s1]
          by_cases s0 : x1 = 0 ∨ x1 = 3
          · have hc1 : cntB x1 k = decide ((k : Int) = 0) := by unfold cntB; rw [if_neg s1, if_neg (by omega)]
            have hI : inB x1 0 3 = true := inB_mk (by omega) (by omega)
            have HE2 := hide (show v = decide ((k : Int) = 0) by rw [HE.out, hc1, hI, decide_eq_true s1]; simp)
            clear hc1 hI
            rcases s0 with rfl | rfl
            · by_cases hk0 : (k : Int) = 0
              · go_wp2
                go_ret
                exact ⟨ret_bool (by rw [HE2.out, decide_eq_true hk0]; simp [hk0] <;> omega), hq1⟩
              · go_wp2
                go_ret
                exact ⟨ret_bool (by rw [HE2.out, decide_eq_false hk0]; simp [hk0] <;> omega), hq1⟩
            · by_cases hk0 : (k : Int) = 0
              · go_wp2
                go_ret
                exact ⟨ret_bool (by rw [HE2.out, decide_eq_true hk0]; simp [hk0] <;> omega), hq1⟩
              · go_wp2
                go_ret
                exact ⟨ret_bool (by rw [HE2.out, decide_eq_false hk0]; simp [hk0] <;> omega), hq1⟩
          · have e0 : (x1 == 0) = false := by simp; omega
            have e3 : (x1 == 3) = false := by simp; omega
            by_cases s2 : x1 = 2
            · subst s2
              have hc1 : cntB 2 k = inB k 3 8 := by unfold cntB; rw [if_neg (by decide), if_pos rfl]
              have HE2 := hide (show v = decide (3 ≤ (k : Int)) by rw [HE.out, hc1]; unfold inB; rw [decide_eq_true (p := (k : Int) ≤ 8) (by omega)]; simp)
              clear hc1
              go_wp2
              go_ret
              exact ⟨ret_bool (by rw [HE2.out]; try rfl), hq1⟩
            · have e2 : (x1 == 2) = false := by simp [s2]
              have HE2 := hide (show v = false by rw [HE.out]; cases hI : inB x1 0 3 <;> first | rfl | (exfalso; have := inB_of hI; omega))
              go_wp2
              go_ret
              exact ⟨ret_bool (by rw [HE2.out]; try rfl), hq1⟩
end Go.Proofs.YtgiphgfbfhaamaaDoor
