/- Walks of laws, written by lawgen2.py out of their Go text. -/
import Derived.Test.YtnlpgbjalfgoiaaDaysC
import Derived.Test.YtnlpgbjalfgoiaaTyBattery
import Derived.Test.YtnlpgbjalfgoiaaGrow
namespace Go.Proofs.Ytnlpgbjalfgoiaa
open Go.RowKit
set_option linter.unusedVariables false
set_option linter.unusedSimpArgs false

set_option maxHeartbeats 4000000 in
set_option maxRecDepth 100000 in
theorem walk_FnExactLostSun (x0_0 x0_1 x0_2 x0_3 : Int) (A1 : Option Addr) (n1 c1 : Nat) (X1 : Nat → Nat → Int) (w0 : World) (hm1 : n1 ≤ maxLen) (ha1 : Arr w0 w0.heap.size A1 n1 2 (iv X1)) :
    Calls Try.prog 10 #[.agg #[.int .i64 x0_0, .int .i64 x0_1, .int .i64 x0_2, .int .i64 x0_3], .slice A1 n1 c1] w0 fun e w' => e = .returned (.bool true) ∧ Below w0.heap.size w0 w' := by
  have hfa := frozen_al; have hfo := frozen_out
  have hmx1 : n1 ≤ 9223372036854775807 := hm1
  by_cases hs1_ : (n1 : Int) ≤ 1048576
  · skip
    have hn1 : n1 ≤ 1048576 := by omega
    have hr1 : (0 : Int) ≤ 1048576 - n1 := by omega
    clear hmx1
    obtain ⟨u, hu⟩ : ∃ u, (batB x0_0 x0_1 x0_2 x0_3 && sunB n1 X1) = u := ⟨_, rfl⟩
    have HR := hide hu
    clear hu
    obtain ⟨r, hr⟩ : ∃ r : Int, onlyI u (lostD x0_0 x0_1 x0_2 x0_3 X1 n1) = r := ⟨_, rfl⟩
    have HQ := hide hr
    clear hr
    cases u
    all_goals
      go_enter Try.func10, Try.ntmps10
      go_wp2_with fail
      refine (sz_sunDayS_ok _ _ _ _ hs1_ (by omega) _).mono ?_
      rintro e u ⟨rfl, rfl⟩
      have hq0 : Below w0.heap.size w0 w0 := Below.refl _ _
      go_wp2_with fail
      refine (to_battery _ _ _ _ _).mono ?_
      rintro e w1 ⟨rfl, hb1⟩
      have hs1 : Below w0.heap.size w0 w1 := below_call (by go_grown) hb1
      have hz1 := hs1.size
      obtain ⟨qc1, qf1⟩ := bcell hb1
      have hq1 : Below w0.heap.size w0 w1 := hq0.trans (hs1.mono hq0.size)
      have hl1_0 : w0.heap.size < w1.heap.size := by first | (have := hb1.size; simp only [World.size_alloc, World.size_setCell, World.size_drew] at this; omega) | omega
      go_wp2_with fail
      refine (to_sunDayS _ _ _ X1 _ hn1 (ha1.on (below_call hq1 (by go_grown)))).mono ?_
      rintro e w2 ⟨vT1, rfl, hb2, OT1_2⟩
      have hs2 : Below w1.heap.size w1 w2 := below_call (by go_grown) hb2
      have hz2 := hs2.size
      obtain ⟨qc2, qf2⟩ := bcell hb2
      have hq2 : Below w0.heap.size w0 w2 := hq1.trans (hs2.mono hq1.size)
      have hl2_0 : w0.heap.size < w2.heap.size := by first | (have := hb2.size; simp only [World.size_alloc, World.size_setCell, World.size_drew] at this; omega) | omega
      have BT1 : ∀ g, vT1.ownBlock = some g → w1.heap.size ≤ g ∧ g < w2.heap.size := fun g hg => ⟨Nat.le_trans (by first | exact Nat.le_refl _ | simp only [World.size_alloc]; omega) (OT1_2.blk g hg).1, (OT1_2.blk g hg).2⟩
      have ET1 : ∀ g, vT1.ownBlock = some g → True := fun g hg => trivial
      obtain ⟨AT1, cT1, hvT1, hcT1, _⟩ := OT1_2.arr
      subst hvT1
      go_wp2_with fail
      refine (spec_lost _ _ _ X1 _ _ _ _ _ HR.out r HQ.out _ hn1 ((OT1_2.below (by go_grown) (Nat.le_refl _)).arr1)).mono ?_
      rintro e w3 ⟨rfl, hb3⟩
      have hs3 : Below w2.heap.size w2 w3 := below_call (by go_grown) hb3
      have hz3 := hs3.size
      obtain ⟨qc3, qf3⟩ := bcell hb3
      have hq3 : Below w0.heap.size w0 w3 := hq2.trans (hs3.mono hq2.size)
      have hl3_0 : w0.heap.size < w3.heap.size := by first | (have := hb3.size; simp only [World.size_alloc, World.size_setCell, World.size_drew] at this; omega) | omega
      have OT1_3 := OT1_2.below hs3 (Nat.le_refl _)
      go_wp2_with fail
      refine (to_sunDayS _ _ _ X1 _ hn1 (ha1.on (below_call hq3 (by go_grown)))).mono ?_
      rintro e w4 ⟨vK2, rfl, hb4, OK2_4⟩
      have hs4 : Below w3.heap.size w3 w4 := below_call (by go_grown) hb4
      have hz4 := hs4.size
      obtain ⟨qc4, qf4⟩ := bcell hb4
      have hq4 : Below w0.heap.size w0 w4 := hq3.trans (hs4.mono hq3.size)
      have hl4_0 : w0.heap.size < w4.heap.size := by first | (have := hb4.size; simp only [World.size_alloc, World.size_setCell, World.size_drew] at this; omega) | omega
      have OT1_4 := OT1_3.below hs4 (Nat.le_refl _)
      have BK2 : ∀ g, vK2.ownBlock = some g → w3.heap.size ≤ g ∧ g < w4.heap.size := fun g hg => ⟨Nat.le_trans (by first | exact Nat.le_refl _ | simp only [World.size_alloc]; omega) (OK2_4.blk g hg).1, (OK2_4.blk g hg).2⟩
      have EK2 : ∀ g, vK2.ownBlock = some g → True := fun g hg => trivial
      obtain ⟨AK2, cK2, hvK2, hcK2, _⟩ := OK2_4.arr
      subst hvK2
      go_wp2_with fail
      refine (to_battery _ _ _ _ _).mono ?_
      rintro e w5 ⟨rfl, hb5⟩
      have hs5 : Below w4.heap.size w4 w5 := below_call (by go_grown) hb5
      have hz5 := hs5.size
      obtain ⟨qc5, qf5⟩ := bcell hb5
      have hq5 : Below w0.heap.size w0 w5 := hq4.trans (hs5.mono hq4.size)
      have hl5_0 : w0.heap.size < w5.heap.size := by first | (have := hb5.size; simp only [World.size_alloc, World.size_setCell, World.size_drew] at this; omega) | omega
      have OT1_5 := OT1_4.below hs5 (Nat.le_refl _)
      have OK2_5 := OK2_4.below hs5 (Nat.le_refl _)
      go_wp2_with fail
      refine (impl_lost _ _ _ X1 _ _ _ _ _ HR.out r HQ.out _ hn1 ((OK2_5.below (by go_grown) (Nat.le_refl _)).arr1)).mono ?_
      rintro e w6 ⟨rfl, hb6⟩
      have hs6 : Below w5.heap.size w5 w6 := below_call (by go_grown) hb6
      have hz6 := hs6.size
      obtain ⟨qc6, qf6⟩ := bcell hb6
      have hq6 : Below w0.heap.size w0 w6 := hq5.trans (hs6.mono hq5.size)
      have hl6_0 : w0.heap.size < w6.heap.size := by first | (have := hb6.size; simp only [World.size_alloc, World.size_setCell, World.size_drew] at this; omega) | omega
      have OT1_6 := OT1_5.below hs6 (Nat.le_refl _)
      have OK2_6 := OK2_5.below hs6 (Nat.le_refl _)
      go_wp2_with fail
      refine (to_sunDayS _ _ _ X1 _ hn1 (ha1.on (below_call hq6 (by go_grown)))).mono ?_
      rintro e w7 ⟨vP3, rfl, hb7, OP3_7⟩
      have hs7 : Below w6.heap.size w6 w7 := below_call (by go_grown) hb7
      have hz7 := hs7.size
      obtain ⟨qc7, qf7⟩ := bcell hb7
      have hq7 : Below w0.heap.size w0 w7 := hq6.trans (hs7.mono hq6.size)
      have hl7_0 : w0.heap.size < w7.heap.size := by first | (have := hb7.size; simp only [World.size_alloc, World.size_setCell, World.size_drew] at this; omega) | omega
      have OT1_7 := OT1_6.below hs7 (Nat.le_refl _)
      have OK2_7 := OK2_6.below hs7 (Nat.le_refl _)
      have BP3 : ∀ g, vP3.ownBlock = some g → w6.heap.size ≤ g ∧ g < w7.heap.size := fun g hg => ⟨Nat.le_trans (by first | exact Nat.le_refl _ | simp only [World.size_alloc]; omega) (OP3_7.blk g hg).1, (OP3_7.blk g hg).2⟩
      have EP3 : ∀ g, vP3.ownBlock = some g → True := fun g hg => trivial
      obtain ⟨AP3, cP3, hvP3, hcP3, _⟩ := OP3_7.arr
      subst hvP3
      go_wp2_with fail
      refine (eq_sunDayS _ _ _ _ _ _ X1 X1 true (eqX_self _ _ _) _ hn1 hn1 ((OK2_7.below (by go_grown) (Nat.le_refl _)).arr1) ((OP3_7.below (by go_grown) (Nat.le_refl _)).arr1)).mono ?_
      rintro e w8 ⟨rfl, hb8⟩
      have hs8 : Below w7.heap.size w7 w8 := below_call (by go_grown) hb8
      have hz8 := hs8.size
      obtain ⟨qc8, qf8⟩ := bcell hb8
      have hq8 : Below w0.heap.size w0 w8 := hq7.trans (hs8.mono hq7.size)
      have hl8_0 : w0.heap.size < w8.heap.size := by first | (have := hb8.size; simp only [World.size_alloc, World.size_setCell, World.size_drew] at this; omega) | omega
      have OT1_8 := OT1_7.below hs8 (Nat.le_refl _)
      have OK2_8 := OK2_7.below hs8 (Nat.le_refl _)
      have OP3_8 := OP3_7.below hs8 (Nat.le_refl _)
      go_wp2
      go_returns
      exact ⟨rfl, hq8⟩
  · have hs' : (1048576 : Int) < n1 := by omega
    go_enter Try.func10, Try.ntmps10
    go_wp2_with fail
    refine (sz_sunDayS_over _ _ _ _ hs' hm1 (by omega) (by omega) _).mono ?_
    rintro e u ⟨rfl, rfl⟩
    go_wp2
    go_returns
    exact ⟨rfl, by go_grown⟩

set_option maxHeartbeats 4000000 in
set_option maxRecDepth 100000 in
theorem walk_FnExactAfterDays (x0_0 x0_1 x0_2 x0_3 : Int) (A1 : Option Addr) (n1 c1 : Nat) (X1 : Nat → Nat → Int) (w0 : World) (hm1 : n1 ≤ maxLen) (ha1 : Arr w0 w0.heap.size A1 n1 2 (iv X1)) :
    Calls Try.prog 12 #[.agg #[.int .i64 x0_0, .int .i64 x0_1, .int .i64 x0_2, .int .i64 x0_3], .slice A1 n1 c1] w0 fun e w' => e = .returned (.bool true) ∧ Below w0.heap.size w0 w' := by
  have hfa := frozen_al; have hfo := frozen_out
  have hmx1 : n1 ≤ 9223372036854775807 := hm1
  by_cases hs1_ : (n1 : Int) ≤ 1048576
  · skip
    have hn1 : n1 ≤ 1048576 := by omega
    have hr1 : (0 : Int) ≤ 1048576 - n1 := by omega
    clear hmx1
    obtain ⟨u, hu⟩ : ∃ u, (batB x0_0 x0_1 x0_2 x0_3 && sunB n1 X1) = u := ⟨_, rfl⟩
    have HR := hide hu
    clear hu
    obtain ⟨q, hq0⟩ : ∃ q : Nat, q = onlyN u (badD x0_0 x0_1 x0_2 x0_3 X1 n1).length := ⟨_, rfl⟩
    obtain ⟨y0, hy0⟩ : ∃ r : Int, onlyI u x0_0 = r := ⟨_, rfl⟩
    obtain ⟨y1, hy1⟩ : ∃ r : Int, onlyI u (levD x0_0 x0_1 x0_2 x0_3 X1 n1) = r := ⟨_, rfl⟩
    obtain ⟨y2, hy2⟩ : ∃ r : Int, onlyI u x0_2 = r := ⟨_, rfl⟩
    obtain ⟨y3, hy3⟩ : ∃ r : Int, onlyI u x0_3 = r := ⟨_, rfl⟩
    have hq : q ≤ 1048576 := by rw [hq0]; exact onlyN_le (by have := badD_len x0_0 x0_1 x0_2 x0_3 X1 n1; omega)
    have HQ := hide hq0; have HY0 := hide hy0; have HY1 := hide hy1; have HY2 := hide hy2; have HY3 := hide hy3
    clear hq0 hy0 hy1 hy2 hy3
    cases u
    all_goals
      go_enter Try.func12, Try.ntmps12
      go_wp2_with fail
      refine (sz_sunDayS_ok _ _ _ _ hs1_ (by omega) _).mono ?_
      rintro e u ⟨rfl, rfl⟩
      have hq0 : Below w0.heap.size w0 w0 := Below.refl _ _
      go_wp2_with fail
      refine (to_battery _ _ _ _ _).mono ?_
      rintro e w1 ⟨rfl, hb1⟩
      have hs1 : Below w0.heap.size w0 w1 := below_call (by go_grown) hb1
      have hz1 := hs1.size
      obtain ⟨qc1, qf1⟩ := bcell hb1
      have hq1 : Below w0.heap.size w0 w1 := hq0.trans (hs1.mono hq0.size)
      have hl1_0 : w0.heap.size < w1.heap.size := by first | (have := hb1.size; simp only [World.size_alloc, World.size_setCell, World.size_drew] at this; omega) | omega
      go_wp2_with fail
      refine (to_sunDayS _ _ _ X1 _ hn1 (ha1.on (below_call hq1 (by go_grown)))).mono ?_
      rintro e w2 ⟨vT1, rfl, hb2, OT1_2⟩
      have hs2 : Below w1.heap.size w1 w2 := below_call (by go_grown) hb2
      have hz2 := hs2.size
      obtain ⟨qc2, qf2⟩ := bcell hb2
      have hq2 : Below w0.heap.size w0 w2 := hq1.trans (hs2.mono hq1.size)
      have hl2_0 : w0.heap.size < w2.heap.size := by first | (have := hb2.size; simp only [World.size_alloc, World.size_setCell, World.size_drew] at this; omega) | omega
      have BT1 : ∀ g, vT1.ownBlock = some g → w1.heap.size ≤ g ∧ g < w2.heap.size := fun g hg => ⟨Nat.le_trans (by first | exact Nat.le_refl _ | simp only [World.size_alloc]; omega) (OT1_2.blk g hg).1, (OT1_2.blk g hg).2⟩
      have ET1 : ∀ g, vT1.ownBlock = some g → True := fun g hg => trivial
      obtain ⟨AT1, cT1, hvT1, hcT1, _⟩ := OT1_2.arr
      subst hvT1
      go_wp2_with fail
      refine (spec_afterDays _ _ _ X1 _ _ _ _ _ HR.out _ _ _ _ q HY0.out HY1.out HY2.out HY3.out HQ.out _ hn1 ((OT1_2.below (by go_grown) (Nat.le_refl _)).arr1)).mono ?_
      rintro e w3 ⟨vW2, rfl, hb3, OW2_3⟩
      have hs3 : Below w2.heap.size w2 w3 := below_call (by go_grown) hb3
      have hz3 := hs3.size
      obtain ⟨qc3, qf3⟩ := bcell hb3
      have hq3 : Below w0.heap.size w0 w3 := hq2.trans (hs3.mono hq2.size)
      have hl3_0 : w0.heap.size < w3.heap.size := by first | (have := hb3.size; simp only [World.size_alloc, World.size_setCell, World.size_drew] at this; omega) | omega
      have OT1_3 := OT1_2.below hs3 (Nat.le_refl _)
      have BW2 : ∀ g, vW2.ownBlock = some g → w2.heap.size ≤ g ∧ g < w3.heap.size := fun g hg => ⟨Nat.le_trans (by first | exact Nat.le_refl _ | simp only [World.size_alloc]; omega) (OW2_3.blk g hg).1, (OW2_3.blk g hg).2⟩
      have EW2 : ∀ g, vW2.ownBlock = some g → True := fun g hg => trivial
      obtain ⟨AW2, cW2, hvW2, hcW2, _⟩ := OW2_3.arr
      subst hvW2
      go_wp2_with fail
      refine (to_sunDayS _ _ _ X1 _ hn1 (ha1.on (below_call hq3 (by go_grown)))).mono ?_
      rintro e w4 ⟨vK3, rfl, hb4, OK3_4⟩
      have hs4 : Below w3.heap.size w3 w4 := below_call (by go_grown) hb4
      have hz4 := hs4.size
      obtain ⟨qc4, qf4⟩ := bcell hb4
      have hq4 : Below w0.heap.size w0 w4 := hq3.trans (hs4.mono hq3.size)
      have hl4_0 : w0.heap.size < w4.heap.size := by first | (have := hb4.size; simp only [World.size_alloc, World.size_setCell, World.size_drew] at this; omega) | omega
      have hn3_4 : w3.heap.size < w4.heap.size := by first | (have := hb4.size; simp only [World.size_alloc, World.size_setCell, World.size_drew] at this; omega) | omega
      have OT1_4 := OT1_3.below hs4 (Nat.le_refl _)
      have OW2_4 := OW2_3.below hs4 (Nat.le_refl _)
      have BK3 : ∀ g, vK3.ownBlock = some g → w3.heap.size ≤ g ∧ g < w4.heap.size := fun g hg => ⟨Nat.le_trans (by first | exact Nat.le_refl _ | simp only [World.size_alloc]; omega) (OK3_4.blk g hg).1, (OK3_4.blk g hg).2⟩
      have EK3 : ∀ g, vK3.ownBlock = some g → w3.heap.size < g := fun g hg => by have h1 := (OK3_4.blk g hg).1; simp only [World.size_alloc] at h1; omega
      obtain ⟨AK3, cK3, hvK3, hcK3, _⟩ := OK3_4.arr
      subst hvK3
      go_wp2_with fail
      refine (to_battery _ _ _ _ _).mono ?_
      rintro e w5 ⟨rfl, hb5⟩
      have hs5 : Below w4.heap.size w4 w5 := below_call (by go_grown) hb5
      have hz5 := hs5.size
      obtain ⟨qc5, qf5⟩ := bcell hb5
      have hq5 : Below w0.heap.size w0 w5 := hq4.trans (hs5.mono hq4.size)
      have hl5_0 : w0.heap.size < w5.heap.size := by first | (have := hb5.size; simp only [World.size_alloc, World.size_setCell, World.size_drew] at this; omega) | omega
      have hn3_5 : w3.heap.size < w5.heap.size := by first | (have := hb5.size; simp only [World.size_alloc, World.size_setCell, World.size_drew] at this; omega) | omega
      have OT1_5 := OT1_4.below hs5 (Nat.le_refl _)
      have OW2_5 := OW2_4.below hs5 (Nat.le_refl _)
      have OK3_5 := OK3_4.below hs5 (Nat.le_refl _)
      go_wp2_with fail
      refine (impl_afterDays _ _ _ X1 _ _ _ _ _ HR.out _ _ _ _ q HY0.out HY1.out HY2.out HY3.out HQ.out _ hn1 ((OK3_5.below (by go_grown) (Nat.le_refl _)).arr1)).mono ?_
      rintro e w6 ⟨vG4, rfl, hb6, OG4_6⟩
      have hs6 : Below w5.heap.size w5 w6 := below_call (by go_grown) hb6
      have hz6 := hs6.size
      obtain ⟨qc6, qf6⟩ := bcell hb6
      have hq6 : Below w0.heap.size w0 w6 := hq5.trans (hs6.mono hq5.size)
      have hl6_0 : w0.heap.size < w6.heap.size := by first | (have := hb6.size; simp only [World.size_alloc, World.size_setCell, World.size_drew] at this; omega) | omega
      have hn3_6 : w3.heap.size < w6.heap.size := by first | (have := hb6.size; simp only [World.size_alloc, World.size_setCell, World.size_drew] at this; omega) | omega
      have OT1_6 := OT1_5.below hs6 (Nat.le_refl _)
      have OW2_6 := OW2_5.below hs6 (Nat.le_refl _)
      have OK3_6 := OK3_5.below hs6 (Nat.le_refl _)
      have BG4 : ∀ g, vG4.ownBlock = some g → w5.heap.size ≤ g ∧ g < w6.heap.size := fun g hg => ⟨Nat.le_trans (by first | exact Nat.le_refl _ | simp only [World.size_alloc]; omega) (OG4_6.blk g hg).1, (OG4_6.blk g hg).2⟩
      have EG4 : ∀ g, vG4.ownBlock = some g → True := fun g hg => trivial
      obtain ⟨AG4, cG4, hvG4, hcG4, _⟩ := OG4_6.arr
      subst hvG4
      go_wp2_with fail
      refine (eq_battery _ _ _ _ _ _ _ _ true (by simp) _).mono ?_
      rintro e w7 ⟨rfl, hb7⟩
      have hs7 : Below w6.heap.size w6 w7 := below_call (by go_grown) hb7
      have hz7 := hs7.size
      obtain ⟨qc7, qf7⟩ := bcell hb7
      have hq7 : Below w0.heap.size w0 w7 := hq6.trans (hs7.mono hq6.size)
      have hl7_0 : w0.heap.size < w7.heap.size := by first | (have := hb7.size; simp only [World.size_alloc, World.size_setCell, World.size_drew] at this; omega) | omega
      have hn3_7 : w3.heap.size < w7.heap.size := by first | (have := hb7.size; simp only [World.size_alloc, World.size_setCell, World.size_drew] at this; omega) | omega
      have hn6_7 : w6.heap.size < w7.heap.size := by first | (have := hb7.size; simp only [World.size_alloc, World.size_setCell, World.size_drew] at this; omega) | omega
      have OT1_7 := OT1_6.below hs7 (Nat.le_refl _)
      have OW2_7 := OW2_6.below hs7 (Nat.le_refl _)
      have OK3_7 := OK3_6.below hs7 (Nat.le_refl _)
      have OG4_7 := OG4_6.below hs7 (Nat.le_refl _)
      go_wp2_with fail
      refine (eq_intS _ _ _ _ _ _ (lf (badD x0_0 x0_1 x0_2 x0_3 X1 n1)) (lf (badD x0_0 x0_1 x0_2 x0_3 X1 n1)) true (eqX_self _ _ _) _ hq hq ((OG4_7.below (by go_grown) (Nat.le_refl _)).arr1) ((OW2_7.below (by go_grown) (Nat.le_refl _)).arr1)).mono ?_
      rintro e w8 ⟨rfl, hb8⟩
      have hs8 : Below w7.heap.size w7 w8 := below_call (by go_grown) hb8
      have hz8 := hs8.size
      obtain ⟨qc8, qf8⟩ := bcell hb8
      have hq8 : Below w0.heap.size w0 w8 := hq7.trans (hs8.mono hq7.size)
      have hl8_0 : w0.heap.size < w8.heap.size := by first | (have := hb8.size; simp only [World.size_alloc, World.size_setCell, World.size_drew] at this; omega) | omega
      have hn3_8 : w3.heap.size < w8.heap.size := by first | (have := hb8.size; simp only [World.size_alloc, World.size_setCell, World.size_drew] at this; omega) | omega
      have hn6_8 : w6.heap.size < w8.heap.size := by first | (have := hb8.size; simp only [World.size_alloc, World.size_setCell, World.size_drew] at this; omega) | omega
      have OT1_8 := OT1_7.below hs8 (Nat.le_refl _)
      have OW2_8 := OW2_7.below hs8 (Nat.le_refl _)
      have OK3_8 := OK3_7.below hs8 (Nat.le_refl _)
      have OG4_8 := OG4_7.below hs8 (Nat.le_refl _)
      go_wp2_with fail
      refine (to_sunDayS _ _ _ X1 _ hn1 (ha1.on (below_call hq8 (by go_grown)))).mono ?_
      rintro e w9 ⟨vP5, rfl, hb9, OP5_9⟩
      have hs9 : Below w8.heap.size w8 w9 := below_call (by go_grown) hb9
      have hz9 := hs9.size
      obtain ⟨qc9, qf9⟩ := bcell hb9
      have hq9 : Below w0.heap.size w0 w9 := hq8.trans (hs9.mono hq8.size)
      have hl9_0 : w0.heap.size < w9.heap.size := by first | (have := hb9.size; simp only [World.size_alloc, World.size_setCell, World.size_drew] at this; omega) | omega
      have hn3_9 : w3.heap.size < w9.heap.size := by first | (have := hb9.size; simp only [World.size_alloc, World.size_setCell, World.size_drew] at this; omega) | omega
      have hn6_9 : w6.heap.size < w9.heap.size := by first | (have := hb9.size; simp only [World.size_alloc, World.size_setCell, World.size_drew] at this; omega) | omega
      have OT1_9 := OT1_8.below hs9 (Nat.le_refl _)
      have OW2_9 := OW2_8.below hs9 (Nat.le_refl _)
      have OK3_9 := OK3_8.below hs9 (Nat.le_refl _)
      have OG4_9 := OG4_8.below hs9 (Nat.le_refl _)
      have BP5 : ∀ g, vP5.ownBlock = some g → w8.heap.size ≤ g ∧ g < w9.heap.size := fun g hg => ⟨Nat.le_trans (by first | exact Nat.le_refl _ | simp only [World.size_alloc]; omega) (OP5_9.blk g hg).1, (OP5_9.blk g hg).2⟩
      have EP5 : ∀ g, vP5.ownBlock = some g → True := fun g hg => trivial
      obtain ⟨AP5, cP5, hvP5, hcP5, _⟩ := OP5_9.arr
      subst hvP5
      go_wp2_with fail
      refine (eq_sunDayS _ _ _ _ _ _ X1 X1 true (eqX_self _ _ _) _ hn1 hn1 ((OK3_9.below (by go_grown) (Nat.le_refl _)).arr1) ((OP5_9.below (by go_grown) (Nat.le_refl _)).arr1)).mono ?_
      rintro e w10 ⟨rfl, hb10⟩
      have hs10 : Below w9.heap.size w9 w10 := below_call (by go_grown) hb10
      have hz10 := hs10.size
      obtain ⟨qc10, qf10⟩ := bcell hb10
      have hq10 : Below w0.heap.size w0 w10 := hq9.trans (hs10.mono hq9.size)
      have hl10_0 : w0.heap.size < w10.heap.size := by first | (have := hb10.size; simp only [World.size_alloc, World.size_setCell, World.size_drew] at this; omega) | omega
      have hn3_10 : w3.heap.size < w10.heap.size := by first | (have := hb10.size; simp only [World.size_alloc, World.size_setCell, World.size_drew] at this; omega) | omega
      have hn6_10 : w6.heap.size < w10.heap.size := by first | (have := hb10.size; simp only [World.size_alloc, World.size_setCell, World.size_drew] at this; omega) | omega
      have OT1_10 := OT1_9.below hs10 (Nat.le_refl _)
      have OW2_10 := OW2_9.below hs10 (Nat.le_refl _)
      have OK3_10 := OK3_9.below hs10 (Nat.le_refl _)
      have OG4_10 := OG4_9.below hs10 (Nat.le_refl _)
      have OP5_10 := OP5_9.below hs10 (Nat.le_refl _)
      go_wp2_with fail
      refine (mark_sunDayS _ _ _ _ _ _ _ hn1 (by omega) (by omega) OK3_10).mono ?_
      rintro e w11 ⟨rfl, hg11, OK3_11⟩
      have hz11 := hg11.size
      have hq11 : Below w0.heap.size w0 w11 := hq10.grown hg11 hq10.size (fun g hg => by have := (BK3 g hg).1; omega)
      have hl11_0 : w0.heap.size < w11.heap.size := by omega
      have qx11_0_0 := grown_cell hg11 (b := w0.heap.size) (o := 0) (by omega) (fun g hg => by have := (BK3 g hg).1; omega)
      have qx11_0_1 := grown_cell hg11 (b := w0.heap.size) (o := 1) (by omega) (fun g hg => by have := (BK3 g hg).1; omega)
      have qx11_0_2 := grown_cell hg11 (b := w0.heap.size) (o := 2) (by omega) (fun g hg => by have := (BK3 g hg).1; omega)
      have qx11_0_3 := grown_cell hg11 (b := w0.heap.size) (o := 3) (by omega) (fun g hg => by have := (BK3 g hg).1; omega)
      have hn3_11 : w3.heap.size < w11.heap.size := by omega
      have qy11_3_0 := grown_cell hg11 (b := w3.heap.size) (o := 0) (by omega) (fun g hg => by have h1 := (BK3 g hg).1; have h2 := (BK3 g hg).2; have h3 := EK3 g hg; omega)
      have qy11_3_1 := grown_cell hg11 (b := w3.heap.size) (o := 1) (by omega) (fun g hg => by have h1 := (BK3 g hg).1; have h2 := (BK3 g hg).2; have h3 := EK3 g hg; omega)
      have qy11_3_2 := grown_cell hg11 (b := w3.heap.size) (o := 2) (by omega) (fun g hg => by have h1 := (BK3 g hg).1; have h2 := (BK3 g hg).2; have h3 := EK3 g hg; omega)
      have qy11_3_3 := grown_cell hg11 (b := w3.heap.size) (o := 3) (by omega) (fun g hg => by have h1 := (BK3 g hg).1; have h2 := (BK3 g hg).2; have h3 := EK3 g hg; omega)
      have hn6_11 : w6.heap.size < w11.heap.size := by omega
      have qy11_6_0 := grown_cell hg11 (b := w6.heap.size) (o := 0) (by omega) (fun g hg => by have h1 := (BK3 g hg).1; have h2 := (BK3 g hg).2; have h3 := EK3 g hg; omega)
      have qy11_6_1 := grown_cell hg11 (b := w6.heap.size) (o := 1) (by omega) (fun g hg => by have h1 := (BK3 g hg).1; have h2 := (BK3 g hg).2; have h3 := EK3 g hg; omega)
      have qy11_6_2 := grown_cell hg11 (b := w6.heap.size) (o := 2) (by omega) (fun g hg => by have h1 := (BK3 g hg).1; have h2 := (BK3 g hg).2; have h3 := EK3 g hg; omega)
      have qy11_6_3 := grown_cell hg11 (b := w6.heap.size) (o := 3) (by omega) (fun g hg => by have h1 := (BK3 g hg).1; have h2 := (BK3 g hg).2; have h3 := EK3 g hg; omega)
      have OT1_11 := OT1_10.apart hg11 (fun g h1 h2 => by have a1 := BK3 g h1; have a2 := BT1 g h2; omega)
      have OW2_11 := OW2_10.apart hg11 (fun g h1 h2 => by have a1 := BK3 g h1; have a2 := BW2 g h2; omega)
      have OG4_11 := OG4_10.apart hg11 (fun g h1 h2 => by have a1 := BK3 g h1; have a2 := BG4 g h2; omega)
      have OP5_11 := OP5_10.apart hg11 (fun g h1 h2 => by have a1 := BK3 g h1; have a2 := BP5 g h2; omega)
      go_wp2_with fail
      refine (eq_battery _ _ _ _ _ _ _ _ true (by simp) _).mono ?_
      rintro e w12 ⟨rfl, hb12⟩
      have hs12 : Below w11.heap.size w11 w12 := below_call (by go_grown) hb12
      have hz12 := hs12.size
      obtain ⟨qc12, qf12⟩ := bcell hb12
      have hq12 : Below w0.heap.size w0 w12 := hq11.trans (hs12.mono hq11.size)
      have hl12_0 : w0.heap.size < w12.heap.size := by first | (have := hb12.size; simp only [World.size_alloc, World.size_setCell, World.size_drew] at this; omega) | omega
      have hn3_12 : w3.heap.size < w12.heap.size := by first | (have := hb12.size; simp only [World.size_alloc, World.size_setCell, World.size_drew] at this; omega) | omega
      have hn6_12 : w6.heap.size < w12.heap.size := by first | (have := hb12.size; simp only [World.size_alloc, World.size_setCell, World.size_drew] at this; omega) | omega
      have OT1_12 := OT1_11.below hs12 (Nat.le_refl _)
      have OW2_12 := OW2_11.below hs12 (Nat.le_refl _)
      have OK3_12 := OK3_11.below hs12 (Nat.le_refl _)
      have OG4_12 := OG4_11.below hs12 (Nat.le_refl _)
      have OP5_12 := OP5_11.below hs12 (Nat.le_refl _)
      go_wp2_with fail
      refine (eq_intS _ _ _ _ _ _ (lf (badD x0_0 x0_1 x0_2 x0_3 X1 n1)) (lf (badD x0_0 x0_1 x0_2 x0_3 X1 n1)) true (eqX_self _ _ _) _ hq hq ((OG4_12.below (by go_grown) (Nat.le_refl _)).arr1) ((OW2_12.below (by go_grown) (Nat.le_refl _)).arr1)).mono ?_
      rintro e w13 ⟨rfl, hb13⟩
      have hs13 : Below w12.heap.size w12 w13 := below_call (by go_grown) hb13
      have hz13 := hs13.size
      obtain ⟨qc13, qf13⟩ := bcell hb13
      have hq13 : Below w0.heap.size w0 w13 := hq12.trans (hs13.mono hq12.size)
      have hl13_0 : w0.heap.size < w13.heap.size := by first | (have := hb13.size; simp only [World.size_alloc, World.size_setCell, World.size_drew] at this; omega) | omega
      have hn3_13 : w3.heap.size < w13.heap.size := by first | (have := hb13.size; simp only [World.size_alloc, World.size_setCell, World.size_drew] at this; omega) | omega
      have hn6_13 : w6.heap.size < w13.heap.size := by first | (have := hb13.size; simp only [World.size_alloc, World.size_setCell, World.size_drew] at this; omega) | omega
      have OT1_13 := OT1_12.below hs13 (Nat.le_refl _)
      have OW2_13 := OW2_12.below hs13 (Nat.le_refl _)
      have OK3_13 := OK3_12.below hs13 (Nat.le_refl _)
      have OG4_13 := OG4_12.below hs13 (Nat.le_refl _)
      have OP5_13 := OP5_12.below hs13 (Nat.le_refl _)
      go_wp2_with fail
      refine (mark_intS _ _ _ _ _ _ _ hq (by omega) (by omega) OG4_13).mono ?_
      rintro e w14 ⟨rfl, hg14, OG4_14⟩
      have hz14 := hg14.size
      have hq14 : Below w0.heap.size w0 w14 := hq13.grown hg14 hq13.size (fun g hg => by have := (BG4 g hg).1; omega)
      have hl14_0 : w0.heap.size < w14.heap.size := by omega
      have qx14_0_0 := grown_cell hg14 (b := w0.heap.size) (o := 0) (by omega) (fun g hg => by have := (BG4 g hg).1; omega)
      have qx14_0_1 := grown_cell hg14 (b := w0.heap.size) (o := 1) (by omega) (fun g hg => by have := (BG4 g hg).1; omega)
      have qx14_0_2 := grown_cell hg14 (b := w0.heap.size) (o := 2) (by omega) (fun g hg => by have := (BG4 g hg).1; omega)
      have qx14_0_3 := grown_cell hg14 (b := w0.heap.size) (o := 3) (by omega) (fun g hg => by have := (BG4 g hg).1; omega)
      have hn3_14 : w3.heap.size < w14.heap.size := by omega
      have qy14_3_0 := grown_cell hg14 (b := w3.heap.size) (o := 0) (by omega) (fun g hg => by have h1 := (BG4 g hg).1; have h2 := (BG4 g hg).2; have h3 := EG4 g hg; omega)
      have qy14_3_1 := grown_cell hg14 (b := w3.heap.size) (o := 1) (by omega) (fun g hg => by have h1 := (BG4 g hg).1; have h2 := (BG4 g hg).2; have h3 := EG4 g hg; omega)
      have qy14_3_2 := grown_cell hg14 (b := w3.heap.size) (o := 2) (by omega) (fun g hg => by have h1 := (BG4 g hg).1; have h2 := (BG4 g hg).2; have h3 := EG4 g hg; omega)
      have qy14_3_3 := grown_cell hg14 (b := w3.heap.size) (o := 3) (by omega) (fun g hg => by have h1 := (BG4 g hg).1; have h2 := (BG4 g hg).2; have h3 := EG4 g hg; omega)
      have hn6_14 : w6.heap.size < w14.heap.size := by omega
      have qy14_6_0 := grown_cell hg14 (b := w6.heap.size) (o := 0) (by omega) (fun g hg => by have h1 := (BG4 g hg).1; have h2 := (BG4 g hg).2; have h3 := EG4 g hg; omega)
      have qy14_6_1 := grown_cell hg14 (b := w6.heap.size) (o := 1) (by omega) (fun g hg => by have h1 := (BG4 g hg).1; have h2 := (BG4 g hg).2; have h3 := EG4 g hg; omega)
      have qy14_6_2 := grown_cell hg14 (b := w6.heap.size) (o := 2) (by omega) (fun g hg => by have h1 := (BG4 g hg).1; have h2 := (BG4 g hg).2; have h3 := EG4 g hg; omega)
      have qy14_6_3 := grown_cell hg14 (b := w6.heap.size) (o := 3) (by omega) (fun g hg => by have h1 := (BG4 g hg).1; have h2 := (BG4 g hg).2; have h3 := EG4 g hg; omega)
      have OT1_14 := OT1_13.apart hg14 (fun g h1 h2 => by have a1 := BG4 g h1; have a2 := BT1 g h2; omega)
      have OW2_14 := OW2_13.apart hg14 (fun g h1 h2 => by have a1 := BG4 g h1; have a2 := BW2 g h2; omega)
      have OK3_14 := OK3_13.apart hg14 (fun g h1 h2 => by have a1 := BG4 g h1; have a2 := BK3 g h2; omega)
      have OP5_14 := OP5_13.apart hg14 (fun g h1 h2 => by have a1 := BG4 g h1; have a2 := BP5 g h2; omega)
      go_wp2_with fail
      refine (held_intS _ _ _ _ 1 _ hq (by omega) (by omega) ((OG4_14.below (by go_grown) (Nat.le_refl _)).arr1) (fun _ _ _ _ => rfl)).mono ?_
      rintro e u14 ⟨rfl, rfl⟩
      go_wp2_with fail
      refine (to_battery _ _ _ _ _).mono ?_
      rintro e w15 ⟨rfl, hb15⟩
      have hs15 : Below w14.heap.size w14 w15 := below_call (by go_grown) hb15
      have hz15 := hs15.size
      obtain ⟨qc15, qf15⟩ := bcell hb15
      have hq15 : Below w0.heap.size w0 w15 := hq14.trans (hs15.mono hq14.size)
      have hl15_0 : w0.heap.size < w15.heap.size := by first | (have := hb15.size; simp only [World.size_alloc, World.size_setCell, World.size_drew] at this; omega) | omega
      have hn3_15 : w3.heap.size < w15.heap.size := by first | (have := hb15.size; simp only [World.size_alloc, World.size_setCell, World.size_drew] at this; omega) | omega
      have hn6_15 : w6.heap.size < w15.heap.size := by first | (have := hb15.size; simp only [World.size_alloc, World.size_setCell, World.size_drew] at this; omega) | omega
      have OT1_15 := OT1_14.below hs15 (Nat.le_refl _)
      have OW2_15 := OW2_14.below hs15 (Nat.le_refl _)
      have OK3_15 := OK3_14.below hs15 (Nat.le_refl _)
      have OG4_15 := OG4_14.below hs15 (Nat.le_refl _)
      have OP5_15 := OP5_14.below hs15 (Nat.le_refl _)
      go_wp2_with fail
      refine (to_sunDayS _ _ _ X1 _ hn1 (ha1.on (below_call hq15 (by go_grown)))).mono ?_
      rintro e w16 ⟨vT6, rfl, hb16, OT6_16⟩
      have hs16 : Below w15.heap.size w15 w16 := below_call (by go_grown) hb16
      have hz16 := hs16.size
      obtain ⟨qc16, qf16⟩ := bcell hb16
      have hq16 : Below w0.heap.size w0 w16 := hq15.trans (hs16.mono hq15.size)
      have hl16_0 : w0.heap.size < w16.heap.size := by first | (have := hb16.size; simp only [World.size_alloc, World.size_setCell, World.size_drew] at this; omega) | omega
      have hn3_16 : w3.heap.size < w16.heap.size := by first | (have := hb16.size; simp only [World.size_alloc, World.size_setCell, World.size_drew] at this; omega) | omega
      have hn6_16 : w6.heap.size < w16.heap.size := by first | (have := hb16.size; simp only [World.size_alloc, World.size_setCell, World.size_drew] at this; omega) | omega
      have OT1_16 := OT1_15.below hs16 (Nat.le_refl _)
      have OW2_16 := OW2_15.below hs16 (Nat.le_refl _)
      have OK3_16 := OK3_15.below hs16 (Nat.le_refl _)
      have OG4_16 := OG4_15.below hs16 (Nat.le_refl _)
      have OP5_16 := OP5_15.below hs16 (Nat.le_refl _)
      have BT6 : ∀ g, vT6.ownBlock = some g → w15.heap.size ≤ g ∧ g < w16.heap.size := fun g hg => ⟨Nat.le_trans (by first | exact Nat.le_refl _ | simp only [World.size_alloc]; omega) (OT6_16.blk g hg).1, (OT6_16.blk g hg).2⟩
      have ET6 : ∀ g, vT6.ownBlock = some g → True := fun g hg => trivial
      obtain ⟨AT6, cT6, hvT6, hcT6, _⟩ := OT6_16.arr
      subst hvT6
      go_wp2_with fail
      refine (impl_afterDays _ _ _ X1 _ _ _ _ _ HR.out _ _ _ _ q HY0.out HY1.out HY2.out HY3.out HQ.out _ hn1 ((OT6_16.below (by go_grown) (Nat.le_refl _)).arr1)).mono ?_
      rintro e w17 ⟨vH7, rfl, hb17, OH7_17⟩
      have hs17 : Below w16.heap.size w16 w17 := below_call (by go_grown) hb17
      have hz17 := hs17.size
      obtain ⟨qc17, qf17⟩ := bcell hb17
      have hq17 : Below w0.heap.size w0 w17 := hq16.trans (hs17.mono hq16.size)
      have hl17_0 : w0.heap.size < w17.heap.size := by first | (have := hb17.size; simp only [World.size_alloc, World.size_setCell, World.size_drew] at this; omega) | omega
      have hn3_17 : w3.heap.size < w17.heap.size := by first | (have := hb17.size; simp only [World.size_alloc, World.size_setCell, World.size_drew] at this; omega) | omega
      have hn6_17 : w6.heap.size < w17.heap.size := by first | (have := hb17.size; simp only [World.size_alloc, World.size_setCell, World.size_drew] at this; omega) | omega
      have OT1_17 := OT1_16.below hs17 (Nat.le_refl _)
      have OW2_17 := OW2_16.below hs17 (Nat.le_refl _)
      have OK3_17 := OK3_16.below hs17 (Nat.le_refl _)
      have OG4_17 := OG4_16.below hs17 (Nat.le_refl _)
      have OP5_17 := OP5_16.below hs17 (Nat.le_refl _)
      have OT6_17 := OT6_16.below hs17 (Nat.le_refl _)
      have BH7 : ∀ g, vH7.ownBlock = some g → w16.heap.size ≤ g ∧ g < w17.heap.size := fun g hg => ⟨Nat.le_trans (by first | exact Nat.le_refl _ | simp only [World.size_alloc]; omega) (OH7_17.blk g hg).1, (OH7_17.blk g hg).2⟩
      have EH7 : ∀ g, vH7.ownBlock = some g → True := fun g hg => trivial
      obtain ⟨AH7, cH7, hvH7, hcH7, _⟩ := OH7_17.arr
      subst hvH7
      go_wp2_with fail
      refine (eq_battery _ _ _ _ _ _ _ _ true (by simp) _).mono ?_
      rintro e w18 ⟨rfl, hb18⟩
      have hs18 : Below w17.heap.size w17 w18 := below_call (by go_grown) hb18
      have hz18 := hs18.size
      obtain ⟨qc18, qf18⟩ := bcell hb18
      have hq18 : Below w0.heap.size w0 w18 := hq17.trans (hs18.mono hq17.size)
      have hl18_0 : w0.heap.size < w18.heap.size := by first | (have := hb18.size; simp only [World.size_alloc, World.size_setCell, World.size_drew] at this; omega) | omega
      have hn3_18 : w3.heap.size < w18.heap.size := by first | (have := hb18.size; simp only [World.size_alloc, World.size_setCell, World.size_drew] at this; omega) | omega
      have hn6_18 : w6.heap.size < w18.heap.size := by first | (have := hb18.size; simp only [World.size_alloc, World.size_setCell, World.size_drew] at this; omega) | omega
      have hn17_18 : w17.heap.size < w18.heap.size := by first | (have := hb18.size; simp only [World.size_alloc, World.size_setCell, World.size_drew] at this; omega) | omega
      have OT1_18 := OT1_17.below hs18 (Nat.le_refl _)
      have OW2_18 := OW2_17.below hs18 (Nat.le_refl _)
      have OK3_18 := OK3_17.below hs18 (Nat.le_refl _)
      have OG4_18 := OG4_17.below hs18 (Nat.le_refl _)
      have OP5_18 := OP5_17.below hs18 (Nat.le_refl _)
      have OT6_18 := OT6_17.below hs18 (Nat.le_refl _)
      have OH7_18 := OH7_17.below hs18 (Nat.le_refl _)
      go_wp2_with fail
      refine (eq_intS _ _ _ _ _ _ (lf (badD x0_0 x0_1 x0_2 x0_3 X1 n1)) (lf (badD x0_0 x0_1 x0_2 x0_3 X1 n1)) true (eqX_self _ _ _) _ hq hq ((OH7_18.below (by go_grown) (Nat.le_refl _)).arr1) ((OW2_18.below (by go_grown) (Nat.le_refl _)).arr1)).mono ?_
      rintro e w19 ⟨rfl, hb19⟩
      have hs19 : Below w18.heap.size w18 w19 := below_call (by go_grown) hb19
      have hz19 := hs19.size
      obtain ⟨qc19, qf19⟩ := bcell hb19
      have hq19 : Below w0.heap.size w0 w19 := hq18.trans (hs19.mono hq18.size)
      have hl19_0 : w0.heap.size < w19.heap.size := by first | (have := hb19.size; simp only [World.size_alloc, World.size_setCell, World.size_drew] at this; omega) | omega
      have hn3_19 : w3.heap.size < w19.heap.size := by first | (have := hb19.size; simp only [World.size_alloc, World.size_setCell, World.size_drew] at this; omega) | omega
      have hn6_19 : w6.heap.size < w19.heap.size := by first | (have := hb19.size; simp only [World.size_alloc, World.size_setCell, World.size_drew] at this; omega) | omega
      have hn17_19 : w17.heap.size < w19.heap.size := by first | (have := hb19.size; simp only [World.size_alloc, World.size_setCell, World.size_drew] at this; omega) | omega
      have OT1_19 := OT1_18.below hs19 (Nat.le_refl _)
      have OW2_19 := OW2_18.below hs19 (Nat.le_refl _)
      have OK3_19 := OK3_18.below hs19 (Nat.le_refl _)
      have OG4_19 := OG4_18.below hs19 (Nat.le_refl _)
      have OP5_19 := OP5_18.below hs19 (Nat.le_refl _)
      have OT6_19 := OT6_18.below hs19 (Nat.le_refl _)
      have OH7_19 := OH7_18.below hs19 (Nat.le_refl _)
      go_wp2_with fail
      refine (held_intS _ _ _ _ 1 _ hq (by omega) (by omega) ((OG4_19.below (by go_grown) (Nat.le_refl _)).arr1) (fun _ _ _ _ => rfl)).mono ?_
      rintro e u19 ⟨rfl, rfl⟩
      go_wp2
      go_returns
      exact ⟨rfl, hq19⟩
  · have hs' : (1048576 : Int) < n1 := by omega
    go_enter Try.func12, Try.ntmps12
    go_wp2_with fail
    refine (sz_sunDayS_over _ _ _ _ hs' hm1 (by omega) (by omega) _).mono ?_
    rintro e u ⟨rfl, rfl⟩
    go_wp2
    go_returns
    exact ⟨rfl, by go_grown⟩
end Go.Proofs.Ytnlpgbjalfgoiaa
