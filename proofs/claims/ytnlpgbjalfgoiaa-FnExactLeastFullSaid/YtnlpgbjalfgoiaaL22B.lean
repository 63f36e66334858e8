/- Walks of laws, written by lawgen2.py out of their Go text. -/
import Derived.Test.YtnlpgbjalfgoiaaDaysF
import Derived.Test.YtnlpgbjalfgoiaaTyBattery
namespace Go.Proofs.Ytnlpgbjalfgoiaa
open Go.RowKit
set_option linter.unusedVariables false
set_option linter.unusedSimpArgs false

set_option maxHeartbeats 4000000 in
set_option maxRecDepth 100000 in
theorem walk_FnExactLeastFull (x0_0 x0_1 x0_2 x0_3 : Int) (A1 : Option Addr) (n1 c1 : Nat) (X1 : Nat → Nat → Int) (w0 : World) (hm1 : n1 ≤ maxLen) (ha1 : Arr w0 w0.heap.size A1 n1 2 (iv X1)) :
    Calls Try.prog 11 #[.agg #[.int .i64 x0_0, .int .i64 x0_1, .int .i64 x0_2, .int .i64 x0_3], .slice A1 n1 c1] w0 fun e w' => e = .returned (.bool true) ∧ Below w0.heap.size w0 w' := by
  have hfa := frozen_al; have hfo := frozen_out
  have hmx1 : n1 ≤ 9223372036854775807 := hm1
  by_cases hs1_ : (n1 : Int) ≤ 1048576
  · skip
    have hn1 : n1 ≤ 1048576 := by omega
    have hr1 : (0 : Int) ≤ 1048576 - n1 := by omega
    clear hmx1
    obtain ⟨u, hu⟩ : ∃ u, (batB x0_0 x0_1 x0_2 x0_3 && sunB n1 X1) = u := ⟨_, rfl⟩
    have HR := hide hu
    clear hu
    obtain ⟨r, ok, hr⟩ := LFv.ex u x0_1 x0_2 X1 n1
    have HQ := hide hr
    clear hr
    cases ok
    all_goals
      go_enter Try.func11, Try.ntmps11
      go_wp2_with fail
      refine (sz_sunDayS_ok _ _ _ _ hs1_ (by omega) _).mono ?_
      rintro e u ⟨rfl, rfl⟩
      have hq0 : Below w0.heap.size w0 w0 := Below.refl _ _
      go_wp2_with fail
      refine (to_battery _ _ _ _ _).mono ?_
      rintro e w1 ⟨rfl, hb1⟩
      have hs1 : Below w0.heap.size w0 w1 := below_call (by go_grown) hb1
      have hz1 := hs1.size
      obtain ⟨qc1, qf1⟩ := bcell hb1
      have hq1 : Below w0.heap.size w0 w1 := hq0.trans (hs1.mono hq0.size)
      have hl1_0 : w0.heap.size < w1.heap.size := by first | (have := hb1.size; simp only [World.size_alloc, World.size_setCell, World.size_drew] at this; omega) | omega
      go_wp2_with fail
      refine (to_sunDayS _ _ _ X1 _ hn1 (ha1.on (below_call hq1 (by go_grown)))).mono ?_
      rintro e w2 ⟨vT1, rfl, hb2, OT1_2⟩
      have hs2 : Below w1.heap.size w1 w2 := below_call (by go_grown) hb2
      have hz2 := hs2.size
      obtain ⟨qc2, qf2⟩ := bcell hb2
      have hq2 : Below w0.heap.size w0 w2 := hq1.trans (hs2.mono hq1.size)
      have hl2_0 : w0.heap.size < w2.heap.size := by first | (have := hb2.size; simp only [World.size_alloc, World.size_setCell, World.size_drew] at this; omega) | omega
      have BT1 : ∀ g, vT1.ownBlock = some g → w1.heap.size ≤ g ∧ g < w2.heap.size := fun g hg => ⟨Nat.le_trans (by first | exact Nat.le_refl _ | simp only [World.size_alloc]; omega) (OT1_2.blk g hg).1, (OT1_2.blk g hg).2⟩
      obtain ⟨AT1, cT1, hvT1, hcT1, _⟩ := OT1_2.arr
      subst hvT1
      go_wp2_with fail
      refine (spec_leastFull _ _ _ X1 _ _ _ _ _ HR.out r _ HQ.out _ hn1 ((OT1_2.below (by go_grown) (Nat.le_refl _)).arr1)).mono ?_
      rintro e w3 ⟨rfl, hb3⟩
      have hs3 : Below w2.heap.size w2 w3 := below_call (by go_grown) hb3
      have hz3 := hs3.size
      obtain ⟨qc3, qf3⟩ := bcell hb3
      have hq3 : Below w0.heap.size w0 w3 := hq2.trans (hs3.mono hq2.size)
      have hl3_0 : w0.heap.size < w3.heap.size := by first | (have := hb3.size; simp only [World.size_alloc, World.size_setCell, World.size_drew] at this; omega) | omega
      have OT1_3 := OT1_2.below hs3 (Nat.le_refl _)
      go_wp2_with fail
      refine (to_sunDayS _ _ _ X1 _ hn1 (ha1.on (below_call hq3 (by go_grown)))).mono ?_
      rintro e w4 ⟨vK2, rfl, hb4, OK2_4⟩
      have hs4 : Below w3.heap.size w3 w4 := below_call (by go_grown) hb4
      have hz4 := hs4.size
      obtain ⟨qc4, qf4⟩ := bcell hb4
      have hq4 : Below w0.heap.size w0 w4 := hq3.trans (hs4.mono hq3.size)
      have hl4_0 : w0.heap.size < w4.heap.size := by first | (have := hb4.size; simp only [World.size_alloc, World.size_setCell, World.size_drew] at this; omega) | omega
      have OT1_4 := OT1_3.below hs4 (Nat.le_refl _)
      have BK2 : ∀ g, vK2.ownBlock = some g → w3.heap.size ≤ g ∧ g < w4.heap.size := fun g hg => ⟨Nat.le_trans (by first | exact Nat.le_refl _ | simp only [World.size_alloc]; omega) (OK2_4.blk g hg).1, (OK2_4.blk g hg).2⟩
      obtain ⟨AK2, cK2, hvK2, hcK2, _⟩ := OK2_4.arr
      subst hvK2
      go_wp2_with fail
      refine (to_battery _ _ _ _ _).mono ?_
      rintro e w5 ⟨rfl, hb5⟩
      have hs5 : Below w4.heap.size w4 w5 := below_call (by go_grown) hb5
      have hz5 := hs5.size
      obtain ⟨qc5, qf5⟩ := bcell hb5
      have hq5 : Below w0.heap.size w0 w5 := hq4.trans (hs5.mono hq4.size)
      have hl5_0 : w0.heap.size < w5.heap.size := by first | (have := hb5.size; simp only [World.size_alloc, World.size_setCell, World.size_drew] at this; omega) | omega
      have OT1_5 := OT1_4.below hs5 (Nat.le_refl _)
      have OK2_5 := OK2_4.below hs5 (Nat.le_refl _)
      go_wp2_with fail
      refine (impl_leastFull _ _ _ X1 _ _ _ _ _ HR.out r _ HQ.out _ hn1 ((OK2_5.below (by go_grown) (Nat.le_refl _)).arr1)).mono ?_
      rintro e w6 ⟨rfl, hb6⟩
      have hs6 : Below w5.heap.size w5 w6 := below_call (by go_grown) hb6
      have hz6 := hs6.size
      obtain ⟨qc6, qf6⟩ := bcell hb6
      have hq6 : Below w0.heap.size w0 w6 := hq5.trans (hs6.mono hq5.size)
      have hl6_0 : w0.heap.size < w6.heap.size := by first | (have := hb6.size; simp only [World.size_alloc, World.size_setCell, World.size_drew] at this; omega) | omega
      have OT1_6 := OT1_5.below hs6 (Nat.le_refl _)
      have OK2_6 := OK2_5.below hs6 (Nat.le_refl _)
      go_wp2_with fail
      refine (to_sunDayS _ _ _ X1 _ hn1 (ha1.on (below_call hq6 (by go_grown)))).mono ?_
      rintro e w7 ⟨vP3, rfl, hb7, OP3_7⟩
      have hs7 : Below w6.heap.size w6 w7 := below_call (by go_grown) hb7
      have hz7 := hs7.size
      obtain ⟨qc7, qf7⟩ := bcell hb7
      have hq7 : Below w0.heap.size w0 w7 := hq6.trans (hs7.mono hq6.size)
      have hl7_0 : w0.heap.size < w7.heap.size := by first | (have := hb7.size; simp only [World.size_alloc, World.size_setCell, World.size_drew] at this; omega) | omega
      have OT1_7 := OT1_6.below hs7 (Nat.le_refl _)
      have OK2_7 := OK2_6.below hs7 (Nat.le_refl _)
      have BP3 : ∀ g, vP3.ownBlock = some g → w6.heap.size ≤ g ∧ g < w7.heap.size := fun g hg => ⟨Nat.le_trans (by first | exact Nat.le_refl _ | simp only [World.size_alloc]; omega) (OP3_7.blk g hg).1, (OP3_7.blk g hg).2⟩
      obtain ⟨AP3, cP3, hvP3, hcP3, _⟩ := OP3_7.arr
      subst hvP3
      go_wp2_with fail
      refine (eq_sunDayS _ _ _ _ _ _ X1 X1 true (eqX_self _ _ _) _ hn1 hn1 ((OK2_7.below (by go_grown) (Nat.le_refl _)).arr1) ((OP3_7.below (by go_grown) (Nat.le_refl _)).arr1)).mono ?_
      rintro e w8 ⟨rfl, hb8⟩
      have hs8 : Below w7.heap.size w7 w8 := below_call (by go_grown) hb8
      have hz8 := hs8.size
      obtain ⟨qc8, qf8⟩ := bcell hb8
      have hq8 : Below w0.heap.size w0 w8 := hq7.trans (hs8.mono hq7.size)
      have hl8_0 : w0.heap.size < w8.heap.size := by first | (have := hb8.size; simp only [World.size_alloc, World.size_setCell, World.size_drew] at this; omega) | omega
      have OT1_8 := OT1_7.below hs8 (Nat.le_refl _)
      have OK2_8 := OK2_7.below hs8 (Nat.le_refl _)
      have OP3_8 := OP3_7.below hs8 (Nat.le_refl _)
      go_wp2
      go_returns
      exact ⟨rfl, hq8⟩
  · have hs' : (1048576 : Int) < n1 := by omega
    go_enter Try.func11, Try.ntmps11
    go_wp2_with fail
    refine (sz_sunDayS_over _ _ _ _ hs' hm1 (by omega) (by omega) _).mono ?_
    rintro e u ⟨rfl, rfl⟩
    go_wp2
    go_returns
    exact ⟨rfl, by go_grown⟩
end Go.Proofs.Ytnlpgbjalfgoiaa
