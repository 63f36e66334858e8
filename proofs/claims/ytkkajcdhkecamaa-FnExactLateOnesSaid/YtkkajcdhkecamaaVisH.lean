/- Chapter 23: IsPlan. -/
import Derived.Test.YtkkajcdhkecamaaVisG
namespace Go.Proofs.Ytkkajcdhkecamaa
open Go.RowKit
set_option linter.unusedVariables false

theorem spec_isPlan (A B : Option Addr) (n c m d : Nat) (X Y : Nat → Nat → Int) (u ok : Bool) (hu : (planB n m Y && errsB n X) = u) (hok : errsB n X = ok) (w : World) (hn : n ≤ 1048576) (hm : m ≤ 1048576) (hmd : m ≤ d) (ha : Arr w w.heap.size A n 4 (iv X)) (hb : Arr w w.heap.size B m 1 (iv Y)) :
    Calls Try.prog 29 #[.slice A n c, .slice B m d] w fun e w' => e = .returned (.tuple #[.bool u, .bool ok]) ∧ Below w.heap.size w w' := by
  have HU := hide hu
  clear hu
  have hbo := hide hb
  clear hb
  cases ok
  · obtain rfl : false = u := by rw [← HU.out, hok]; simp
    go_enter Try.func29, Try.ntmps29
    go_wp2_with fail
    refine (spec_good23 _ _ _ X _ hok _ hn ha).mono ?_
    rintro e w1 ⟨rfl, hb1⟩
    obtain ⟨qc1, qf1⟩ := bcell hb1
    have hz1 := hb1.size
    try simp only [World.size_alloc, World.size_setCell, World.size_drew] at hz1
    have hq1 : Below w.heap.size w w1 := below_call (by go_grown) hb1
    try have hl0_1 : w.heap.size < w1.heap.size := by omega
    try have hl1_1 : w.heap.size + 1 < w1.heap.size := by omega
    try have hl2_1 : w.heap.size + 2 < w1.heap.size := by omega
    try have hl3_1 : w.heap.size + 3 < w1.heap.size := by omega
    go_wp2
    go_returns
    exact ⟨rfl, hq1⟩
  · go_enter Try.func29, Try.ntmps29
    go_wp2_with fail
    refine (spec_good23 _ _ _ X _ hok _ hn ha).mono ?_
    rintro e w1 ⟨rfl, hb1⟩
    obtain ⟨qc1, qf1⟩ := bcell hb1
    have hz1 := hb1.size
    try simp only [World.size_alloc, World.size_setCell, World.size_drew] at hz1
    have hq1 : Below w.heap.size w w1 := below_call (by go_grown) hb1
    try have hl0_1 : w.heap.size < w1.heap.size := by omega
    try have hl1_1 : w.heap.size + 1 < w1.heap.size := by omega
    try have hl2_1 : w.heap.size + 2 < w1.heap.size := by omega
    try have hl3_1 : w.heap.size + 3 < w1.heap.size := by omega
    go_wp2_with fail
    refine (spec_plan _ _ _ _ _ _ X Y _ HU.out _ hn hm hmd (ha.on hq1) (hbo.out.on hq1)).mono ?_
    rintro e w2 ⟨rfl, hb2⟩
    obtain ⟨qc2, qf2⟩ := bcell hb2
    have hz2 := hb2.size
    try simp only [World.size_alloc, World.size_setCell, World.size_drew] at hz2
    have hq2 : Below w.heap.size w w2 := below_call (by go_grown) hb2
    try have hl0_2 : w.heap.size < w2.heap.size := by omega
    try have hl1_2 : w.heap.size + 1 < w2.heap.size := by omega
    try have hl2_2 : w.heap.size + 2 < w2.heap.size := by omega
    try have hl3_2 : w.heap.size + 3 < w2.heap.size := by omega
    try have hn1_2 : w1.heap.size < w2.heap.size := by omega
    go_wp2
    go_returns
    exact ⟨rfl, hq2⟩
theorem impl_isPlan (A B : Option Addr) (n c m d : Nat) (X Y : Nat → Nat → Int) (u ok : Bool) (hu : (planB n m Y && errsB n X) = u) (hok : errsB n X = ok) (w : World) (hn : n ≤ 1048576) (hm : m ≤ 1048576) (ha : Arr w w.heap.size A n 4 (iv X)) (hb : Arr w w.heap.size B m 1 (iv Y)) :
    Calls Try.prog 31 #[.slice A n c, .slice B m d] w fun e w' => e = .returned (.tuple #[.bool u, .bool ok]) ∧ Below w.heap.size w w' := by
  have HU := hide hu
  clear hu
  have hbo := hide hb
  clear hb
  cases ok
  · obtain rfl : false = u := by rw [← HU.out, hok]; simp
    go_enter Try.func31, Try.ntmps31
    go_wp2_with fail
    refine (impl_errs _ _ _ X _ hok _ hn ha).mono ?_
    rintro e w1 ⟨rfl, hb1⟩
    obtain ⟨qc1, qf1⟩ := bcell hb1
    have hz1 := hb1.size
    try simp only [World.size_alloc, World.size_setCell, World.size_drew] at hz1
    have hq1 : Below w.heap.size w w1 := below_call (by go_grown) hb1
    try have hl0_1 : w.heap.size < w1.heap.size := by omega
    try have hl1_1 : w.heap.size + 1 < w1.heap.size := by omega
    try have hl2_1 : w.heap.size + 2 < w1.heap.size := by omega
    try have hl3_1 : w.heap.size + 3 < w1.heap.size := by omega
    go_wp2
    go_returns
    exact ⟨rfl, hq1⟩
  · obtain ⟨t, ht⟩ : ∃ t, planB n m Y = t := ⟨_, rfl⟩
    obtain rfl : t = u := by rw [← HU.out, hok, ht]; simp
    have HT := hide ht
    clear ht
    go_enter Try.func31, Try.ntmps31
    go_wp2_with fail
    refine (impl_errs _ _ _ X _ hok _ hn ha).mono ?_
    rintro e w1 ⟨rfl, hb1⟩
    obtain ⟨qc1, qf1⟩ := bcell hb1
    have hz1 := hb1.size
    try simp only [World.size_alloc, World.size_setCell, World.size_drew] at hz1
    have hq1 : Below w.heap.size w w1 := below_call (by go_grown) hb1
    try have hl0_1 : w.heap.size < w1.heap.size := by omega
    try have hl1_1 : w.heap.size + 1 < w1.heap.size := by omega
    try have hl2_1 : w.heap.size + 2 < w1.heap.size := by omega
    try have hl3_1 : w.heap.size + 3 < w1.heap.size := by omega
    go_wp2_with fail
    refine (impl_isPlan0 A _ n c _ _ Y t HT.out _ hn hm (hbo.out.on hq1)).mono ?_
    rintro e w2 ⟨rfl, hb2⟩
    obtain ⟨qc2, qf2⟩ := bcell hb2
    have hz2 := hb2.size
    try simp only [World.size_alloc, World.size_setCell, World.size_drew] at hz2
    have hq2 : Below w.heap.size w w2 := below_call (by go_grown) hb2
    try have hl0_2 : w.heap.size < w2.heap.size := by omega
    try have hl1_2 : w.heap.size + 1 < w2.heap.size := by omega
    try have hl2_2 : w.heap.size + 2 < w2.heap.size := by omega
    try have hl3_2 : w.heap.size + 3 < w2.heap.size := by omega
    try have hn1_2 : w1.heap.size < w2.heap.size := by omega
    go_wp2
    go_returns
    exact ⟨rfl, hq2⟩

set_option maxHeartbeats 1000000 in
theorem walk_FnExactIsPlan (A : Option Addr) (n c : Nat) (X : Nat → Nat → Int) (B : Option Addr) (m d : Nat) (Y : Nat → Nat → Int) (w0 : World) (hn : n ≤ maxLen) (ha : Arr w0 w0.heap.size A n 4 (iv X)) (hm : m ≤ maxLen) (hb : Arr w0 w0.heap.size B m 1 (iv Y)) :
    Calls Try.prog 6 #[.slice A n c, .slice B m d] w0 fun e w' => e = .returned (.bool true) ∧ Below w0.heap.size w0 w' := by
  have hmx : m ≤ 9223372036854775807 := hm
  by_cases hp : (m : Int) ≤ 1048576
  · by_cases hs : (n : Int) ≤ 1048576
    · have hn' : n ≤ 1048576 := by omega
      have hm' : m ≤ 1048576 := by omega
      have hr : (0 : Int) ≤ 1048576 - n := by omega
      obtain ⟨u, hu⟩ : ∃ u, (planB n m Y && errsB n X) = u := ⟨_, rfl⟩
      have HR := hide hu
      clear hu hmx
      cases hok : errsB n X <;> cases u
      all_goals
        go_enter Try.func6, Try.ntmps6
        go_wp2_with fail
        refine (sz_errandS_ok _ _ _ _ hs (by omega) _).mono ?_
        rintro e u ⟨rfl, rfl⟩
        have hq0 : Below w0.heap.size w0 w0 := Below.refl _ _
        go_wp2_with fail
        refine (to_errandS _ _ _ X _ hn' ha).mono ?_
        rintro e w1 ⟨vA, rfl, hb1, OA_1⟩
        have hs1 : Below w0.heap.size w0 w1 := below_call (by go_grown) hb1
        have hz1 := hs1.size
        have hq1 : Below w0.heap.size w0 w1 := hq0.trans (hs1.mono hq0.size)
        have BA : ∀ g, vA.ownBlock = some g → w0.heap.size ≤ g ∧ g < w1.heap.size := fun g hg => ⟨Nat.le_trans (by first | exact Nat.le_refl _ | exact hz1 | simp) (OA_1.blk g hg).1, (OA_1.blk g hg).2⟩
        obtain ⟨AA, cA, hvA, hcA, _⟩ := OA_1.arr
        subst hvA
        go_wp2_with fail
        refine (to_intS _ _ _ Y _ hm' (hb.on hq1)).mono ?_
        rintro e w2 ⟨vB, rfl, hb2, OB_2⟩
        have hs2 : Below w1.heap.size w1 w2 := below_call (by go_grown) hb2
        have hz2 := hs2.size
        have hq2 : Below w0.heap.size w0 w2 := hq1.trans (hs2.mono hq1.size)
        have OA_2 := OA_1.below hs2 (Nat.le_refl _)
        have BB : ∀ g, vB.ownBlock = some g → w1.heap.size ≤ g ∧ g < w2.heap.size := fun g hg => ⟨Nat.le_trans (by first | exact Nat.le_refl _ | exact hz2 | simp) (OB_2.blk g hg).1, (OB_2.blk g hg).2⟩
        obtain ⟨AB, cB, hvB, hcB, _⟩ := OB_2.arr
        subst hvB
        go_wp2_with fail
        refine (spec_isPlan _ _ _ _ _ _ X Y _ _ HR.out hok _ hn' hm' hcB OA_2.arr1 OB_2.arr1).mono ?_
        rintro e w3 ⟨rfl, hb3⟩
        have hs3 : Below w2.heap.size w2 w3 := below_call (by go_grown) hb3
        have hz3 := hs3.size
        have hq3 : Below w0.heap.size w0 w3 := hq2.trans (hs3.mono hq2.size)
        have OA_3 := OA_2.below hs3 (Nat.le_refl _)
        have OB_3 := OB_2.below hs3 (Nat.le_refl _)
        go_wp2_with fail
        refine (to_errandS _ _ _ X _ hn' (ha.on hq3)).mono ?_
        rintro e w4 ⟨vX, rfl, hb4, OX_4⟩
        have hs4 : Below w3.heap.size w3 w4 := below_call (by go_grown) hb4
        have hz4 := hs4.size
        have hq4 : Below w0.heap.size w0 w4 := hq3.trans (hs4.mono hq3.size)
        have OA_4 := OA_3.below hs4 (Nat.le_refl _)
        have OB_4 := OB_3.below hs4 (Nat.le_refl _)
        have BX : ∀ g, vX.ownBlock = some g → w3.heap.size ≤ g ∧ g < w4.heap.size := fun g hg => ⟨Nat.le_trans (by first | exact Nat.le_refl _ | exact hz4 | simp) (OX_4.blk g hg).1, (OX_4.blk g hg).2⟩
        obtain ⟨AX, cX, hvX, hcX, _⟩ := OX_4.arr
        subst hvX
        go_wp2_with fail
        refine (to_intS _ _ _ Y _ hm' (hb.on hq4)).mono ?_
        rintro e w5 ⟨vY, rfl, hb5, OY_5⟩
        have hs5 : Below w4.heap.size w4 w5 := below_call (by go_grown) hb5
        have hz5 := hs5.size
        have hq5 : Below w0.heap.size w0 w5 := hq4.trans (hs5.mono hq4.size)
        have OA_5 := OA_4.below hs5 (Nat.le_refl _)
        have OB_5 := OB_4.below hs5 (Nat.le_refl _)
        have OX_5 := OX_4.below hs5 (Nat.le_refl _)
        have BY : ∀ g, vY.ownBlock = some g → w4.heap.size ≤ g ∧ g < w5.heap.size := fun g hg => ⟨Nat.le_trans (by first | exact Nat.le_refl _ | exact hz5 | simp) (OY_5.blk g hg).1, (OY_5.blk g hg).2⟩
        obtain ⟨AY, cY, hvY, hcY, _⟩ := OY_5.arr
        subst hvY
        go_wp2_with fail
        refine (impl_isPlan _ _ _ _ _ _ X Y _ _ HR.out hok _ hn' hm' OX_5.arr1 OY_5.arr1).mono ?_
        rintro e w6 ⟨rfl, hb6⟩
        have hs6 : Below w5.heap.size w5 w6 := below_call (by go_grown) hb6
        have hz6 := hs6.size
        have hq6 : Below w0.heap.size w0 w6 := hq5.trans (hs6.mono hq5.size)
        have OA_6 := OA_5.below hs6 (Nat.le_refl _)
        have OB_6 := OB_5.below hs6 (Nat.le_refl _)
        have OX_6 := OX_5.below hs6 (Nat.le_refl _)
        have OY_6 := OY_5.below hs6 (Nat.le_refl _)
        go_wp2_with fail
        refine (to_errandS _ _ _ X _ hn' (ha.on hq6)).mono ?_
        rintro e w7 ⟨vP, rfl, hb7, OP_7⟩
        have hs7 : Below w6.heap.size w6 w7 := below_call (by go_grown) hb7
        have hz7 := hs7.size
        have hq7 : Below w0.heap.size w0 w7 := hq6.trans (hs7.mono hq6.size)
        have OA_7 := OA_6.below hs7 (Nat.le_refl _)
        have OB_7 := OB_6.below hs7 (Nat.le_refl _)
        have OX_7 := OX_6.below hs7 (Nat.le_refl _)
        have OY_7 := OY_6.below hs7 (Nat.le_refl _)
        have BP : ∀ g, vP.ownBlock = some g → w6.heap.size ≤ g ∧ g < w7.heap.size := fun g hg => ⟨Nat.le_trans (by first | exact Nat.le_refl _ | exact hz7 | simp) (OP_7.blk g hg).1, (OP_7.blk g hg).2⟩
        obtain ⟨AP, cP, hvP, hcP, _⟩ := OP_7.arr
        subst hvP
        go_wp2_with fail
        refine (eq_errandS _ _ _ _ _ _ X X true (eqX_self _ _ _) _ hn' hn' OX_7.arr1 OP_7.arr1).mono ?_
        rintro e w8 ⟨rfl, hb8⟩
        have hs8 : Below w7.heap.size w7 w8 := below_call (by go_grown) hb8
        have hz8 := hs8.size
        have hq8 : Below w0.heap.size w0 w8 := hq7.trans (hs8.mono hq7.size)
        have OA_8 := OA_7.below hs8 (Nat.le_refl _)
        have OB_8 := OB_7.below hs8 (Nat.le_refl _)
        have OX_8 := OX_7.below hs8 (Nat.le_refl _)
        have OY_8 := OY_7.below hs8 (Nat.le_refl _)
        have OP_8 := OP_7.below hs8 (Nat.le_refl _)
        go_wp2_with fail
        refine (to_intS _ _ _ Y _ hm' (hb.on hq8)).mono ?_
        rintro e w9 ⟨vQ, rfl, hb9, OQ_9⟩
        have hs9 : Below w8.heap.size w8 w9 := below_call (by go_grown) hb9
        have hz9 := hs9.size
        have hq9 : Below w0.heap.size w0 w9 := hq8.trans (hs9.mono hq8.size)
        have OA_9 := OA_8.below hs9 (Nat.le_refl _)
        have OB_9 := OB_8.below hs9 (Nat.le_refl _)
        have OX_9 := OX_8.below hs9 (Nat.le_refl _)
        have OY_9 := OY_8.below hs9 (Nat.le_refl _)
        have OP_9 := OP_8.below hs9 (Nat.le_refl _)
        have BQ : ∀ g, vQ.ownBlock = some g → w8.heap.size ≤ g ∧ g < w9.heap.size := fun g hg => ⟨Nat.le_trans (by first | exact Nat.le_refl _ | exact hz9 | simp) (OQ_9.blk g hg).1, (OQ_9.blk g hg).2⟩
        obtain ⟨AQ, cQ, hvQ, hcQ, _⟩ := OQ_9.arr
        subst hvQ
        go_wp2_with fail
        refine (eq_intS _ _ _ _ _ _ Y Y true (eqX_self _ _ _) _ hm' hm' OY_9.arr1 OQ_9.arr1).mono ?_
        rintro e w10 ⟨rfl, hb10⟩
        have hs10 : Below w9.heap.size w9 w10 := below_call (by go_grown) hb10
        have hz10 := hs10.size
        have hq10 : Below w0.heap.size w0 w10 := hq9.trans (hs10.mono hq9.size)
        have OA_10 := OA_9.below hs10 (Nat.le_refl _)
        have OB_10 := OB_9.below hs10 (Nat.le_refl _)
        have OX_10 := OX_9.below hs10 (Nat.le_refl _)
        have OY_10 := OY_9.below hs10 (Nat.le_refl _)
        have OP_10 := OP_9.below hs10 (Nat.le_refl _)
        have OQ_10 := OQ_9.below hs10 (Nat.le_refl _)
        go_wp2
        go_returns
        exact ⟨rfl, hq10⟩
    · have hs' : (1048576 : Int) < n := by omega
      go_enter Try.func6, Try.ntmps6
      go_wp2_with fail
      refine (sz_errandS_over _ _ _ _ hs' hn (by omega) (by omega) _).mono ?_
      rintro e u ⟨rfl, rfl⟩
      go_wp2
      go_returns
      exact ⟨rfl, Below.refl _ _⟩
  · go_enter Try.func6, Try.ntmps6
    go_wp2
    go_returns
    exact ⟨rfl, Below.refl _ _⟩
end Go.Proofs.Ytkkajcdhkecamaa
