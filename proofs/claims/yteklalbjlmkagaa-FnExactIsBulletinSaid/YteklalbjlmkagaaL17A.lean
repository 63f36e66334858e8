/- Walks of laws, written by lawgen2.py out of their Go text. -/
import Derived.Test.YteklalbjlmkagaaBul
import Derived.Test.YteklalbjlmkagaaGrow
namespace Go.Proofs.Yteklalbjlmkagaa
open Go.RowKit
set_option linter.unusedVariables false
set_option linter.unusedSimpArgs false

set_option maxHeartbeats 4000000 in
set_option maxRecDepth 100000 in
theorem walk_FnExactIsBulletin (A0 : Option Addr) (n0 c0 : Nat) (X0 : Nat → Nat → Int) (w0 : World) (hm0 : n0 ≤ maxLen) (ha0 : Arr w0 w0.heap.size A0 n0 7 (iv X0)) :
    Calls Try.prog 4 #[.slice A0 n0 c0] w0 fun e w' => e = .returned (.bool true) ∧ Below w0.heap.size w0 w' := by
  have hfa := frozen_al; have hfo := frozen_out
  have hmx0 : n0 ≤ 9223372036854775807 := hm0
  by_cases hs0_ : (n0 : Int) ≤ 1048576
  · skip
    have hn0 : n0 ≤ 1048576 := by omega
    have hr0 : (0 : Int) ≤ 1048576 - n0 := by omega
    clear hmx0
    obtain ⟨u, hu⟩ : ∃ u, (bulB n0 X0) = u := ⟨_, rfl⟩
    have HR := hide hu
    clear hu
    cases u
    all_goals
      go_enter Try.func4, Try.ntmps4
      go_wp2_with fail
      refine (sz_quakeRowS_ok _ _ _ _ hs0_ (by omega) _).mono ?_
      rintro e u ⟨rfl, rfl⟩
      have hq0 : Below w0.heap.size w0 w0 := Below.refl _ _
      go_wp2_with fail
      refine (to_quakeRowS _ _ _ X0 _ hn0 (ha0.on hq0)).mono ?_
      rintro e w1 ⟨vT1, rfl, hb1, OT1_1⟩
      have hs1 : Below w0.heap.size w0 w1 := below_call (by go_grown) hb1
      have hz1 := hs1.size
      have hq1 : Below w0.heap.size w0 w1 := hq0.trans (hs1.mono hq0.size)
      have BT1 : ∀ g, vT1.ownBlock = some g → w0.heap.size ≤ g ∧ g < w1.heap.size := fun g hg => ⟨Nat.le_trans (by first | exact Nat.le_refl _ | (simp only [World.size_alloc]; omega) | (simp only [World.size_alloc, World.size_drew]; omega)) (OT1_1.blk g hg).1, (OT1_1.blk g hg).2⟩
      have ET1 : ∀ g, vT1.ownBlock = some g → True := fun g hg => trivial
      obtain ⟨AT1, cT1, hvT1, hcT1, _⟩ := OT1_1.arr
      subst hvT1
      go_wp2_with fail
      refine (spec_bul _ _ _ X0 _ HR.out _ hn0 (OT1_1.arr1)).mono ?_
      rintro e w2 ⟨rfl, hb2⟩
      have hs2 : Below w1.heap.size w1 w2 := below_call (by go_grown) hb2
      have hz2 := hs2.size
      have hq2 : Below w0.heap.size w0 w2 := hq1.trans (hs2.mono hq1.size)
      have OT1_2 := OT1_1.below hs2 (Nat.le_refl _)
      go_wp2_with fail
      refine (to_quakeRowS _ _ _ X0 _ hn0 (ha0.on hq2)).mono ?_
      rintro e w3 ⟨vK2, rfl, hb3, OK2_3⟩
      have hs3 : Below w2.heap.size w2 w3 := below_call (by go_grown) hb3
      have hz3 := hs3.size
      have hq3 : Below w0.heap.size w0 w3 := hq2.trans (hs3.mono hq2.size)
      have OT1_3 := OT1_2.below hs3 (Nat.le_refl _)
      have BK2 : ∀ g, vK2.ownBlock = some g → w2.heap.size ≤ g ∧ g < w3.heap.size := fun g hg => ⟨Nat.le_trans (by first | exact Nat.le_refl _ | (simp only [World.size_alloc]; omega) | (simp only [World.size_alloc, World.size_drew]; omega)) (OK2_3.blk g hg).1, (OK2_3.blk g hg).2⟩
      have EK2 : ∀ g, vK2.ownBlock = some g → True := fun g hg => trivial
      obtain ⟨AK2, cK2, hvK2, hcK2, _⟩ := OK2_3.arr
      subst hvK2
      go_wp2_with fail
      refine (impl_bul _ _ _ X0 _ HR.out _ hn0 (OK2_3.arr1)).mono ?_
      rintro e w4 ⟨rfl, hb4⟩
      have hs4 : Below w3.heap.size w3 w4 := below_call (by go_grown) hb4
      have hz4 := hs4.size
      have hq4 : Below w0.heap.size w0 w4 := hq3.trans (hs4.mono hq3.size)
      have OT1_4 := OT1_3.below hs4 (Nat.le_refl _)
      have OK2_4 := OK2_3.below hs4 (Nat.le_refl _)
      go_wp2_with fail
      refine (to_quakeRowS _ _ _ X0 _ hn0 (ha0.on hq4)).mono ?_
      rintro e w5 ⟨vP3, rfl, hb5, OP3_5⟩
      have hs5 : Below w4.heap.size w4 w5 := below_call (by go_grown) hb5
      have hz5 := hs5.size
      have hq5 : Below w0.heap.size w0 w5 := hq4.trans (hs5.mono hq4.size)
      have OT1_5 := OT1_4.below hs5 (Nat.le_refl _)
      have OK2_5 := OK2_4.below hs5 (Nat.le_refl _)
      have BP3 : ∀ g, vP3.ownBlock = some g → w4.heap.size ≤ g ∧ g < w5.heap.size := fun g hg => ⟨Nat.le_trans (by first | exact Nat.le_refl _ | (simp only [World.size_alloc]; omega) | (simp only [World.size_alloc, World.size_drew]; omega)) (OP3_5.blk g hg).1, (OP3_5.blk g hg).2⟩
      have EP3 : ∀ g, vP3.ownBlock = some g → True := fun g hg => trivial
      obtain ⟨AP3, cP3, hvP3, hcP3, _⟩ := OP3_5.arr
      subst hvP3
      go_wp2_with fail
      refine (eq_quakeRowS _ _ _ _ _ _ X0 X0 true (eqX_self _ _ _) _ hn0 hn0 (OK2_5.arr1) (OP3_5.arr1)).mono ?_
      rintro e w6 ⟨rfl, hb6⟩
      have hs6 : Below w5.heap.size w5 w6 := below_call (by go_grown) hb6
      have hz6 := hs6.size
      have hq6 : Below w0.heap.size w0 w6 := hq5.trans (hs6.mono hq5.size)
      have OT1_6 := OT1_5.below hs6 (Nat.le_refl _)
      have OK2_6 := OK2_5.below hs6 (Nat.le_refl _)
      have OP3_6 := OP3_5.below hs6 (Nat.le_refl _)
      go_wp2
      go_returns
      exact ⟨rfl, hq6⟩
  · have hs' : (1048576 : Int) < n0 := by omega
    go_enter Try.func4, Try.ntmps4
    go_wp2_with fail
    refine (sz_quakeRowS_over _ _ _ _ hs' hm0 (by omega) (by omega) _).mono ?_
    rintro e u ⟨rfl, rfl⟩
    go_wp2
    go_returns
    exact ⟨rfl, by go_grown⟩
end Go.Proofs.Yteklalbjlmkagaa
