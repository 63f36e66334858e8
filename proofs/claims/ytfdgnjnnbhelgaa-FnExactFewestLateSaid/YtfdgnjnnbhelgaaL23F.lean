/- Walks of laws, written by lawgen2.py out of their Go text. -/
import Derived.Test.YtfdgnjnnbhelgaaFewB
import Derived.Test.YtfdgnjnnbhelgaaList
import Derived.Test.YtfdgnjnnbhelgaaGrow
namespace Go.Proofs.Ytfdgnjnnbhelgaa
open Go.RowKit
set_option linter.unusedVariables false
set_option linter.unusedSimpArgs false

set_option maxHeartbeats 4000000 in
set_option maxRecDepth 100000 in
theorem walk_FnExactFewestLate (A0 : Option Addr) (n0 c0 : Nat) (X0 : Nat → Nat → Int) (w0 : World) (hm0 : n0 ≤ maxLen) (ha0 : Arr w0 w0.heap.size A0 n0 4 (iv X0)) :
    Calls Try.prog 5 #[.slice A0 n0 c0] w0 fun e w' => e = .returned (.bool true) ∧ Below w0.heap.size w0 w' := by
  have hfa := frozen_al; have hfo := frozen_out
  have hmx0 : n0 ≤ 9223372036854775807 := hm0
  by_cases hs0_ : (n0 : Int) ≤ 1048576
  · skip
    have hn0 : n0 ≤ 1048576 := by omega
    have hr0 : (0 : Int) ≤ 1048576 - n0 := by omega
    clear hmx0
    obtain ⟨u, hu⟩ : ∃ u, errsB n0 X0 = u := ⟨_, rfl⟩
    obtain ⟨q, hq0⟩ : ∃ q : Nat, q = onlyN u (fwN n0 X0).length := ⟨_, rfl⟩
    have hq : q ≤ 1048576 := by rw [hq0]; exact onlyN_le (by have := fwN_len n0 X0; omega)
    have HR := hide hu; have HQ := hide hq0
    clear hu hq0
    cases u
    all_goals
      go_enter Try.func5, Try.ntmps5
      go_wp2_with fail
      refine (sz_errandS_ok _ _ _ _ hs0_ (by omega) _).mono ?_
      rintro e u ⟨rfl, rfl⟩
      have hq0 : Below w0.heap.size w0 w0 := Below.refl _ _
      go_wp2_with fail
      refine (to_errandS _ _ _ X0 _ hn0 (ha0.on hq0)).mono ?_
      rintro e w1 ⟨vT1, rfl, hb1, OT1_1⟩
      have hs1 : Below w0.heap.size w0 w1 := below_call (by go_grown) hb1
      have hz1 := hs1.size
      have hq1 : Below w0.heap.size w0 w1 := hq0.trans (hs1.mono hq0.size)
      have BT1 : ∀ g, vT1.ownBlock = some g → w0.heap.size ≤ g ∧ g < w1.heap.size := fun g hg => ⟨Nat.le_trans (by first | exact Nat.le_refl _ | (simp only [World.size_alloc]; omega) | (simp only [World.size_alloc, World.size_drew]; omega)) (OT1_1.blk g hg).1, (OT1_1.blk g hg).2⟩
      have ET1 : ∀ g, vT1.ownBlock = some g → True := fun g hg => trivial
      obtain ⟨AT1, cT1, hvT1, hcT1, _⟩ := OT1_1.arr
      subst hvT1
      go_wp2_with fail
      refine (spec_fewest _ _ _ X0 _ HR.out q HQ.out _ hn0 (OT1_1.arr1)).mono ?_
      rintro e w2 ⟨vW2, rfl, hb2, OW2_2⟩
      have hs2 : Below w1.heap.size w1 w2 := below_call (by go_grown) hb2
      have hz2 := hs2.size
      have hq2 : Below w0.heap.size w0 w2 := hq1.trans (hs2.mono hq1.size)
      have OT1_2 := OT1_1.below hs2 (Nat.le_refl _)
      have BW2 : ∀ g, vW2.ownBlock = some g → w1.heap.size ≤ g ∧ g < w2.heap.size := fun g hg => ⟨Nat.le_trans (by first | exact Nat.le_refl _ | (simp only [World.size_alloc]; omega) | (simp only [World.size_alloc, World.size_drew]; omega)) (OW2_2.blk g hg).1, (OW2_2.blk g hg).2⟩
      have EW2 : ∀ g, vW2.ownBlock = some g → True := fun g hg => trivial
      obtain ⟨AW2, cW2, hvW2, hcW2, _⟩ := OW2_2.arr
      subst hvW2
      go_wp2_with fail
      refine (to_errandS _ _ _ X0 _ hn0 (ha0.on hq2)).mono ?_
      rintro e w3 ⟨vK3, rfl, hb3, OK3_3⟩
      have hs3 : Below w2.heap.size w2 w3 := below_call (by go_grown) hb3
      have hz3 := hs3.size
      have hq3 : Below w0.heap.size w0 w3 := hq2.trans (hs3.mono hq2.size)
      have OT1_3 := OT1_2.below hs3 (Nat.le_refl _)
      have OW2_3 := OW2_2.below hs3 (Nat.le_refl _)
      have BK3 : ∀ g, vK3.ownBlock = some g → w2.heap.size ≤ g ∧ g < w3.heap.size := fun g hg => ⟨Nat.le_trans (by first | exact Nat.le_refl _ | (simp only [World.size_alloc]; omega) | (simp only [World.size_alloc, World.size_drew]; omega)) (OK3_3.blk g hg).1, (OK3_3.blk g hg).2⟩
      have EK3 : ∀ g, vK3.ownBlock = some g → True := fun g hg => trivial
      obtain ⟨AK3, cK3, hvK3, hcK3, _⟩ := OK3_3.arr
      subst hvK3
      go_wp2_with fail
      refine (impl_fewest _ _ _ X0 _ HR.out q HQ.out _ hn0 (OK3_3.arr1)).mono ?_
      rintro e w4 ⟨vG4, rfl, hb4, OG4_4⟩
      have hs4 : Below w3.heap.size w3 w4 := below_call (by go_grown) hb4
      have hz4 := hs4.size
      have hq4 : Below w0.heap.size w0 w4 := hq3.trans (hs4.mono hq3.size)
      have OT1_4 := OT1_3.below hs4 (Nat.le_refl _)
      have OW2_4 := OW2_3.below hs4 (Nat.le_refl _)
      have OK3_4 := OK3_3.below hs4 (Nat.le_refl _)
      have BG4 : ∀ g, vG4.ownBlock = some g → w3.heap.size ≤ g ∧ g < w4.heap.size := fun g hg => ⟨Nat.le_trans (by first | exact Nat.le_refl _ | (simp only [World.size_alloc]; omega) | (simp only [World.size_alloc, World.size_drew]; omega)) (OG4_4.blk g hg).1, (OG4_4.blk g hg).2⟩
      have EG4 : ∀ g, vG4.ownBlock = some g → True := fun g hg => trivial
      obtain ⟨AG4, cG4, hvG4, hcG4, _⟩ := OG4_4.arr
      subst hvG4
      go_wp2_with fail
      refine (eq_intS _ _ _ _ _ _ (fun i _ => ((putAll (fwN n0 X0) (fwN n0 X0).length).getD i 0 : Nat)) (fun i _ => ((putAll (fwN n0 X0) (fwN n0 X0).length).getD i 0 : Nat)) true (eqX_self _ _ _) _ hq hq (OG4_4.arr1) (OW2_4.arr1)).mono ?_
      rintro e w5 ⟨rfl, hb5⟩
      have hs5 : Below w4.heap.size w4 w5 := below_call (by go_grown) hb5
      have hz5 := hs5.size
      have hq5 : Below w0.heap.size w0 w5 := hq4.trans (hs5.mono hq4.size)
      have OT1_5 := OT1_4.below hs5 (Nat.le_refl _)
      have OW2_5 := OW2_4.below hs5 (Nat.le_refl _)
      have OK3_5 := OK3_4.below hs5 (Nat.le_refl _)
      have OG4_5 := OG4_4.below hs5 (Nat.le_refl _)
      go_wp2_with fail
      refine (to_errandS _ _ _ X0 _ hn0 (ha0.on hq5)).mono ?_
      rintro e w6 ⟨vP5, rfl, hb6, OP5_6⟩
      have hs6 : Below w5.heap.size w5 w6 := below_call (by go_grown) hb6
      have hz6 := hs6.size
      have hq6 : Below w0.heap.size w0 w6 := hq5.trans (hs6.mono hq5.size)
      have OT1_6 := OT1_5.below hs6 (Nat.le_refl _)
      have OW2_6 := OW2_5.below hs6 (Nat.le_refl _)
      have OK3_6 := OK3_5.below hs6 (Nat.le_refl _)
      have OG4_6 := OG4_5.below hs6 (Nat.le_refl _)
      have BP5 : ∀ g, vP5.ownBlock = some g → w5.heap.size ≤ g ∧ g < w6.heap.size := fun g hg => ⟨Nat.le_trans (by first | exact Nat.le_refl _ | (simp only [World.size_alloc]; omega) | (simp only [World.size_alloc, World.size_drew]; omega)) (OP5_6.blk g hg).1, (OP5_6.blk g hg).2⟩
      have EP5 : ∀ g, vP5.ownBlock = some g → True := fun g hg => trivial
      obtain ⟨AP5, cP5, hvP5, hcP5, _⟩ := OP5_6.arr
      subst hvP5
      go_wp2_with fail
      refine (eq_errandS _ _ _ _ _ _ X0 X0 true (eqX_self _ _ _) _ hn0 hn0 (OK3_6.arr1) (OP5_6.arr1)).mono ?_
      rintro e w7 ⟨rfl, hb7⟩
      have hs7 : Below w6.heap.size w6 w7 := below_call (by go_grown) hb7
      have hz7 := hs7.size
      have hq7 : Below w0.heap.size w0 w7 := hq6.trans (hs7.mono hq6.size)
      have OT1_7 := OT1_6.below hs7 (Nat.le_refl _)
      have OW2_7 := OW2_6.below hs7 (Nat.le_refl _)
      have OK3_7 := OK3_6.below hs7 (Nat.le_refl _)
      have OG4_7 := OG4_6.below hs7 (Nat.le_refl _)
      have OP5_7 := OP5_6.below hs7 (Nat.le_refl _)
      go_wp2_with fail
      refine (mark_errandS _ _ _ _ _ _ _ hn0 (by omega) (by omega) OK3_7).mono ?_
      rintro e w8 ⟨rfl, hg8, OK3_8⟩
      have hz8 := hg8.size
      have hq8 : Below w0.heap.size w0 w8 := hq7.grown hg8 hq7.size (fun g hg => by have := (BK3 g hg).1; omega)
      have OT1_8 := OT1_7.apart hg8 (fun g h1 h2 => by have a1 := BK3 g h1; have a2 := BT1 g h2; omega)
      have OW2_8 := OW2_7.apart hg8 (fun g h1 h2 => by have a1 := BK3 g h1; have a2 := BW2 g h2; omega)
      have OG4_8 := OG4_7.apart hg8 (fun g h1 h2 => by have a1 := BK3 g h1; have a2 := BG4 g h2; omega)
      have OP5_8 := OP5_7.apart hg8 (fun g h1 h2 => by have a1 := BK3 g h1; have a2 := BP5 g h2; omega)
      go_wp2_with fail
      refine (eq_intS _ _ _ _ _ _ (fun i _ => ((putAll (fwN n0 X0) (fwN n0 X0).length).getD i 0 : Nat)) (fun i _ => ((putAll (fwN n0 X0) (fwN n0 X0).length).getD i 0 : Nat)) true (eqX_self _ _ _) _ hq hq (OG4_8.arr1) (OW2_8.arr1)).mono ?_
      rintro e w9 ⟨rfl, hb9⟩
      have hs9 : Below w8.heap.size w8 w9 := below_call (by go_grown) hb9
      have hz9 := hs9.size
      have hq9 : Below w0.heap.size w0 w9 := hq8.trans (hs9.mono hq8.size)
      have OT1_9 := OT1_8.below hs9 (Nat.le_refl _)
      have OW2_9 := OW2_8.below hs9 (Nat.le_refl _)
      have OK3_9 := OK3_8.below hs9 (Nat.le_refl _)
      have OG4_9 := OG4_8.below hs9 (Nat.le_refl _)
      have OP5_9 := OP5_8.below hs9 (Nat.le_refl _)
      go_wp2_with fail
      refine (mark_intS _ _ _ _ _ _ _ hq (by omega) (by omega) OG4_9).mono ?_
      rintro e w10 ⟨rfl, hg10, OG4_10⟩
      have hz10 := hg10.size
      have hq10 : Below w0.heap.size w0 w10 := hq9.grown hg10 hq9.size (fun g hg => by have := (BG4 g hg).1; omega)
      have OT1_10 := OT1_9.apart hg10 (fun g h1 h2 => by have a1 := BG4 g h1; have a2 := BT1 g h2; omega)
      have OW2_10 := OW2_9.apart hg10 (fun g h1 h2 => by have a1 := BG4 g h1; have a2 := BW2 g h2; omega)
      have OK3_10 := OK3_9.apart hg10 (fun g h1 h2 => by have a1 := BG4 g h1; have a2 := BK3 g h2; omega)
      have OP5_10 := OP5_9.apart hg10 (fun g h1 h2 => by have a1 := BG4 g h1; have a2 := BP5 g h2; omega)
      go_wp2_with fail
      refine (held_intS _ _ _ _ 1 _ hq (by omega) (by omega) (OG4_10.arr1) (fun _ _ _ _ => rfl)).mono ?_
      rintro e u10 ⟨rfl, rfl⟩
      go_wp2_with fail
      refine (to_errandS _ _ _ X0 _ hn0 (ha0.on hq10)).mono ?_
      rintro e w11 ⟨vT6, rfl, hb11, OT6_11⟩
      have hs11 : Below w10.heap.size w10 w11 := below_call (by go_grown) hb11
      have hz11 := hs11.size
      have hq11 : Below w0.heap.size w0 w11 := hq10.trans (hs11.mono hq10.size)
      have OT1_11 := OT1_10.below hs11 (Nat.le_refl _)
      have OW2_11 := OW2_10.below hs11 (Nat.le_refl _)
      have OK3_11 := OK3_10.below hs11 (Nat.le_refl _)
      have OG4_11 := OG4_10.below hs11 (Nat.le_refl _)
      have OP5_11 := OP5_10.below hs11 (Nat.le_refl _)
      have BT6 : ∀ g, vT6.ownBlock = some g → w10.heap.size ≤ g ∧ g < w11.heap.size := fun g hg => ⟨Nat.le_trans (by first | exact Nat.le_refl _ | (simp only [World.size_alloc]; omega) | (simp only [World.size_alloc, World.size_drew]; omega)) (OT6_11.blk g hg).1, (OT6_11.blk g hg).2⟩
      have ET6 : ∀ g, vT6.ownBlock = some g → True := fun g hg => trivial
      obtain ⟨AT6, cT6, hvT6, hcT6, _⟩ := OT6_11.arr
      subst hvT6
      go_wp2_with fail
      refine (impl_fewest _ _ _ X0 _ HR.out q HQ.out _ hn0 (OT6_11.arr1)).mono ?_
      rintro e w12 ⟨vH7, rfl, hb12, OH7_12⟩
      have hs12 : Below w11.heap.size w11 w12 := below_call (by go_grown) hb12
      have hz12 := hs12.size
      have hq12 : Below w0.heap.size w0 w12 := hq11.trans (hs12.mono hq11.size)
      have OT1_12 := OT1_11.below hs12 (Nat.le_refl _)
      have OW2_12 := OW2_11.below hs12 (Nat.le_refl _)
      have OK3_12 := OK3_11.below hs12 (Nat.le_refl _)
      have OG4_12 := OG4_11.below hs12 (Nat.le_refl _)
      have OP5_12 := OP5_11.below hs12 (Nat.le_refl _)
      have OT6_12 := OT6_11.below hs12 (Nat.le_refl _)
      have BH7 : ∀ g, vH7.ownBlock = some g → w11.heap.size ≤ g ∧ g < w12.heap.size := fun g hg => ⟨Nat.le_trans (by first | exact Nat.le_refl _ | (simp only [World.size_alloc]; omega) | (simp only [World.size_alloc, World.size_drew]; omega)) (OH7_12.blk g hg).1, (OH7_12.blk g hg).2⟩
      have EH7 : ∀ g, vH7.ownBlock = some g → True := fun g hg => trivial
      obtain ⟨AH7, cH7, hvH7, hcH7, _⟩ := OH7_12.arr
      subst hvH7
      go_wp2_with fail
      refine (eq_intS _ _ _ _ _ _ (fun i _ => ((putAll (fwN n0 X0) (fwN n0 X0).length).getD i 0 : Nat)) (fun i _ => ((putAll (fwN n0 X0) (fwN n0 X0).length).getD i 0 : Nat)) true (eqX_self _ _ _) _ hq hq (OH7_12.arr1) (OW2_12.arr1)).mono ?_
      rintro e w13 ⟨rfl, hb13⟩
      have hs13 : Below w12.heap.size w12 w13 := below_call (by go_grown) hb13
      have hz13 := hs13.size
      have hq13 : Below w0.heap.size w0 w13 := hq12.trans (hs13.mono hq12.size)
      have OT1_13 := OT1_12.below hs13 (Nat.le_refl _)
      have OW2_13 := OW2_12.below hs13 (Nat.le_refl _)
      have OK3_13 := OK3_12.below hs13 (Nat.le_refl _)
      have OG4_13 := OG4_12.below hs13 (Nat.le_refl _)
      have OP5_13 := OP5_12.below hs13 (Nat.le_refl _)
      have OT6_13 := OT6_12.below hs13 (Nat.le_refl _)
      have OH7_13 := OH7_12.below hs13 (Nat.le_refl _)
      go_wp2_with fail
      refine (held_intS _ _ _ _ 1 _ hq (by omega) (by omega) (OG4_13.arr1) (fun _ _ _ _ => rfl)).mono ?_
      rintro e u13 ⟨rfl, rfl⟩
      go_wp2
      go_returns
      exact ⟨rfl, hq13⟩
  · have hs' : (1048576 : Int) < n0 := by omega
    go_enter Try.func5, Try.ntmps5
    go_wp2_with fail
    refine (sz_errandS_over _ _ _ _ hs' hm0 (by omega) (by omega) _).mono ?_
    rintro e u ⟨rfl, rfl⟩
    go_wp2
    go_returns
    exact ⟨rfl, by go_grown⟩
end Go.Proofs.Ytfdgnjnnbhelgaa
