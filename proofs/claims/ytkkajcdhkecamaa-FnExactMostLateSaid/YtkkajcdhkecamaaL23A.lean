/- Walks of laws, written by lawgen2.py out of their Go text. -/
import Derived.Test.YtkkajcdhkecamaaVisN
namespace Go.Proofs.Ytkkajcdhkecamaa
open Go.RowKit
set_option linter.unusedVariables false

set_option maxHeartbeats 4000000 in
set_option maxRecDepth 100000 in
theorem walk_FnExactLateOnes (A0 : Option Addr) (n0 c0 : Nat) (X0 : Nat → Nat → Int) (A1 : Option Addr) (n1 c1 : Nat) (X1 : Nat → Nat → Int) (w0 : World) (hm0 : n0 ≤ maxLen) (ha0 : Arr w0 w0.heap.size A0 n0 4 (iv X0)) (hm1 : n1 ≤ maxLen) (ha1 : Arr w0 w0.heap.size A1 n1 1 (iv X1)) :
    Calls Try.prog 9 #[.slice A0 n0 c0, .slice A1 n1 c1] w0 fun e w' => e = .returned (.bool true) ∧ Below w0.heap.size w0 w' := by
  have hfa := frozen_al; have hfo := frozen_out
  have hmx0 : n0 ≤ 9223372036854775807 := hm0
  have hmx1 : n1 ≤ 9223372036854775807 := hm1
  by_cases hs1_ : (n1 : Int) ≤ 1048576
  · skip
    by_cases hs0_ : (n0 : Int) ≤ 1048576
    · skip
      have hn0 : n0 ≤ 1048576 := by omega
      have hn1 : n1 ≤ 1048576 := by omega
      have hr0 : (0 : Int) ≤ 1048576 - n0 := by omega
      clear hmx0 hmx1
      obtain ⟨u, hu⟩ : ∃ u, (planB n0 n1 X1 && errsB n0 X0) = u := ⟨_, rfl⟩
      obtain ⟨q, hq0⟩ : ∃ q : Nat, q = onlyN u (lateL X0 X1 n1).length := ⟨_, rfl⟩
      have hq : q ≤ 1048576 := by rw [hq0]; exact onlyN_le (by have := lateL_len X0 X1 n1; omega)
      have HR := hide hu; have HQ := hide hq0
      clear hu hq0
      cases u
      all_goals
        go_enter Try.func9, Try.ntmps9
        go_wp2_with fail
        refine (sz_errandS_ok _ _ _ _ hs0_ (by omega) _).mono ?_
        rintro e u ⟨rfl, rfl⟩
        have hq0 : Below w0.heap.size w0 w0 := Below.refl _ _
        go_wp2_with fail
        refine (to_errandS _ _ _ X0 _ hn0 (ha0.on hq0)).mono ?_
        rintro e w1 ⟨vT1, rfl, hb1, OT1_1⟩
        have hs1 : Below w0.heap.size w0 w1 := below_call (by go_grown) hb1
        have hz1 := hs1.size
        have hq1 : Below w0.heap.size w0 w1 := hq0.trans (hs1.mono hq0.size)
        have BT1 : ∀ g, vT1.ownBlock = some g → w0.heap.size ≤ g ∧ g < w1.heap.size := fun g hg => ⟨Nat.le_trans (by first | exact Nat.le_refl _ | simp only [World.size_alloc]; omega) (OT1_1.blk g hg).1, (OT1_1.blk g hg).2⟩
        obtain ⟨AT1, cT1, hvT1, hcT1, _⟩ := OT1_1.arr
        subst hvT1
        go_wp2_with fail
        refine (to_intS _ _ _ X1 _ hn1 (ha1.on hq1)).mono ?_
        rintro e w2 ⟨vT2, rfl, hb2, OT2_2⟩
        have hs2 : Below w1.heap.size w1 w2 := below_call (by go_grown) hb2
        have hz2 := hs2.size
        have hq2 : Below w0.heap.size w0 w2 := hq1.trans (hs2.mono hq1.size)
        have OT1_2 := OT1_1.below hs2 (Nat.le_refl _)
        have BT2 : ∀ g, vT2.ownBlock = some g → w1.heap.size ≤ g ∧ g < w2.heap.size := fun g hg => ⟨Nat.le_trans (by first | exact Nat.le_refl _ | simp only [World.size_alloc]; omega) (OT2_2.blk g hg).1, (OT2_2.blk g hg).2⟩
        obtain ⟨AT2, cT2, hvT2, hcT2, _⟩ := OT2_2.arr
        subst hvT2
        go_wp2_with fail
        refine (spec_late _ _ _ _ _ _ X0 X1 _ q HQ.out HR.out _ hn0 hn1 hcT2 (OT1_2.arr1) (OT2_2.arr1)).mono ?_
        rintro e w3 ⟨vW3, rfl, hb3, OW3_3⟩
        have hs3 : Below w2.heap.size w2 w3 := below_call (by go_grown) hb3
        have hz3 := hs3.size
        have hq3 : Below w0.heap.size w0 w3 := hq2.trans (hs3.mono hq2.size)
        have OT1_3 := OT1_2.below hs3 (Nat.le_refl _)
        have OT2_3 := OT2_2.below hs3 (Nat.le_refl _)
        have BW3 : ∀ g, vW3.ownBlock = some g → w2.heap.size ≤ g ∧ g < w3.heap.size := fun g hg => ⟨Nat.le_trans (by first | exact Nat.le_refl _ | simp only [World.size_alloc]; omega) (OW3_3.blk g hg).1, (OW3_3.blk g hg).2⟩
        obtain ⟨AW3, cW3, hvW3, hcW3, _⟩ := OW3_3.arr
        subst hvW3
        go_wp2_with fail
        refine (to_errandS _ _ _ X0 _ hn0 (ha0.on hq3)).mono ?_
        rintro e w4 ⟨vK4, rfl, hb4, OK4_4⟩
        have hs4 : Below w3.heap.size w3 w4 := below_call (by go_grown) hb4
        have hz4 := hs4.size
        have hq4 : Below w0.heap.size w0 w4 := hq3.trans (hs4.mono hq3.size)
        have OT1_4 := OT1_3.below hs4 (Nat.le_refl _)
        have OT2_4 := OT2_3.below hs4 (Nat.le_refl _)
        have OW3_4 := OW3_3.below hs4 (Nat.le_refl _)
        have BK4 : ∀ g, vK4.ownBlock = some g → w3.heap.size ≤ g ∧ g < w4.heap.size := fun g hg => ⟨Nat.le_trans (by first | exact Nat.le_refl _ | simp only [World.size_alloc]; omega) (OK4_4.blk g hg).1, (OK4_4.blk g hg).2⟩
        obtain ⟨AK4, cK4, hvK4, hcK4, _⟩ := OK4_4.arr
        subst hvK4
        go_wp2_with fail
        refine (to_intS _ _ _ X1 _ hn1 (ha1.on hq4)).mono ?_
        rintro e w5 ⟨vK5, rfl, hb5, OK5_5⟩
        have hs5 : Below w4.heap.size w4 w5 := below_call (by go_grown) hb5
        have hz5 := hs5.size
        have hq5 : Below w0.heap.size w0 w5 := hq4.trans (hs5.mono hq4.size)
        have OT1_5 := OT1_4.below hs5 (Nat.le_refl _)
        have OT2_5 := OT2_4.below hs5 (Nat.le_refl _)
        have OW3_5 := OW3_4.below hs5 (Nat.le_refl _)
        have OK4_5 := OK4_4.below hs5 (Nat.le_refl _)
        have BK5 : ∀ g, vK5.ownBlock = some g → w4.heap.size ≤ g ∧ g < w5.heap.size := fun g hg => ⟨Nat.le_trans (by first | exact Nat.le_refl _ | simp only [World.size_alloc]; omega) (OK5_5.blk g hg).1, (OK5_5.blk g hg).2⟩
        obtain ⟨AK5, cK5, hvK5, hcK5, _⟩ := OK5_5.arr
        subst hvK5
        go_wp2_with fail
        refine (impl_late _ _ _ _ _ _ X0 X1 _ q HQ.out HR.out _ hn0 hn1 (OK4_5.arr1) (OK5_5.arr1)).mono ?_
        rintro e w6 ⟨vG6, rfl, hb6, OG6_6⟩
        have hs6 : Below w5.heap.size w5 w6 := below_call (by go_grown) hb6
        have hz6 := hs6.size
        have hq6 : Below w0.heap.size w0 w6 := hq5.trans (hs6.mono hq5.size)
        have OT1_6 := OT1_5.below hs6 (Nat.le_refl _)
        have OT2_6 := OT2_5.below hs6 (Nat.le_refl _)
        have OW3_6 := OW3_5.below hs6 (Nat.le_refl _)
        have OK4_6 := OK4_5.below hs6 (Nat.le_refl _)
        have OK5_6 := OK5_5.below hs6 (Nat.le_refl _)
        have BG6 : ∀ g, vG6.ownBlock = some g → w5.heap.size ≤ g ∧ g < w6.heap.size := fun g hg => ⟨Nat.le_trans (by first | exact Nat.le_refl _ | simp only [World.size_alloc]; omega) (OG6_6.blk g hg).1, (OG6_6.blk g hg).2⟩
        obtain ⟨AG6, cG6, hvG6, hcG6, _⟩ := OG6_6.arr
        subst hvG6
        go_wp2_with fail
        refine (eq_intS _ _ _ _ _ _ (lf (lateL X0 X1 n1)) (lf (lateL X0 X1 n1)) true (eqX_self _ _ _) _ hq hq (OG6_6.arr1) (OW3_6.arr1)).mono ?_
        rintro e w7 ⟨rfl, hb7⟩
        have hs7 : Below w6.heap.size w6 w7 := below_call (by go_grown) hb7
        have hz7 := hs7.size
        have hq7 : Below w0.heap.size w0 w7 := hq6.trans (hs7.mono hq6.size)
        have OT1_7 := OT1_6.below hs7 (Nat.le_refl _)
        have OT2_7 := OT2_6.below hs7 (Nat.le_refl _)
        have OW3_7 := OW3_6.below hs7 (Nat.le_refl _)
        have OK4_7 := OK4_6.below hs7 (Nat.le_refl _)
        have OK5_7 := OK5_6.below hs7 (Nat.le_refl _)
        have OG6_7 := OG6_6.below hs7 (Nat.le_refl _)
        go_wp2_with fail
        refine (to_errandS _ _ _ X0 _ hn0 (ha0.on hq7)).mono ?_
        rintro e w8 ⟨vP7, rfl, hb8, OP7_8⟩
        have hs8 : Below w7.heap.size w7 w8 := below_call (by go_grown) hb8
        have hz8 := hs8.size
        have hq8 : Below w0.heap.size w0 w8 := hq7.trans (hs8.mono hq7.size)
        have OT1_8 := OT1_7.below hs8 (Nat.le_refl _)
        have OT2_8 := OT2_7.below hs8 (Nat.le_refl _)
        have OW3_8 := OW3_7.below hs8 (Nat.le_refl _)
        have OK4_8 := OK4_7.below hs8 (Nat.le_refl _)
        have OK5_8 := OK5_7.below hs8 (Nat.le_refl _)
        have OG6_8 := OG6_7.below hs8 (Nat.le_refl _)
        have BP7 : ∀ g, vP7.ownBlock = some g → w7.heap.size ≤ g ∧ g < w8.heap.size := fun g hg => ⟨Nat.le_trans (by first | exact Nat.le_refl _ | simp only [World.size_alloc]; omega) (OP7_8.blk g hg).1, (OP7_8.blk g hg).2⟩
        obtain ⟨AP7, cP7, hvP7, hcP7, _⟩ := OP7_8.arr
        subst hvP7
        go_wp2_with fail
        refine (eq_errandS _ _ _ _ _ _ X0 X0 true (eqX_self _ _ _) _ hn0 hn0 (OK4_8.arr1) (OP7_8.arr1)).mono ?_
        rintro e w9 ⟨rfl, hb9⟩
        have hs9 : Below w8.heap.size w8 w9 := below_call (by go_grown) hb9
        have hz9 := hs9.size
        have hq9 : Below w0.heap.size w0 w9 := hq8.trans (hs9.mono hq8.size)
        have OT1_9 := OT1_8.below hs9 (Nat.le_refl _)
        have OT2_9 := OT2_8.below hs9 (Nat.le_refl _)
        have OW3_9 := OW3_8.below hs9 (Nat.le_refl _)
        have OK4_9 := OK4_8.below hs9 (Nat.le_refl _)
        have OK5_9 := OK5_8.below hs9 (Nat.le_refl _)
        have OG6_9 := OG6_8.below hs9 (Nat.le_refl _)
        have OP7_9 := OP7_8.below hs9 (Nat.le_refl _)
        go_wp2_with fail
        refine (to_intS _ _ _ X1 _ hn1 (ha1.on hq9)).mono ?_
        rintro e w10 ⟨vP8, rfl, hb10, OP8_10⟩
        have hs10 : Below w9.heap.size w9 w10 := below_call (by go_grown) hb10
        have hz10 := hs10.size
        have hq10 : Below w0.heap.size w0 w10 := hq9.trans (hs10.mono hq9.size)
        have OT1_10 := OT1_9.below hs10 (Nat.le_refl _)
        have OT2_10 := OT2_9.below hs10 (Nat.le_refl _)
        have OW3_10 := OW3_9.below hs10 (Nat.le_refl _)
        have OK4_10 := OK4_9.below hs10 (Nat.le_refl _)
        have OK5_10 := OK5_9.below hs10 (Nat.le_refl _)
        have OG6_10 := OG6_9.below hs10 (Nat.le_refl _)
        have OP7_10 := OP7_9.below hs10 (Nat.le_refl _)
        have BP8 : ∀ g, vP8.ownBlock = some g → w9.heap.size ≤ g ∧ g < w10.heap.size := fun g hg => ⟨Nat.le_trans (by first | exact Nat.le_refl _ | simp only [World.size_alloc]; omega) (OP8_10.blk g hg).1, (OP8_10.blk g hg).2⟩
        obtain ⟨AP8, cP8, hvP8, hcP8, _⟩ := OP8_10.arr
        subst hvP8
        go_wp2_with fail
        refine (eq_intS _ _ _ _ _ _ X1 X1 true (eqX_self _ _ _) _ hn1 hn1 (OK5_10.arr1) (OP8_10.arr1)).mono ?_
        rintro e w11 ⟨rfl, hb11⟩
        have hs11 : Below w10.heap.size w10 w11 := below_call (by go_grown) hb11
        have hz11 := hs11.size
        have hq11 : Below w0.heap.size w0 w11 := hq10.trans (hs11.mono hq10.size)
        have OT1_11 := OT1_10.below hs11 (Nat.le_refl _)
        have OT2_11 := OT2_10.below hs11 (Nat.le_refl _)
        have OW3_11 := OW3_10.below hs11 (Nat.le_refl _)
        have OK4_11 := OK4_10.below hs11 (Nat.le_refl _)
        have OK5_11 := OK5_10.below hs11 (Nat.le_refl _)
        have OG6_11 := OG6_10.below hs11 (Nat.le_refl _)
        have OP7_11 := OP7_10.below hs11 (Nat.le_refl _)
        have OP8_11 := OP8_10.below hs11 (Nat.le_refl _)
        go_wp2_with fail
        refine (mark_errandS _ _ _ _ _ _ _ hn0 (by omega) (by omega) OK4_11).mono ?_
        rintro e w12 ⟨rfl, hg12, OK4_12⟩
        have hz12 := hg12.size
        have hq12 : Below w0.heap.size w0 w12 := hq11.grown hg12 hq11.size (fun g hg => by have := (BK4 g hg).1; omega)
        have OT1_12 := OT1_11.apart hg12 (fun g h1 h2 => by have a1 := BK4 g h1; have a2 := BT1 g h2; omega)
        have OT2_12 := OT2_11.apart hg12 (fun g h1 h2 => by have a1 := BK4 g h1; have a2 := BT2 g h2; omega)
        have OW3_12 := OW3_11.apart hg12 (fun g h1 h2 => by have a1 := BK4 g h1; have a2 := BW3 g h2; omega)
        have OK5_12 := OK5_11.apart hg12 (fun g h1 h2 => by have a1 := BK4 g h1; have a2 := BK5 g h2; omega)
        have OG6_12 := OG6_11.apart hg12 (fun g h1 h2 => by have a1 := BK4 g h1; have a2 := BG6 g h2; omega)
        have OP7_12 := OP7_11.apart hg12 (fun g h1 h2 => by have a1 := BK4 g h1; have a2 := BP7 g h2; omega)
        have OP8_12 := OP8_11.apart hg12 (fun g h1 h2 => by have a1 := BK4 g h1; have a2 := BP8 g h2; omega)
        go_wp2_with fail
        refine (mark_intS _ _ _ _ _ _ _ hn1 (by omega) (by omega) OK5_12).mono ?_
        rintro e w13 ⟨rfl, hg13, OK5_13⟩
        have hz13 := hg13.size
        have hq13 : Below w0.heap.size w0 w13 := hq12.grown hg13 hq12.size (fun g hg => by have := (BK5 g hg).1; omega)
        have OT1_13 := OT1_12.apart hg13 (fun g h1 h2 => by have a1 := BK5 g h1; have a2 := BT1 g h2; omega)
        have OT2_13 := OT2_12.apart hg13 (fun g h1 h2 => by have a1 := BK5 g h1; have a2 := BT2 g h2; omega)
        have OW3_13 := OW3_12.apart hg13 (fun g h1 h2 => by have a1 := BK5 g h1; have a2 := BW3 g h2; omega)
        have OK4_13 := OK4_12.apart hg13 (fun g h1 h2 => by have a1 := BK5 g h1; have a2 := BK4 g h2; omega)
        have OG6_13 := OG6_12.apart hg13 (fun g h1 h2 => by have a1 := BK5 g h1; have a2 := BG6 g h2; omega)
        have OP7_13 := OP7_12.apart hg13 (fun g h1 h2 => by have a1 := BK5 g h1; have a2 := BP7 g h2; omega)
        have OP8_13 := OP8_12.apart hg13 (fun g h1 h2 => by have a1 := BK5 g h1; have a2 := BP8 g h2; omega)
        go_wp2_with fail
        refine (eq_intS _ _ _ _ _ _ (lf (lateL X0 X1 n1)) (lf (lateL X0 X1 n1)) true (eqX_self _ _ _) _ hq hq (OG6_13.arr1) (OW3_13.arr1)).mono ?_
        rintro e w14 ⟨rfl, hb14⟩
        have hs14 : Below w13.heap.size w13 w14 := below_call (by go_grown) hb14
        have hz14 := hs14.size
        have hq14 : Below w0.heap.size w0 w14 := hq13.trans (hs14.mono hq13.size)
        have OT1_14 := OT1_13.below hs14 (Nat.le_refl _)
        have OT2_14 := OT2_13.below hs14 (Nat.le_refl _)
        have OW3_14 := OW3_13.below hs14 (Nat.le_refl _)
        have OK4_14 := OK4_13.below hs14 (Nat.le_refl _)
        have OK5_14 := OK5_13.below hs14 (Nat.le_refl _)
        have OG6_14 := OG6_13.below hs14 (Nat.le_refl _)
        have OP7_14 := OP7_13.below hs14 (Nat.le_refl _)
        have OP8_14 := OP8_13.below hs14 (Nat.le_refl _)
        go_wp2_with fail
        refine (mark_intS _ _ _ _ _ _ _ hq (by omega) (by omega) OG6_14).mono ?_
        rintro e w15 ⟨rfl, hg15, OG6_15⟩
        have hz15 := hg15.size
        have hq15 : Below w0.heap.size w0 w15 := hq14.grown hg15 hq14.size (fun g hg => by have := (BG6 g hg).1; omega)
        have OT1_15 := OT1_14.apart hg15 (fun g h1 h2 => by have a1 := BG6 g h1; have a2 := BT1 g h2; omega)
        have OT2_15 := OT2_14.apart hg15 (fun g h1 h2 => by have a1 := BG6 g h1; have a2 := BT2 g h2; omega)
        have OW3_15 := OW3_14.apart hg15 (fun g h1 h2 => by have a1 := BG6 g h1; have a2 := BW3 g h2; omega)
        have OK4_15 := OK4_14.apart hg15 (fun g h1 h2 => by have a1 := BG6 g h1; have a2 := BK4 g h2; omega)
        have OK5_15 := OK5_14.apart hg15 (fun g h1 h2 => by have a1 := BG6 g h1; have a2 := BK5 g h2; omega)
        have OP7_15 := OP7_14.apart hg15 (fun g h1 h2 => by have a1 := BG6 g h1; have a2 := BP7 g h2; omega)
        have OP8_15 := OP8_14.apart hg15 (fun g h1 h2 => by have a1 := BG6 g h1; have a2 := BP8 g h2; omega)
        go_wp2_with fail
        refine (held_intS _ _ _ _ 1 _ hq (by omega) (by omega) (OG6_15.arr1) (fun _ _ _ _ => rfl)).mono ?_
        rintro e u15 ⟨rfl, rfl⟩
        go_wp2_with fail
        refine (to_errandS _ _ _ X0 _ hn0 (ha0.on hq15)).mono ?_
        rintro e w16 ⟨vT9, rfl, hb16, OT9_16⟩
        have hs16 : Below w15.heap.size w15 w16 := below_call (by go_grown) hb16
        have hz16 := hs16.size
        have hq16 : Below w0.heap.size w0 w16 := hq15.trans (hs16.mono hq15.size)
        have OT1_16 := OT1_15.below hs16 (Nat.le_refl _)
        have OT2_16 := OT2_15.below hs16 (Nat.le_refl _)
        have OW3_16 := OW3_15.below hs16 (Nat.le_refl _)
        have OK4_16 := OK4_15.below hs16 (Nat.le_refl _)
        have OK5_16 := OK5_15.below hs16 (Nat.le_refl _)
        have OG6_16 := OG6_15.below hs16 (Nat.le_refl _)
        have OP7_16 := OP7_15.below hs16 (Nat.le_refl _)
        have OP8_16 := OP8_15.below hs16 (Nat.le_refl _)
        have BT9 : ∀ g, vT9.ownBlock = some g → w15.heap.size ≤ g ∧ g < w16.heap.size := fun g hg => ⟨Nat.le_trans (by first | exact Nat.le_refl _ | simp only [World.size_alloc]; omega) (OT9_16.blk g hg).1, (OT9_16.blk g hg).2⟩
        obtain ⟨AT9, cT9, hvT9, hcT9, _⟩ := OT9_16.arr
        subst hvT9
        go_wp2_with fail
        refine (to_intS _ _ _ X1 _ hn1 (ha1.on hq16)).mono ?_
        rintro e w17 ⟨vT10, rfl, hb17, OT10_17⟩
        have hs17 : Below w16.heap.size w16 w17 := below_call (by go_grown) hb17
        have hz17 := hs17.size
        have hq17 : Below w0.heap.size w0 w17 := hq16.trans (hs17.mono hq16.size)
        have OT1_17 := OT1_16.below hs17 (Nat.le_refl _)
        have OT2_17 := OT2_16.below hs17 (Nat.le_refl _)
        have OW3_17 := OW3_16.below hs17 (Nat.le_refl _)
        have OK4_17 := OK4_16.below hs17 (Nat.le_refl _)
        have OK5_17 := OK5_16.below hs17 (Nat.le_refl _)
        have OG6_17 := OG6_16.below hs17 (Nat.le_refl _)
        have OP7_17 := OP7_16.below hs17 (Nat.le_refl _)
        have OP8_17 := OP8_16.below hs17 (Nat.le_refl _)
        have OT9_17 := OT9_16.below hs17 (Nat.le_refl _)
        have BT10 : ∀ g, vT10.ownBlock = some g → w16.heap.size ≤ g ∧ g < w17.heap.size := fun g hg => ⟨Nat.le_trans (by first | exact Nat.le_refl _ | simp only [World.size_alloc]; omega) (OT10_17.blk g hg).1, (OT10_17.blk g hg).2⟩
        obtain ⟨AT10, cT10, hvT10, hcT10, _⟩ := OT10_17.arr
        subst hvT10
        go_wp2_with fail
        refine (impl_late _ _ _ _ _ _ X0 X1 _ q HQ.out HR.out _ hn0 hn1 (OT9_17.arr1) (OT10_17.arr1)).mono ?_
        rintro e w18 ⟨vH11, rfl, hb18, OH11_18⟩
        have hs18 : Below w17.heap.size w17 w18 := below_call (by go_grown) hb18
        have hz18 := hs18.size
        have hq18 : Below w0.heap.size w0 w18 := hq17.trans (hs18.mono hq17.size)
        have OT1_18 := OT1_17.below hs18 (Nat.le_refl _)
        have OT2_18 := OT2_17.below hs18 (Nat.le_refl _)
        have OW3_18 := OW3_17.below hs18 (Nat.le_refl _)
        have OK4_18 := OK4_17.below hs18 (Nat.le_refl _)
        have OK5_18 := OK5_17.below hs18 (Nat.le_refl _)
        have OG6_18 := OG6_17.below hs18 (Nat.le_refl _)
        have OP7_18 := OP7_17.below hs18 (Nat.le_refl _)
        have OP8_18 := OP8_17.below hs18 (Nat.le_refl _)
        have OT9_18 := OT9_17.below hs18 (Nat.le_refl _)
        have OT10_18 := OT10_17.below hs18 (Nat.le_refl _)
        have BH11 : ∀ g, vH11.ownBlock = some g → w17.heap.size ≤ g ∧ g < w18.heap.size := fun g hg => ⟨Nat.le_trans (by first | exact Nat.le_refl _ | simp only [World.size_alloc]; omega) (OH11_18.blk g hg).1, (OH11_18.blk g hg).2⟩
        obtain ⟨AH11, cH11, hvH11, hcH11, _⟩ := OH11_18.arr
        subst hvH11
        go_wp2_with fail
        refine (eq_intS _ _ _ _ _ _ (lf (lateL X0 X1 n1)) (lf (lateL X0 X1 n1)) true (eqX_self _ _ _) _ hq hq (OH11_18.arr1) (OW3_18.arr1)).mono ?_
        rintro e w19 ⟨rfl, hb19⟩
        have hs19 : Below w18.heap.size w18 w19 := below_call (by go_grown) hb19
        have hz19 := hs19.size
        have hq19 : Below w0.heap.size w0 w19 := hq18.trans (hs19.mono hq18.size)
        have OT1_19 := OT1_18.below hs19 (Nat.le_refl _)
        have OT2_19 := OT2_18.below hs19 (Nat.le_refl _)
        have OW3_19 := OW3_18.below hs19 (Nat.le_refl _)
        have OK4_19 := OK4_18.below hs19 (Nat.le_refl _)
        have OK5_19 := OK5_18.below hs19 (Nat.le_refl _)
        have OG6_19 := OG6_18.below hs19 (Nat.le_refl _)
        have OP7_19 := OP7_18.below hs19 (Nat.le_refl _)
        have OP8_19 := OP8_18.below hs19 (Nat.le_refl _)
        have OT9_19 := OT9_18.below hs19 (Nat.le_refl _)
        have OT10_19 := OT10_18.below hs19 (Nat.le_refl _)
        have OH11_19 := OH11_18.below hs19 (Nat.le_refl _)
        go_wp2_with fail
        refine (held_intS _ _ _ _ 1 _ hq (by omega) (by omega) (OG6_19.arr1) (fun _ _ _ _ => rfl)).mono ?_
        rintro e u19 ⟨rfl, rfl⟩
        go_wp2
        go_returns
        exact ⟨rfl, hq19⟩
    · have hs' : (1048576 : Int) < n0 := by omega
      go_enter Try.func9, Try.ntmps9
      go_wp2_with fail
      refine (sz_errandS_over _ _ _ _ hs' hm0 (by omega) (by omega) _).mono ?_
      rintro e u ⟨rfl, rfl⟩
      go_wp2
      go_returns
      exact ⟨rfl, by go_grown⟩
  · have hs' : (1048576 : Int) < n1 := by omega
    go_enter Try.func9, Try.ntmps9
    go_wp2
    go_returns
    exact ⟨rfl, by go_grown⟩

set_option maxHeartbeats 4000000 in
set_option maxRecDepth 100000 in
theorem walk_FnExactMostLate (A0 : Option Addr) (n0 c0 : Nat) (X0 : Nat → Nat → Int) (A1 : Option Addr) (n1 c1 : Nat) (X1 : Nat → Nat → Int) (w0 : World) (hm0 : n0 ≤ maxLen) (ha0 : Arr w0 w0.heap.size A0 n0 4 (iv X0)) (hm1 : n1 ≤ maxLen) (ha1 : Arr w0 w0.heap.size A1 n1 1 (iv X1)) :
    Calls Try.prog 7 #[.slice A0 n0 c0, .slice A1 n1 c1] w0 fun e w' => e = .returned (.bool true) ∧ Below w0.heap.size w0 w' := by
  have hfa := frozen_al; have hfo := frozen_out
  have hmx0 : n0 ≤ 9223372036854775807 := hm0
  have hmx1 : n1 ≤ 9223372036854775807 := hm1
  by_cases hs1_ : (n1 : Int) ≤ 1048576
  · skip
    by_cases hs0_ : (n0 : Int) ≤ 1048576
    · skip
      have hn0 : n0 ≤ 1048576 := by omega
      have hn1 : n1 ≤ 1048576 := by omega
      have hr0 : (0 : Int) ≤ 1048576 - n0 := by omega
      clear hmx0 hmx1
      obtain ⟨u, hu⟩ : ∃ u, (planB n0 n1 X1 && errsB n0 X0) = u := ⟨_, rfl⟩
      obtain ⟨r, hr⟩ : ∃ r : Int, onlyI u (mostL X0 X1 n1) = r := ⟨_, rfl⟩
      have HR := hide hu; have HQ := hide hr
      clear hu hr
      cases u
      all_goals
        go_enter Try.func7, Try.ntmps7
        go_wp2_with fail
        refine (sz_errandS_ok _ _ _ _ hs0_ (by omega) _).mono ?_
        rintro e u ⟨rfl, rfl⟩
        have hq0 : Below w0.heap.size w0 w0 := Below.refl _ _
        go_wp2_with fail
        refine (to_errandS _ _ _ X0 _ hn0 (ha0.on hq0)).mono ?_
        rintro e w1 ⟨vT1, rfl, hb1, OT1_1⟩
        have hs1 : Below w0.heap.size w0 w1 := below_call (by go_grown) hb1
        have hz1 := hs1.size
        have hq1 : Below w0.heap.size w0 w1 := hq0.trans (hs1.mono hq0.size)
        have BT1 : ∀ g, vT1.ownBlock = some g → w0.heap.size ≤ g ∧ g < w1.heap.size := fun g hg => ⟨Nat.le_trans (by first | exact Nat.le_refl _ | simp only [World.size_alloc]; omega) (OT1_1.blk g hg).1, (OT1_1.blk g hg).2⟩
        obtain ⟨AT1, cT1, hvT1, hcT1, _⟩ := OT1_1.arr
        subst hvT1
        go_wp2_with fail
        refine (to_intS _ _ _ X1 _ hn1 (ha1.on hq1)).mono ?_
        rintro e w2 ⟨vT2, rfl, hb2, OT2_2⟩
        have hs2 : Below w1.heap.size w1 w2 := below_call (by go_grown) hb2
        have hz2 := hs2.size
        have hq2 : Below w0.heap.size w0 w2 := hq1.trans (hs2.mono hq1.size)
        have OT1_2 := OT1_1.below hs2 (Nat.le_refl _)
        have BT2 : ∀ g, vT2.ownBlock = some g → w1.heap.size ≤ g ∧ g < w2.heap.size := fun g hg => ⟨Nat.le_trans (by first | exact Nat.le_refl _ | simp only [World.size_alloc]; omega) (OT2_2.blk g hg).1, (OT2_2.blk g hg).2⟩
        obtain ⟨AT2, cT2, hvT2, hcT2, _⟩ := OT2_2.arr
        subst hvT2
        go_wp2_with fail
        refine (spec_most23 _ _ _ _ _ _ X0 X1 _ r HQ.out HR.out _ hn0 hn1 hcT2 (OT1_2.arr1) (OT2_2.arr1)).mono ?_
        rintro e w3 ⟨rfl, hb3⟩
        have hs3 : Below w2.heap.size w2 w3 := below_call (by go_grown) hb3
        have hz3 := hs3.size
        have hq3 : Below w0.heap.size w0 w3 := hq2.trans (hs3.mono hq2.size)
        have OT1_3 := OT1_2.below hs3 (Nat.le_refl _)
        have OT2_3 := OT2_2.below hs3 (Nat.le_refl _)
        go_wp2_with fail
        refine (to_errandS _ _ _ X0 _ hn0 (ha0.on hq3)).mono ?_
        rintro e w4 ⟨vK3, rfl, hb4, OK3_4⟩
        have hs4 : Below w3.heap.size w3 w4 := below_call (by go_grown) hb4
        have hz4 := hs4.size
        have hq4 : Below w0.heap.size w0 w4 := hq3.trans (hs4.mono hq3.size)
        have OT1_4 := OT1_3.below hs4 (Nat.le_refl _)
        have OT2_4 := OT2_3.below hs4 (Nat.le_refl _)
        have BK3 : ∀ g, vK3.ownBlock = some g → w3.heap.size ≤ g ∧ g < w4.heap.size := fun g hg => ⟨Nat.le_trans (by first | exact Nat.le_refl _ | simp only [World.size_alloc]; omega) (OK3_4.blk g hg).1, (OK3_4.blk g hg).2⟩
        obtain ⟨AK3, cK3, hvK3, hcK3, _⟩ := OK3_4.arr
        subst hvK3
        go_wp2_with fail
        refine (to_intS _ _ _ X1 _ hn1 (ha1.on hq4)).mono ?_
        rintro e w5 ⟨vK4, rfl, hb5, OK4_5⟩
        have hs5 : Below w4.heap.size w4 w5 := below_call (by go_grown) hb5
        have hz5 := hs5.size
        have hq5 : Below w0.heap.size w0 w5 := hq4.trans (hs5.mono hq4.size)
        have OT1_5 := OT1_4.below hs5 (Nat.le_refl _)
        have OT2_5 := OT2_4.below hs5 (Nat.le_refl _)
        have OK3_5 := OK3_4.below hs5 (Nat.le_refl _)
        have BK4 : ∀ g, vK4.ownBlock = some g → w4.heap.size ≤ g ∧ g < w5.heap.size := fun g hg => ⟨Nat.le_trans (by first | exact Nat.le_refl _ | simp only [World.size_alloc]; omega) (OK4_5.blk g hg).1, (OK4_5.blk g hg).2⟩
        obtain ⟨AK4, cK4, hvK4, hcK4, _⟩ := OK4_5.arr
        subst hvK4
        go_wp2_with fail
        refine (impl_most23 _ _ _ _ _ _ X0 X1 _ r HQ.out HR.out _ hn0 hn1 (OK3_5.arr1) (OK4_5.arr1)).mono ?_
        rintro e w6 ⟨rfl, hb6⟩
        have hs6 : Below w5.heap.size w5 w6 := below_call (by go_grown) hb6
        have hz6 := hs6.size
        have hq6 : Below w0.heap.size w0 w6 := hq5.trans (hs6.mono hq5.size)
        have OT1_6 := OT1_5.below hs6 (Nat.le_refl _)
        have OT2_6 := OT2_5.below hs6 (Nat.le_refl _)
        have OK3_6 := OK3_5.below hs6 (Nat.le_refl _)
        have OK4_6 := OK4_5.below hs6 (Nat.le_refl _)
        go_wp2_with fail
        refine (to_errandS _ _ _ X0 _ hn0 (ha0.on hq6)).mono ?_
        rintro e w7 ⟨vP5, rfl, hb7, OP5_7⟩
        have hs7 : Below w6.heap.size w6 w7 := below_call (by go_grown) hb7
        have hz7 := hs7.size
        have hq7 : Below w0.heap.size w0 w7 := hq6.trans (hs7.mono hq6.size)
        have OT1_7 := OT1_6.below hs7 (Nat.le_refl _)
        have OT2_7 := OT2_6.below hs7 (Nat.le_refl _)
        have OK3_7 := OK3_6.below hs7 (Nat.le_refl _)
        have OK4_7 := OK4_6.below hs7 (Nat.le_refl _)
        have BP5 : ∀ g, vP5.ownBlock = some g → w6.heap.size ≤ g ∧ g < w7.heap.size := fun g hg => ⟨Nat.le_trans (by first | exact Nat.le_refl _ | simp only [World.size_alloc]; omega) (OP5_7.blk g hg).1, (OP5_7.blk g hg).2⟩
        obtain ⟨AP5, cP5, hvP5, hcP5, _⟩ := OP5_7.arr
        subst hvP5
        go_wp2_with fail
        refine (eq_errandS _ _ _ _ _ _ X0 X0 true (eqX_self _ _ _) _ hn0 hn0 (OK3_7.arr1) (OP5_7.arr1)).mono ?_
        rintro e w8 ⟨rfl, hb8⟩
        have hs8 : Below w7.heap.size w7 w8 := below_call (by go_grown) hb8
        have hz8 := hs8.size
        have hq8 : Below w0.heap.size w0 w8 := hq7.trans (hs8.mono hq7.size)
        have OT1_8 := OT1_7.below hs8 (Nat.le_refl _)
        have OT2_8 := OT2_7.below hs8 (Nat.le_refl _)
        have OK3_8 := OK3_7.below hs8 (Nat.le_refl _)
        have OK4_8 := OK4_7.below hs8 (Nat.le_refl _)
        have OP5_8 := OP5_7.below hs8 (Nat.le_refl _)
        go_wp2_with fail
        refine (to_intS _ _ _ X1 _ hn1 (ha1.on hq8)).mono ?_
        rintro e w9 ⟨vP6, rfl, hb9, OP6_9⟩
        have hs9 : Below w8.heap.size w8 w9 := below_call (by go_grown) hb9
        have hz9 := hs9.size
        have hq9 : Below w0.heap.size w0 w9 := hq8.trans (hs9.mono hq8.size)
        have OT1_9 := OT1_8.below hs9 (Nat.le_refl _)
        have OT2_9 := OT2_8.below hs9 (Nat.le_refl _)
        have OK3_9 := OK3_8.below hs9 (Nat.le_refl _)
        have OK4_9 := OK4_8.below hs9 (Nat.le_refl _)
        have OP5_9 := OP5_8.below hs9 (Nat.le_refl _)
        have BP6 : ∀ g, vP6.ownBlock = some g → w8.heap.size ≤ g ∧ g < w9.heap.size := fun g hg => ⟨Nat.le_trans (by first | exact Nat.le_refl _ | simp only [World.size_alloc]; omega) (OP6_9.blk g hg).1, (OP6_9.blk g hg).2⟩
        obtain ⟨AP6, cP6, hvP6, hcP6, _⟩ := OP6_9.arr
        subst hvP6
        go_wp2_with fail
        refine (eq_intS _ _ _ _ _ _ X1 X1 true (eqX_self _ _ _) _ hn1 hn1 (OK4_9.arr1) (OP6_9.arr1)).mono ?_
        rintro e w10 ⟨rfl, hb10⟩
        have hs10 : Below w9.heap.size w9 w10 := below_call (by go_grown) hb10
        have hz10 := hs10.size
        have hq10 : Below w0.heap.size w0 w10 := hq9.trans (hs10.mono hq9.size)
        have OT1_10 := OT1_9.below hs10 (Nat.le_refl _)
        have OT2_10 := OT2_9.below hs10 (Nat.le_refl _)
        have OK3_10 := OK3_9.below hs10 (Nat.le_refl _)
        have OK4_10 := OK4_9.below hs10 (Nat.le_refl _)
        have OP5_10 := OP5_9.below hs10 (Nat.le_refl _)
        have OP6_10 := OP6_9.below hs10 (Nat.le_refl _)
        go_wp2
        go_returns
        exact ⟨rfl, hq10⟩
    · have hs' : (1048576 : Int) < n0 := by omega
      go_enter Try.func7, Try.ntmps7
      go_wp2_with fail
      refine (sz_errandS_over _ _ _ _ hs' hm0 (by omega) (by omega) _).mono ?_
      rintro e u ⟨rfl, rfl⟩
      go_wp2
      go_returns
      exact ⟨rfl, by go_grown⟩
  · have hs' : (1048576 : Int) < n1 := by omega
    go_enter Try.func7, Try.ntmps7
    go_wp2
    go_returns
    exact ⟨rfl, by go_grown⟩
end Go.Proofs.Ytkkajcdhkecamaa
