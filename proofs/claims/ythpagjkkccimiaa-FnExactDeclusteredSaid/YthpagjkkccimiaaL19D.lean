/- Walks of laws, written by lawgen2.py out of their Go text. -/
import Derived.Test.YthpagjkkccimiaaClu3
import Derived.Test.YthpagjkkccimiaaTyLinking
import Derived.Test.YthpagjkkccimiaaTyQuake
import Derived.Test.YthpagjkkccimiaaGrow
import Derived.Test.YthpagjkkccimiaaCells
namespace Go.Proofs.Ythpagjkkccimiaa
open Go.RowKit
set_option linter.unusedVariables false
set_option linter.unusedSimpArgs false

set_option maxHeartbeats 4000000 in
set_option maxRecDepth 100000 in
theorem walk_FnExactAftershocksOf (A0 : Option Addr) (n0 c0 : Nat) (X0 : Nat → Nat → Int) (x1_0 x1_1 x1_2 : Int) (x2 : Int) (w0 : World) (hm0 : n0 ≤ maxLen) (ha0 : Arr w0 w0.heap.size A0 n0 4 (iv X0)) (hx2 : -9223372036854775808 ≤ x2 ∧ x2 ≤ 9223372036854775807) :
    Calls Try.prog 7 #[.slice A0 n0 c0, .agg #[.int .i64 x1_0, .int .i64 x1_1, .int .i64 x1_2], .int .i64 x2] w0 fun e w' => e = .returned (.bool true) ∧ Below w0.heap.size w0 w' := by
  have hfa := frozen_al; have hfo := frozen_out
  have hmx0 : n0 ≤ 9223372036854775807 := hm0
  by_cases hs0_ : (n0 : Int) ≤ 1048576
  · skip
    have hn0 : n0 ≤ 1048576 := by omega
    have hr0 : (0 : Int) ≤ 1048576 - n0 := by omega
    clear hmx0
    obtain ⟨u, hu⟩ : ∃ u, ((catB n0 X0 && linkB x1_0 x1_1 x1_2) && inB x2 0 ((n0 : Int) - 1)) = u := ⟨_, rfl⟩
    have HR := hide hu
    clear hu
    obtain ⟨q, hq0⟩ : ∃ q : Nat, q = onlyN u (aftL n0 (rchX x1_0 x1_1 x1_2 X0) (sizeS X0) x2.toNat).length := ⟨_, rfl⟩
    have hq : q ≤ 1048576 := by rw [hq0]; exact onlyN_le (by have := aftL_len n0 (rchX x1_0 x1_1 x1_2 X0) (sizeS X0) x2.toNat; omega)
    have HQ := hide hq0
    clear hq0
    cases u
    all_goals
      go_enter Try.func7, Try.ntmps7
      go_wp2_with fail
      refine (sz_quakeS_ok _ _ _ _ hs0_ (by omega) _).mono ?_
      rintro e u ⟨rfl, rfl⟩
      have hq0 : Below w0.heap.size w0 w0 := Below.refl _ _
      go_wp2_with fail
      have hS0 := S_of ((Below.refl (w0.alloc (.cells #[.int .i64 x1_0, .int .i64 x1_1, .int .i64 x1_2] 24)).heap.size (w0.alloc (.cells #[.int .i64 x1_0, .int .i64 x1_1, .int .i64 x1_2] 24))).drew)
      go_region_held3 (fun w' => (∀ b o, b < (w0.alloc (.cells #[.int .i64 x1_0, .int .i64 x1_1, .int .i64 x1_2] 24)).heap.size → w'.cell? ⟨b, o, none⟩ = (w0.alloc (.cells #[.int .i64 x1_0, .int .i64 x1_1, .int .i64 x1_2] 24)).cell? ⟨b, o, none⟩) ∧ Below (w0.alloc (.cells #[.int .i64 x1_0, .int .i64 x1_1, .int .i64 x1_2] 24)).heap.size (w0.alloc (.cells #[.int .i64 x1_0, .int .i64 x1_1, .int .i64 x1_2] 24)) w') (assumption) (first | ((go_at_call 15); (refine (to_quakeS _ _ _ X0 _ hn0 (ha0.on (below_call hq0 (by go_grown)))).mono ?_); (rintro e w1 ⟨vT1, rfl, hb1, OT1_1⟩); (have hs1 : Below w0.heap.size w0 w1 := below_call (by go_grown) hb1); (have hz1 := hs1.size); (have HX0_1 := ((Cells.new w0 _ [.int .i64 x1_0, .int .i64 x1_1, .int .i64 x1_2] 24 rfl).on (Below.refl _ _).drew).on hb1); (have hq1 : Below w0.heap.size w0 w1 := hq0.trans (hs1.mono hq0.size)); (have BT1 : ∀ g, vT1.ownBlock = some g → w0.heap.size ≤ g ∧ g < w1.heap.size := fun g hg => ⟨Nat.le_trans (by first | exact Nat.le_refl _ | (simp only [World.size_alloc]; omega) | (simp only [World.size_alloc, World.size_drew]; omega)) (OT1_1.blk g hg).1, (OT1_1.blk g hg).2⟩); (have ET1 : ∀ g, vT1.ownBlock = some g → True := fun g hg => trivial); (obtain ⟨AT1, cT1, hvT1, hcT1, _⟩ := OT1_1.arr); (subst hvT1); (have hS1 := S_of (below_call (Below.refl _ _).drew hb1))) | ((go_at_call 16); (refine (to_linking _ _ _ _).mono ?_); (rintro e w2 ⟨rfl, hb2⟩); (have hs2 : Below w1.heap.size w1 w2 := below_call (by go_grown) hb2); (have hz2 := hs2.size); (have HX0_2 := HX0_1.on hb2); (have hq2 : Below w0.heap.size w0 w2 := hq1.trans (hs2.mono hq1.size)); (have OT1_2 := OT1_1.below hs2 (Nat.le_refl _)); (have hS2 := S_of (below_call hS1.2 hb2))) | ((go_at_call 29); (refine (spec_aft _ _ _ X0 _ _ _ _ _ HR.out q HQ.out _ hn0 ((OT1_2.below (by go_grown) (Nat.le_refl _)).arr1)).mono ?_); (rintro e w3 ⟨vW2, rfl, hb3, OW2_3⟩); (have hs3 : Below w2.heap.size w2 w3 := below_call (by go_grown) hb3); (have hz3 := hs3.size); (have HX0_3 := HX0_2.on hb3); (have hq3 : Below w0.heap.size w0 w3 := hq2.trans (hs3.mono hq2.size)); (have OT1_3 := OT1_2.below hs3 (Nat.le_refl _)); (have BW2 : ∀ g, vW2.ownBlock = some g → w2.heap.size ≤ g ∧ g < w3.heap.size := fun g hg => ⟨Nat.le_trans (by first | exact Nat.le_refl _ | (simp only [World.size_alloc]; omega) | (simp only [World.size_alloc, World.size_drew]; omega)) (OW2_3.blk g hg).1, (OW2_3.blk g hg).2⟩); (have EW2 : ∀ g, vW2.ownBlock = some g → True := fun g hg => trivial); (obtain ⟨AW2, cW2, hvW2, hcW2, _⟩ := OW2_3.arr); (subst hvW2); (have hS3 := S_of (below_call hS2.2 hb3))))
      clear hS0 hS1 hS2 hS3
      have lx0_3_0 := HX0_3.2 0 _ rfl
      have lx0_3_1 := HX0_3.2 1 _ rfl
      have lx0_3_2 := HX0_3.2 2 _ rfl
      have ly0_3 := HX0_3.1
      go_wp2_with fail
      refine (to_quakeS _ _ _ X0 _ hn0 (ha0.on (below_call hq3 (by go_grown)))).mono ?_
      rintro e w4 ⟨vK3, rfl, hb4, OK3_4⟩
      have hs4 : Below w3.heap.size w3 w4 := below_call (by go_grown) hb4
      have hz4 := hs4.size
      have HX0_4 := HX0_3.on hb4
      have hq4 : Below w0.heap.size w0 w4 := hq3.trans (hs4.mono hq3.size)
      have OT1_4 := OT1_3.below hs4 (Nat.le_refl _)
      have OW2_4 := OW2_3.below hs4 (Nat.le_refl _)
      have BK3 : ∀ g, vK3.ownBlock = some g → w3.heap.size ≤ g ∧ g < w4.heap.size := fun g hg => ⟨Nat.le_trans (by first | exact Nat.le_refl _ | (simp only [World.size_alloc]; omega) | (simp only [World.size_alloc, World.size_drew]; omega)) (OK3_4.blk g hg).1, (OK3_4.blk g hg).2⟩
      have EK3 : ∀ g, vK3.ownBlock = some g → True := fun g hg => trivial
      obtain ⟨AK3, cK3, hvK3, hcK3, _⟩ := OK3_4.arr
      subst hvK3
      clear lx0_3_0 lx0_3_1 lx0_3_2
      have lx0_4_0 := HX0_4.2 0 _ rfl
      have lx0_4_1 := HX0_4.2 1 _ rfl
      have lx0_4_2 := HX0_4.2 2 _ rfl
      have ly0_4 := HX0_4.1
      go_wp2_with fail
      refine (to_linking _ _ _ _).mono ?_
      rintro e w5 ⟨rfl, hb5⟩
      have hs5 : Below w4.heap.size w4 w5 := below_call (by go_grown) hb5
      have hz5 := hs5.size
      have HX0_5 := HX0_4.on hb5
      have hq5 : Below w0.heap.size w0 w5 := hq4.trans (hs5.mono hq4.size)
      have OT1_5 := OT1_4.below hs5 (Nat.le_refl _)
      have OW2_5 := OW2_4.below hs5 (Nat.le_refl _)
      have OK3_5 := OK3_4.below hs5 (Nat.le_refl _)
      clear lx0_4_0 lx0_4_1 lx0_4_2
      have lx0_5_0 := HX0_5.2 0 _ rfl
      have lx0_5_1 := HX0_5.2 1 _ rfl
      have lx0_5_2 := HX0_5.2 2 _ rfl
      have ly0_5 := HX0_5.1
      go_wp2_with fail
      refine (impl_aft _ _ _ X0 _ _ _ _ _ HR.out q HQ.out _ hn0 ((OK3_5.below (by go_grown) (Nat.le_refl _)).arr1)).mono ?_
      rintro e w6 ⟨vG4, rfl, hb6, OG4_6⟩
      have hs6 : Below w5.heap.size w5 w6 := below_call (by go_grown) hb6
      have hz6 := hs6.size
      have HX0_6 := HX0_5.on hb6
      have hq6 : Below w0.heap.size w0 w6 := hq5.trans (hs6.mono hq5.size)
      have OT1_6 := OT1_5.below hs6 (Nat.le_refl _)
      have OW2_6 := OW2_5.below hs6 (Nat.le_refl _)
      have OK3_6 := OK3_5.below hs6 (Nat.le_refl _)
      have BG4 : ∀ g, vG4.ownBlock = some g → w5.heap.size ≤ g ∧ g < w6.heap.size := fun g hg => ⟨Nat.le_trans (by first | exact Nat.le_refl _ | (simp only [World.size_alloc]; omega) | (simp only [World.size_alloc, World.size_drew]; omega)) (OG4_6.blk g hg).1, (OG4_6.blk g hg).2⟩
      have EG4 : ∀ g, vG4.ownBlock = some g → True := fun g hg => trivial
      obtain ⟨AG4, cG4, hvG4, hcG4, _⟩ := OG4_6.arr
      subst hvG4
      clear lx0_5_0 lx0_5_1 lx0_5_2
      have lx0_6_0 := HX0_6.2 0 _ rfl
      have lx0_6_1 := HX0_6.2 1 _ rfl
      have lx0_6_2 := HX0_6.2 2 _ rfl
      have ly0_6 := HX0_6.1
      go_wp2_with fail
      refine (eq_intS _ _ _ _ _ _ (fun p _ => ((aftL n0 (rchX x1_0 x1_1 x1_2 X0) (sizeS X0) x2.toNat).getD p 0 : Nat)) (fun p _ => ((aftL n0 (rchX x1_0 x1_1 x1_2 X0) (sizeS X0) x2.toNat).getD p 0 : Nat)) true (eqX_self _ _ _) _ hq hq ((OG4_6.below (by go_grown) (Nat.le_refl _)).arr1) ((OW2_6.below (by go_grown) (Nat.le_refl _)).arr1)).mono ?_
      rintro e w7 ⟨rfl, hb7⟩
      have hs7 : Below w6.heap.size w6 w7 := below_call (by go_grown) hb7
      have hz7 := hs7.size
      have HX0_7 := HX0_6.on hb7
      have hq7 : Below w0.heap.size w0 w7 := hq6.trans (hs7.mono hq6.size)
      have OT1_7 := OT1_6.below hs7 (Nat.le_refl _)
      have OW2_7 := OW2_6.below hs7 (Nat.le_refl _)
      have OK3_7 := OK3_6.below hs7 (Nat.le_refl _)
      have OG4_7 := OG4_6.below hs7 (Nat.le_refl _)
      clear lx0_6_0 lx0_6_1 lx0_6_2
      have lx0_7_0 := HX0_7.2 0 _ rfl
      have lx0_7_1 := HX0_7.2 1 _ rfl
      have lx0_7_2 := HX0_7.2 2 _ rfl
      have ly0_7 := HX0_7.1
      go_wp2_with fail
      refine (to_quakeS _ _ _ X0 _ hn0 (ha0.on (below_call hq7 (by go_grown)))).mono ?_
      rintro e w8 ⟨vP5, rfl, hb8, OP5_8⟩
      have hs8 : Below w7.heap.size w7 w8 := below_call (by go_grown) hb8
      have hz8 := hs8.size
      have HX0_8 := HX0_7.on hb8
      have hq8 : Below w0.heap.size w0 w8 := hq7.trans (hs8.mono hq7.size)
      have OT1_8 := OT1_7.below hs8 (Nat.le_refl _)
      have OW2_8 := OW2_7.below hs8 (Nat.le_refl _)
      have OK3_8 := OK3_7.below hs8 (Nat.le_refl _)
      have OG4_8 := OG4_7.below hs8 (Nat.le_refl _)
      have BP5 : ∀ g, vP5.ownBlock = some g → w7.heap.size ≤ g ∧ g < w8.heap.size := fun g hg => ⟨Nat.le_trans (by first | exact Nat.le_refl _ | (simp only [World.size_alloc]; omega) | (simp only [World.size_alloc, World.size_drew]; omega)) (OP5_8.blk g hg).1, (OP5_8.blk g hg).2⟩
      have EP5 : ∀ g, vP5.ownBlock = some g → True := fun g hg => trivial
      obtain ⟨AP5, cP5, hvP5, hcP5, _⟩ := OP5_8.arr
      subst hvP5
      clear lx0_7_0 lx0_7_1 lx0_7_2
      have lx0_8_0 := HX0_8.2 0 _ rfl
      have lx0_8_1 := HX0_8.2 1 _ rfl
      have lx0_8_2 := HX0_8.2 2 _ rfl
      have ly0_8 := HX0_8.1
      go_wp2_with fail
      refine (eq_quakeS _ _ _ _ _ _ X0 X0 true (eqX_self _ _ _) _ hn0 hn0 ((OK3_8.below (by go_grown) (Nat.le_refl _)).arr1) ((OP5_8.below (by go_grown) (Nat.le_refl _)).arr1)).mono ?_
      rintro e w9 ⟨rfl, hb9⟩
      have hs9 : Below w8.heap.size w8 w9 := below_call (by go_grown) hb9
      have hz9 := hs9.size
      have HX0_9 := HX0_8.on hb9
      have hq9 : Below w0.heap.size w0 w9 := hq8.trans (hs9.mono hq8.size)
      have OT1_9 := OT1_8.below hs9 (Nat.le_refl _)
      have OW2_9 := OW2_8.below hs9 (Nat.le_refl _)
      have OK3_9 := OK3_8.below hs9 (Nat.le_refl _)
      have OG4_9 := OG4_8.below hs9 (Nat.le_refl _)
      have OP5_9 := OP5_8.below hs9 (Nat.le_refl _)
      clear lx0_8_0 lx0_8_1 lx0_8_2
      have lx0_9_0 := HX0_9.2 0 _ rfl
      have lx0_9_1 := HX0_9.2 1 _ rfl
      have lx0_9_2 := HX0_9.2 2 _ rfl
      have ly0_9 := HX0_9.1
      go_wp2_with fail
      refine (mark_quakeS _ _ _ _ _ _ _ hn0 (by omega) (by omega) OK3_9).mono ?_
      rintro e w10 ⟨rfl, hg10, OK3_10⟩
      have hz10 := hg10.size
      have hq10 : Below w0.heap.size w0 w10 := hq9.grown hg10 hq9.size (fun g hg => by have := (BK3 g hg).1; omega)
      have HX0_10 := HX0_9.grown hg10 (fun g hg => by have h1 := (BK3 g hg).1; have h2 := HX0_1.1; omega)
      clear lx0_9_0 lx0_9_1 lx0_9_2
      have lx0_10_0 := HX0_10.2 0 _ rfl
      have lx0_10_1 := HX0_10.2 1 _ rfl
      have lx0_10_2 := HX0_10.2 2 _ rfl
      have ly0_10 := HX0_10.1
      have OT1_10 := OT1_9.apart hg10 (fun g h1 h2 => by have a1 := BK3 g h1; have a2 := BT1 g h2; omega)
      have OW2_10 := OW2_9.apart hg10 (fun g h1 h2 => by have a1 := BK3 g h1; have a2 := BW2 g h2; omega)
      have OG4_10 := OG4_9.apart hg10 (fun g h1 h2 => by have a1 := BK3 g h1; have a2 := BG4 g h2; omega)
      have OP5_10 := OP5_9.apart hg10 (fun g h1 h2 => by have a1 := BK3 g h1; have a2 := BP5 g h2; omega)
      go_wp2_with fail
      refine (eq_intS _ _ _ _ _ _ (fun p _ => ((aftL n0 (rchX x1_0 x1_1 x1_2 X0) (sizeS X0) x2.toNat).getD p 0 : Nat)) (fun p _ => ((aftL n0 (rchX x1_0 x1_1 x1_2 X0) (sizeS X0) x2.toNat).getD p 0 : Nat)) true (eqX_self _ _ _) _ hq hq ((OG4_10.below (by go_grown) (Nat.le_refl _)).arr1) ((OW2_10.below (by go_grown) (Nat.le_refl _)).arr1)).mono ?_
      rintro e w11 ⟨rfl, hb11⟩
      have hs11 : Below w10.heap.size w10 w11 := below_call (by go_grown) hb11
      have hz11 := hs11.size
      have HX0_11 := HX0_10.on hb11
      have hq11 : Below w0.heap.size w0 w11 := hq10.trans (hs11.mono hq10.size)
      have OT1_11 := OT1_10.below hs11 (Nat.le_refl _)
      have OW2_11 := OW2_10.below hs11 (Nat.le_refl _)
      have OK3_11 := OK3_10.below hs11 (Nat.le_refl _)
      have OG4_11 := OG4_10.below hs11 (Nat.le_refl _)
      have OP5_11 := OP5_10.below hs11 (Nat.le_refl _)
      clear lx0_10_0 lx0_10_1 lx0_10_2
      have lx0_11_0 := HX0_11.2 0 _ rfl
      have lx0_11_1 := HX0_11.2 1 _ rfl
      have lx0_11_2 := HX0_11.2 2 _ rfl
      have ly0_11 := HX0_11.1
      go_wp2_with fail
      refine (mark_intS _ _ _ _ _ _ _ hq (by omega) (by omega) OG4_11).mono ?_
      rintro e w12 ⟨rfl, hg12, OG4_12⟩
      have hz12 := hg12.size
      have hq12 : Below w0.heap.size w0 w12 := hq11.grown hg12 hq11.size (fun g hg => by have := (BG4 g hg).1; omega)
      have HX0_12 := HX0_11.grown hg12 (fun g hg => by have h1 := (BG4 g hg).1; have h2 := HX0_1.1; omega)
      clear lx0_11_0 lx0_11_1 lx0_11_2
      have lx0_12_0 := HX0_12.2 0 _ rfl
      have lx0_12_1 := HX0_12.2 1 _ rfl
      have lx0_12_2 := HX0_12.2 2 _ rfl
      have ly0_12 := HX0_12.1
      have OT1_12 := OT1_11.apart hg12 (fun g h1 h2 => by have a1 := BG4 g h1; have a2 := BT1 g h2; omega)
      have OW2_12 := OW2_11.apart hg12 (fun g h1 h2 => by have a1 := BG4 g h1; have a2 := BW2 g h2; omega)
      have OK3_12 := OK3_11.apart hg12 (fun g h1 h2 => by have a1 := BG4 g h1; have a2 := BK3 g h2; omega)
      have OP5_12 := OP5_11.apart hg12 (fun g h1 h2 => by have a1 := BG4 g h1; have a2 := BP5 g h2; omega)
      go_wp2_with fail
      refine (held_intS _ _ _ _ 1 _ hq (by omega) (by omega) ((OG4_12.below (by go_grown) (Nat.le_refl _)).arr1) (fun _ _ _ _ => rfl)).mono ?_
      rintro e u12 ⟨rfl, rfl⟩
      go_wp2_with fail
      have hS12 := S_of ((Below.refl w12.heap.size w12).drew)
      go_region_held3 (fun w' => (∀ b o, b < w12.heap.size → w'.cell? ⟨b, o, none⟩ = w12.cell? ⟨b, o, none⟩) ∧ Below w12.heap.size w12 w') (assumption) (first | ((go_at_call 15); (refine (to_quakeS _ _ _ X0 _ hn0 (ha0.on (below_call hq12 (by go_grown)))).mono ?_); (rintro e w13 ⟨vT6, rfl, hb13, OT6_13⟩); (have hs13 : Below w12.heap.size w12 w13 := below_call (by go_grown) hb13); (have hz13 := hs13.size); (have HX0_13 := (HX0_12.on (Below.refl _ _).drew).on hb13); (have hq13 : Below w0.heap.size w0 w13 := hq12.trans (hs13.mono hq12.size)); (have OT1_13 := OT1_12.below hs13 (Nat.le_refl _)); (have OW2_13 := OW2_12.below hs13 (Nat.le_refl _)); (have OK3_13 := OK3_12.below hs13 (Nat.le_refl _)); (have OG4_13 := OG4_12.below hs13 (Nat.le_refl _)); (have OP5_13 := OP5_12.below hs13 (Nat.le_refl _)); (have BT6 : ∀ g, vT6.ownBlock = some g → w12.heap.size ≤ g ∧ g < w13.heap.size := fun g hg => ⟨Nat.le_trans (by first | exact Nat.le_refl _ | (simp only [World.size_alloc]; omega) | (simp only [World.size_alloc, World.size_drew]; omega)) (OT6_13.blk g hg).1, (OT6_13.blk g hg).2⟩); (have ET6 : ∀ g, vT6.ownBlock = some g → True := fun g hg => trivial); (obtain ⟨AT6, cT6, hvT6, hcT6, _⟩ := OT6_13.arr); (subst hvT6); (have hS13 := S_of (below_call (Below.refl _ _).drew hb13))) | ((go_at_call 16); (refine (to_linking _ _ _ _).mono ?_); (rintro e w14 ⟨rfl, hb14⟩); (have hs14 : Below w13.heap.size w13 w14 := below_call (by go_grown) hb14); (have hz14 := hs14.size); (have HX0_14 := HX0_13.on hb14); (have hq14 : Below w0.heap.size w0 w14 := hq13.trans (hs14.mono hq13.size)); (have OT1_14 := OT1_13.below hs14 (Nat.le_refl _)); (have OW2_14 := OW2_13.below hs14 (Nat.le_refl _)); (have OK3_14 := OK3_13.below hs14 (Nat.le_refl _)); (have OG4_14 := OG4_13.below hs14 (Nat.le_refl _)); (have OP5_14 := OP5_13.below hs14 (Nat.le_refl _)); (have OT6_14 := OT6_13.below hs14 (Nat.le_refl _)); (have hS14 := S_of (below_call hS13.2 hb14))) | ((go_at_call 30); (refine (impl_aft _ _ _ X0 _ _ _ _ _ HR.out q HQ.out _ hn0 ((OT6_14.below (by go_grown) (Nat.le_refl _)).arr1)).mono ?_); (rintro e w15 ⟨vH7, rfl, hb15, OH7_15⟩); (have hs15 : Below w14.heap.size w14 w15 := below_call (by go_grown) hb15); (have hz15 := hs15.size); (have HX0_15 := HX0_14.on hb15); (have hq15 : Below w0.heap.size w0 w15 := hq14.trans (hs15.mono hq14.size)); (have OT1_15 := OT1_14.below hs15 (Nat.le_refl _)); (have OW2_15 := OW2_14.below hs15 (Nat.le_refl _)); (have OK3_15 := OK3_14.below hs15 (Nat.le_refl _)); (have OG4_15 := OG4_14.below hs15 (Nat.le_refl _)); (have OP5_15 := OP5_14.below hs15 (Nat.le_refl _)); (have OT6_15 := OT6_14.below hs15 (Nat.le_refl _)); (have BH7 : ∀ g, vH7.ownBlock = some g → w14.heap.size ≤ g ∧ g < w15.heap.size := fun g hg => ⟨Nat.le_trans (by first | exact Nat.le_refl _ | (simp only [World.size_alloc]; omega) | (simp only [World.size_alloc, World.size_drew]; omega)) (OH7_15.blk g hg).1, (OH7_15.blk g hg).2⟩); (have EH7 : ∀ g, vH7.ownBlock = some g → True := fun g hg => trivial); (obtain ⟨AH7, cH7, hvH7, hcH7, _⟩ := OH7_15.arr); (subst hvH7); (have hS15 := S_of (below_call hS14.2 hb15))))
      clear hS12 hS13 hS14 hS15
      clear lx0_12_0 lx0_12_1 lx0_12_2
      have lx0_15_0 := HX0_15.2 0 _ rfl
      have lx0_15_1 := HX0_15.2 1 _ rfl
      have lx0_15_2 := HX0_15.2 2 _ rfl
      have ly0_15 := HX0_15.1
      go_wp2_with fail
      refine (eq_intS _ _ _ _ _ _ (fun p _ => ((aftL n0 (rchX x1_0 x1_1 x1_2 X0) (sizeS X0) x2.toNat).getD p 0 : Nat)) (fun p _ => ((aftL n0 (rchX x1_0 x1_1 x1_2 X0) (sizeS X0) x2.toNat).getD p 0 : Nat)) true (eqX_self _ _ _) _ hq hq ((OH7_15.below (by go_grown) (Nat.le_refl _)).arr1) ((OW2_15.below (by go_grown) (Nat.le_refl _)).arr1)).mono ?_
      rintro e w16 ⟨rfl, hb16⟩
      have hs16 : Below w15.heap.size w15 w16 := below_call (by go_grown) hb16
      have hz16 := hs16.size
      have HX0_16 := HX0_15.on hb16
      have hq16 : Below w0.heap.size w0 w16 := hq15.trans (hs16.mono hq15.size)
      have OT1_16 := OT1_15.below hs16 (Nat.le_refl _)
      have OW2_16 := OW2_15.below hs16 (Nat.le_refl _)
      have OK3_16 := OK3_15.below hs16 (Nat.le_refl _)
      have OG4_16 := OG4_15.below hs16 (Nat.le_refl _)
      have OP5_16 := OP5_15.below hs16 (Nat.le_refl _)
      have OT6_16 := OT6_15.below hs16 (Nat.le_refl _)
      have OH7_16 := OH7_15.below hs16 (Nat.le_refl _)
      clear lx0_15_0 lx0_15_1 lx0_15_2
      have lx0_16_0 := HX0_16.2 0 _ rfl
      have lx0_16_1 := HX0_16.2 1 _ rfl
      have lx0_16_2 := HX0_16.2 2 _ rfl
      have ly0_16 := HX0_16.1
      go_wp2_with fail
      refine (held_intS _ _ _ _ 1 _ hq (by omega) (by omega) ((OG4_16.below (by go_grown) (Nat.le_refl _)).arr1) (fun _ _ _ _ => rfl)).mono ?_
      rintro e u16 ⟨rfl, rfl⟩
      go_wp2
      go_returns
      exact ⟨rfl, hq16⟩
  · have hs' : (1048576 : Int) < n0 := by omega
    go_enter Try.func7, Try.ntmps7
    go_wp2_with fail
    refine (sz_quakeS_over _ _ _ _ hs' hm0 (by omega) (by omega) _).mono ?_
    rintro e u ⟨rfl, rfl⟩
    go_wp2
    go_returns
    exact ⟨rfl, by go_grown⟩

set_option maxHeartbeats 4000000 in
set_option maxRecDepth 100000 in
theorem walk_FnExactDeclustered (A0 : Option Addr) (n0 c0 : Nat) (X0 : Nat → Nat → Int) (x1_0 x1_1 x1_2 : Int) (w0 : World) (hm0 : n0 ≤ maxLen) (ha0 : Arr w0 w0.heap.size A0 n0 4 (iv X0)) :
    Calls Try.prog 8 #[.slice A0 n0 c0, .agg #[.int .i64 x1_0, .int .i64 x1_1, .int .i64 x1_2]] w0 fun e w' => e = .returned (.bool true) ∧ Below w0.heap.size w0 w' := by
  have hfa := frozen_al; have hfo := frozen_out
  have hmx0 : n0 ≤ 9223372036854775807 := hm0
  by_cases hs0_ : (n0 : Int) ≤ 1048576
  · skip
    have hn0 : n0 ≤ 1048576 := by omega
    have hr0 : (0 : Int) ≤ 1048576 - n0 := by omega
    clear hmx0
    obtain ⟨u, hu⟩ : ∃ u, (catB n0 X0 && linkB x1_0 x1_1 x1_2) = u := ⟨_, rfl⟩
    have HR := hide hu
    clear hu
    obtain ⟨q, hq0⟩ : ∃ q : Nat, q = onlyN u (mainsL n0 (rchX x1_0 x1_1 x1_2 X0) (sizeS X0)).length := ⟨_, rfl⟩
    have hq : q ≤ 1048576 := by rw [hq0]; exact onlyN_le (by have := mainsL_len n0 (rchX x1_0 x1_1 x1_2 X0) (sizeS X0); omega)
    have HQ := hide hq0
    clear hq0
    cases u
    all_goals
      go_enter Try.func8, Try.ntmps8
      go_wp2_with fail
      refine (sz_quakeS_ok _ _ _ _ hs0_ (by omega) _).mono ?_
      rintro e u ⟨rfl, rfl⟩
      have hq0 : Below w0.heap.size w0 w0 := Below.refl _ _
      go_wp2_with fail
      have hS0 := S_of ((Below.refl (w0.alloc (.cells #[.int .i64 x1_0, .int .i64 x1_1, .int .i64 x1_2] 24)).heap.size (w0.alloc (.cells #[.int .i64 x1_0, .int .i64 x1_1, .int .i64 x1_2] 24))).drew)
      go_region_held3 (fun w' => (∀ b o, b < (w0.alloc (.cells #[.int .i64 x1_0, .int .i64 x1_1, .int .i64 x1_2] 24)).heap.size → w'.cell? ⟨b, o, none⟩ = (w0.alloc (.cells #[.int .i64 x1_0, .int .i64 x1_1, .int .i64 x1_2] 24)).cell? ⟨b, o, none⟩) ∧ Below (w0.alloc (.cells #[.int .i64 x1_0, .int .i64 x1_1, .int .i64 x1_2] 24)).heap.size (w0.alloc (.cells #[.int .i64 x1_0, .int .i64 x1_1, .int .i64 x1_2] 24)) w') (assumption) (first | ((go_at_call 15); (refine (to_quakeS _ _ _ X0 _ hn0 (ha0.on (below_call hq0 (by go_grown)))).mono ?_); (rintro e w1 ⟨vT1, rfl, hb1, OT1_1⟩); (have hs1 : Below w0.heap.size w0 w1 := below_call (by go_grown) hb1); (have hz1 := hs1.size); (have HX0_1 := ((Cells.new w0 _ [.int .i64 x1_0, .int .i64 x1_1, .int .i64 x1_2] 24 rfl).on (Below.refl _ _).drew).on hb1); (have hq1 : Below w0.heap.size w0 w1 := hq0.trans (hs1.mono hq0.size)); (have BT1 : ∀ g, vT1.ownBlock = some g → w0.heap.size ≤ g ∧ g < w1.heap.size := fun g hg => ⟨Nat.le_trans (by first | exact Nat.le_refl _ | (simp only [World.size_alloc]; omega) | (simp only [World.size_alloc, World.size_drew]; omega)) (OT1_1.blk g hg).1, (OT1_1.blk g hg).2⟩); (have ET1 : ∀ g, vT1.ownBlock = some g → True := fun g hg => trivial); (obtain ⟨AT1, cT1, hvT1, hcT1, _⟩ := OT1_1.arr); (subst hvT1); (have hS1 := S_of (below_call (Below.refl _ _).drew hb1))) | ((go_at_call 16); (refine (to_linking _ _ _ _).mono ?_); (rintro e w2 ⟨rfl, hb2⟩); (have hs2 : Below w1.heap.size w1 w2 := below_call (by go_grown) hb2); (have hz2 := hs2.size); (have HX0_2 := HX0_1.on hb2); (have hq2 : Below w0.heap.size w0 w2 := hq1.trans (hs2.mono hq1.size)); (have OT1_2 := OT1_1.below hs2 (Nat.le_refl _)); (have hS2 := S_of (below_call hS1.2 hb2))) | ((go_at_call 31); (refine (spec_decl _ _ _ X0 _ _ _ _ HR.out q HQ.out _ hn0 ((OT1_2.below (by go_grown) (Nat.le_refl _)).arr1)).mono ?_); (rintro e w3 ⟨vW2, rfl, hb3, OW2_3⟩); (have hs3 : Below w2.heap.size w2 w3 := below_call (by go_grown) hb3); (have hz3 := hs3.size); (have HX0_3 := HX0_2.on hb3); (have hq3 : Below w0.heap.size w0 w3 := hq2.trans (hs3.mono hq2.size)); (have OT1_3 := OT1_2.below hs3 (Nat.le_refl _)); (have BW2 : ∀ g, vW2.ownBlock = some g → w2.heap.size ≤ g ∧ g < w3.heap.size := fun g hg => ⟨Nat.le_trans (by first | exact Nat.le_refl _ | (simp only [World.size_alloc]; omega) | (simp only [World.size_alloc, World.size_drew]; omega)) (OW2_3.blk g hg).1, (OW2_3.blk g hg).2⟩); (have EW2 : ∀ g, vW2.ownBlock = some g → True := fun g hg => trivial); (obtain ⟨AW2, cW2, hvW2, hcW2, _⟩ := OW2_3.arr); (subst hvW2); (have hS3 := S_of (below_call hS2.2 hb3))))
      clear hS0 hS1 hS2 hS3
      have lx0_3_0 := HX0_3.2 0 _ rfl
      have lx0_3_1 := HX0_3.2 1 _ rfl
      have lx0_3_2 := HX0_3.2 2 _ rfl
      have ly0_3 := HX0_3.1
      go_wp2_with fail
      refine (to_quakeS _ _ _ X0 _ hn0 (ha0.on (below_call hq3 (by go_grown)))).mono ?_
      rintro e w4 ⟨vK3, rfl, hb4, OK3_4⟩
      have hs4 : Below w3.heap.size w3 w4 := below_call (by go_grown) hb4
      have hz4 := hs4.size
      have HX0_4 := HX0_3.on hb4
      have hq4 : Below w0.heap.size w0 w4 := hq3.trans (hs4.mono hq3.size)
      have OT1_4 := OT1_3.below hs4 (Nat.le_refl _)
      have OW2_4 := OW2_3.below hs4 (Nat.le_refl _)
      have BK3 : ∀ g, vK3.ownBlock = some g → w3.heap.size ≤ g ∧ g < w4.heap.size := fun g hg => ⟨Nat.le_trans (by first | exact Nat.le_refl _ | (simp only [World.size_alloc]; omega) | (simp only [World.size_alloc, World.size_drew]; omega)) (OK3_4.blk g hg).1, (OK3_4.blk g hg).2⟩
      have EK3 : ∀ g, vK3.ownBlock = some g → True := fun g hg => trivial
      obtain ⟨AK3, cK3, hvK3, hcK3, _⟩ := OK3_4.arr
      subst hvK3
      clear lx0_3_0 lx0_3_1 lx0_3_2
      have lx0_4_0 := HX0_4.2 0 _ rfl
      have lx0_4_1 := HX0_4.2 1 _ rfl
      have lx0_4_2 := HX0_4.2 2 _ rfl
      have ly0_4 := HX0_4.1
      go_wp2_with fail
      refine (to_linking _ _ _ _).mono ?_
      rintro e w5 ⟨rfl, hb5⟩
      have hs5 : Below w4.heap.size w4 w5 := below_call (by go_grown) hb5
      have hz5 := hs5.size
      have HX0_5 := HX0_4.on hb5
      have hq5 : Below w0.heap.size w0 w5 := hq4.trans (hs5.mono hq4.size)
      have OT1_5 := OT1_4.below hs5 (Nat.le_refl _)
      have OW2_5 := OW2_4.below hs5 (Nat.le_refl _)
      have OK3_5 := OK3_4.below hs5 (Nat.le_refl _)
      clear lx0_4_0 lx0_4_1 lx0_4_2
      have lx0_5_0 := HX0_5.2 0 _ rfl
      have lx0_5_1 := HX0_5.2 1 _ rfl
      have lx0_5_2 := HX0_5.2 2 _ rfl
      have ly0_5 := HX0_5.1
      go_wp2_with fail
      refine (impl_decl _ _ _ X0 _ _ _ _ HR.out q HQ.out _ hn0 ((OK3_5.below (by go_grown) (Nat.le_refl _)).arr1)).mono ?_
      rintro e w6 ⟨vG4, rfl, hb6, OG4_6⟩
      have hs6 : Below w5.heap.size w5 w6 := below_call (by go_grown) hb6
      have hz6 := hs6.size
      have HX0_6 := HX0_5.on hb6
      have hq6 : Below w0.heap.size w0 w6 := hq5.trans (hs6.mono hq5.size)
      have OT1_6 := OT1_5.below hs6 (Nat.le_refl _)
      have OW2_6 := OW2_5.below hs6 (Nat.le_refl _)
      have OK3_6 := OK3_5.below hs6 (Nat.le_refl _)
      have BG4 : ∀ g, vG4.ownBlock = some g → w5.heap.size ≤ g ∧ g < w6.heap.size := fun g hg => ⟨Nat.le_trans (by first | exact Nat.le_refl _ | (simp only [World.size_alloc]; omega) | (simp only [World.size_alloc, World.size_drew]; omega)) (OG4_6.blk g hg).1, (OG4_6.blk g hg).2⟩
      have EG4 : ∀ g, vG4.ownBlock = some g → True := fun g hg => trivial
      obtain ⟨AG4, cG4, hvG4, hcG4, _⟩ := OG4_6.arr
      subst hvG4
      clear lx0_5_0 lx0_5_1 lx0_5_2
      have lx0_6_0 := HX0_6.2 0 _ rfl
      have lx0_6_1 := HX0_6.2 1 _ rfl
      have lx0_6_2 := HX0_6.2 2 _ rfl
      have ly0_6 := HX0_6.1
      go_wp2_with fail
      refine (eq_quakeS _ _ _ _ _ _ (decF X0 (mainsL n0 (rchX x1_0 x1_1 x1_2 X0) (sizeS X0))) (decF X0 (mainsL n0 (rchX x1_0 x1_1 x1_2 X0) (sizeS X0))) true (eqX_self _ _ _) _ hq hq ((OG4_6.below (by go_grown) (Nat.le_refl _)).arr1) ((OW2_6.below (by go_grown) (Nat.le_refl _)).arr1)).mono ?_
      rintro e w7 ⟨rfl, hb7⟩
      have hs7 : Below w6.heap.size w6 w7 := below_call (by go_grown) hb7
      have hz7 := hs7.size
      have HX0_7 := HX0_6.on hb7
      have hq7 : Below w0.heap.size w0 w7 := hq6.trans (hs7.mono hq6.size)
      have OT1_7 := OT1_6.below hs7 (Nat.le_refl _)
      have OW2_7 := OW2_6.below hs7 (Nat.le_refl _)
      have OK3_7 := OK3_6.below hs7 (Nat.le_refl _)
      have OG4_7 := OG4_6.below hs7 (Nat.le_refl _)
      clear lx0_6_0 lx0_6_1 lx0_6_2
      have lx0_7_0 := HX0_7.2 0 _ rfl
      have lx0_7_1 := HX0_7.2 1 _ rfl
      have lx0_7_2 := HX0_7.2 2 _ rfl
      have ly0_7 := HX0_7.1
      go_wp2_with fail
      refine (to_quakeS _ _ _ X0 _ hn0 (ha0.on (below_call hq7 (by go_grown)))).mono ?_
      rintro e w8 ⟨vP5, rfl, hb8, OP5_8⟩
      have hs8 : Below w7.heap.size w7 w8 := below_call (by go_grown) hb8
      have hz8 := hs8.size
      have HX0_8 := HX0_7.on hb8
      have hq8 : Below w0.heap.size w0 w8 := hq7.trans (hs8.mono hq7.size)
      have OT1_8 := OT1_7.below hs8 (Nat.le_refl _)
      have OW2_8 := OW2_7.below hs8 (Nat.le_refl _)
      have OK3_8 := OK3_7.below hs8 (Nat.le_refl _)
      have OG4_8 := OG4_7.below hs8 (Nat.le_refl _)
      have BP5 : ∀ g, vP5.ownBlock = some g → w7.heap.size ≤ g ∧ g < w8.heap.size := fun g hg => ⟨Nat.le_trans (by first | exact Nat.le_refl _ | (simp only [World.size_alloc]; omega) | (simp only [World.size_alloc, World.size_drew]; omega)) (OP5_8.blk g hg).1, (OP5_8.blk g hg).2⟩
      have EP5 : ∀ g, vP5.ownBlock = some g → True := fun g hg => trivial
      obtain ⟨AP5, cP5, hvP5, hcP5, _⟩ := OP5_8.arr
      subst hvP5
      clear lx0_7_0 lx0_7_1 lx0_7_2
      have lx0_8_0 := HX0_8.2 0 _ rfl
      have lx0_8_1 := HX0_8.2 1 _ rfl
      have lx0_8_2 := HX0_8.2 2 _ rfl
      have ly0_8 := HX0_8.1
      go_wp2_with fail
      refine (eq_quakeS _ _ _ _ _ _ X0 X0 true (eqX_self _ _ _) _ hn0 hn0 ((OK3_8.below (by go_grown) (Nat.le_refl _)).arr1) ((OP5_8.below (by go_grown) (Nat.le_refl _)).arr1)).mono ?_
      rintro e w9 ⟨rfl, hb9⟩
      have hs9 : Below w8.heap.size w8 w9 := below_call (by go_grown) hb9
      have hz9 := hs9.size
      have HX0_9 := HX0_8.on hb9
      have hq9 : Below w0.heap.size w0 w9 := hq8.trans (hs9.mono hq8.size)
      have OT1_9 := OT1_8.below hs9 (Nat.le_refl _)
      have OW2_9 := OW2_8.below hs9 (Nat.le_refl _)
      have OK3_9 := OK3_8.below hs9 (Nat.le_refl _)
      have OG4_9 := OG4_8.below hs9 (Nat.le_refl _)
      have OP5_9 := OP5_8.below hs9 (Nat.le_refl _)
      clear lx0_8_0 lx0_8_1 lx0_8_2
      have lx0_9_0 := HX0_9.2 0 _ rfl
      have lx0_9_1 := HX0_9.2 1 _ rfl
      have lx0_9_2 := HX0_9.2 2 _ rfl
      have ly0_9 := HX0_9.1
      go_wp2_with fail
      refine (mark_quakeS _ _ _ _ _ _ _ hn0 (by omega) (by omega) OK3_9).mono ?_
      rintro e w10 ⟨rfl, hg10, OK3_10⟩
      have hz10 := hg10.size
      have hq10 : Below w0.heap.size w0 w10 := hq9.grown hg10 hq9.size (fun g hg => by have := (BK3 g hg).1; omega)
      have HX0_10 := HX0_9.grown hg10 (fun g hg => by have h1 := (BK3 g hg).1; have h2 := HX0_1.1; omega)
      clear lx0_9_0 lx0_9_1 lx0_9_2
      have lx0_10_0 := HX0_10.2 0 _ rfl
      have lx0_10_1 := HX0_10.2 1 _ rfl
      have lx0_10_2 := HX0_10.2 2 _ rfl
      have ly0_10 := HX0_10.1
      have OT1_10 := OT1_9.apart hg10 (fun g h1 h2 => by have a1 := BK3 g h1; have a2 := BT1 g h2; omega)
      have OW2_10 := OW2_9.apart hg10 (fun g h1 h2 => by have a1 := BK3 g h1; have a2 := BW2 g h2; omega)
      have OG4_10 := OG4_9.apart hg10 (fun g h1 h2 => by have a1 := BK3 g h1; have a2 := BG4 g h2; omega)
      have OP5_10 := OP5_9.apart hg10 (fun g h1 h2 => by have a1 := BK3 g h1; have a2 := BP5 g h2; omega)
      go_wp2_with fail
      refine (eq_quakeS _ _ _ _ _ _ (decF X0 (mainsL n0 (rchX x1_0 x1_1 x1_2 X0) (sizeS X0))) (decF X0 (mainsL n0 (rchX x1_0 x1_1 x1_2 X0) (sizeS X0))) true (eqX_self _ _ _) _ hq hq ((OG4_10.below (by go_grown) (Nat.le_refl _)).arr1) ((OW2_10.below (by go_grown) (Nat.le_refl _)).arr1)).mono ?_
      rintro e w11 ⟨rfl, hb11⟩
      have hs11 : Below w10.heap.size w10 w11 := below_call (by go_grown) hb11
      have hz11 := hs11.size
      have HX0_11 := HX0_10.on hb11
      have hq11 : Below w0.heap.size w0 w11 := hq10.trans (hs11.mono hq10.size)
      have OT1_11 := OT1_10.below hs11 (Nat.le_refl _)
      have OW2_11 := OW2_10.below hs11 (Nat.le_refl _)
      have OK3_11 := OK3_10.below hs11 (Nat.le_refl _)
      have OG4_11 := OG4_10.below hs11 (Nat.le_refl _)
      have OP5_11 := OP5_10.below hs11 (Nat.le_refl _)
      clear lx0_10_0 lx0_10_1 lx0_10_2
      have lx0_11_0 := HX0_11.2 0 _ rfl
      have lx0_11_1 := HX0_11.2 1 _ rfl
      have lx0_11_2 := HX0_11.2 2 _ rfl
      have ly0_11 := HX0_11.1
      go_wp2_with fail
      refine (mark_quakeS _ _ _ _ _ _ _ hq (by omega) (by omega) OG4_11).mono ?_
      rintro e w12 ⟨rfl, hg12, OG4_12⟩
      have hz12 := hg12.size
      have hq12 : Below w0.heap.size w0 w12 := hq11.grown hg12 hq11.size (fun g hg => by have := (BG4 g hg).1; omega)
      have HX0_12 := HX0_11.grown hg12 (fun g hg => by have h1 := (BG4 g hg).1; have h2 := HX0_1.1; omega)
      clear lx0_11_0 lx0_11_1 lx0_11_2
      have lx0_12_0 := HX0_12.2 0 _ rfl
      have lx0_12_1 := HX0_12.2 1 _ rfl
      have lx0_12_2 := HX0_12.2 2 _ rfl
      have ly0_12 := HX0_12.1
      have OT1_12 := OT1_11.apart hg12 (fun g h1 h2 => by have a1 := BG4 g h1; have a2 := BT1 g h2; omega)
      have OW2_12 := OW2_11.apart hg12 (fun g h1 h2 => by have a1 := BG4 g h1; have a2 := BW2 g h2; omega)
      have OK3_12 := OK3_11.apart hg12 (fun g h1 h2 => by have a1 := BG4 g h1; have a2 := BK3 g h2; omega)
      have OP5_12 := OP5_11.apart hg12 (fun g h1 h2 => by have a1 := BG4 g h1; have a2 := BP5 g h2; omega)
      go_wp2_with fail
      refine (held_quakeS _ _ _ _ 1 _ hq (by omega) (by omega) ((OG4_12.below (by go_grown) (Nat.le_refl _)).arr1) (fun _ _ _ _ => rfl)).mono ?_
      rintro e u12 ⟨rfl, rfl⟩
      go_wp2_with fail
      have hS12 := S_of ((Below.refl w12.heap.size w12).drew)
      go_region_held3 (fun w' => (∀ b o, b < w12.heap.size → w'.cell? ⟨b, o, none⟩ = w12.cell? ⟨b, o, none⟩) ∧ Below w12.heap.size w12 w') (assumption) (first | ((go_at_call 15); (refine (to_quakeS _ _ _ X0 _ hn0 (ha0.on (below_call hq12 (by go_grown)))).mono ?_); (rintro e w13 ⟨vT6, rfl, hb13, OT6_13⟩); (have hs13 : Below w12.heap.size w12 w13 := below_call (by go_grown) hb13); (have hz13 := hs13.size); (have HX0_13 := (HX0_12.on (Below.refl _ _).drew).on hb13); (have hq13 : Below w0.heap.size w0 w13 := hq12.trans (hs13.mono hq12.size)); (have OT1_13 := OT1_12.below hs13 (Nat.le_refl _)); (have OW2_13 := OW2_12.below hs13 (Nat.le_refl _)); (have OK3_13 := OK3_12.below hs13 (Nat.le_refl _)); (have OG4_13 := OG4_12.below hs13 (Nat.le_refl _)); (have OP5_13 := OP5_12.below hs13 (Nat.le_refl _)); (have BT6 : ∀ g, vT6.ownBlock = some g → w12.heap.size ≤ g ∧ g < w13.heap.size := fun g hg => ⟨Nat.le_trans (by first | exact Nat.le_refl _ | (simp only [World.size_alloc]; omega) | (simp only [World.size_alloc, World.size_drew]; omega)) (OT6_13.blk g hg).1, (OT6_13.blk g hg).2⟩); (have ET6 : ∀ g, vT6.ownBlock = some g → True := fun g hg => trivial); (obtain ⟨AT6, cT6, hvT6, hcT6, _⟩ := OT6_13.arr); (subst hvT6); (have hS13 := S_of (below_call (Below.refl _ _).drew hb13))) | ((go_at_call 16); (refine (to_linking _ _ _ _).mono ?_); (rintro e w14 ⟨rfl, hb14⟩); (have hs14 : Below w13.heap.size w13 w14 := below_call (by go_grown) hb14); (have hz14 := hs14.size); (have HX0_14 := HX0_13.on hb14); (have hq14 : Below w0.heap.size w0 w14 := hq13.trans (hs14.mono hq13.size)); (have OT1_14 := OT1_13.below hs14 (Nat.le_refl _)); (have OW2_14 := OW2_13.below hs14 (Nat.le_refl _)); (have OK3_14 := OK3_13.below hs14 (Nat.le_refl _)); (have OG4_14 := OG4_13.below hs14 (Nat.le_refl _)); (have OP5_14 := OP5_13.below hs14 (Nat.le_refl _)); (have OT6_14 := OT6_13.below hs14 (Nat.le_refl _)); (have hS14 := S_of (below_call hS13.2 hb14))) | ((go_at_call 32); (refine (impl_decl _ _ _ X0 _ _ _ _ HR.out q HQ.out _ hn0 ((OT6_14.below (by go_grown) (Nat.le_refl _)).arr1)).mono ?_); (rintro e w15 ⟨vH7, rfl, hb15, OH7_15⟩); (have hs15 : Below w14.heap.size w14 w15 := below_call (by go_grown) hb15); (have hz15 := hs15.size); (have HX0_15 := HX0_14.on hb15); (have hq15 : Below w0.heap.size w0 w15 := hq14.trans (hs15.mono hq14.size)); (have OT1_15 := OT1_14.below hs15 (Nat.le_refl _)); (have OW2_15 := OW2_14.below hs15 (Nat.le_refl _)); (have OK3_15 := OK3_14.below hs15 (Nat.le_refl _)); (have OG4_15 := OG4_14.below hs15 (Nat.le_refl _)); (have OP5_15 := OP5_14.below hs15 (Nat.le_refl _)); (have OT6_15 := OT6_14.below hs15 (Nat.le_refl _)); (have BH7 : ∀ g, vH7.ownBlock = some g → w14.heap.size ≤ g ∧ g < w15.heap.size := fun g hg => ⟨Nat.le_trans (by first | exact Nat.le_refl _ | (simp only [World.size_alloc]; omega) | (simp only [World.size_alloc, World.size_drew]; omega)) (OH7_15.blk g hg).1, (OH7_15.blk g hg).2⟩); (have EH7 : ∀ g, vH7.ownBlock = some g → True := fun g hg => trivial); (obtain ⟨AH7, cH7, hvH7, hcH7, _⟩ := OH7_15.arr); (subst hvH7); (have hS15 := S_of (below_call hS14.2 hb15))))
      clear hS12 hS13 hS14 hS15
      clear lx0_12_0 lx0_12_1 lx0_12_2
      have lx0_15_0 := HX0_15.2 0 _ rfl
      have lx0_15_1 := HX0_15.2 1 _ rfl
      have lx0_15_2 := HX0_15.2 2 _ rfl
      have ly0_15 := HX0_15.1
      go_wp2_with fail
      refine (eq_quakeS _ _ _ _ _ _ (decF X0 (mainsL n0 (rchX x1_0 x1_1 x1_2 X0) (sizeS X0))) (decF X0 (mainsL n0 (rchX x1_0 x1_1 x1_2 X0) (sizeS X0))) true (eqX_self _ _ _) _ hq hq ((OH7_15.below (by go_grown) (Nat.le_refl _)).arr1) ((OW2_15.below (by go_grown) (Nat.le_refl _)).arr1)).mono ?_
      rintro e w16 ⟨rfl, hb16⟩
      have hs16 : Below w15.heap.size w15 w16 := below_call (by go_grown) hb16
      have hz16 := hs16.size
      have HX0_16 := HX0_15.on hb16
      have hq16 : Below w0.heap.size w0 w16 := hq15.trans (hs16.mono hq15.size)
      have OT1_16 := OT1_15.below hs16 (Nat.le_refl _)
      have OW2_16 := OW2_15.below hs16 (Nat.le_refl _)
      have OK3_16 := OK3_15.below hs16 (Nat.le_refl _)
      have OG4_16 := OG4_15.below hs16 (Nat.le_refl _)
      have OP5_16 := OP5_15.below hs16 (Nat.le_refl _)
      have OT6_16 := OT6_15.below hs16 (Nat.le_refl _)
      have OH7_16 := OH7_15.below hs16 (Nat.le_refl _)
      clear lx0_15_0 lx0_15_1 lx0_15_2
      have lx0_16_0 := HX0_16.2 0 _ rfl
      have lx0_16_1 := HX0_16.2 1 _ rfl
      have lx0_16_2 := HX0_16.2 2 _ rfl
      have ly0_16 := HX0_16.1
      go_wp2_with fail
      refine (held_quakeS _ _ _ _ 1 _ hq (by omega) (by omega) ((OG4_16.below (by go_grown) (Nat.le_refl _)).arr1) (fun _ _ _ _ => rfl)).mono ?_
      rintro e u16 ⟨rfl, rfl⟩
      go_wp2
      go_returns
      exact ⟨rfl, hq16⟩
  · have hs' : (1048576 : Int) < n0 := by omega
    go_enter Try.func8, Try.ntmps8
    go_wp2_with fail
    refine (sz_quakeS_over _ _ _ _ hs' hm0 (by omega) (by omega) _).mono ?_
    rintro e u ⟨rfl, rfl⟩
    go_wp2
    go_returns
    exact ⟨rfl, by go_grown⟩
end Go.Proofs.Ythpagjkkccimiaa
