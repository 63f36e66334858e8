/- Walks of laws, written by lawgen2.py out of their Go text. -/
import Derived.Test.YtooiefpinfgclaaHear
import Derived.Test.YtooiefpinfgclaaAlaK
import Derived.Test.YtooiefpinfgclaaGrow
import Derived.Test.YtooiefpinfgclaaCells2
namespace Go.Proofs.Ytooiefpinfgclaa
open Go.RowKit
set_option linter.unusedVariables false
set_option linter.unusedSimpArgs false

set_option maxHeartbeats 4000000 in
set_option maxRecDepth 100000 in
theorem walk_FnExactHeardBy (x0_0 : Int) (x0_1 : Int) (A0 : Option Addr) (n0 c0 : Nat) (X0 : Nat → Nat → Int) (x0_3 : Int) (x0_4 : Int) (w0 : World) (hm0 : n0 ≤ maxLen) (ha0 : Arr w0 w0.heap.size A0 n0 2 (iv X0)) :
    Calls Try.prog 7 #[.agg #[.int .i64 x0_0, .int .i64 x0_1, .slice A0 n0 c0, .int .i64 x0_3, .int .i64 x0_4]] w0 fun e w' => e = .returned (.bool true) ∧ Below w0.heap.size w0 w' := by
  have hfa := frozen_al; have hfo := frozen_out
  have hmx0 : n0 ≤ 9223372036854775807 := hm0
  by_cases hs0_ : (n0 : Int) ≤ 1048576
  · skip
    have hn0 : n0 ≤ 1048576 := by omega
    clear hmx0
    obtain ⟨u, hu⟩ : ∃ u, (alaB x0_0 x0_1 n0 X0 x0_3 x0_4) = u := ⟨_, rfl⟩
    have HR := hide hu
    clear hu
    obtain ⟨q, hq0⟩ : ∃ q : Nat, q = onlyN u n0 := ⟨_, rfl⟩
    have hq : q ≤ 1048576 := by rw [hq0]; exact onlyN_le (by omega)
    have HQ := hide hq0
    clear hq0
    cases u
    all_goals
      go_enter Try.func7, Try.ntmps7
      have hq0 : Below w0.heap.size w0 w0 := Below.refl _ _
      go_wp2_with fail
      refine (sz_alarm_ok _ _ _ _ _  _ _ _ hs0_ (by omega) _).mono ?_
      rintro e w1 ⟨rfl, hb1⟩
      have hs1 : Below w0.heap.size w0 w1 := below_call (by go_grown) hb1
      have hz1 := hs1.size
      have HX0_1 := (Cells.new w0 _ [.int .i64 x0_0, .int .i64 x0_1, .slice A0 n0 c0, .int .i64 x0_3, .int .i64 x0_4] 32 rfl).on hb1
      have hq1 : Below w0.heap.size w0 w1 := hq0.trans (hs1.mono hq0.size)
      have lx0_1_0 := HX0_1.2 0 _ rfl
      have lx0_1_1 := HX0_1.2 1 _ rfl
      have lx0_1_2 := HX0_1.2 2 _ rfl
      have lx0_1_3 := HX0_1.2 3 _ rfl
      have lx0_1_4 := HX0_1.2 4 _ rfl
      have ly0_1 := HX0_1.1
      go_wp2_with fail
      refine (to_alarm _ _ _ _ _ X0 _ _ _ hn0 (ha0.on (below_call hq1 (by go_grown)))).mono ?_
      rintro e w2 ⟨vT1, rfl, hb2, OT1_2⟩
      have hs2 : Below w1.heap.size w1 w2 := below_call (by go_grown) hb2
      have hz2 := hs2.size
      have HX0_2 := HX0_1.on hs2
      have hq2 : Below w0.heap.size w0 w2 := hq1.trans (hs2.mono hq1.size)
      have BT1 : ∀ g, vT1.ownBlock = some g → w1.heap.size ≤ g ∧ g < w2.heap.size := fun g hg => ⟨Nat.le_trans (by first | exact Nat.le_refl _ | (simp only [World.size_alloc]; omega) | (simp only [World.size_alloc, World.size_drew]; omega)) (OT1_2.blk g hg).1, (OT1_2.blk g hg).2⟩
      have ET1 : ∀ g, vT1.ownBlock = some g → True := fun g hg => trivial
      obtain ⟨AT1, cT1, hvT1, hcT1, _⟩ := OT1_2.arr
      subst hvT1
      clear lx0_1_0 lx0_1_1 lx0_1_2 lx0_1_3 lx0_1_4
      have lx0_2_0 := HX0_2.2 0 _ rfl
      have lx0_2_1 := HX0_2.2 1 _ rfl
      have lx0_2_2 := HX0_2.2 2 _ rfl
      have lx0_2_3 := HX0_2.2 3 _ rfl
      have lx0_2_4 := HX0_2.2 4 _ rfl
      have ly0_2 := HX0_2.1
      go_wp2_with fail
      refine (spec_heard _ _ _ _ _ X0 _ _ _ HR.out q HQ.out _ hn0 hcT1 ((OT1_2.below (by go_grown) (Nat.le_refl _)).arr1)).mono ?_
      rintro e w3 ⟨vW2, rfl, hb3, OW2_3⟩
      have hs3 : Below w2.heap.size w2 w3 := below_call (by go_grown) hb3
      have hz3 := hs3.size
      have HX0_3 := HX0_2.on hs3
      have hq3 : Below w0.heap.size w0 w3 := hq2.trans (hs3.mono hq2.size)
      have OT1_3 := OT1_2.below hs3 (Nat.le_refl _)
      have BW2 : ∀ g, vW2.ownBlock = some g → w2.heap.size ≤ g ∧ g < w3.heap.size := fun g hg => ⟨Nat.le_trans (by first | exact Nat.le_refl _ | (simp only [World.size_alloc]; omega) | (simp only [World.size_alloc, World.size_drew]; omega)) (OW2_3.blk g hg).1, (OW2_3.blk g hg).2⟩
      have EW2 : ∀ g, vW2.ownBlock = some g → True := fun g hg => trivial
      obtain ⟨AW2, cW2, hvW2, hcW2, _⟩ := OW2_3.arr
      subst hvW2
      clear lx0_2_0 lx0_2_1 lx0_2_2 lx0_2_3 lx0_2_4
      have lx0_3_0 := HX0_3.2 0 _ rfl
      have lx0_3_1 := HX0_3.2 1 _ rfl
      have lx0_3_2 := HX0_3.2 2 _ rfl
      have lx0_3_3 := HX0_3.2 3 _ rfl
      have lx0_3_4 := HX0_3.2 4 _ rfl
      have ly0_3 := HX0_3.1
      go_wp2_with fail
      refine (to_alarm _ _ _ _ _ X0 _ _ _ hn0 (ha0.on (below_call hq3 (by go_grown)))).mono ?_
      rintro e w4 ⟨vK3, rfl, hb4, OK3_4⟩
      have hs4 : Below w3.heap.size w3 w4 := below_call (by go_grown) hb4
      have hz4 := hs4.size
      have HX0_4 := HX0_3.on hs4
      have hq4 : Below w0.heap.size w0 w4 := hq3.trans (hs4.mono hq3.size)
      have OT1_4 := OT1_3.below hs4 (Nat.le_refl _)
      have OW2_4 := OW2_3.below hs4 (Nat.le_refl _)
      have BK3 : ∀ g, vK3.ownBlock = some g → w3.heap.size ≤ g ∧ g < w4.heap.size := fun g hg => ⟨Nat.le_trans (by first | exact Nat.le_refl _ | (simp only [World.size_alloc]; omega) | (simp only [World.size_alloc, World.size_drew]; omega)) (OK3_4.blk g hg).1, (OK3_4.blk g hg).2⟩
      have EK3 : ∀ g, vK3.ownBlock = some g → True := fun g hg => trivial
      obtain ⟨AK3, cK3, hvK3, hcK3, _⟩ := OK3_4.arr
      subst hvK3
      clear lx0_3_0 lx0_3_1 lx0_3_2 lx0_3_3 lx0_3_4
      have lx0_4_0 := HX0_4.2 0 _ rfl
      have lx0_4_1 := HX0_4.2 1 _ rfl
      have lx0_4_2 := HX0_4.2 2 _ rfl
      have lx0_4_3 := HX0_4.2 3 _ rfl
      have lx0_4_4 := HX0_4.2 4 _ rfl
      have ly0_4 := HX0_4.1
      go_wp2_with fail
      refine (impl_heard _ _ _ _ _ X0 _ _ _ HR.out q HQ.out _ hn0 hcK3 ((OK3_4.below (by go_grown) (Nat.le_refl _)).arr1)).mono ?_
      rintro e w5 ⟨vG4, rfl, hb5, OG4_5⟩
      have hs5 : Below w4.heap.size w4 w5 := below_call (by go_grown) hb5
      have hz5 := hs5.size
      have HX0_5 := HX0_4.on hs5
      have HX1_5 := (Cells.new w4 _ [.int .i64 x0_0, .int .i64 x0_1, .slice AK3 n0 cK3, .int .i64 x0_3, .int .i64 x0_4] 24 rfl).on hb5
      have hq5 : Below w0.heap.size w0 w5 := hq4.trans (hs5.mono hq4.size)
      have hn4_5 : w4.heap.size < w5.heap.size := by first | (have := hb5.size; simp only [World.size_alloc, World.size_setCell, World.size_drew] at this; omega) | omega
      have OT1_5 := OT1_4.below hs5 (Nat.le_refl _)
      have OW2_5 := OW2_4.below hs5 (Nat.le_refl _)
      have OK3_5 := OK3_4.below hs5 (Nat.le_refl _)
      have BG4 : ∀ g, vG4.ownBlock = some g → w4.heap.size ≤ g ∧ g < w5.heap.size := fun g hg => ⟨Nat.le_trans (by first | exact Nat.le_refl _ | (simp only [World.size_alloc]; omega) | (simp only [World.size_alloc, World.size_drew]; omega)) (OG4_5.blk g hg).1, (OG4_5.blk g hg).2⟩
      have EG4 : ∀ g, vG4.ownBlock = some g → w4.heap.size < g := fun g hg => by have h1 := (OG4_5.blk g hg).1; simp only [World.size_alloc] at h1; omega
      obtain ⟨AG4, cG4, hvG4, hcG4, _⟩ := OG4_5.arr
      subst hvG4
      clear lx0_4_0 lx0_4_1 lx0_4_2 lx0_4_3 lx0_4_4
      have lx0_5_0 := HX0_5.2 0 _ rfl
      have lx0_5_1 := HX0_5.2 1 _ rfl
      have lx0_5_2 := HX0_5.2 2 _ rfl
      have lx0_5_3 := HX0_5.2 3 _ rfl
      have lx0_5_4 := HX0_5.2 4 _ rfl
      have ly0_5 := HX0_5.1
      have lx1_5_0 := HX1_5.2 0 _ rfl
      have lx1_5_1 := HX1_5.2 1 _ rfl
      have lx1_5_2 := HX1_5.2 2 _ rfl
      have lx1_5_3 := HX1_5.2 3 _ rfl
      have lx1_5_4 := HX1_5.2 4 _ rfl
      have ly1_5 := HX1_5.1
      go_wp2_with fail
      refine (eq_intS _ _ _ _ _ _ (fun p _ => ((putAll (hrdL X0 n0) n0).getD p 0 : Nat)) (fun p _ => ((putAll (hrdL X0 n0) n0).getD p 0 : Nat)) true (eqX_self _ _ _) _ hq hq ((OG4_5.below (by go_grown) (Nat.le_refl _)).arr1) ((OW2_5.below (by go_grown) (Nat.le_refl _)).arr1)).mono ?_
      rintro e w6 ⟨rfl, hb6⟩
      have hs6 : Below w5.heap.size w5 w6 := below_call (by go_grown) hb6
      have hz6 := hs6.size
      have HX0_6 := HX0_5.on hs6
      have HX1_6 := HX1_5.on hs6
      have hq6 : Below w0.heap.size w0 w6 := hq5.trans (hs6.mono hq5.size)
      have hn4_6 : w4.heap.size < w6.heap.size := by first | (have := hb6.size; simp only [World.size_alloc, World.size_setCell, World.size_drew] at this; omega) | omega
      have OT1_6 := OT1_5.below hs6 (Nat.le_refl _)
      have OW2_6 := OW2_5.below hs6 (Nat.le_refl _)
      have OK3_6 := OK3_5.below hs6 (Nat.le_refl _)
      have OG4_6 := OG4_5.below hs6 (Nat.le_refl _)
      clear lx0_5_0 lx0_5_1 lx0_5_2 lx0_5_3 lx0_5_4
      have lx0_6_0 := HX0_6.2 0 _ rfl
      have lx0_6_1 := HX0_6.2 1 _ rfl
      have lx0_6_2 := HX0_6.2 2 _ rfl
      have lx0_6_3 := HX0_6.2 3 _ rfl
      have lx0_6_4 := HX0_6.2 4 _ rfl
      have ly0_6 := HX0_6.1
      clear lx1_5_0 lx1_5_1 lx1_5_2 lx1_5_3 lx1_5_4
      have lx1_6_0 := HX1_6.2 0 _ rfl
      have lx1_6_1 := HX1_6.2 1 _ rfl
      have lx1_6_2 := HX1_6.2 2 _ rfl
      have lx1_6_3 := HX1_6.2 3 _ rfl
      have lx1_6_4 := HX1_6.2 4 _ rfl
      have ly1_6 := HX1_6.1
      go_wp2_with fail
      have hS6 := S_of ((Below.refl w6.heap.size w6).drew)
      go_region_held3 (fun w' => (∀ b o, b < w6.heap.size → w'.cell? ⟨b, o, none⟩ = w6.cell? ⟨b, o, none⟩) ∧ Below w6.heap.size w6 w') (assumption) (first | ((go_at_call 15); (refine (to_alarm _ _ _ _ _ X0 _ _ _ hn0 (ha0.on (below_call hq6 (by go_grown)))).mono ?_); (rintro e w7 ⟨vP5, rfl, hb7, OP5_7⟩); (have hs7 : Below w6.heap.size w6 w7 := below_call (by go_grown) hb7); (have hz7 := hs7.size); (have HX0_7 := (HX0_6.on (Below.refl _ _).drew).on hb7); (have HX1_7 := (HX1_6.on (Below.refl _ _).drew).on hb7); (have hq7 : Below w0.heap.size w0 w7 := hq6.trans (hs7.mono hq6.size)); (have hn4_7 : w4.heap.size < w7.heap.size := by first | (have := hb7.size; simp only [World.size_alloc, World.size_setCell, World.size_drew] at this; omega) | omega); (have OT1_7 := OT1_6.below hs7 (Nat.le_refl _)); (have OW2_7 := OW2_6.below hs7 (Nat.le_refl _)); (have OK3_7 := OK3_6.below hs7 (Nat.le_refl _)); (have OG4_7 := OG4_6.below hs7 (Nat.le_refl _)); (have BP5 : ∀ g, vP5.ownBlock = some g → w6.heap.size ≤ g ∧ g < w7.heap.size := fun g hg => ⟨Nat.le_trans (by first | exact Nat.le_refl _ | (simp only [World.size_alloc]; omega) | (simp only [World.size_alloc, World.size_drew]; omega)) (OP5_7.blk g hg).1, (OP5_7.blk g hg).2⟩); (have EP5 : ∀ g, vP5.ownBlock = some g → True := fun g hg => trivial); (obtain ⟨AP5, cP5, hvP5, hcP5, _⟩ := OP5_7.arr); (subst hvP5); (have lx0_7_0 := HX0_7.2 0 _ rfl); (have lx0_7_1 := HX0_7.2 1 _ rfl); (have lx0_7_2 := HX0_7.2 2 _ rfl); (have lx0_7_3 := HX0_7.2 3 _ rfl); (have lx0_7_4 := HX0_7.2 4 _ rfl); (have ly0_7 := HX0_7.1); (have lx1_7_0 := HX1_7.2 0 _ rfl); (have lx1_7_1 := HX1_7.2 1 _ rfl); (have lx1_7_2 := HX1_7.2 2 _ rfl); (have lx1_7_3 := HX1_7.2 3 _ rfl); (have lx1_7_4 := HX1_7.2 4 _ rfl); (have ly1_7 := HX1_7.1); (have hS7 := S_of (below_call (Below.refl _ _).drew hb7))) | ((go_at_call 10); (refine (eq_alarm _ _ _ _ _ X0 _ _ _ _ _ hn0 ((OK3_7.below (by go_grown) (Nat.le_refl _)).arr1) ((OP5_7.below (by go_grown) (Nat.le_refl _)).arr1)).mono ?_); (rintro e w8 ⟨rfl, hb8⟩); (have hs8 : Below w7.heap.size w7 w8 := below_call (by go_grown) hb8); (have hz8 := hs8.size); (have HX0_8 := HX0_7.on hb8); (have HX1_8 := HX1_7.on hb8); (have hq8 : Below w0.heap.size w0 w8 := hq7.trans (hs8.mono hq7.size)); (have hn4_8 : w4.heap.size < w8.heap.size := by first | (have := hb8.size; simp only [World.size_alloc, World.size_setCell, World.size_drew] at this; omega) | omega); (have OT1_8 := OT1_7.below hs8 (Nat.le_refl _)); (have OW2_8 := OW2_7.below hs8 (Nat.le_refl _)); (have OK3_8 := OK3_7.below hs8 (Nat.le_refl _)); (have OG4_8 := OG4_7.below hs8 (Nat.le_refl _)); (have OP5_8 := OP5_7.below hs8 (Nat.le_refl _)); (have lx0_8_0 := HX0_8.2 0 _ rfl); (have lx0_8_1 := HX0_8.2 1 _ rfl); (have lx0_8_2 := HX0_8.2 2 _ rfl); (have lx0_8_3 := HX0_8.2 3 _ rfl); (have lx0_8_4 := HX0_8.2 4 _ rfl); (have ly0_8 := HX0_8.1); (have lx1_8_0 := HX1_8.2 0 _ rfl); (have lx1_8_1 := HX1_8.2 1 _ rfl); (have lx1_8_2 := HX1_8.2 2 _ rfl); (have lx1_8_3 := HX1_8.2 3 _ rfl); (have lx1_8_4 := HX1_8.2 4 _ rfl); (have ly1_8 := HX1_8.1); (have hS8 := S_of (below_call hS7.2 hb8))))
      clear hS6 hS7 hS8
      clear lx0_7_0 lx0_7_1 lx0_7_2 lx0_7_3 lx0_7_4
      clear lx0_6_0 lx0_6_1 lx0_6_2 lx0_6_3 lx0_6_4
      clear lx1_7_0 lx1_7_1 lx1_7_2 lx1_7_3 lx1_7_4
      clear lx1_6_0 lx1_6_1 lx1_6_2 lx1_6_3 lx1_6_4
      go_wp2_with fail
      refine (mark_alarm _ _ _ _ _  _ _ _ _ _ _ hn0 (by omega) (by omega) OK3_8).mono ?_
      rintro e w9 ⟨rfl, hg9, OK3_9⟩
      have hz9 := hg9.size
      have hq9 : Below w0.heap.size w0 w9 := hq8.grown hg9 hq8.size (fun g hg => by have := (BK3 g hg).1; omega)
      have HX0_9 := HX0_8.grown hg9 (fun g hg => by have h1 := (BK3 g hg).1; have h2 := HX0_1.1; omega)
      have HX1_9 := HX1_8.apart3 hg9 (fun e => by have h1 := BK3 _ e; have h2 := HX1_5.1; have h3 := EK3 _ e; omega)
      clear lx0_8_0 lx0_8_1 lx0_8_2 lx0_8_3 lx0_8_4
      have lx0_9_0 := HX0_9.2 0 _ rfl
      have lx0_9_1 := HX0_9.2 1 _ rfl
      have lx0_9_2 := HX0_9.2 2 _ rfl
      have lx0_9_3 := HX0_9.2 3 _ rfl
      have lx0_9_4 := HX0_9.2 4 _ rfl
      have ly0_9 := HX0_9.1
      clear lx1_8_0 lx1_8_1 lx1_8_2 lx1_8_3 lx1_8_4
      have lx1_9_0 := HX1_9.2 0 _ rfl
      have lx1_9_1 := HX1_9.2 1 _ rfl
      have lx1_9_2 := HX1_9.2 2 _ rfl
      have lx1_9_3 := HX1_9.2 3 _ rfl
      have lx1_9_4 := HX1_9.2 4 _ rfl
      have ly1_9 := HX1_9.1
      have hn4_9 : w4.heap.size < w9.heap.size := by omega
      have OT1_9 := OT1_8.apart hg9 (fun g h1 h2 => by have a1 := BK3 g h1; have a2 := BT1 g h2; omega)
      have OW2_9 := OW2_8.apart hg9 (fun g h1 h2 => by have a1 := BK3 g h1; have a2 := BW2 g h2; omega)
      have OG4_9 := OG4_8.apart hg9 (fun g h1 h2 => by have a1 := BK3 g h1; have a2 := BG4 g h2; omega)
      have OP5_9 := OP5_8.apart hg9 (fun g h1 h2 => by have a1 := BK3 g h1; have a2 := BP5 g h2; omega)
      go_wp2_with fail
      refine (eq_intS _ _ _ _ _ _ (fun p _ => ((putAll (hrdL X0 n0) n0).getD p 0 : Nat)) (fun p _ => ((putAll (hrdL X0 n0) n0).getD p 0 : Nat)) true (eqX_self _ _ _) _ hq hq ((OG4_9.below (by go_grown) (Nat.le_refl _)).arr1) ((OW2_9.below (by go_grown) (Nat.le_refl _)).arr1)).mono ?_
      rintro e w10 ⟨rfl, hb10⟩
      have hs10 : Below w9.heap.size w9 w10 := below_call (by go_grown) hb10
      have hz10 := hs10.size
      have HX0_10 := HX0_9.on hs10
      have HX1_10 := HX1_9.on hs10
      have hq10 : Below w0.heap.size w0 w10 := hq9.trans (hs10.mono hq9.size)
      have hn4_10 : w4.heap.size < w10.heap.size := by first | (have := hb10.size; simp only [World.size_alloc, World.size_setCell, World.size_drew] at this; omega) | omega
      have OT1_10 := OT1_9.below hs10 (Nat.le_refl _)
      have OW2_10 := OW2_9.below hs10 (Nat.le_refl _)
      have OK3_10 := OK3_9.below hs10 (Nat.le_refl _)
      have OG4_10 := OG4_9.below hs10 (Nat.le_refl _)
      have OP5_10 := OP5_9.below hs10 (Nat.le_refl _)
      clear lx0_9_0 lx0_9_1 lx0_9_2 lx0_9_3 lx0_9_4
      have lx0_10_0 := HX0_10.2 0 _ rfl
      have lx0_10_1 := HX0_10.2 1 _ rfl
      have lx0_10_2 := HX0_10.2 2 _ rfl
      have lx0_10_3 := HX0_10.2 3 _ rfl
      have lx0_10_4 := HX0_10.2 4 _ rfl
      have ly0_10 := HX0_10.1
      clear lx1_9_0 lx1_9_1 lx1_9_2 lx1_9_3 lx1_9_4
      have lx1_10_0 := HX1_10.2 0 _ rfl
      have lx1_10_1 := HX1_10.2 1 _ rfl
      have lx1_10_2 := HX1_10.2 2 _ rfl
      have lx1_10_3 := HX1_10.2 3 _ rfl
      have lx1_10_4 := HX1_10.2 4 _ rfl
      have ly1_10 := HX1_10.1
      go_wp2_with fail
      refine (mark_intS _ _ _ _ _ _ _ hq (by omega) (by omega) OG4_10).mono ?_
      rintro e w11 ⟨rfl, hg11, OG4_11⟩
      have hz11 := hg11.size
      have hq11 : Below w0.heap.size w0 w11 := hq10.grown hg11 hq10.size (fun g hg => by have := (BG4 g hg).1; omega)
      have HX0_11 := HX0_10.grown hg11 (fun g hg => by have h1 := (BG4 g hg).1; have h2 := HX0_1.1; omega)
      have HX1_11 := HX1_10.apart3 hg11 (fun e => by have h1 := BG4 _ e; have h2 := HX1_5.1; have h3 := EG4 _ e; omega)
      clear lx0_10_0 lx0_10_1 lx0_10_2 lx0_10_3 lx0_10_4
      have lx0_11_0 := HX0_11.2 0 _ rfl
      have lx0_11_1 := HX0_11.2 1 _ rfl
      have lx0_11_2 := HX0_11.2 2 _ rfl
      have lx0_11_3 := HX0_11.2 3 _ rfl
      have lx0_11_4 := HX0_11.2 4 _ rfl
      have ly0_11 := HX0_11.1
      clear lx1_10_0 lx1_10_1 lx1_10_2 lx1_10_3 lx1_10_4
      have lx1_11_0 := HX1_11.2 0 _ rfl
      have lx1_11_1 := HX1_11.2 1 _ rfl
      have lx1_11_2 := HX1_11.2 2 _ rfl
      have lx1_11_3 := HX1_11.2 3 _ rfl
      have lx1_11_4 := HX1_11.2 4 _ rfl
      have ly1_11 := HX1_11.1
      have hn4_11 : w4.heap.size < w11.heap.size := by omega
      have OT1_11 := OT1_10.apart hg11 (fun g h1 h2 => by have a1 := BG4 g h1; have a2 := BT1 g h2; omega)
      have OW2_11 := OW2_10.apart hg11 (fun g h1 h2 => by have a1 := BG4 g h1; have a2 := BW2 g h2; omega)
      have OK3_11 := OK3_10.apart hg11 (fun g h1 h2 => by have a1 := BG4 g h1; have a2 := BK3 g h2; omega)
      have OP5_11 := OP5_10.apart hg11 (fun g h1 h2 => by have a1 := BG4 g h1; have a2 := BP5 g h2; omega)
      go_wp2_with fail
      refine (held_intS _ _ _ _ 1 _ hq (by omega) (by omega) ((OG4_11.below (by go_grown) (Nat.le_refl _)).arr1) (fun _ _ _ _ => rfl)).mono ?_
      rintro e u11 ⟨rfl, rfl⟩
      go_wp2_with fail
      refine (to_alarm _ _ _ _ _ X0 _ _ _ hn0 (ha0.on (below_call hq11 (by go_grown)))).mono ?_
      rintro e w12 ⟨vT6, rfl, hb12, OT6_12⟩
      have hs12 : Below w11.heap.size w11 w12 := below_call (by go_grown) hb12
      have hz12 := hs12.size
      have HX0_12 := HX0_11.on hs12
      have HX1_12 := HX1_11.on hs12
      have hq12 : Below w0.heap.size w0 w12 := hq11.trans (hs12.mono hq11.size)
      have hn4_12 : w4.heap.size < w12.heap.size := by first | (have := hb12.size; simp only [World.size_alloc, World.size_setCell, World.size_drew] at this; omega) | omega
      have OT1_12 := OT1_11.below hs12 (Nat.le_refl _)
      have OW2_12 := OW2_11.below hs12 (Nat.le_refl _)
      have OK3_12 := OK3_11.below hs12 (Nat.le_refl _)
      have OG4_12 := OG4_11.below hs12 (Nat.le_refl _)
      have OP5_12 := OP5_11.below hs12 (Nat.le_refl _)
      have BT6 : ∀ g, vT6.ownBlock = some g → w11.heap.size ≤ g ∧ g < w12.heap.size := fun g hg => ⟨Nat.le_trans (by first | exact Nat.le_refl _ | (simp only [World.size_alloc]; omega) | (simp only [World.size_alloc, World.size_drew]; omega)) (OT6_12.blk g hg).1, (OT6_12.blk g hg).2⟩
      have ET6 : ∀ g, vT6.ownBlock = some g → True := fun g hg => trivial
      obtain ⟨AT6, cT6, hvT6, hcT6, _⟩ := OT6_12.arr
      subst hvT6
      clear lx0_11_0 lx0_11_1 lx0_11_2 lx0_11_3 lx0_11_4
      have lx0_12_0 := HX0_12.2 0 _ rfl
      have lx0_12_1 := HX0_12.2 1 _ rfl
      have lx0_12_2 := HX0_12.2 2 _ rfl
      have lx0_12_3 := HX0_12.2 3 _ rfl
      have lx0_12_4 := HX0_12.2 4 _ rfl
      have ly0_12 := HX0_12.1
      clear lx1_11_0 lx1_11_1 lx1_11_2 lx1_11_3 lx1_11_4
      have lx1_12_0 := HX1_12.2 0 _ rfl
      have lx1_12_1 := HX1_12.2 1 _ rfl
      have lx1_12_2 := HX1_12.2 2 _ rfl
      have lx1_12_3 := HX1_12.2 3 _ rfl
      have lx1_12_4 := HX1_12.2 4 _ rfl
      have ly1_12 := HX1_12.1
      go_wp2_with fail
      refine (impl_heard _ _ _ _ _ X0 _ _ _ HR.out q HQ.out _ hn0 hcT6 ((OT6_12.below (by go_grown) (Nat.le_refl _)).arr1)).mono ?_
      rintro e w13 ⟨vH7, rfl, hb13, OH7_13⟩
      have hs13 : Below w12.heap.size w12 w13 := below_call (by go_grown) hb13
      have hz13 := hs13.size
      have HX0_13 := HX0_12.on hs13
      have HX1_13 := HX1_12.on hs13
      have hq13 : Below w0.heap.size w0 w13 := hq12.trans (hs13.mono hq12.size)
      have hn4_13 : w4.heap.size < w13.heap.size := by first | (have := hb13.size; simp only [World.size_alloc, World.size_setCell, World.size_drew] at this; omega) | omega
      have OT1_13 := OT1_12.below hs13 (Nat.le_refl _)
      have OW2_13 := OW2_12.below hs13 (Nat.le_refl _)
      have OK3_13 := OK3_12.below hs13 (Nat.le_refl _)
      have OG4_13 := OG4_12.below hs13 (Nat.le_refl _)
      have OP5_13 := OP5_12.below hs13 (Nat.le_refl _)
      have OT6_13 := OT6_12.below hs13 (Nat.le_refl _)
      have BH7 : ∀ g, vH7.ownBlock = some g → w12.heap.size ≤ g ∧ g < w13.heap.size := fun g hg => ⟨Nat.le_trans (by first | exact Nat.le_refl _ | (simp only [World.size_alloc]; omega) | (simp only [World.size_alloc, World.size_drew]; omega)) (OH7_13.blk g hg).1, (OH7_13.blk g hg).2⟩
      have EH7 : ∀ g, vH7.ownBlock = some g → True := fun g hg => trivial
      obtain ⟨AH7, cH7, hvH7, hcH7, _⟩ := OH7_13.arr
      subst hvH7
      clear lx0_12_0 lx0_12_1 lx0_12_2 lx0_12_3 lx0_12_4
      have lx0_13_0 := HX0_13.2 0 _ rfl
      have lx0_13_1 := HX0_13.2 1 _ rfl
      have lx0_13_2 := HX0_13.2 2 _ rfl
      have lx0_13_3 := HX0_13.2 3 _ rfl
      have lx0_13_4 := HX0_13.2 4 _ rfl
      have ly0_13 := HX0_13.1
      clear lx1_12_0 lx1_12_1 lx1_12_2 lx1_12_3 lx1_12_4
      have lx1_13_0 := HX1_13.2 0 _ rfl
      have lx1_13_1 := HX1_13.2 1 _ rfl
      have lx1_13_2 := HX1_13.2 2 _ rfl
      have lx1_13_3 := HX1_13.2 3 _ rfl
      have lx1_13_4 := HX1_13.2 4 _ rfl
      have ly1_13 := HX1_13.1
      go_wp2_with fail
      refine (eq_intS _ _ _ _ _ _ (fun p _ => ((putAll (hrdL X0 n0) n0).getD p 0 : Nat)) (fun p _ => ((putAll (hrdL X0 n0) n0).getD p 0 : Nat)) true (eqX_self _ _ _) _ hq hq ((OH7_13.below (by go_grown) (Nat.le_refl _)).arr1) ((OW2_13.below (by go_grown) (Nat.le_refl _)).arr1)).mono ?_
      rintro e w14 ⟨rfl, hb14⟩
      have hs14 : Below w13.heap.size w13 w14 := below_call (by go_grown) hb14
      have hz14 := hs14.size
      have HX0_14 := HX0_13.on hs14
      have HX1_14 := HX1_13.on hs14
      have hq14 : Below w0.heap.size w0 w14 := hq13.trans (hs14.mono hq13.size)
      have hn4_14 : w4.heap.size < w14.heap.size := by first | (have := hb14.size; simp only [World.size_alloc, World.size_setCell, World.size_drew] at this; omega) | omega
      have OT1_14 := OT1_13.below hs14 (Nat.le_refl _)
      have OW2_14 := OW2_13.below hs14 (Nat.le_refl _)
      have OK3_14 := OK3_13.below hs14 (Nat.le_refl _)
      have OG4_14 := OG4_13.below hs14 (Nat.le_refl _)
      have OP5_14 := OP5_13.below hs14 (Nat.le_refl _)
      have OT6_14 := OT6_13.below hs14 (Nat.le_refl _)
      have OH7_14 := OH7_13.below hs14 (Nat.le_refl _)
      clear lx0_13_0 lx0_13_1 lx0_13_2 lx0_13_3 lx0_13_4
      have lx0_14_0 := HX0_14.2 0 _ rfl
      have lx0_14_1 := HX0_14.2 1 _ rfl
      have lx0_14_2 := HX0_14.2 2 _ rfl
      have lx0_14_3 := HX0_14.2 3 _ rfl
      have lx0_14_4 := HX0_14.2 4 _ rfl
      have ly0_14 := HX0_14.1
      clear lx1_13_0 lx1_13_1 lx1_13_2 lx1_13_3 lx1_13_4
      have lx1_14_0 := HX1_14.2 0 _ rfl
      have lx1_14_1 := HX1_14.2 1 _ rfl
      have lx1_14_2 := HX1_14.2 2 _ rfl
      have lx1_14_3 := HX1_14.2 3 _ rfl
      have lx1_14_4 := HX1_14.2 4 _ rfl
      have ly1_14 := HX1_14.1
      go_wp2_with fail
      refine (held_intS _ _ _ _ 1 _ hq (by omega) (by omega) ((OG4_14.below (by go_grown) (Nat.le_refl _)).arr1) (fun _ _ _ _ => rfl)).mono ?_
      rintro e u14 ⟨rfl, rfl⟩
      go_wp2
      go_returns
      exact ⟨rfl, hq14⟩
  · have hs' : (1048576 : Int) < (n0 : Int) := by omega
    go_enter Try.func7, Try.ntmps7
    go_wp2_with fail
    refine (sz_alarm_over _ _ _ _ _  _ _ _ hs' hm0 (by omega) (by omega) _).mono ?_
    rintro e u ⟨rfl, hbz⟩
    go_wp2
    go_returns
    exact ⟨rfl, below_call (by go_grown) hbz⟩
end Go.Proofs.Ytooiefpinfgclaa
