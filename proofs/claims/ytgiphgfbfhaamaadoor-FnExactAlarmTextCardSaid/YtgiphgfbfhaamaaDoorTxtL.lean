/- An alarm as text: the law. -/
import Derived.Test.YtgiphgfbfhaamaaDoorTxtA
import Derived.Test.YtgiphgfbfhaamaaDoorAlaK
import Derived.Test.YtgiphgfbfhaamaaDoorGrow
import Derived.Test.YtgiphgfbfhaamaaDoorCells2
namespace Go.Proofs.YtgiphgfbfhaamaaDoor
open Go.RowKit
set_option linter.unusedVariables false
set_option linter.unusedSimpArgs false

set_option maxHeartbeats 4000000 in
set_option maxRecDepth 100000 in
theorem walk_FnExactAlarmText (x0_0 : Int) (x0_1 : Int) (A0 : Option Addr) (n0 c0 : Nat) (X0 : Nat → Nat → Int) (x0_3 : Int) (x0_4 : Int) (w0 : World) (hm0 : n0 ≤ maxLen) (ha0 : Arr w0 w0.heap.size A0 n0 2 (iv X0)) (htab : Lib.TabIs Tryd.prog w0 "internal/strconv.uint64pow10" .u64 Lib.pow10Tab) :
    Calls Tryd.prog 3 #[.agg #[.int .i64 x0_0, .int .i64 x0_1, .slice A0 n0 c0, .int .i64 x0_3, .int .i64 x0_4]] w0 fun e w' => e = .returned (.bool true) ∧ Below w0.heap.size w0 w' := by
  have HTB := hide (Lib.tabBelow_of_tabIs htab)
  clear htab
  have hfa := frozen_al; have hfo := frozen_out
  have hmx0 : n0 ≤ 9223372036854775807 := hm0
  by_cases hs0_ : (n0 : Int) ≤ 1048576
  · skip
    have hn0 : n0 ≤ 1048576 := by omega
    clear hmx0
    obtain ⟨u, hu⟩ : ∃ u, (alaB x0_0 x0_1 n0 X0 x0_3 x0_4) = u := ⟨_, rfl⟩
    have HR := hide hu
    clear hu
    obtain ⟨s, hs⟩ : ∃ s, txtV u x0_0 x0_1 n0 = s := ⟨_, rfl⟩
    have HQs := hide hs
    clear hs
    cases u
    all_goals
      go_enter Tryd.func3, Tryd.ntmps3
      have hq0 : Below w0.heap.size w0 w0 := Below.refl _ _
      go_wp2_with fail
      refine (sz_alarm_ok _ _ _ _ _  _ _ _ hs0_ (by omega) _).mono ?_
      rintro e w1 ⟨rfl, hb1⟩
      have hs1 : Below w0.heap.size w0 w1 := below_call (by go_grown) hb1
      have hz1 := hs1.size
      have HX0_1 := (Cells.new w0 _ [.int .i64 x0_0, .int .i64 x0_1, .slice A0 n0 c0, .int .i64 x0_3, .int .i64 x0_4] 24 rfl).on hb1
      have hq1 : Below w0.heap.size w0 w1 := hq0.trans (hs1.mono hq0.size)
      have lx0_1_0 := HX0_1.2 0 _ rfl
      have lx0_1_1 := HX0_1.2 1 _ rfl
      have lx0_1_2 := HX0_1.2 2 _ rfl
      have lx0_1_3 := HX0_1.2 3 _ rfl
      have lx0_1_4 := HX0_1.2 4 _ rfl
      have ly0_1 := HX0_1.1
      go_wp2_with fail
      refine (to_alarm _ _ _ _ _ X0 _ _ _ hn0 (ha0.on (below_call hq1 (by go_grown)))).mono ?_
      rintro e w2 ⟨vT1, rfl, hb2, OT1_2⟩
      have hs2 : Below w1.heap.size w1 w2 := below_call (by go_grown) hb2
      have hz2 := hs2.size
      have HX0_2 := HX0_1.on hs2
      have hq2 : Below w0.heap.size w0 w2 := hq1.trans (hs2.mono hq1.size)
      have BT1 : ∀ g, vT1.ownBlock = some g → w1.heap.size ≤ g ∧ g < w2.heap.size := fun g hg => ⟨Nat.le_trans (by first | exact Nat.le_refl _ | (simp only [World.size_alloc]; omega) | (simp only [World.size_alloc, World.size_drew]; omega)) (OT1_2.blk g hg).1, (OT1_2.blk g hg).2⟩
      have ET1 : ∀ g, vT1.ownBlock = some g → True := fun g hg => trivial
      obtain ⟨AT1, cT1, hvT1, hcT1, _⟩ := OT1_2.arr
      subst hvT1
      clear lx0_1_0 lx0_1_1 lx0_1_2 lx0_1_3 lx0_1_4
      have lx0_2_0 := HX0_2.2 0 _ rfl
      have lx0_2_1 := HX0_2.2 1 _ rfl
      have lx0_2_2 := HX0_2.2 2 _ rfl
      have lx0_2_3 := HX0_2.2 3 _ rfl
      have lx0_2_4 := HX0_2.2 4 _ rfl
      have ly0_2 := HX0_2.1
      go_wp2_with fail
      refine (spec_text _ _ _ _ _ X0 _ _ _ HR.out _ HQs.out _ hn0 hcT1 ((OT1_2.below (by go_grown) (Nat.le_refl _)).arr1)).mono ?_
      rintro e w3 ⟨rfl, hb3⟩
      have hs3 : Below w2.heap.size w2 w3 := below_call (by go_grown) hb3
      have hz3 := hs3.size
      have HX0_3 := HX0_2.on hs3
      have hq3 : Below w0.heap.size w0 w3 := hq2.trans (hs3.mono hq2.size)
      have OT1_3 := OT1_2.below hs3 (Nat.le_refl _)
      clear lx0_2_0 lx0_2_1 lx0_2_2 lx0_2_3 lx0_2_4
      have lx0_3_0 := HX0_3.2 0 _ rfl
      have lx0_3_1 := HX0_3.2 1 _ rfl
      have lx0_3_2 := HX0_3.2 2 _ rfl
      have lx0_3_3 := HX0_3.2 3 _ rfl
      have lx0_3_4 := HX0_3.2 4 _ rfl
      have ly0_3 := HX0_3.1
      go_wp2_with fail
      refine (to_alarm _ _ _ _ _ X0 _ _ _ hn0 (ha0.on (below_call hq3 (by go_grown)))).mono ?_
      rintro e w4 ⟨vK2, rfl, hb4, OK2_4⟩
      have hs4 : Below w3.heap.size w3 w4 := below_call (by go_grown) hb4
      have hz4 := hs4.size
      have HX0_4 := HX0_3.on hs4
      have hq4 : Below w0.heap.size w0 w4 := hq3.trans (hs4.mono hq3.size)
      have OT1_4 := OT1_3.below hs4 (Nat.le_refl _)
      have BK2 : ∀ g, vK2.ownBlock = some g → w3.heap.size ≤ g ∧ g < w4.heap.size := fun g hg => ⟨Nat.le_trans (by first | exact Nat.le_refl _ | (simp only [World.size_alloc]; omega) | (simp only [World.size_alloc, World.size_drew]; omega)) (OK2_4.blk g hg).1, (OK2_4.blk g hg).2⟩
      have EK2 : ∀ g, vK2.ownBlock = some g → True := fun g hg => trivial
      obtain ⟨AK2, cK2, hvK2, hcK2, _⟩ := OK2_4.arr
      subst hvK2
      clear lx0_3_0 lx0_3_1 lx0_3_2 lx0_3_3 lx0_3_4
      have lx0_4_0 := HX0_4.2 0 _ rfl
      have lx0_4_1 := HX0_4.2 1 _ rfl
      have lx0_4_2 := HX0_4.2 2 _ rfl
      have lx0_4_3 := HX0_4.2 3 _ rfl
      have lx0_4_4 := HX0_4.2 4 _ rfl
      have ly0_4 := HX0_4.1
      go_wp2_with fail
      refine (impl_text _ _ _ _ _ X0 _ _ _ HR.out _ HQs.out _ hn0 hcK2 ((OK2_4.below (by go_grown) (Nat.le_refl _)).arr1) (HTB.out _ (by go_grown))).mono ?_
      rintro e w5 ⟨rfl, hb5⟩
      have hs5 : Below w4.heap.size w4 w5 := below_call (by go_grown) hb5
      have hz5 := hs5.size
      have HX0_5 := HX0_4.on hs5
      have HX1_5 := (Cells.new w4 _ [.int .i64 x0_0, .int .i64 x0_1, .slice AK2 n0 cK2, .int .i64 x0_3, .int .i64 x0_4] 30 rfl).on hb5
      have hq5 : Below w0.heap.size w0 w5 := hq4.trans (hs5.mono hq4.size)
      have OT1_5 := OT1_4.below hs5 (Nat.le_refl _)
      have OK2_5 := OK2_4.below hs5 (Nat.le_refl _)
      clear lx0_4_0 lx0_4_1 lx0_4_2 lx0_4_3 lx0_4_4
      have lx0_5_0 := HX0_5.2 0 _ rfl
      have lx0_5_1 := HX0_5.2 1 _ rfl
      have lx0_5_2 := HX0_5.2 2 _ rfl
      have lx0_5_3 := HX0_5.2 3 _ rfl
      have lx0_5_4 := HX0_5.2 4 _ rfl
      have ly0_5 := HX0_5.1
      have lx1_5_0 := HX1_5.2 0 _ rfl
      have lx1_5_1 := HX1_5.2 1 _ rfl
      have lx1_5_2 := HX1_5.2 2 _ rfl
      have lx1_5_3 := HX1_5.2 3 _ rfl
      have lx1_5_4 := HX1_5.2 4 _ rfl
      have ly1_5 := HX1_5.1
      go_wp2_with fail
      have hS5 := S_of ((Below.refl w5.heap.size w5).drew)
      go_region_held3 (fun w' => (∀ b o, b < w5.heap.size → w'.cell? ⟨b, o, none⟩ = w5.cell? ⟨b, o, none⟩) ∧ Below w5.heap.size w5 w') (assumption) (first | ((go_at_call 6); (refine (to_alarm _ _ _ _ _ X0 _ _ _ hn0 (ha0.on (below_call hq5 (by go_grown)))).mono ?_); (rintro e w6 ⟨vP3, rfl, hb6, OP3_6⟩); (have hs6 : Below w5.heap.size w5 w6 := below_call (by go_grown) hb6); (have hz6 := hs6.size); (have HX0_6 := (HX0_5.on (Below.refl _ _).drew).on hb6); (have HX1_6 := (HX1_5.on (Below.refl _ _).drew).on hb6); (have hq6 : Below w0.heap.size w0 w6 := hq5.trans (hs6.mono hq5.size)); (have OT1_6 := OT1_5.below hs6 (Nat.le_refl _)); (have OK2_6 := OK2_5.below hs6 (Nat.le_refl _)); (have BP3 : ∀ g, vP3.ownBlock = some g → w5.heap.size ≤ g ∧ g < w6.heap.size := fun g hg => ⟨Nat.le_trans (by first | exact Nat.le_refl _ | (simp only [World.size_alloc]; omega) | (simp only [World.size_alloc, World.size_drew]; omega)) (OP3_6.blk g hg).1, (OP3_6.blk g hg).2⟩); (have EP3 : ∀ g, vP3.ownBlock = some g → True := fun g hg => trivial); (obtain ⟨AP3, cP3, hvP3, hcP3, _⟩ := OP3_6.arr); (subst hvP3); (have hS6 := S_of (below_call (Below.refl _ _).drew hb6))) | ((go_at_call 8); (refine (eq_alarm _ _ _ _ _ X0 _ _ _ _ _ hn0 ((OK2_6.below (by go_grown) (Nat.le_refl _)).arr1) ((OP3_6.below (by go_grown) (Nat.le_refl _)).arr1)).mono ?_); (rintro e w7 ⟨rfl, hb7⟩); (have hs7 : Below w6.heap.size w6 w7 := below_call (by go_grown) hb7); (have hz7 := hs7.size); (have HX0_7 := HX0_6.on hb7); (have HX1_7 := HX1_6.on hb7); (have hq7 : Below w0.heap.size w0 w7 := hq6.trans (hs7.mono hq6.size)); (have OT1_7 := OT1_6.below hs7 (Nat.le_refl _)); (have OK2_7 := OK2_6.below hs7 (Nat.le_refl _)); (have OP3_7 := OP3_6.below hs7 (Nat.le_refl _)); (have hS7 := S_of (below_call hS6.2 hb7))))
      clear hS5 hS6 hS7
      clear lx0_5_0 lx0_5_1 lx0_5_2 lx0_5_3 lx0_5_4
      have lx0_7_0 := HX0_7.2 0 _ rfl
      have lx0_7_1 := HX0_7.2 1 _ rfl
      have lx0_7_2 := HX0_7.2 2 _ rfl
      have lx0_7_3 := HX0_7.2 3 _ rfl
      have lx0_7_4 := HX0_7.2 4 _ rfl
      have ly0_7 := HX0_7.1
      clear lx1_5_0 lx1_5_1 lx1_5_2 lx1_5_3 lx1_5_4
      have lx1_7_0 := HX1_7.2 0 _ rfl
      have lx1_7_1 := HX1_7.2 1 _ rfl
      have lx1_7_2 := HX1_7.2 2 _ rfl
      have lx1_7_3 := HX1_7.2 3 _ rfl
      have lx1_7_4 := HX1_7.2 4 _ rfl
      have ly1_7 := HX1_7.1
      go_wp2
      go_returns
      exact ⟨rfl, hq7⟩
  · have hs' : (1048576 : Int) < (n0 : Int) := by omega
    go_enter Tryd.func3, Tryd.ntmps3
    go_wp2_with fail
    refine (sz_alarm_over _ _ _ _ _  _ _ _ hs' hm0 (by omega) (by omega) _).mono ?_
    rintro e u ⟨rfl, hbz⟩
    go_wp2
    go_returns
    exact ⟨rfl, below_call (by go_grown) hbz⟩
end Go.Proofs.YtgiphgfbfhaamaaDoor
