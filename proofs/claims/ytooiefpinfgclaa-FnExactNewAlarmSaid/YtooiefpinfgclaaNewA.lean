/- Chapter 21: a new alarm: made by newgen.py. -/
import Derived.Test.YtooiefpinfgclaaAlaK
import Derived.Test.YtooiefpinfgclaaPlaceK
import Derived.Test.YtooiefpinfgclaaCells2
import Derived.Test.YtooiefpinfgclaaList
namespace Go.Proofs.Ytooiefpinfgclaa
open Go.RowKit
set_option linter.unusedVariables false
set_option linter.unusedSimpArgs false

def zz (_i _j : Nat) : Int := 0

theorem own_zz (X : World) (base : Nat) (E : TypeId) (g : Nat) (hg : g = X.heap.size) (hb : base ≤ X.heap.size) : Own (X.alloc (.cells #[] E)) base E 2 (.slice (some ⟨g, 0, none⟩) 0 0) 0 (iv zz) := by
  subst hg; exact own_new hb
theorem spec_new (x : Int) (v : Bool) (hv : inB x 0 1000000 = v) (y : Int) (hy : onlyI v x = y) (w : World) :
    Calls Try.prog 8 #[.int .i64 x] w fun e w' => ∃ s, e = .returned (.tuple #[.agg #[.int .i64 y, .int .i64 0, s, .int .i64 0, .int .i64 0], .bool v]) ∧ Below w.heap.size w w' ∧ Own w' w.heap.size 50 2 s 0 (iv zz) := by
  cases v
  · obtain rfl : 0 = y := hy
    go_enter Try.func8, Try.ntmps8
    go_wp2_with (go_at_call 26; refine (spec_tick _ _ (by assumption) _).mono ?_; rintro e w' ⟨rfl, rfl⟩)
    go_returns
    exact ⟨_, rfl, by go_grown, .inl ⟨rfl, rfl⟩⟩
  · obtain rfl : x = y := hy
    go_enter Try.func8, Try.ntmps8
    go_wp2_with (go_at_call 26; refine (spec_tick _ _ (by assumption) _).mono ?_; rintro e w' ⟨rfl, rfl⟩)
    go_returns
    exact ⟨_, rfl, by go_grown, by first | exact .inl ⟨rfl, rfl⟩ | exact (own_zz _ _ _ _ (by simp) (by simp)).below (by go_grown) (by simp) | exact own_zz _ _ _ _ (by simp) (by simp)⟩
theorem impl_new (x : Int) (v : Bool) (hv : inB x 0 1000000 = v) (y : Int) (hy : onlyI v x = y) (w : World) :
    Calls Try.prog 9 #[.int .i64 x] w fun e w' => ∃ s, e = .returned (.tuple #[.agg #[.int .i64 y, .int .i64 0, s, .int .i64 0, .int .i64 0], .bool v]) ∧ Below w.heap.size w w' ∧ Own w' w.heap.size 50 2 s 0 (iv zz) := by
  cases v
  · obtain rfl : 0 = y := hy
    go_enter Try.func9, Try.ntmps9
    go_wp2_with (go_at_call 27; refine (impl_tick _ _ (by assumption) _).mono ?_; rintro e w' ⟨rfl, rfl⟩)
    go_returns
    exact ⟨_, rfl, by go_grown, .inl ⟨rfl, rfl⟩⟩
  · obtain rfl : x = y := hy
    go_enter Try.func9, Try.ntmps9
    go_wp2_with (go_at_call 27; refine (impl_tick _ _ (by assumption) _).mono ?_; rintro e w' ⟨rfl, rfl⟩)
    go_returns
    exact ⟨_, rfl, by go_grown, .inl ⟨rfl, rfl⟩⟩
set_option maxHeartbeats 4000000 in
set_option maxRecDepth 100000 in
theorem walk_FnExactNewAlarm (x : Int) (w0 : World) (hx0 : -9223372036854775808 ≤ x ∧ x ≤ 9223372036854775807) :
    Calls Try.prog 3 #[.int .i64 x] w0 fun e w' => e = .returned (.bool true) ∧ Below w0.heap.size w0 w' := by
  have hfa := frozen_al; have hfo := frozen_out
  obtain ⟨v, hv⟩ : ∃ v, inB x 0 1000000 = v := ⟨_, rfl⟩
  obtain ⟨y, hy⟩ : ∃ y, onlyI v x = y := ⟨_, rfl⟩
  have HV := hide hv; have HY := hide hy
  clear hv hy
  cases v
  all_goals
    go_enter Try.func3, Try.ntmps3
    have hq0 : Below w0.heap.size w0 w0 := Below.refl _ _
    go_wp2_with fail
    refine (spec_new _ _ HV.out _ HY.out _).mono ?_
    rintro e w1 ⟨vW, rfl, hb1, OW_1⟩
    have hs1 : Below w0.heap.size w0 w1 := below_call (by go_grown) hb1
    have hz1 := hs1.size
    have hq1 : Below w0.heap.size w0 w1 := hq0.trans (hs1.mono hq0.size)
    have BW : ∀ g, vW.ownBlock = some g → w0.heap.size ≤ g ∧ g < w1.heap.size := fun g hg => ⟨Nat.le_trans (by first | exact Nat.le_refl _ | (simp only [World.size_alloc]; omega) | (simp only [World.size_alloc, World.size_drew]; omega)) (OW_1.blk g hg).1, (OW_1.blk g hg).2⟩
    have EW : ∀ g, vW.ownBlock = some g → True := fun g hg => trivial
    obtain ⟨AW, cW, hvW, hcW, _⟩ := OW_1.arr
    subst hvW
    go_wp2_with fail
    refine (impl_new _ _ HV.out _ HY.out _).mono ?_
    rintro e w2 ⟨vG, rfl, hb2, OG_2⟩
    have hs2 : Below w1.heap.size w1 w2 := below_call (by go_grown) hb2
    have hz2 := hs2.size
    have HX0_2 := (Cells.new w1 _ [.int .i64 y, .int .i64 0, .slice AW 0 cW, .int .i64 0, .int .i64 0] 24 rfl).on hb2
    have hq2 : Below w0.heap.size w0 w2 := hq1.trans (hs2.mono hq1.size)
    have hn1_2 : w1.heap.size < w2.heap.size := by first | (have := hb2.size; simp only [World.size_alloc, World.size_setCell, World.size_drew] at this; omega) | omega
    have OW_2 := OW_1.below hs2 (Nat.le_refl _)
    have BG : ∀ g, vG.ownBlock = some g → w1.heap.size ≤ g ∧ g < w2.heap.size := fun g hg => ⟨Nat.le_trans (by first | exact Nat.le_refl _ | (simp only [World.size_alloc]; omega) | (simp only [World.size_alloc, World.size_drew]; omega)) (OG_2.blk g hg).1, (OG_2.blk g hg).2⟩
    have EG : ∀ g, vG.ownBlock = some g → w1.heap.size < g := fun g hg => by have h1 := (OG_2.blk g hg).1; simp only [World.size_alloc] at h1; omega
    obtain ⟨AG, cG, hvG, hcG, _⟩ := OG_2.arr
    subst hvG
    have lx0_2_0 := HX0_2.2 0 _ rfl
    have lx0_2_1 := HX0_2.2 1 _ rfl
    have lx0_2_2 := HX0_2.2 2 _ rfl
    have lx0_2_3 := HX0_2.2 3 _ rfl
    have lx0_2_4 := HX0_2.2 4 _ rfl
    have ly0_2 := HX0_2.1
    go_wp2_with fail
    refine (eq_alarm _ _ _ _ _ zz _ _ _ _ _ (by omega) ((OG_2.below (by go_grown) (Nat.le_refl _)).arr1) ((OW_2.below (by go_grown) (Nat.le_refl _)).arr1)).mono ?_
    rintro e w3 ⟨rfl, hb3⟩
    have hs3 : Below w2.heap.size w2 w3 := below_call (by go_grown) hb3
    have hz3 := hs3.size
    have HX0_3 := HX0_2.on hs3
    have HX1_3 := (Cells.new w2 _ [.int .i64 y, .int .i64 0, .slice AG 0 cG, .int .i64 0, .int .i64 0] 24 rfl).on hb3
    have hq3 : Below w0.heap.size w0 w3 := hq2.trans (hs3.mono hq2.size)
    have hn1_3 : w1.heap.size < w3.heap.size := by first | (have := hb3.size; simp only [World.size_alloc, World.size_setCell, World.size_drew] at this; omega) | omega
    have hn2_3 : w2.heap.size < w3.heap.size := by first | (have := hb3.size; simp only [World.size_alloc, World.size_setCell, World.size_drew] at this; omega) | omega
    have OW_3 := OW_2.below hs3 (Nat.le_refl _)
    have OG_3 := OG_2.below hs3 (Nat.le_refl _)
    clear lx0_2_0 lx0_2_1 lx0_2_2 lx0_2_3 lx0_2_4
    have lx0_3_0 := HX0_3.2 0 _ rfl
    have lx0_3_1 := HX0_3.2 1 _ rfl
    have lx0_3_2 := HX0_3.2 2 _ rfl
    have lx0_3_3 := HX0_3.2 3 _ rfl
    have lx0_3_4 := HX0_3.2 4 _ rfl
    have ly0_3 := HX0_3.1
    have lx1_3_0 := HX1_3.2 0 _ rfl
    have lx1_3_1 := HX1_3.2 1 _ rfl
    have lx1_3_2 := HX1_3.2 2 _ rfl
    have lx1_3_3 := HX1_3.2 3 _ rfl
    have lx1_3_4 := HX1_3.2 4 _ rfl
    have ly1_3 := HX1_3.1
    go_wp2_with fail
    refine (mark_alarm _ _ _ _ _ _ _ _ _ _ _ (by omega) (by omega) (by omega) OG_3).mono ?_
    rintro e w4 ⟨rfl, hg4, OG_4⟩
    have hz4 := hg4.size
    have hq4 : Below w0.heap.size w0 w4 := hq3.grown hg4 hq3.size (fun g hg => by have := (BG g hg).1; omega)
    have HX0_4 := HX0_3.apart3 hg4 (fun e => by have h1 := BG _ e; have h2 := HX0_2.1; have h3 := EG _ e; omega)
    have HX1_4 := HX1_3.apart3 hg4 (fun e => by have h1 := BG _ e; have h2 := HX1_3.1; have h3 := EG _ e; omega)
    clear lx0_3_0 lx0_3_1 lx0_3_2 lx0_3_3 lx0_3_4
    have lx0_4_0 := HX0_4.2 0 _ rfl
    have lx0_4_1 := HX0_4.2 1 _ rfl
    have lx0_4_2 := HX0_4.2 2 _ rfl
    have lx0_4_3 := HX0_4.2 3 _ rfl
    have lx0_4_4 := HX0_4.2 4 _ rfl
    have ly0_4 := HX0_4.1
    clear lx1_3_0 lx1_3_1 lx1_3_2 lx1_3_3 lx1_3_4
    have lx1_4_0 := HX1_4.2 0 _ rfl
    have lx1_4_1 := HX1_4.2 1 _ rfl
    have lx1_4_2 := HX1_4.2 2 _ rfl
    have lx1_4_3 := HX1_4.2 3 _ rfl
    have lx1_4_4 := HX1_4.2 4 _ rfl
    have ly1_4 := HX1_4.1
    have hn1_4 : w1.heap.size < w4.heap.size := by omega
    have hn2_4 : w2.heap.size < w4.heap.size := by omega
    have OW_4 := OW_3.apart hg4 (fun g h1 h2 => by have a1 := BG g h1; have a2 := BW g h2; omega)
    go_wp2_with fail
    refine (held_alarm _ _ _ _ _ _ _ _ 1 _ (by omega) (by omega) (by omega) ((OG_4.below (by go_grown) (Nat.le_refl _)).arr1) (fun _ _ _ _ => rfl)).mono ?_
    rintro e w5 ⟨rfl, hb5⟩
    have hs5 : Below w4.heap.size w4 w5 := below_call (by go_grown) hb5
    have hz5 := hs5.size
    have HX0_5 := HX0_4.on hs5
    have HX1_5 := HX1_4.on hs5
    have hq5 : Below w0.heap.size w0 w5 := hq4.trans (hs5.mono hq4.size)
    have hn1_5 : w1.heap.size < w5.heap.size := by first | (have := hb5.size; simp only [World.size_alloc, World.size_setCell, World.size_drew] at this; omega) | omega
    have hn2_5 : w2.heap.size < w5.heap.size := by first | (have := hb5.size; simp only [World.size_alloc, World.size_setCell, World.size_drew] at this; omega) | omega
    have OW_5 := OW_4.below hs5 (Nat.le_refl _)
    have OG_5 := OG_4.below hs5 (Nat.le_refl _)
    clear lx0_4_0 lx0_4_1 lx0_4_2 lx0_4_3 lx0_4_4
    have lx0_5_0 := HX0_5.2 0 _ rfl
    have lx0_5_1 := HX0_5.2 1 _ rfl
    have lx0_5_2 := HX0_5.2 2 _ rfl
    have lx0_5_3 := HX0_5.2 3 _ rfl
    have lx0_5_4 := HX0_5.2 4 _ rfl
    have ly0_5 := HX0_5.1
    clear lx1_4_0 lx1_4_1 lx1_4_2 lx1_4_3 lx1_4_4
    have lx1_5_0 := HX1_5.2 0 _ rfl
    have lx1_5_1 := HX1_5.2 1 _ rfl
    have lx1_5_2 := HX1_5.2 2 _ rfl
    have lx1_5_3 := HX1_5.2 3 _ rfl
    have lx1_5_4 := HX1_5.2 4 _ rfl
    have ly1_5 := HX1_5.1
    go_wp2_with fail
    refine (impl_new _ _ HV.out _ HY.out _).mono ?_
    rintro e w6 ⟨vH, rfl, hb6, OH_6⟩
    have hs6 : Below w5.heap.size w5 w6 := below_call (by go_grown) hb6
    have hz6 := hs6.size
    have HX0_6 := HX0_5.on hs6
    have HX1_6 := HX1_5.on hs6
    have hq6 : Below w0.heap.size w0 w6 := hq5.trans (hs6.mono hq5.size)
    have hn1_6 : w1.heap.size < w6.heap.size := by first | (have := hb6.size; simp only [World.size_alloc, World.size_setCell, World.size_drew] at this; omega) | omega
    have hn2_6 : w2.heap.size < w6.heap.size := by first | (have := hb6.size; simp only [World.size_alloc, World.size_setCell, World.size_drew] at this; omega) | omega
    have OW_6 := OW_5.below hs6 (Nat.le_refl _)
    have OG_6 := OG_5.below hs6 (Nat.le_refl _)
    have BH : ∀ g, vH.ownBlock = some g → w5.heap.size ≤ g ∧ g < w6.heap.size := fun g hg => ⟨Nat.le_trans (by first | exact Nat.le_refl _ | (simp only [World.size_alloc]; omega) | (simp only [World.size_alloc, World.size_drew]; omega)) (OH_6.blk g hg).1, (OH_6.blk g hg).2⟩
    have EH : ∀ g, vH.ownBlock = some g → True := fun g hg => trivial
    obtain ⟨AH, cH, hvH, hcH, _⟩ := OH_6.arr
    subst hvH
    clear lx0_5_0 lx0_5_1 lx0_5_2 lx0_5_3 lx0_5_4
    have lx0_6_0 := HX0_6.2 0 _ rfl
    have lx0_6_1 := HX0_6.2 1 _ rfl
    have lx0_6_2 := HX0_6.2 2 _ rfl
    have lx0_6_3 := HX0_6.2 3 _ rfl
    have lx0_6_4 := HX0_6.2 4 _ rfl
    have ly0_6 := HX0_6.1
    clear lx1_5_0 lx1_5_1 lx1_5_2 lx1_5_3 lx1_5_4
    have lx1_6_0 := HX1_6.2 0 _ rfl
    have lx1_6_1 := HX1_6.2 1 _ rfl
    have lx1_6_2 := HX1_6.2 2 _ rfl
    have lx1_6_3 := HX1_6.2 3 _ rfl
    have lx1_6_4 := HX1_6.2 4 _ rfl
    have ly1_6 := HX1_6.1
    go_wp2_with fail
    refine (eq_alarm _ _ _ _ _ zz _ _ _ _ _ (by omega) ((OH_6.below (by go_grown) (Nat.le_refl _)).arr1) ((OW_6.below (by go_grown) (Nat.le_refl _)).arr1)).mono ?_
    rintro e w7 ⟨rfl, hb7⟩
    have hs7 : Below w6.heap.size w6 w7 := below_call (by go_grown) hb7
    have hz7 := hs7.size
    have HX0_7 := HX0_6.on hs7
    have HX1_7 := HX1_6.on hs7
    have HX2_7 := (Cells.new w6 _ [.int .i64 y, .int .i64 0, .slice AH 0 cH, .int .i64 0, .int .i64 0] 24 rfl).on hb7
    have hq7 : Below w0.heap.size w0 w7 := hq6.trans (hs7.mono hq6.size)
    have hn1_7 : w1.heap.size < w7.heap.size := by first | (have := hb7.size; simp only [World.size_alloc, World.size_setCell, World.size_drew] at this; omega) | omega
    have hn2_7 : w2.heap.size < w7.heap.size := by first | (have := hb7.size; simp only [World.size_alloc, World.size_setCell, World.size_drew] at this; omega) | omega
    have hn6_7 : w6.heap.size < w7.heap.size := by first | (have := hb7.size; simp only [World.size_alloc, World.size_setCell, World.size_drew] at this; omega) | omega
    have OW_7 := OW_6.below hs7 (Nat.le_refl _)
    have OG_7 := OG_6.below hs7 (Nat.le_refl _)
    have OH_7 := OH_6.below hs7 (Nat.le_refl _)
    clear lx0_6_0 lx0_6_1 lx0_6_2 lx0_6_3 lx0_6_4
    have lx0_7_0 := HX0_7.2 0 _ rfl
    have lx0_7_1 := HX0_7.2 1 _ rfl
    have lx0_7_2 := HX0_7.2 2 _ rfl
    have lx0_7_3 := HX0_7.2 3 _ rfl
    have lx0_7_4 := HX0_7.2 4 _ rfl
    have ly0_7 := HX0_7.1
    clear lx1_6_0 lx1_6_1 lx1_6_2 lx1_6_3 lx1_6_4
    have lx1_7_0 := HX1_7.2 0 _ rfl
    have lx1_7_1 := HX1_7.2 1 _ rfl
    have lx1_7_2 := HX1_7.2 2 _ rfl
    have lx1_7_3 := HX1_7.2 3 _ rfl
    have lx1_7_4 := HX1_7.2 4 _ rfl
    have ly1_7 := HX1_7.1
    have lx2_7_0 := HX2_7.2 0 _ rfl
    have lx2_7_1 := HX2_7.2 1 _ rfl
    have lx2_7_2 := HX2_7.2 2 _ rfl
    have lx2_7_3 := HX2_7.2 3 _ rfl
    have lx2_7_4 := HX2_7.2 4 _ rfl
    have ly2_7 := HX2_7.1
    go_wp2_with fail
    refine (held_alarm _ _ _ _ _ _ _ _ 1 _ (by omega) (by omega) (by omega) ((OG_7.below (by go_grown) (Nat.le_refl _)).arr1) (fun _ _ _ _ => rfl)).mono ?_
    rintro e w8 ⟨rfl, hb8⟩
    have hs8 : Below w7.heap.size w7 w8 := below_call (by go_grown) hb8
    have hz8 := hs8.size
    have HX0_8 := HX0_7.on hs8
    have HX1_8 := HX1_7.on hs8
    have HX2_8 := HX2_7.on hs8
    have hq8 : Below w0.heap.size w0 w8 := hq7.trans (hs8.mono hq7.size)
    have hn1_8 : w1.heap.size < w8.heap.size := by first | (have := hb8.size; simp only [World.size_alloc, World.size_setCell, World.size_drew] at this; omega) | omega
    have hn2_8 : w2.heap.size < w8.heap.size := by first | (have := hb8.size; simp only [World.size_alloc, World.size_setCell, World.size_drew] at this; omega) | omega
    have hn6_8 : w6.heap.size < w8.heap.size := by first | (have := hb8.size; simp only [World.size_alloc, World.size_setCell, World.size_drew] at this; omega) | omega
    have OW_8 := OW_7.below hs8 (Nat.le_refl _)
    have OG_8 := OG_7.below hs8 (Nat.le_refl _)
    have OH_8 := OH_7.below hs8 (Nat.le_refl _)
    clear lx0_7_0 lx0_7_1 lx0_7_2 lx0_7_3 lx0_7_4
    have lx0_8_0 := HX0_8.2 0 _ rfl
    have lx0_8_1 := HX0_8.2 1 _ rfl
    have lx0_8_2 := HX0_8.2 2 _ rfl
    have lx0_8_3 := HX0_8.2 3 _ rfl
    have lx0_8_4 := HX0_8.2 4 _ rfl
    have ly0_8 := HX0_8.1
    clear lx1_7_0 lx1_7_1 lx1_7_2 lx1_7_3 lx1_7_4
    have lx1_8_0 := HX1_8.2 0 _ rfl
    have lx1_8_1 := HX1_8.2 1 _ rfl
    have lx1_8_2 := HX1_8.2 2 _ rfl
    have lx1_8_3 := HX1_8.2 3 _ rfl
    have lx1_8_4 := HX1_8.2 4 _ rfl
    have ly1_8 := HX1_8.1
    clear lx2_7_0 lx2_7_1 lx2_7_2 lx2_7_3 lx2_7_4
    have lx2_8_0 := HX2_8.2 0 _ rfl
    have lx2_8_1 := HX2_8.2 1 _ rfl
    have lx2_8_2 := HX2_8.2 2 _ rfl
    have lx2_8_3 := HX2_8.2 3 _ rfl
    have lx2_8_4 := HX2_8.2 4 _ rfl
    have ly2_8 := HX2_8.1
    go_wp2
    go_returns
    exact ⟨rfl, hq8⟩
end Go.Proofs.Ytooiefpinfgclaa
