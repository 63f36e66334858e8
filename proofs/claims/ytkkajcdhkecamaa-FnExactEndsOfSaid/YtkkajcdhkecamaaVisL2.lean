/- Walks of laws that compare lists: made by lawgen.py. -/
import Derived.Test.YtkkajcdhkecamaaVisI
namespace Go.Proofs.Ytkkajcdhkecamaa
open Go.RowKit
set_option linter.unusedVariables false

set_option maxHeartbeats 4000000 in
theorem walk_FnExactEndsOf (A : Option Addr) (n c : Nat) (X : Nat → Nat → Int) (B : Option Addr) (m d : Nat) (Y : Nat → Nat → Int) (w0 : World) (hn : n ≤ maxLen) (ha : Arr w0 w0.heap.size A n 4 (iv X)) (hm : m ≤ maxLen) (hb : Arr w0 w0.heap.size B m 1 (iv Y)) :
    Calls Try.prog 8 #[.slice A n c, .slice B m d] w0 fun e w' => e = .returned (.bool true) ∧ Below w0.heap.size w0 w' := by
  have hmx : m ≤ 9223372036854775807 := hm
  by_cases hp : (m : Int) ≤ 1048576
  · by_cases hs : (n : Int) ≤ 1048576
    · have hn' : n ≤ 1048576 := by omega
      have hm' : m ≤ 1048576 := by omega
      have hr : (0 : Int) ≤ 1048576 - n := by omega
      obtain ⟨u, hu⟩ : ∃ u, (planB n m Y && errsB n X) = u := ⟨_, rfl⟩
      obtain ⟨q, hq0⟩ : ∃ q : Nat, q = endLen u m := ⟨_, rfl⟩
      have hq : q ≤ 1048576 := by rw [hq0]; unfold endLen; split <;> omega
      have HR := hide hu; have HQ := hide hq0
      clear hu hmx hq0
      cases u
      all_goals
        go_enter Try.func8, Try.ntmps8
        go_wp2_with fail
        refine (sz_errandS_ok _ _ _ _ hs (by omega) _).mono ?_
        rintro e u ⟨rfl, rfl⟩
        have hq0 : Below w0.heap.size w0 w0 := Below.refl _ _
        go_wp2_with fail
        refine (to_errandS _ _ _ X _ hn' ha).mono ?_
        rintro e w1 ⟨vA, rfl, hb1, OA_1⟩
        have hs1 : Below w0.heap.size w0 w1 := below_call (by go_grown) hb1
        have hz1 := hs1.size
        have hq1 : Below w0.heap.size w0 w1 := hq0.trans (hs1.mono hq0.size)
        have BA : ∀ g, vA.ownBlock = some g → w0.heap.size ≤ g ∧ g < w1.heap.size := fun g hg => ⟨Nat.le_trans (by first | exact Nat.le_refl _ | exact hz1 | simp) (OA_1.blk g hg).1, (OA_1.blk g hg).2⟩
        obtain ⟨AA, cA, hvA, hcA, _⟩ := OA_1.arr
        subst hvA
        go_wp2_with fail
        refine (to_intS _ _ _ Y _ hm' (hb.on hq1)).mono ?_
        rintro e w2 ⟨vB, rfl, hb2, OB_2⟩
        have hs2 : Below w1.heap.size w1 w2 := below_call (by go_grown) hb2
        have hz2 := hs2.size
        have hq2 : Below w0.heap.size w0 w2 := hq1.trans (hs2.mono hq1.size)
        have OA_2 := OA_1.below hs2 (Nat.le_refl _)
        have BB : ∀ g, vB.ownBlock = some g → w1.heap.size ≤ g ∧ g < w2.heap.size := fun g hg => ⟨Nat.le_trans (by first | exact Nat.le_refl _ | exact hz2 | simp) (OB_2.blk g hg).1, (OB_2.blk g hg).2⟩
        obtain ⟨AB, cB, hvB, hcB, _⟩ := OB_2.arr
        subst hvB
        go_wp2_with fail
        refine (spec_endsOf _ _ _ _ _ _ X Y _ q HQ.out HR.out _ hn' hm' hcB OA_2.arr1 OB_2.arr1).mono ?_
        rintro e w3 ⟨vW, rfl, hb3, OW_3⟩
        have hs3 : Below w2.heap.size w2 w3 := below_call (by go_grown) hb3
        have hz3 := hs3.size
        have hq3 : Below w0.heap.size w0 w3 := hq2.trans (hs3.mono hq2.size)
        have OA_3 := OA_2.below hs3 (Nat.le_refl _)
        have OB_3 := OB_2.below hs3 (Nat.le_refl _)
        have BW : ∀ g, vW.ownBlock = some g → w2.heap.size ≤ g ∧ g < w3.heap.size := fun g hg => ⟨Nat.le_trans (by first | exact Nat.le_refl _ | exact hz3 | simp) (OW_3.blk g hg).1, (OW_3.blk g hg).2⟩
        obtain ⟨AW, cW, hvW, hcW, _⟩ := OW_3.arr
        subst hvW
        go_wp2_with fail
        refine (to_errandS _ _ _ X _ hn' (ha.on hq3)).mono ?_
        rintro e w4 ⟨vX, rfl, hb4, OX_4⟩
        have hs4 : Below w3.heap.size w3 w4 := below_call (by go_grown) hb4
        have hz4 := hs4.size
        have hq4 : Below w0.heap.size w0 w4 := hq3.trans (hs4.mono hq3.size)
        have OA_4 := OA_3.below hs4 (Nat.le_refl _)
        have OB_4 := OB_3.below hs4 (Nat.le_refl _)
        have OW_4 := OW_3.below hs4 (Nat.le_refl _)
        have BX : ∀ g, vX.ownBlock = some g → w3.heap.size ≤ g ∧ g < w4.heap.size := fun g hg => ⟨Nat.le_trans (by first | exact Nat.le_refl _ | exact hz4 | simp) (OX_4.blk g hg).1, (OX_4.blk g hg).2⟩
        obtain ⟨AX, cX, hvX, hcX, _⟩ := OX_4.arr
        subst hvX
        go_wp2_with fail
        refine (to_intS _ _ _ Y _ hm' (hb.on hq4)).mono ?_
        rintro e w5 ⟨vY, rfl, hb5, OY_5⟩
        have hs5 : Below w4.heap.size w4 w5 := below_call (by go_grown) hb5
        have hz5 := hs5.size
        have hq5 : Below w0.heap.size w0 w5 := hq4.trans (hs5.mono hq4.size)
        have OA_5 := OA_4.below hs5 (Nat.le_refl _)
        have OB_5 := OB_4.below hs5 (Nat.le_refl _)
        have OW_5 := OW_4.below hs5 (Nat.le_refl _)
        have OX_5 := OX_4.below hs5 (Nat.le_refl _)
        have BY : ∀ g, vY.ownBlock = some g → w4.heap.size ≤ g ∧ g < w5.heap.size := fun g hg => ⟨Nat.le_trans (by first | exact Nat.le_refl _ | exact hz5 | simp) (OY_5.blk g hg).1, (OY_5.blk g hg).2⟩
        obtain ⟨AY, cY, hvY, hcY, _⟩ := OY_5.arr
        subst hvY
        go_wp2_with fail
        refine (impl_endsOf _ _ _ _ _ _ X Y _ q HQ.out HR.out _ hn' hm' OX_5.arr1 OY_5.arr1).mono ?_
        rintro e w6 ⟨vG, rfl, hb6, OG_6⟩
        have hs6 : Below w5.heap.size w5 w6 := below_call (by go_grown) hb6
        have hz6 := hs6.size
        have hq6 : Below w0.heap.size w0 w6 := hq5.trans (hs6.mono hq5.size)
        have OA_6 := OA_5.below hs6 (Nat.le_refl _)
        have OB_6 := OB_5.below hs6 (Nat.le_refl _)
        have OW_6 := OW_5.below hs6 (Nat.le_refl _)
        have OX_6 := OX_5.below hs6 (Nat.le_refl _)
        have OY_6 := OY_5.below hs6 (Nat.le_refl _)
        have BG : ∀ g, vG.ownBlock = some g → w5.heap.size ≤ g ∧ g < w6.heap.size := fun g hg => ⟨Nat.le_trans (by first | exact Nat.le_refl _ | exact hz6 | simp) (OG_6.blk g hg).1, (OG_6.blk g hg).2⟩
        obtain ⟨AG, cG, hvG, hcG, _⟩ := OG_6.arr
        subst hvG
        go_wp2_with fail
        refine (eq_intS _ _ _ _ _ _ (fun i _ => endH X Y (i + 1)) (fun i _ => endH X Y (i + 1)) true (eqX_self _ _ _) _ hq hq OG_6.arr1 OW_6.arr1).mono ?_
        rintro e w7 ⟨rfl, hb7⟩
        have hs7 : Below w6.heap.size w6 w7 := below_call (by go_grown) hb7
        have hz7 := hs7.size
        have hq7 : Below w0.heap.size w0 w7 := hq6.trans (hs7.mono hq6.size)
        have OA_7 := OA_6.below hs7 (Nat.le_refl _)
        have OB_7 := OB_6.below hs7 (Nat.le_refl _)
        have OW_7 := OW_6.below hs7 (Nat.le_refl _)
        have OX_7 := OX_6.below hs7 (Nat.le_refl _)
        have OY_7 := OY_6.below hs7 (Nat.le_refl _)
        have OG_7 := OG_6.below hs7 (Nat.le_refl _)
        go_wp2_with fail
        refine (to_errandS _ _ _ X _ hn' (ha.on hq7)).mono ?_
        rintro e w8 ⟨vP, rfl, hb8, OP_8⟩
        have hs8 : Below w7.heap.size w7 w8 := below_call (by go_grown) hb8
        have hz8 := hs8.size
        have hq8 : Below w0.heap.size w0 w8 := hq7.trans (hs8.mono hq7.size)
        have OA_8 := OA_7.below hs8 (Nat.le_refl _)
        have OB_8 := OB_7.below hs8 (Nat.le_refl _)
        have OW_8 := OW_7.below hs8 (Nat.le_refl _)
        have OX_8 := OX_7.below hs8 (Nat.le_refl _)
        have OY_8 := OY_7.below hs8 (Nat.le_refl _)
        have OG_8 := OG_7.below hs8 (Nat.le_refl _)
        have BP : ∀ g, vP.ownBlock = some g → w7.heap.size ≤ g ∧ g < w8.heap.size := fun g hg => ⟨Nat.le_trans (by first | exact Nat.le_refl _ | exact hz8 | simp) (OP_8.blk g hg).1, (OP_8.blk g hg).2⟩
        obtain ⟨AP, cP, hvP, hcP, _⟩ := OP_8.arr
        subst hvP
        go_wp2_with fail
        refine (eq_errandS _ _ _ _ _ _ X X true (eqX_self _ _ _) _ hn' hn' OX_8.arr1 OP_8.arr1).mono ?_
        rintro e w9 ⟨rfl, hb9⟩
        have hs9 : Below w8.heap.size w8 w9 := below_call (by go_grown) hb9
        have hz9 := hs9.size
        have hq9 : Below w0.heap.size w0 w9 := hq8.trans (hs9.mono hq8.size)
        have OA_9 := OA_8.below hs9 (Nat.le_refl _)
        have OB_9 := OB_8.below hs9 (Nat.le_refl _)
        have OW_9 := OW_8.below hs9 (Nat.le_refl _)
        have OX_9 := OX_8.below hs9 (Nat.le_refl _)
        have OY_9 := OY_8.below hs9 (Nat.le_refl _)
        have OG_9 := OG_8.below hs9 (Nat.le_refl _)
        have OP_9 := OP_8.below hs9 (Nat.le_refl _)
        go_wp2_with fail
        refine (to_intS _ _ _ Y _ hm' (hb.on hq9)).mono ?_
        rintro e w10 ⟨vQ, rfl, hb10, OQ_10⟩
        have hs10 : Below w9.heap.size w9 w10 := below_call (by go_grown) hb10
        have hz10 := hs10.size
        have hq10 : Below w0.heap.size w0 w10 := hq9.trans (hs10.mono hq9.size)
        have OA_10 := OA_9.below hs10 (Nat.le_refl _)
        have OB_10 := OB_9.below hs10 (Nat.le_refl _)
        have OW_10 := OW_9.below hs10 (Nat.le_refl _)
        have OX_10 := OX_9.below hs10 (Nat.le_refl _)
        have OY_10 := OY_9.below hs10 (Nat.le_refl _)
        have OG_10 := OG_9.below hs10 (Nat.le_refl _)
        have OP_10 := OP_9.below hs10 (Nat.le_refl _)
        have BQ : ∀ g, vQ.ownBlock = some g → w9.heap.size ≤ g ∧ g < w10.heap.size := fun g hg => ⟨Nat.le_trans (by first | exact Nat.le_refl _ | exact hz10 | simp) (OQ_10.blk g hg).1, (OQ_10.blk g hg).2⟩
        obtain ⟨AQ, cQ, hvQ, hcQ, _⟩ := OQ_10.arr
        subst hvQ
        go_wp2_with fail
        refine (eq_intS _ _ _ _ _ _ Y Y true (eqX_self _ _ _) _ hm' hm' OY_10.arr1 OQ_10.arr1).mono ?_
        rintro e w11 ⟨rfl, hb11⟩
        have hs11 : Below w10.heap.size w10 w11 := below_call (by go_grown) hb11
        have hz11 := hs11.size
        have hq11 : Below w0.heap.size w0 w11 := hq10.trans (hs11.mono hq10.size)
        have OA_11 := OA_10.below hs11 (Nat.le_refl _)
        have OB_11 := OB_10.below hs11 (Nat.le_refl _)
        have OW_11 := OW_10.below hs11 (Nat.le_refl _)
        have OX_11 := OX_10.below hs11 (Nat.le_refl _)
        have OY_11 := OY_10.below hs11 (Nat.le_refl _)
        have OG_11 := OG_10.below hs11 (Nat.le_refl _)
        have OP_11 := OP_10.below hs11 (Nat.le_refl _)
        have OQ_11 := OQ_10.below hs11 (Nat.le_refl _)
        go_wp2_with fail
        refine (mark_errandS _ _ _ _ 1 _ _ hn' (by omega) (by omega) OX_11).mono ?_
        rintro e w12 ⟨rfl, hg12, OX_12⟩
        have hz12 := hg12.size
        have hq12 : Below w0.heap.size w0 w12 := hq11.grown hg12 hq11.size (fun g hg => by have := (BX g hg).1; omega)
        have OA_12 := OA_11.apart hg12 (fun g h1 h2 => by have a1 := BX g h1; have a2 := BA g h2; omega)
        have OB_12 := OB_11.apart hg12 (fun g h1 h2 => by have a1 := BX g h1; have a2 := BB g h2; omega)
        have OW_12 := OW_11.apart hg12 (fun g h1 h2 => by have a1 := BX g h1; have a2 := BW g h2; omega)
        have OY_12 := OY_11.apart hg12 (fun g h1 h2 => by have a1 := BX g h1; have a2 := BY g h2; omega)
        have OG_12 := OG_11.apart hg12 (fun g h1 h2 => by have a1 := BX g h1; have a2 := BG g h2; omega)
        have OP_12 := OP_11.apart hg12 (fun g h1 h2 => by have a1 := BX g h1; have a2 := BP g h2; omega)
        have OQ_12 := OQ_11.apart hg12 (fun g h1 h2 => by have a1 := BX g h1; have a2 := BQ g h2; omega)
        go_wp2_with fail
        refine (mark_intS _ _ _ _ _ _ _ hm' (by omega) (by omega) OY_12).mono ?_
        rintro e w13 ⟨rfl, hg13, OY_13⟩
        have hz13 := hg13.size
        have hq13 : Below w0.heap.size w0 w13 := hq12.grown hg13 hq12.size (fun g hg => by have := (BY g hg).1; omega)
        have OA_13 := OA_12.apart hg13 (fun g h1 h2 => by have a1 := BY g h1; have a2 := BA g h2; omega)
        have OB_13 := OB_12.apart hg13 (fun g h1 h2 => by have a1 := BY g h1; have a2 := BB g h2; omega)
        have OW_13 := OW_12.apart hg13 (fun g h1 h2 => by have a1 := BY g h1; have a2 := BW g h2; omega)
        have OX_13 := OX_12.apart hg13 (fun g h1 h2 => by have a1 := BY g h1; have a2 := BX g h2; omega)
        have OG_13 := OG_12.apart hg13 (fun g h1 h2 => by have a1 := BY g h1; have a2 := BG g h2; omega)
        have OP_13 := OP_12.apart hg13 (fun g h1 h2 => by have a1 := BY g h1; have a2 := BP g h2; omega)
        have OQ_13 := OQ_12.apart hg13 (fun g h1 h2 => by have a1 := BY g h1; have a2 := BQ g h2; omega)
        go_wp2_with fail
        refine (eq_intS _ _ _ _ _ _ (fun i _ => endH X Y (i + 1)) (fun i _ => endH X Y (i + 1)) true (eqX_self _ _ _) _ hq hq OG_13.arr1 OW_13.arr1).mono ?_
        rintro e w14 ⟨rfl, hb14⟩
        have hs14 : Below w13.heap.size w13 w14 := below_call (by go_grown) hb14
        have hz14 := hs14.size
        have hq14 : Below w0.heap.size w0 w14 := hq13.trans (hs14.mono hq13.size)
        have OA_14 := OA_13.below hs14 (Nat.le_refl _)
        have OB_14 := OB_13.below hs14 (Nat.le_refl _)
        have OW_14 := OW_13.below hs14 (Nat.le_refl _)
        have OX_14 := OX_13.below hs14 (Nat.le_refl _)
        have OY_14 := OY_13.below hs14 (Nat.le_refl _)
        have OG_14 := OG_13.below hs14 (Nat.le_refl _)
        have OP_14 := OP_13.below hs14 (Nat.le_refl _)
        have OQ_14 := OQ_13.below hs14 (Nat.le_refl _)
        go_wp2_with fail
        refine (mark_intS _ _ _ _ 1 _ _ hq (by omega) (by omega) OG_14).mono ?_
        rintro e w15 ⟨rfl, hg15, OG_15⟩
        have hz15 := hg15.size
        have hq15 : Below w0.heap.size w0 w15 := hq14.grown hg15 hq14.size (fun g hg => by have := (BG g hg).1; omega)
        have OA_15 := OA_14.apart hg15 (fun g h1 h2 => by have a1 := BG g h1; have a2 := BA g h2; omega)
        have OB_15 := OB_14.apart hg15 (fun g h1 h2 => by have a1 := BG g h1; have a2 := BB g h2; omega)
        have OW_15 := OW_14.apart hg15 (fun g h1 h2 => by have a1 := BG g h1; have a2 := BW g h2; omega)
        have OX_15 := OX_14.apart hg15 (fun g h1 h2 => by have a1 := BG g h1; have a2 := BX g h2; omega)
        have OY_15 := OY_14.apart hg15 (fun g h1 h2 => by have a1 := BG g h1; have a2 := BY g h2; omega)
        have OP_15 := OP_14.apart hg15 (fun g h1 h2 => by have a1 := BG g h1; have a2 := BP g h2; omega)
        have OQ_15 := OQ_14.apart hg15 (fun g h1 h2 => by have a1 := BG g h1; have a2 := BQ g h2; omega)
        go_wp2_with fail
        refine (held_intS _ _ _ _ 1 _ hq (by omega) (by omega) OG_15.arr1 (fun _ _ _ _ => rfl)).mono ?_
        rintro e u15 ⟨rfl, rfl⟩
        go_wp2_with fail
        refine (to_errandS _ _ _ X _ hn' (ha.on hq15)).mono ?_
        rintro e w16 ⟨vR, rfl, hb16, OR_16⟩
        have hs16 : Below w15.heap.size w15 w16 := below_call (by go_grown) hb16
        have hz16 := hs16.size
        have hq16 : Below w0.heap.size w0 w16 := hq15.trans (hs16.mono hq15.size)
        have OA_16 := OA_15.below hs16 (Nat.le_refl _)
        have OB_16 := OB_15.below hs16 (Nat.le_refl _)
        have OW_16 := OW_15.below hs16 (Nat.le_refl _)
        have OX_16 := OX_15.below hs16 (Nat.le_refl _)
        have OY_16 := OY_15.below hs16 (Nat.le_refl _)
        have OG_16 := OG_15.below hs16 (Nat.le_refl _)
        have OP_16 := OP_15.below hs16 (Nat.le_refl _)
        have OQ_16 := OQ_15.below hs16 (Nat.le_refl _)
        have BR : ∀ g, vR.ownBlock = some g → w15.heap.size ≤ g ∧ g < w16.heap.size := fun g hg => ⟨Nat.le_trans (by first | exact Nat.le_refl _ | exact hz16 | simp) (OR_16.blk g hg).1, (OR_16.blk g hg).2⟩
        obtain ⟨AR, cR, hvR, hcR, _⟩ := OR_16.arr
        subst hvR
        go_wp2_with fail
        refine (to_intS _ _ _ Y _ hm' (hb.on hq16)).mono ?_
        rintro e w17 ⟨vS, rfl, hb17, OS_17⟩
        have hs17 : Below w16.heap.size w16 w17 := below_call (by go_grown) hb17
        have hz17 := hs17.size
        have hq17 : Below w0.heap.size w0 w17 := hq16.trans (hs17.mono hq16.size)
        have OA_17 := OA_16.below hs17 (Nat.le_refl _)
        have OB_17 := OB_16.below hs17 (Nat.le_refl _)
        have OW_17 := OW_16.below hs17 (Nat.le_refl _)
        have OX_17 := OX_16.below hs17 (Nat.le_refl _)
        have OY_17 := OY_16.below hs17 (Nat.le_refl _)
        have OG_17 := OG_16.below hs17 (Nat.le_refl _)
        have OP_17 := OP_16.below hs17 (Nat.le_refl _)
        have OQ_17 := OQ_16.below hs17 (Nat.le_refl _)
        have OR_17 := OR_16.below hs17 (Nat.le_refl _)
        have BS : ∀ g, vS.ownBlock = some g → w16.heap.size ≤ g ∧ g < w17.heap.size := fun g hg => ⟨Nat.le_trans (by first | exact Nat.le_refl _ | exact hz17 | simp) (OS_17.blk g hg).1, (OS_17.blk g hg).2⟩
        obtain ⟨AS, cS, hvS, hcS, _⟩ := OS_17.arr
        subst hvS
        go_wp2_with fail
        refine (impl_endsOf _ _ _ _ _ _ X Y _ q HQ.out HR.out _ hn' hm' OR_17.arr1 OS_17.arr1).mono ?_
        rintro e w18 ⟨vH, rfl, hb18, OH_18⟩
        have hs18 : Below w17.heap.size w17 w18 := below_call (by go_grown) hb18
        have hz18 := hs18.size
        have hq18 : Below w0.heap.size w0 w18 := hq17.trans (hs18.mono hq17.size)
        have OA_18 := OA_17.below hs18 (Nat.le_refl _)
        have OB_18 := OB_17.below hs18 (Nat.le_refl _)
        have OW_18 := OW_17.below hs18 (Nat.le_refl _)
        have OX_18 := OX_17.below hs18 (Nat.le_refl _)
        have OY_18 := OY_17.below hs18 (Nat.le_refl _)
        have OG_18 := OG_17.below hs18 (Nat.le_refl _)
        have OP_18 := OP_17.below hs18 (Nat.le_refl _)
        have OQ_18 := OQ_17.below hs18 (Nat.le_refl _)
        have OR_18 := OR_17.below hs18 (Nat.le_refl _)
        have OS_18 := OS_17.below hs18 (Nat.le_refl _)
        have BH : ∀ g, vH.ownBlock = some g → w17.heap.size ≤ g ∧ g < w18.heap.size := fun g hg => ⟨Nat.le_trans (by first | exact Nat.le_refl _ | exact hz18 | simp) (OH_18.blk g hg).1, (OH_18.blk g hg).2⟩
        obtain ⟨AH, cH, hvH, hcH, _⟩ := OH_18.arr
        subst hvH
        go_wp2_with fail
        refine (eq_intS _ _ _ _ _ _ (fun i _ => endH X Y (i + 1)) (fun i _ => endH X Y (i + 1)) true (eqX_self _ _ _) _ hq hq OH_18.arr1 OW_18.arr1).mono ?_
        rintro e w19 ⟨rfl, hb19⟩
        have hs19 : Below w18.heap.size w18 w19 := below_call (by go_grown) hb19
        have hz19 := hs19.size
        have hq19 : Below w0.heap.size w0 w19 := hq18.trans (hs19.mono hq18.size)
        have OA_19 := OA_18.below hs19 (Nat.le_refl _)
        have OB_19 := OB_18.below hs19 (Nat.le_refl _)
        have OW_19 := OW_18.below hs19 (Nat.le_refl _)
        have OX_19 := OX_18.below hs19 (Nat.le_refl _)
        have OY_19 := OY_18.below hs19 (Nat.le_refl _)
        have OG_19 := OG_18.below hs19 (Nat.le_refl _)
        have OP_19 := OP_18.below hs19 (Nat.le_refl _)
        have OQ_19 := OQ_18.below hs19 (Nat.le_refl _)
        have OR_19 := OR_18.below hs19 (Nat.le_refl _)
        have OS_19 := OS_18.below hs19 (Nat.le_refl _)
        have OH_19 := OH_18.below hs19 (Nat.le_refl _)
        go_wp2_with fail
        refine (held_intS _ _ _ _ 1 _ hq (by omega) (by omega) OG_19.arr1 (fun _ _ _ _ => rfl)).mono ?_
        rintro e u19 ⟨rfl, rfl⟩
        go_wp2
        go_returns
        exact ⟨rfl, hq19⟩
    · have hs' : (1048576 : Int) < n := by omega
      go_enter Try.func8, Try.ntmps8
      go_wp2_with fail
      refine (sz_errandS_over _ _ _ _ hs' hn (by omega) (by omega) _).mono ?_
      rintro e u ⟨rfl, rfl⟩
      go_wp2
      go_returns
      exact ⟨rfl, Below.refl _ _⟩
  · go_enter Try.func8, Try.ntmps8
    go_wp2
    go_returns
    exact ⟨rfl, Below.refl _ _⟩
end Go.Proofs.Ytkkajcdhkecamaa
