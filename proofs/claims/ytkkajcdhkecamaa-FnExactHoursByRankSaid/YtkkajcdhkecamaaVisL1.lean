/- Walks of laws that compare lists: made by lawgen.py. -/
import Derived.Test.YtkkajcdhkecamaaVisB
namespace Go.Proofs.Ytkkajcdhkecamaa
open Go.RowKit
set_option linter.unusedVariables false

set_option maxHeartbeats 2000000 in
theorem walk_FnExactHoursByRank (A : Option Addr) (n c : Nat) (X : Nat → Nat → Int) (w0 : World) (hn : n ≤ maxLen) (ha : Arr w0 w0.heap.size A n 4 (iv X)) :
    Calls Try.prog 5 #[.slice A n c] w0 fun e w' => e = .returned (.bool true) ∧ Below w0.heap.size w0 w' := by
  by_cases hs : (n : Int) ≤ 1048576
  · have hn' : n ≤ 1048576 := by omega
    have hr : (0 : Int) ≤ 1048576 - n := by omega
    obtain ⟨m, hm0⟩ : ∃ m : Nat, m = hrLen (errsB n X) := ⟨_, rfl⟩
    cases hB : errsB n X
    all_goals
      rw [hB] at hm0
      have hm : m ≤ 1048576 := by rw [hm0]; simp [hrLen]
      have HM := hide hm0
      clear hm0
      go_enter Try.func5, Try.ntmps5
      go_wp2_with fail
      refine (sz_errandS_ok _ _ _ _ hs (by omega) _).mono ?_
      rintro e u ⟨rfl, rfl⟩
      have hq0 : Below w0.heap.size w0 w0 := Below.refl _ _
      go_wp2_with fail
      refine (to_errandS _ _ _ X _ hn' ha).mono ?_
      rintro e w1 ⟨vA, rfl, hb1, OA_1⟩
      have hs1 : Below w0.heap.size w0 w1 := below_call (by go_grown) hb1
      have hz1 := hs1.size
      have hq1 : Below w0.heap.size w0 w1 := hq0.trans (hs1.mono hq0.size)
      have BA : ∀ g, vA.ownBlock = some g → w0.heap.size ≤ g ∧ g < w1.heap.size := fun g hg => ⟨Nat.le_trans (by first | exact Nat.le_refl _ | exact hz1 | simp) (OA_1.blk g hg).1, (OA_1.blk g hg).2⟩
      obtain ⟨AA, cA, hvA, hcA, _⟩ := OA_1.arr
      subst hvA
      go_wp2_with fail
      refine (spec_hrL _ _ _ X _ m HM.out hB _ hn' OA_1.arr1).mono ?_
      rintro e w2 ⟨vW, rfl, hb2, OW_2⟩
      have hs2 : Below w1.heap.size w1 w2 := below_call (by go_grown) hb2
      have hz2 := hs2.size
      have hq2 : Below w0.heap.size w0 w2 := hq1.trans (hs2.mono hq1.size)
      have OA_2 := OA_1.below hs2 (Nat.le_refl _)
      have BW : ∀ g, vW.ownBlock = some g → w1.heap.size ≤ g ∧ g < w2.heap.size := fun g hg => ⟨Nat.le_trans (by first | exact Nat.le_refl _ | exact hz2 | simp) (OW_2.blk g hg).1, (OW_2.blk g hg).2⟩
      obtain ⟨AW, cW, hvW, hcW, _⟩ := OW_2.arr
      subst hvW
      go_wp2_with fail
      refine (to_errandS _ _ _ X _ hn' (ha.on hq2)).mono ?_
      rintro e w3 ⟨vX, rfl, hb3, OX_3⟩
      have hs3 : Below w2.heap.size w2 w3 := below_call (by go_grown) hb3
      have hz3 := hs3.size
      have hq3 : Below w0.heap.size w0 w3 := hq2.trans (hs3.mono hq2.size)
      have OA_3 := OA_2.below hs3 (Nat.le_refl _)
      have OW_3 := OW_2.below hs3 (Nat.le_refl _)
      have BX : ∀ g, vX.ownBlock = some g → w2.heap.size ≤ g ∧ g < w3.heap.size := fun g hg => ⟨Nat.le_trans (by first | exact Nat.le_refl _ | exact hz3 | simp) (OX_3.blk g hg).1, (OX_3.blk g hg).2⟩
      obtain ⟨AX, cX, hvX, hcX, _⟩ := OX_3.arr
      subst hvX
      go_wp2_with fail
      refine (impl_hrL _ _ _ X _ m HM.out hB _ hn' OX_3.arr1).mono ?_
      rintro e w4 ⟨vG, rfl, hb4, OG_4⟩
      have hs4 : Below w3.heap.size w3 w4 := below_call (by go_grown) hb4
      have hz4 := hs4.size
      have hq4 : Below w0.heap.size w0 w4 := hq3.trans (hs4.mono hq3.size)
      have OA_4 := OA_3.below hs4 (Nat.le_refl _)
      have OW_4 := OW_3.below hs4 (Nat.le_refl _)
      have OX_4 := OX_3.below hs4 (Nat.le_refl _)
      have BG : ∀ g, vG.ownBlock = some g → w3.heap.size ≤ g ∧ g < w4.heap.size := fun g hg => ⟨Nat.le_trans (by first | exact Nat.le_refl _ | exact hz4 | simp) (OG_4.blk g hg).1, (OG_4.blk g hg).2⟩
      obtain ⟨AG, cG, hvG, hcG, _⟩ := OG_4.arr
      subst hvG
      go_wp2_with fail
      refine (eq_intS _ _ _ _ _ _ (fun r _ => hrs X n r) (fun r _ => hrs X n r) true (eqX_self _ _ _) _ hm hm OG_4.arr1 OW_4.arr1).mono ?_
      rintro e w5 ⟨rfl, hb5⟩
      have hs5 : Below w4.heap.size w4 w5 := below_call (by go_grown) hb5
      have hz5 := hs5.size
      have hq5 : Below w0.heap.size w0 w5 := hq4.trans (hs5.mono hq4.size)
      have OA_5 := OA_4.below hs5 (Nat.le_refl _)
      have OW_5 := OW_4.below hs5 (Nat.le_refl _)
      have OX_5 := OX_4.below hs5 (Nat.le_refl _)
      have OG_5 := OG_4.below hs5 (Nat.le_refl _)
      go_wp2_with fail
      refine (to_errandS _ _ _ X _ hn' (ha.on hq5)).mono ?_
      rintro e w6 ⟨vP, rfl, hb6, OP_6⟩
      have hs6 : Below w5.heap.size w5 w6 := below_call (by go_grown) hb6
      have hz6 := hs6.size
      have hq6 : Below w0.heap.size w0 w6 := hq5.trans (hs6.mono hq5.size)
      have OA_6 := OA_5.below hs6 (Nat.le_refl _)
      have OW_6 := OW_5.below hs6 (Nat.le_refl _)
      have OX_6 := OX_5.below hs6 (Nat.le_refl _)
      have OG_6 := OG_5.below hs6 (Nat.le_refl _)
      have BP : ∀ g, vP.ownBlock = some g → w5.heap.size ≤ g ∧ g < w6.heap.size := fun g hg => ⟨Nat.le_trans (by first | exact Nat.le_refl _ | exact hz6 | simp) (OP_6.blk g hg).1, (OP_6.blk g hg).2⟩
      obtain ⟨AP, cP, hvP, hcP, _⟩ := OP_6.arr
      subst hvP
      go_wp2_with fail
      refine (eq_errandS _ _ _ _ _ _ X X true (eqX_self _ _ _) _ hn' hn' OX_6.arr1 OP_6.arr1).mono ?_
      rintro e w7 ⟨rfl, hb7⟩
      have hs7 : Below w6.heap.size w6 w7 := below_call (by go_grown) hb7
      have hz7 := hs7.size
      have hq7 : Below w0.heap.size w0 w7 := hq6.trans (hs7.mono hq6.size)
      have OA_7 := OA_6.below hs7 (Nat.le_refl _)
      have OW_7 := OW_6.below hs7 (Nat.le_refl _)
      have OX_7 := OX_6.below hs7 (Nat.le_refl _)
      have OG_7 := OG_6.below hs7 (Nat.le_refl _)
      have OP_7 := OP_6.below hs7 (Nat.le_refl _)
      go_wp2_with fail
      refine (mark_errandS _ _ _ _ 1 _ _ hn' (by omega) (by omega) OX_7).mono ?_
      rintro e w8 ⟨rfl, hg8, OX_8⟩
      have hz8 := hg8.size
      have hq8 : Below w0.heap.size w0 w8 := hq7.grown hg8 hq7.size (fun g hg => by have := (BX g hg).1; omega)
      have OA_8 := OA_7.apart hg8 (fun g h1 h2 => by have a1 := BX g h1; have a2 := BA g h2; omega)
      have OW_8 := OW_7.apart hg8 (fun g h1 h2 => by have a1 := BX g h1; have a2 := BW g h2; omega)
      have OG_8 := OG_7.apart hg8 (fun g h1 h2 => by have a1 := BX g h1; have a2 := BG g h2; omega)
      have OP_8 := OP_7.apart hg8 (fun g h1 h2 => by have a1 := BX g h1; have a2 := BP g h2; omega)
      go_wp2_with fail
      refine (eq_intS _ _ _ _ _ _ (fun r _ => hrs X n r) (fun r _ => hrs X n r) true (eqX_self _ _ _) _ hm hm OG_8.arr1 OW_8.arr1).mono ?_
      rintro e w9 ⟨rfl, hb9⟩
      have hs9 : Below w8.heap.size w8 w9 := below_call (by go_grown) hb9
      have hz9 := hs9.size
      have hq9 : Below w0.heap.size w0 w9 := hq8.trans (hs9.mono hq8.size)
      have OA_9 := OA_8.below hs9 (Nat.le_refl _)
      have OW_9 := OW_8.below hs9 (Nat.le_refl _)
      have OX_9 := OX_8.below hs9 (Nat.le_refl _)
      have OG_9 := OG_8.below hs9 (Nat.le_refl _)
      have OP_9 := OP_8.below hs9 (Nat.le_refl _)
      go_wp2_with fail
      refine (mark_intS _ _ _ _ 1 _ _ hm (by omega) (by omega) OG_9).mono ?_
      rintro e w10 ⟨rfl, hg10, OG_10⟩
      have hz10 := hg10.size
      have hq10 : Below w0.heap.size w0 w10 := hq9.grown hg10 hq9.size (fun g hg => by have := (BG g hg).1; omega)
      have OA_10 := OA_9.apart hg10 (fun g h1 h2 => by have a1 := BG g h1; have a2 := BA g h2; omega)
      have OW_10 := OW_9.apart hg10 (fun g h1 h2 => by have a1 := BG g h1; have a2 := BW g h2; omega)
      have OX_10 := OX_9.apart hg10 (fun g h1 h2 => by have a1 := BG g h1; have a2 := BX g h2; omega)
      have OP_10 := OP_9.apart hg10 (fun g h1 h2 => by have a1 := BG g h1; have a2 := BP g h2; omega)
      go_wp2_with fail
      refine (held_intS _ _ _ _ 1 _ hm (by omega) (by omega) OG_10.arr1 (fun _ _ _ _ => rfl)).mono ?_
      rintro e u10 ⟨rfl, rfl⟩
      go_wp2_with fail
      refine (to_errandS _ _ _ X _ hn' (ha.on hq10)).mono ?_
      rintro e w11 ⟨vR, rfl, hb11, OR_11⟩
      have hs11 : Below w10.heap.size w10 w11 := below_call (by go_grown) hb11
      have hz11 := hs11.size
      have hq11 : Below w0.heap.size w0 w11 := hq10.trans (hs11.mono hq10.size)
      have OA_11 := OA_10.below hs11 (Nat.le_refl _)
      have OW_11 := OW_10.below hs11 (Nat.le_refl _)
      have OX_11 := OX_10.below hs11 (Nat.le_refl _)
      have OG_11 := OG_10.below hs11 (Nat.le_refl _)
      have OP_11 := OP_10.below hs11 (Nat.le_refl _)
      have BR : ∀ g, vR.ownBlock = some g → w10.heap.size ≤ g ∧ g < w11.heap.size := fun g hg => ⟨Nat.le_trans (by first | exact Nat.le_refl _ | exact hz11 | simp) (OR_11.blk g hg).1, (OR_11.blk g hg).2⟩
      obtain ⟨AR, cR, hvR, hcR, _⟩ := OR_11.arr
      subst hvR
      go_wp2_with fail
      refine (impl_hrL _ _ _ X _ m HM.out hB _ hn' OR_11.arr1).mono ?_
      rintro e w12 ⟨vH, rfl, hb12, OH_12⟩
      have hs12 : Below w11.heap.size w11 w12 := below_call (by go_grown) hb12
      have hz12 := hs12.size
      have hq12 : Below w0.heap.size w0 w12 := hq11.trans (hs12.mono hq11.size)
      have OA_12 := OA_11.below hs12 (Nat.le_refl _)
      have OW_12 := OW_11.below hs12 (Nat.le_refl _)
      have OX_12 := OX_11.below hs12 (Nat.le_refl _)
      have OG_12 := OG_11.below hs12 (Nat.le_refl _)
      have OP_12 := OP_11.below hs12 (Nat.le_refl _)
      have OR_12 := OR_11.below hs12 (Nat.le_refl _)
      have BH : ∀ g, vH.ownBlock = some g → w11.heap.size ≤ g ∧ g < w12.heap.size := fun g hg => ⟨Nat.le_trans (by first | exact Nat.le_refl _ | exact hz12 | simp) (OH_12.blk g hg).1, (OH_12.blk g hg).2⟩
      obtain ⟨AH, cH, hvH, hcH, _⟩ := OH_12.arr
      subst hvH
      go_wp2_with fail
      refine (eq_intS _ _ _ _ _ _ (fun r _ => hrs X n r) (fun r _ => hrs X n r) true (eqX_self _ _ _) _ hm hm OH_12.arr1 OW_12.arr1).mono ?_
      rintro e w13 ⟨rfl, hb13⟩
      have hs13 : Below w12.heap.size w12 w13 := below_call (by go_grown) hb13
      have hz13 := hs13.size
      have hq13 : Below w0.heap.size w0 w13 := hq12.trans (hs13.mono hq12.size)
      have OA_13 := OA_12.below hs13 (Nat.le_refl _)
      have OW_13 := OW_12.below hs13 (Nat.le_refl _)
      have OX_13 := OX_12.below hs13 (Nat.le_refl _)
      have OG_13 := OG_12.below hs13 (Nat.le_refl _)
      have OP_13 := OP_12.below hs13 (Nat.le_refl _)
      have OR_13 := OR_12.below hs13 (Nat.le_refl _)
      have OH_13 := OH_12.below hs13 (Nat.le_refl _)
      go_wp2_with fail
      refine (held_intS _ _ _ _ 1 _ hm (by omega) (by omega) OG_13.arr1 (fun _ _ _ _ => rfl)).mono ?_
      rintro e u13 ⟨rfl, rfl⟩
      go_wp2
      go_returns
      exact ⟨rfl, hq13⟩
  · have hs' : (1048576 : Int) < n := by omega
    go_enter Try.func5, Try.ntmps5
    go_wp2_with fail
    refine (sz_errandS_over _ _ _ _ hs' hn (by omega) (by omega) _).mono ?_
    rintro e u ⟨rfl, rfl⟩
    go_wp2
    go_returns
    exact ⟨rfl, Below.refl _ _⟩
end Go.Proofs.Ytkkajcdhkecamaa
