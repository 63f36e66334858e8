/- Chapter 22: the mean of the sun. -/
import Derived.Test.YtnlpgbjalfgoiaaSun
import Derived.Test.YtnlpgbjalfgoiaaGcd
namespace Go.Proofs.Ytnlpgbjalfgoiaa
open Go.RowKit
set_option linter.unusedVariables false

def totS (X : Nat → Nat → Int) : Nat → Int
  | 0 => 0
  | k + 1 => totS X k + X k 1
theorem totS_bd {X : Nat → Nat → Int} {n : Nat} (h : ∀ i, i < n → 0 ≤ X i 0 ∧ X i 0 ≤ 9999 ∧ 0 ≤ X i 1 ∧ X i 1 ≤ 1000 ∧ (0 < i → X i 0 = X (i - 1) 0 + 1)) : ∀ k, k ≤ n → 0 ≤ totS X k ∧ totS X k ≤ 1000 * k
  | 0, _ => by simp [totS]
  | k + 1, hk => by
    have h1 := totS_bd h k (by omega)
    have h2 := h k (by omega)
    simp only [totS]; omega
def MeanRes (n : Nat) (X : Nat → Nat → Int) (a b : Int) (ok : Bool) : Prop :=
  (ok = true ∧ sunB n X = true ∧ 0 < n ∧ a = (totS X n).tdiv (fracG (totS X n) n) ∧ b = (n : Int) / fracG (totS X n) n) ∨ (ok = false ∧ ¬ (sunB n X = true ∧ 0 < n) ∧ a = 0 ∧ b = 0)
theorem mean_ex (n : Nat) (X : Nat → Nat → Int) : ∃ a b ok, MeanRes n X a b ok := by
  by_cases h : sunB n X = true ∧ 0 < n
  · exact ⟨_, _, true, .inl ⟨rfl, h.1, h.2, rfl, rfl⟩⟩
  · exact ⟨0, 0, false, .inr ⟨rfl, h, rfl, rfl⟩⟩

set_option maxHeartbeats 1000000 in
theorem spec_mean (A : Option Addr) (n c : Nat) (X : Nat → Nat → Int) (a b : Int) (ok : Bool) (hM : MeanRes n X a b ok) (w : World) (hn : n ≤ 1048576) (ha : Arr w w.heap.size A n 2 (iv X)) :
    Calls Try.prog 32 #[.slice A n c] w fun e w' => e = .returned (.tuple #[.int .i64 a, .int .i64 b, .bool ok]) ∧ Below w.heap.size w w' := by
  rcases hM with ⟨rfl, hB, h0, hA, hb'⟩ | ⟨rfl, hB, rfl, rfl⟩
  · obtain ⟨hn20, hok⟩ := sunB_of hB
    have HO := hide hok
    have hn0 : ((n : Int) == 0) = false := by simp; omega
    have HA := hide hA; have HB := hide hb'
    clear hok hA hb'
    go_enter Try.func32, Try.ntmps32
    go_wp2_with fail
    refine (spec_good22 _ _ _ X _ hn ha).mono ?_
    rintro e w1 ⟨rfl, hb1⟩
    obtain ⟨qc1, qf1⟩ := bcell hb1
    have hz1 := hb1.size
    try simp only [World.size_alloc, World.size_setCell, World.size_drew] at hz1
    have hq1 : Below w.heap.size w w1 := below_call (by go_grown) hb1
    try have hl0_1 : w.heap.size < w1.heap.size := by omega
    try have hl1_1 : w.heap.size + 1 < w1.heap.size := by omega
    try have hl2_1 : w.heap.size + 2 < w1.heap.size := by omega
    try have hl3_1 : w.heap.size + 3 < w1.heap.size := by omega
    go_wp2
    have ha1 := ha.below hq1 (Nat.le_refl _)
    clear ha qc1 qf1 hB hn0
    go_loop [5, 6] (fun t i => ∃ (k : Nat) (z : Int), k ≤ n ∧ i = .int .i64 k ∧ t = .int .i64 z ∧ z = totS X k) (fun _ i => n - (intOf i).toNat)
    case atStart => exact ⟨0, 0, Nat.zero_le _, rfl, rfl, rfl⟩
    case round =>
      obtain ⟨k, z, hk, rfl, rfl, hz⟩ := hrel
      have bz := totS_bd HO.out k hk
      rw [← hz] at bz
      obtain ⟨z1, z2⟩ := bz
      have HZ := hide hz
      clear hz
      by_cases hlt : k < n
      · obtain ⟨b, off, rfl, hbb, hc⟩ := ha1 (by omega)
        have c1 := hc k 1 hlt (by omega)
        simp only [iv] at c1
        obtain ⟨x1, x2, x3, x4, _⟩ := HO.out k hlt
        clear hc ha1
        go_wp2
        go_round
        case rel => exact ⟨k + 1, z + X k 1, by omega, by go_num, rfl, by rw [totS, HZ.out]⟩
        case measure => simp [intOf]; omega
      · obtain rfl : k = n := by omega
        go_wp2_with (go_at_call 65; refine (spec_reduce z k _ rfl (by omega) (by omega) (by omega) (by omega) _).mono ?_; rintro e w2 ⟨rfl, hb2⟩)
        go_returns
        exact ⟨by rw [HA.out, HB.out, ← HZ.out]; rfl, below_call hq1 hb2⟩
  · cases hB1 : sunB n X
    · go_enter Try.func32, Try.ntmps32
      go_wp2_with fail
      refine (spec_good22 _ _ _ X _ hn ha).mono ?_
      rintro e w1 ⟨rfl, hb1⟩
      obtain ⟨qc1, qf1⟩ := bcell hb1
      have hz1 := hb1.size
      try simp only [World.size_alloc, World.size_setCell, World.size_drew] at hz1
      have hq1 : Below w.heap.size w w1 := below_call (by go_grown) hb1
      try have hl0_1 : w.heap.size < w1.heap.size := by omega
      try have hl1_1 : w.heap.size + 1 < w1.heap.size := by omega
      try have hl2_1 : w.heap.size + 2 < w1.heap.size := by omega
      try have hl3_1 : w.heap.size + 3 < w1.heap.size := by omega
      go_wp2
      go_returns
      exact ⟨rfl, hq1⟩
    · obtain rfl : n = 0 := by
        have : ¬ 0 < n := fun h => hB ⟨hB1, h⟩
        omega
      clear hB
      go_enter Try.func32, Try.ntmps32
      go_wp2_with fail
      refine (spec_good22 _ _ _ X _ hn ha).mono ?_
      rintro e w1 ⟨rfl, hb1⟩
      obtain ⟨qc1, qf1⟩ := bcell hb1
      have hz1 := hb1.size
      try simp only [World.size_alloc, World.size_setCell, World.size_drew] at hz1
      have hq1 : Below w.heap.size w w1 := below_call (by go_grown) hb1
      try have hl0_1 : w.heap.size < w1.heap.size := by omega
      try have hl1_1 : w.heap.size + 1 < w1.heap.size := by omega
      try have hl2_1 : w.heap.size + 2 < w1.heap.size := by omega
      try have hl3_1 : w.heap.size + 3 < w1.heap.size := by omega
      go_wp2
      go_returns
      exact ⟨rfl, hq1⟩

set_option maxHeartbeats 1000000 in
theorem impl_mean (A : Option Addr) (n c : Nat) (X : Nat → Nat → Int) (a b : Int) (ok : Bool) (hM : MeanRes n X a b ok) (w : World) (hn : n ≤ 1048576) (ha : Arr w w.heap.size A n 2 (iv X)) :
    Calls Try.prog 33 #[.slice A n c] w fun e w' => e = .returned (.tuple #[.int .i64 a, .int .i64 b, .bool ok]) ∧ Below w.heap.size w w' := by
  rcases hM with ⟨rfl, hB, h0, hA, hb'⟩ | ⟨rfl, hB, rfl, rfl⟩
  · obtain ⟨hn20, hok⟩ := sunB_of hB
    have HO := hide hok
    have hn0 : ((n : Int) == 0) = false := by simp; omega
    have HA := hide hA; have HB := hide hb'
    clear hok hA hb'
    go_enter Try.func33, Try.ntmps33
    go_wp2_with fail
    refine (impl_areSunDays _ _ _ X _ hB _ hn ha).mono ?_
    rintro e w1 ⟨rfl, hb1⟩
    obtain ⟨qc1, qf1⟩ := bcell hb1
    have hz1 := hb1.size
    try simp only [World.size_alloc, World.size_setCell, World.size_drew] at hz1
    have hq1 : Below w.heap.size w w1 := below_call (by go_grown) hb1
    try have hl0_1 : w.heap.size < w1.heap.size := by omega
    try have hl1_1 : w.heap.size + 1 < w1.heap.size := by omega
    try have hl2_1 : w.heap.size + 2 < w1.heap.size := by omega
    try have hl3_1 : w.heap.size + 3 < w1.heap.size := by omega
    go_wp2
    have ha1 := ha.below hq1 (Nat.le_refl _)
    clear ha qc1 qf1 hB hn0
    go_loopw [5, 20] (fun t i wr => ∃ (k : Nat) (z : Int), k ≤ n ∧ i = .int .i64 k ∧ t = .int .i64 z ∧ z = totS X k ∧ Below w1.heap.size w1 wr) (fun _ i _ => n - (intOf i).toNat)
    case atStart => exact ⟨0, 0, Nat.zero_le _, rfl, rfl, rfl, Below.refl _ _⟩
    case round =>
      obtain ⟨k, z, hk, rfl, rfl, hz, hb⟩ := hrel
      have bz := totS_bd HO.out k hk
      rw [← hz] at bz
      obtain ⟨z1, z2⟩ := bz
      have HZ := hide hz
      clear hz
      by_cases hlt : k < n
      · obtain ⟨b, off, rfl, hbb, hc⟩ := ha1 (by omega)
        obtain ⟨q1, q2⟩ := bcell hb
        have hbx : b < w1.heap.size := by omega
        have c0 := hc k 0 hlt (by omega); have c1 := hc k 1 hlt (by omega)
        simp only [Nat.add_zero, iv] at c0 c1
        obtain ⟨x1, x2, x3, x4, _⟩ := HO.out k hlt
        clear hc ha1
        go_wp2
        go_roundw
        case rel => exact ⟨k + 1, z + X k 1, by omega, by go_num, rfl, by rw [totS, HZ.out], below_al hb⟩
        case measure => simp [intOf]; omega
      · obtain rfl : k = n := by omega
        go_wp2_with (go_at_call 66; refine (impl_fraction z k _ rfl (by omega) (by omega) (by omega) (by omega) _).mono ?_; rintro e w2 ⟨rfl, hb2⟩)
        go_returns
        exact ⟨by rw [HA.out, HB.out, ← HZ.out]; rfl, below_call (below_call hq1 hb) hb2⟩
  · cases hB1 : sunB n X
    · go_enter Try.func33, Try.ntmps33
      go_wp2_with fail
      refine (impl_areSunDays _ _ _ X _ hB1 _ hn ha).mono ?_
      rintro e w1 ⟨rfl, hb1⟩
      obtain ⟨qc1, qf1⟩ := bcell hb1
      have hz1 := hb1.size
      try simp only [World.size_alloc, World.size_setCell, World.size_drew] at hz1
      have hq1 : Below w.heap.size w w1 := below_call (by go_grown) hb1
      try have hl0_1 : w.heap.size < w1.heap.size := by omega
      try have hl1_1 : w.heap.size + 1 < w1.heap.size := by omega
      try have hl2_1 : w.heap.size + 2 < w1.heap.size := by omega
      try have hl3_1 : w.heap.size + 3 < w1.heap.size := by omega
      go_wp2
      go_returns
      exact ⟨rfl, hq1⟩
    · obtain rfl : n = 0 := by
        have : ¬ 0 < n := fun h => hB ⟨hB1, h⟩
        omega
      clear hB
      go_enter Try.func33, Try.ntmps33
      go_wp2_with fail
      refine (impl_areSunDays _ _ _ X _ hB1 _ hn ha).mono ?_
      rintro e w1 ⟨rfl, hb1⟩
      obtain ⟨qc1, qf1⟩ := bcell hb1
      have hz1 := hb1.size
      try simp only [World.size_alloc, World.size_setCell, World.size_drew] at hz1
      have hq1 : Below w.heap.size w w1 := below_call (by go_grown) hb1
      try have hl0_1 : w.heap.size < w1.heap.size := by omega
      try have hl1_1 : w.heap.size + 1 < w1.heap.size := by omega
      try have hl2_1 : w.heap.size + 2 < w1.heap.size := by omega
      try have hl3_1 : w.heap.size + 3 < w1.heap.size := by omega
      go_wp2
      go_returns
      exact ⟨rfl, hq1⟩

theorem walk_FnExactMeanSun (A : Option Addr) (n c : Nat) (X : Nat → Nat → Int) (w0 : World) (hn : n ≤ maxLen) (ha : Arr w0 w0.heap.size A n 2 (iv X)) :
    Calls Try.prog 9 #[.slice A n c] w0 fun e w' => e = .returned (.bool true) ∧ Below w0.heap.size w0 w' := by
  by_cases hs : (n : Int) ≤ 1048576
  · have hn' : n ≤ 1048576 := by omega
    have hr : (0 : Int) ≤ 1048576 - n := by omega
    obtain ⟨a, b, ok, hM⟩ := mean_ex n X
    have HM := hide hM
    clear hM
    cases ok
    all_goals
      have hq0 : Below w0.heap.size w0 w0 := Below.refl _ _
      go_enter Try.func9, Try.ntmps9
      go_wp2_with fail
      refine (sz_sunDayS_ok _ _ _ _ hs (by omega) _).mono ?_
      rintro e u ⟨rfl, rfl⟩
      go_wp2_with fail
      refine (to_sunDayS _ _ _ X _ hn' ha).mono ?_
      rintro e w1 ⟨vA, rfl, hb1, OA_1⟩
      have hs1 : Below w0.heap.size w0 w1 := below_call (by go_grown) hb1
      have hz1 := hs1.size
      have hq1 : Below w0.heap.size w0 w1 := hq0.trans (hs1.mono hq0.size)
      have BA : ∀ g, vA.ownBlock = some g → w0.heap.size ≤ g ∧ g < w1.heap.size := fun g hg => ⟨Nat.le_trans (by first | exact Nat.le_refl _ | exact hz1 | simp) (OA_1.blk g hg).1, (OA_1.blk g hg).2⟩
      obtain ⟨AA, cA, hvA, hcA, _⟩ := OA_1.arr
      subst hvA
      go_wp2_with fail
      refine (spec_mean _ _ _ X _ _ _ HM.out _ hn' OA_1.arr1).mono ?_
      rintro e w2 ⟨rfl, hb2⟩
      have hs2 : Below w1.heap.size w1 w2 := below_call (by go_grown) hb2
      have hz2 := hs2.size
      have hq2 : Below w0.heap.size w0 w2 := hq1.trans (hs2.mono hq1.size)
      have OA_2 := OA_1.below hs2 (Nat.le_refl _)
      go_wp2_with fail
      refine (to_sunDayS _ _ _ X _ hn' (ha.on hq2)).mono ?_
      rintro e w3 ⟨vX, rfl, hb3, OX_3⟩
      have hs3 : Below w2.heap.size w2 w3 := below_call (by go_grown) hb3
      have hz3 := hs3.size
      have hq3 : Below w0.heap.size w0 w3 := hq2.trans (hs3.mono hq2.size)
      have OA_3 := OA_2.below hs3 (Nat.le_refl _)
      have BX : ∀ g, vX.ownBlock = some g → w2.heap.size ≤ g ∧ g < w3.heap.size := fun g hg => ⟨Nat.le_trans (by first | exact Nat.le_refl _ | exact hz3 | simp) (OX_3.blk g hg).1, (OX_3.blk g hg).2⟩
      obtain ⟨AX, cX, hvX, hcX, _⟩ := OX_3.arr
      subst hvX
      go_wp2_with fail
      refine (impl_mean _ _ _ X _ _ _ HM.out _ hn' OX_3.arr1).mono ?_
      rintro e w4 ⟨rfl, hb4⟩
      have hs4 : Below w3.heap.size w3 w4 := below_call (by go_grown) hb4
      have hz4 := hs4.size
      have hq4 : Below w0.heap.size w0 w4 := hq3.trans (hs4.mono hq3.size)
      have OA_4 := OA_3.below hs4 (Nat.le_refl _)
      have OX_4 := OX_3.below hs4 (Nat.le_refl _)
      go_wp2_with fail
      refine (to_sunDayS _ _ _ X _ hn' (ha.on hq4)).mono ?_
      rintro e w5 ⟨vP, rfl, hb5, OP_5⟩
      have hs5 : Below w4.heap.size w4 w5 := below_call (by go_grown) hb5
      have hz5 := hs5.size
      have hq5 : Below w0.heap.size w0 w5 := hq4.trans (hs5.mono hq4.size)
      have OA_5 := OA_4.below hs5 (Nat.le_refl _)
      have OX_5 := OX_4.below hs5 (Nat.le_refl _)
      have BP : ∀ g, vP.ownBlock = some g → w4.heap.size ≤ g ∧ g < w5.heap.size := fun g hg => ⟨Nat.le_trans (by first | exact Nat.le_refl _ | exact hz5 | simp) (OP_5.blk g hg).1, (OP_5.blk g hg).2⟩
      obtain ⟨AP, cP, hvP, hcP, _⟩ := OP_5.arr
      subst hvP
      go_wp2_with fail
      refine (eq_sunDayS _ _ _ _ _ _ X X true (eqX_self _ _ _) _ hn' hn' OX_5.arr1 OP_5.arr1).mono ?_
      rintro e w6 ⟨rfl, hb6⟩
      have hs6 : Below w5.heap.size w5 w6 := below_call (by go_grown) hb6
      have hz6 := hs6.size
      have hq6 : Below w0.heap.size w0 w6 := hq5.trans (hs6.mono hq5.size)
      have OA_6 := OA_5.below hs6 (Nat.le_refl _)
      have OX_6 := OX_5.below hs6 (Nat.le_refl _)
      have OP_6 := OP_5.below hs6 (Nat.le_refl _)
      go_wp2
      go_returns
      exact ⟨rfl, hq6⟩
  · have hs' : (1048576 : Int) < n := by omega
    go_enter Try.func9, Try.ntmps9
    go_wp2_with fail
    refine (sz_sunDayS_over _ _ _ _ hs' hn (by omega) (by omega) _).mono ?_
    rintro e u ⟨rfl, rfl⟩
    go_wp2
    go_returns
    exact ⟨rfl, Below.refl _ _⟩
end Go.Proofs.Ytnlpgbjalfgoiaa
