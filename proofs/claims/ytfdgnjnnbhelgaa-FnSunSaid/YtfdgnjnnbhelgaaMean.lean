/- Chapter 22: the mean of the sun. -/
import Derived.Test.YtfdgnjnnbhelgaaSun
import Derived.Test.YtfdgnjnnbhelgaaGcd
namespace Go.Proofs.Ytfdgnjnnbhelgaa
open Go.RowKit
set_option linter.unusedVariables false
set_option linter.unusedSimpArgs false

def totS (X : Nat → Nat → Int) : Nat → Int
  | 0 => 0
  | k + 1 => totS X k + X k 1
theorem totS_bd {X : Nat → Nat → Int} {n : Nat} (h : ∀ i, i < n → 0 ≤ X i 0 ∧ X i 0 ≤ 9999 ∧ 0 ≤ X i 1 ∧ X i 1 ≤ 1000 ∧ (0 < i → X i 0 = X (i - 1) 0 + 1)) : ∀ k, k ≤ n → 0 ≤ totS X k ∧ totS X k ≤ 1000 * k
  | 0, _ => by simp [totS]
  | k + 1, hk => by
    have h1 := totS_bd h k (by omega)
    have h2 := h k (by omega)
    simp only [totS]; omega
def MeanRes (n : Nat) (X : Nat → Nat → Int) (a b : Int) (ok : Bool) : Prop :=
  (ok = true ∧ sunB n X = true ∧ 0 < n ∧ a = (totS X n).tdiv (fracG (totS X n) n) ∧ b = (n : Int) / fracG (totS X n) n) ∨ (ok = false ∧ ¬ (sunB n X = true ∧ 0 < n) ∧ a = 0 ∧ b = 0)
theorem mean_ex (n : Nat) (X : Nat → Nat → Int) : ∃ a b ok, MeanRes n X a b ok := by
  by_cases h : sunB n X = true ∧ 0 < n
  · exact ⟨_, _, true, .inl ⟨rfl, h.1, h.2, rfl, rfl⟩⟩
  · exact ⟨0, 0, false, .inr ⟨rfl, h, rfl, rfl⟩⟩

set_option maxHeartbeats 1000000 in
theorem spec_mean (A : Option Addr) (n c : Nat) (X : Nat → Nat → Int) (a b : Int) (ok : Bool) (hM : MeanRes n X a b ok) (w : World) (hn : n ≤ 1048576) (ha : Arr w w.heap.size A n 2 (iv X)) :
    Calls Try.prog 35 #[.slice A n c] w fun e w' => e = .returned (.tuple #[.int .i64 a, .int .i64 b, .bool ok]) ∧ Below w.heap.size w w' := by
  rcases hM with ⟨rfl, hB, h0, hA, hb'⟩ | ⟨rfl, hB, rfl, rfl⟩
  · obtain ⟨hn20, hok⟩ := sunB_of hB
    have HO := hide hok
    have hn0 : ((n : Int) == 0) = false := by simp; omega
    have HA := hide hA; have HB := hide hb'
    clear hok hA hb'
    go_enter Try.func35, Try.ntmps35
    go_wp2_with fail
    refine (spec_good22 _ _ _ X _ hn ha).mono ?_
    rintro e w1 ⟨rfl, hb1⟩
    obtain ⟨qc1, qf1⟩ := bcell hb1
    have hz1 := hb1.size
    try simp only [World.size_alloc, World.size_setCell, World.size_drew] at hz1
    have hq1 : Below w.heap.size w w1 := below_call (by go_grown) hb1
    try have hl0_1 : w.heap.size < w1.heap.size := by omega
    try have hl1_1 : w.heap.size + 1 < w1.heap.size := by omega
    try have hl2_1 : w.heap.size + 2 < w1.heap.size := by omega
    try have hl3_1 : w.heap.size + 3 < w1.heap.size := by omega
    go_wp2
    have ha1 := ha.below hq1 (Nat.le_refl _)
    clear ha qc1 qf1 hB hn0
    go_loop [5, 6] (fun t i => ∃ (k : Nat) (z : Int), k ≤ n ∧ i = .int .i64 k ∧ t = .int .i64 z ∧ z = totS X k) (fun _ i => n - (intOf i).toNat)
    case atStart => exact ⟨0, 0, Nat.zero_le _, rfl, rfl, rfl⟩
    case round =>
      obtain ⟨k, z, hk, rfl, rfl, hz⟩ := hrel
      have bz := totS_bd HO.out k hk
      rw [← hz] at bz
      obtain ⟨z1, z2⟩ := bz
      have HZ := hide hz
      clear hz
      by_cases hlt : k < n
      · obtain ⟨b, off, rfl, hbb, hc⟩ := ha1 (by omega)
        have c1 := hc k 1 hlt (by omega)
        simp only [iv] at c1
        obtain ⟨x1, x2, x3, x4, _⟩ := HO.out k hlt
        clear hc ha1
        go_wp2
        go_round
        case rel => exact ⟨k + 1, z + X k 1, by omega, by go_num, rfl, by rw [totS, HZ.out]⟩
        case measure => simp [intOf]; omega
      · obtain rfl : k = n := by omega
        go_wp2_with (go_at_call 89; refine (spec_reduce z k _ rfl (by omega) (by omega) (by omega) (by omega) _).mono ?_; rintro e w2 ⟨rfl, hb2⟩)
        go_returns
        exact ⟨by rw [HA.out, HB.out, ← HZ.out]; rfl, below_call hq1 hb2⟩
  · cases hB1 : sunB n X
    · go_enter Try.func35, Try.ntmps35
      go_wp2_with fail
      refine (spec_good22 _ _ _ X _ hn ha).mono ?_
      rintro e w1 ⟨rfl, hb1⟩
      obtain ⟨qc1, qf1⟩ := bcell hb1
      have hz1 := hb1.size
      try simp only [World.size_alloc, World.size_setCell, World.size_drew] at hz1
      have hq1 : Below w.heap.size w w1 := below_call (by go_grown) hb1
      try have hl0_1 : w.heap.size < w1.heap.size := by omega
      try have hl1_1 : w.heap.size + 1 < w1.heap.size := by omega
      try have hl2_1 : w.heap.size + 2 < w1.heap.size := by omega
      try have hl3_1 : w.heap.size + 3 < w1.heap.size := by omega
      go_wp2
      go_returns
      exact ⟨rfl, hq1⟩
    · obtain rfl : n = 0 := by
        have : ¬ 0 < n := fun h => hB ⟨hB1, h⟩
        omega
      clear hB
      go_enter Try.func35, Try.ntmps35
      go_wp2_with fail
      refine (spec_good22 _ _ _ X _ hn ha).mono ?_
      rintro e w1 ⟨rfl, hb1⟩
      obtain ⟨qc1, qf1⟩ := bcell hb1
      have hz1 := hb1.size
      try simp only [World.size_alloc, World.size_setCell, World.size_drew] at hz1
      have hq1 : Below w.heap.size w w1 := below_call (by go_grown) hb1
      try have hl0_1 : w.heap.size < w1.heap.size := by omega
      try have hl1_1 : w.heap.size + 1 < w1.heap.size := by omega
      try have hl2_1 : w.heap.size + 2 < w1.heap.size := by omega
      try have hl3_1 : w.heap.size + 3 < w1.heap.size := by omega
      go_wp2
      go_returns
      exact ⟨rfl, hq1⟩

set_option maxHeartbeats 1000000 in
theorem impl_mean (A : Option Addr) (n c : Nat) (X : Nat → Nat → Int) (a b : Int) (ok : Bool) (hM : MeanRes n X a b ok) (w : World) (hn : n ≤ 1048576) (ha : Arr w w.heap.size A n 2 (iv X)) :
    Calls Try.prog 34 #[.slice A n c] w fun e w' => e = .returned (.tuple #[.int .i64 a, .int .i64 b, .bool ok]) ∧ Below w.heap.size w w' := by
  rcases hM with ⟨rfl, hB, h0, hA, hb'⟩ | ⟨rfl, hB, rfl, rfl⟩
  · obtain ⟨hn20, hok⟩ := sunB_of hB
    have HO := hide hok
    have hn0 : ((n : Int) == 0) = false := by simp; omega
    have HA := hide hA; have HB := hide hb'
    clear hok hA hb'
    go_enter Try.func34, Try.ntmps34
    go_wp2_with fail
    refine (impl_areSunDays _ _ _ X _ hB _ hn ha).mono ?_
    rintro e w1 ⟨rfl, hb1⟩
    obtain ⟨qc1, qf1⟩ := bcell hb1
    have hz1 := hb1.size
    try simp only [World.size_alloc, World.size_setCell, World.size_drew] at hz1
    have hq1 : Below w.heap.size w w1 := below_call (by go_grown) hb1
    try have hl0_1 : w.heap.size < w1.heap.size := by omega
    try have hl1_1 : w.heap.size + 1 < w1.heap.size := by omega
    try have hl2_1 : w.heap.size + 2 < w1.heap.size := by omega
    try have hl3_1 : w.heap.size + 3 < w1.heap.size := by omega
    go_wp2
    have ha1 := ha.below hq1 (Nat.le_refl _)
    clear ha qc1 qf1 hB hn0
    go_loopw [5, 20] (fun t i wr => ∃ (k : Nat) (z : Int), k ≤ n ∧ i = .int .i64 k ∧ t = .int .i64 z ∧ z = totS X k ∧ Below w1.heap.size w1 wr) (fun _ i _ => n - (intOf i).toNat)
    case atStart => exact ⟨0, 0, Nat.zero_le _, rfl, rfl, rfl, Below.refl _ _⟩
    case round =>
      obtain ⟨k, z, hk, rfl, rfl, hz, hb⟩ := hrel
      have bz := totS_bd HO.out k hk
      rw [← hz] at bz
      obtain ⟨z1, z2⟩ := bz
      have HZ := hide hz
      clear hz
      by_cases hlt : k < n
      · obtain ⟨b, off, rfl, hbb, hc⟩ := ha1 (by omega)
        obtain ⟨q1, q2⟩ := bcell hb
        have hbx : b < w1.heap.size := by omega
        have c0 := hc k 0 hlt (by omega); have c1 := hc k 1 hlt (by omega)
        simp only [Nat.add_zero, iv] at c0 c1
        obtain ⟨x1, x2, x3, x4, _⟩ := HO.out k hlt
        clear hc ha1
        go_wp2
        go_roundw
        case rel => exact ⟨k + 1, z + X k 1, by omega, by go_num, rfl, by rw [totS, HZ.out], below_al hb⟩
        case measure => simp [intOf]; omega
      · obtain rfl : k = n := by omega
        go_wp2_with (go_at_call 88; refine (impl_fraction z k _ rfl (by omega) (by omega) (by omega) (by omega) _).mono ?_; rintro e w2 ⟨rfl, hb2⟩)
        go_returns
        exact ⟨by rw [HA.out, HB.out, ← HZ.out]; rfl, below_call (below_call hq1 hb) hb2⟩
  · cases hB1 : sunB n X
    · go_enter Try.func34, Try.ntmps34
      go_wp2_with fail
      refine (impl_areSunDays _ _ _ X _ hB1 _ hn ha).mono ?_
      rintro e w1 ⟨rfl, hb1⟩
      obtain ⟨qc1, qf1⟩ := bcell hb1
      have hz1 := hb1.size
      try simp only [World.size_alloc, World.size_setCell, World.size_drew] at hz1
      have hq1 : Below w.heap.size w w1 := below_call (by go_grown) hb1
      try have hl0_1 : w.heap.size < w1.heap.size := by omega
      try have hl1_1 : w.heap.size + 1 < w1.heap.size := by omega
      try have hl2_1 : w.heap.size + 2 < w1.heap.size := by omega
      try have hl3_1 : w.heap.size + 3 < w1.heap.size := by omega
      go_wp2
      go_returns
      exact ⟨rfl, hq1⟩
    · obtain rfl : n = 0 := by
        have : ¬ 0 < n := fun h => hB ⟨hB1, h⟩
        omega
      clear hB
      go_enter Try.func34, Try.ntmps34
      go_wp2_with fail
      refine (impl_areSunDays _ _ _ X _ hB1 _ hn ha).mono ?_
      rintro e w1 ⟨rfl, hb1⟩
      obtain ⟨qc1, qf1⟩ := bcell hb1
      have hz1 := hb1.size
      try simp only [World.size_alloc, World.size_setCell, World.size_drew] at hz1
      have hq1 : Below w.heap.size w w1 := below_call (by go_grown) hb1
      try have hl0_1 : w.heap.size < w1.heap.size := by omega
      try have hl1_1 : w.heap.size + 1 < w1.heap.size := by omega
      try have hl2_1 : w.heap.size + 2 < w1.heap.size := by omega
      try have hl3_1 : w.heap.size + 3 < w1.heap.size := by omega
      go_wp2
      go_returns
      exact ⟨rfl, hq1⟩

end Go.Proofs.Ytfdgnjnnbhelgaa
