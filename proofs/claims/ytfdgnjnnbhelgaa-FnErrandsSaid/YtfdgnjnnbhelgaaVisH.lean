/- Chapter 23: IsPlan. -/
import Derived.Test.YtfdgnjnnbhelgaaVisG
namespace Go.Proofs.Ytfdgnjnnbhelgaa
open Go.RowKit
set_option linter.unusedVariables false
set_option linter.unusedSimpArgs false

theorem spec_isPlan (A B : Option Addr) (n c m d : Nat) (X Y : Nat → Nat → Int) (u ok : Bool) (hu : (planB n m Y && errsB n X) = u) (hok : errsB n X = ok) (w : World) (hn : n ≤ 1048576) (hm : m ≤ 1048576) (hmd : m ≤ d) (ha : Arr w w.heap.size A n 4 (iv X)) (hb : Arr w w.heap.size B m 1 (iv Y)) :
    Calls Try.prog 51 #[.slice A n c, .slice B m d] w fun e w' => e = .returned (.tuple #[.bool u, .bool ok]) ∧ Below w.heap.size w w' := by
  have HU := hide hu
  clear hu
  have hbo := hide hb
  clear hb
  cases ok
  · obtain rfl : false = u := by rw [← HU.out, hok]; simp
    go_enter Try.func51, Try.ntmps51
    go_wp2_with fail
    refine (spec_good23 _ _ _ X _ hok _ hn ha).mono ?_
    rintro e w1 ⟨rfl, hb1⟩
    obtain ⟨qc1, qf1⟩ := bcell hb1
    have hz1 := hb1.size
    try simp only [World.size_alloc, World.size_setCell, World.size_drew] at hz1
    have hq1 : Below w.heap.size w w1 := below_call (by go_grown) hb1
    try have hl0_1 : w.heap.size < w1.heap.size := by omega
    try have hl1_1 : w.heap.size + 1 < w1.heap.size := by omega
    try have hl2_1 : w.heap.size + 2 < w1.heap.size := by omega
    try have hl3_1 : w.heap.size + 3 < w1.heap.size := by omega
    go_wp2
    go_returns
    exact ⟨rfl, hq1⟩
  · go_enter Try.func51, Try.ntmps51
    go_wp2_with fail
    refine (spec_good23 _ _ _ X _ hok _ hn ha).mono ?_
    rintro e w1 ⟨rfl, hb1⟩
    obtain ⟨qc1, qf1⟩ := bcell hb1
    have hz1 := hb1.size
    try simp only [World.size_alloc, World.size_setCell, World.size_drew] at hz1
    have hq1 : Below w.heap.size w w1 := below_call (by go_grown) hb1
    try have hl0_1 : w.heap.size < w1.heap.size := by omega
    try have hl1_1 : w.heap.size + 1 < w1.heap.size := by omega
    try have hl2_1 : w.heap.size + 2 < w1.heap.size := by omega
    try have hl3_1 : w.heap.size + 3 < w1.heap.size := by omega
    go_wp2_with fail
    refine (spec_plan _ _ _ _ _ _ X Y _ HU.out _ hn hm hmd (ha.on hq1) (hbo.out.on hq1)).mono ?_
    rintro e w2 ⟨rfl, hb2⟩
    obtain ⟨qc2, qf2⟩ := bcell hb2
    have hz2 := hb2.size
    try simp only [World.size_alloc, World.size_setCell, World.size_drew] at hz2
    have hq2 : Below w.heap.size w w2 := below_call (by go_grown) hb2
    try have hl0_2 : w.heap.size < w2.heap.size := by omega
    try have hl1_2 : w.heap.size + 1 < w2.heap.size := by omega
    try have hl2_2 : w.heap.size + 2 < w2.heap.size := by omega
    try have hl3_2 : w.heap.size + 3 < w2.heap.size := by omega
    try have hn1_2 : w1.heap.size < w2.heap.size := by omega
    go_wp2
    go_returns
    exact ⟨rfl, hq2⟩
theorem impl_isPlan (A B : Option Addr) (n c m d : Nat) (X Y : Nat → Nat → Int) (u ok : Bool) (hu : (planB n m Y && errsB n X) = u) (hok : errsB n X = ok) (w : World) (hn : n ≤ 1048576) (hm : m ≤ 1048576) (ha : Arr w w.heap.size A n 4 (iv X)) (hb : Arr w w.heap.size B m 1 (iv Y)) :
    Calls Try.prog 50 #[.slice A n c, .slice B m d] w fun e w' => e = .returned (.tuple #[.bool u, .bool ok]) ∧ Below w.heap.size w w' := by
  have HU := hide hu
  clear hu
  have hbo := hide hb
  clear hb
  cases ok
  · obtain rfl : false = u := by rw [← HU.out, hok]; simp
    go_enter Try.func50, Try.ntmps50
    go_wp2_with fail
    refine (impl_errs _ _ _ X _ hok _ hn ha).mono ?_
    rintro e w1 ⟨rfl, hb1⟩
    obtain ⟨qc1, qf1⟩ := bcell hb1
    have hz1 := hb1.size
    try simp only [World.size_alloc, World.size_setCell, World.size_drew] at hz1
    have hq1 : Below w.heap.size w w1 := below_call (by go_grown) hb1
    try have hl0_1 : w.heap.size < w1.heap.size := by omega
    try have hl1_1 : w.heap.size + 1 < w1.heap.size := by omega
    try have hl2_1 : w.heap.size + 2 < w1.heap.size := by omega
    try have hl3_1 : w.heap.size + 3 < w1.heap.size := by omega
    go_wp2
    go_returns
    exact ⟨rfl, hq1⟩
  · obtain ⟨t, ht⟩ : ∃ t, planB n m Y = t := ⟨_, rfl⟩
    obtain rfl : t = u := by rw [← HU.out, hok, ht]; simp
    have HT := hide ht
    clear ht
    go_enter Try.func50, Try.ntmps50
    go_wp2_with fail
    refine (impl_errs _ _ _ X _ hok _ hn ha).mono ?_
    rintro e w1 ⟨rfl, hb1⟩
    obtain ⟨qc1, qf1⟩ := bcell hb1
    have hz1 := hb1.size
    try simp only [World.size_alloc, World.size_setCell, World.size_drew] at hz1
    have hq1 : Below w.heap.size w w1 := below_call (by go_grown) hb1
    try have hl0_1 : w.heap.size < w1.heap.size := by omega
    try have hl1_1 : w.heap.size + 1 < w1.heap.size := by omega
    try have hl2_1 : w.heap.size + 2 < w1.heap.size := by omega
    try have hl3_1 : w.heap.size + 3 < w1.heap.size := by omega
    go_wp2_with fail
    refine (impl_isPlan0 A _ n c _ _ Y t HT.out _ hn hm (hbo.out.on hq1)).mono ?_
    rintro e w2 ⟨rfl, hb2⟩
    obtain ⟨qc2, qf2⟩ := bcell hb2
    have hz2 := hb2.size
    try simp only [World.size_alloc, World.size_setCell, World.size_drew] at hz2
    have hq2 : Below w.heap.size w w2 := below_call (by go_grown) hb2
    try have hl0_2 : w.heap.size < w2.heap.size := by omega
    try have hl1_2 : w.heap.size + 1 < w2.heap.size := by omega
    try have hl2_2 : w.heap.size + 2 < w2.heap.size := by omega
    try have hl3_2 : w.heap.size + 3 < w2.heap.size := by omega
    try have hn1_2 : w1.heap.size < w2.heap.size := by omega
    go_wp2
    go_returns
    exact ⟨rfl, hq2⟩

end Go.Proofs.Ytfdgnjnnbhelgaa
