/- Chapter 23: EndsOf. -/
import Derived.Test.YtfdgnjnnbhelgaaVisH
namespace Go.Proofs.Ytfdgnjnnbhelgaa
open Go.RowKit
set_option linter.unusedVariables false
set_option linter.unusedSimpArgs false

def endLen (ok : Bool) (m : Nat) : Nat := if ok then m else 0
theorem plan_of {n m : Nat} {X Y : Nat → Nat → Int} (h : (planB n m Y && errsB n X) = true) : planIn n m Y ∧ errsB n X = true ∧ ∀ i, i < n → errOk X i := by
  simp only [Bool.and_eq_true, planB] at h
  exact ⟨allIn_of h.1.1, h.2, (errs_of h.2).2⟩
theorem spec_endsOf (A B : Option Addr) (n c m d : Nat) (X Y : Nat → Nat → Int) (ok : Bool) (q : Nat) (hq : q = endLen ok m) (hok : (planB n m Y && errsB n X) = ok) (w : World) (hn : n ≤ 1048576) (hm : m ≤ 1048576) (hmd : m ≤ d) (ha : Arr w w.heap.size A n 4 (iv X)) (hb : Arr w w.heap.size B m 1 (iv Y)) :
    Calls Try.prog 49 #[.slice A n c, .slice B m d] w fun e w' => ∃ v, e = .returned (.tuple #[v, .bool ok]) ∧ Below w.heap.size w w' ∧ Own w' w.heap.size 3 1 v q (iv fun i _ => endH X Y (i + 1)) := by
  have HQ := hide hq; have HK := hide hok
  clear hq hok
  cases ok
  · go_enter Try.func49, Try.ntmps49
    go_wp2_with fail
    refine (spec_plan _ _ _ _ _ _ X Y _ HK.out _ hn hm hmd ha hb).mono ?_
    rintro e w1 ⟨rfl, hb1⟩
    obtain ⟨qc1, qf1⟩ := bcell hb1
    have hz1 := hb1.size
    try simp only [World.size_alloc, World.size_setCell, World.size_drew] at hz1
    have hq1 : Below w.heap.size w w1 := below_call (by go_grown) hb1
    try have hl0_1 : w.heap.size < w1.heap.size := by omega
    try have hl1_1 : w.heap.size + 1 < w1.heap.size := by omega
    try have hl2_1 : w.heap.size + 2 < w1.heap.size := by omega
    try have hl3_1 : w.heap.size + 3 < w1.heap.size := by omega
    go_wp2
    go_returns
    obtain rfl : q = 0 := HQ.out
    exact ⟨_, rfl, below_al hq1, .inr ⟨w1.heap.size, 0, _, rfl, hq1.size, Blk.new _ _ _, Nat.le_refl _, by unfold maxLen; omega, by simp, fun i j hi => absurd hi (by omega)⟩⟩
  · obtain ⟨hP, hE, hX⟩ := plan_of HK.out
    go_enter Try.func49, Try.ntmps49
    go_wp2_with fail
    refine (spec_plan _ _ _ _ _ _ X Y _ HK.out _ hn hm hmd ha hb).mono ?_
    rintro e w1 ⟨rfl, hb1⟩
    obtain ⟨qc1, qf1⟩ := bcell hb1
    have hz1 := hb1.size
    try simp only [World.size_alloc, World.size_setCell, World.size_drew] at hz1
    have hq1 : Below w.heap.size w w1 := below_call (by go_grown) hb1
    try have hl0_1 : w.heap.size < w1.heap.size := by omega
    try have hl1_1 : w.heap.size + 1 < w1.heap.size := by omega
    try have hl2_1 : w.heap.size + 2 < w1.heap.size := by omega
    try have hl3_1 : w.heap.size + 3 < w1.heap.size := by omega
    go_wp2_with fail
    refine (spec_ends _ _ _ _ _ _ X Y _ hn hm (ha.on hq1) (hb.on hq1) hX hP).mono ?_
    rintro e w2 ⟨v, rfl, hb2, ho⟩
    go_wp2
    go_returns
    obtain rfl : q = m := HQ.out
    exact ⟨v, rfl, below_call hq1 hb2, ho.base hq1.size⟩
theorem impl_endsOf (A B : Option Addr) (n c m d : Nat) (X Y : Nat → Nat → Int) (ok : Bool) (q : Nat) (hq : q = endLen ok m) (hok : (planB n m Y && errsB n X) = ok) (w : World) (hn : n ≤ 1048576) (hm : m ≤ 1048576) (ha : Arr w w.heap.size A n 4 (iv X)) (hb : Arr w w.heap.size B m 1 (iv Y)) :
    Calls Try.prog 48 #[.slice A n c, .slice B m d] w fun e w' => ∃ v, e = .returned (.tuple #[v, .bool ok]) ∧ Below w.heap.size w w' ∧ Own w' w.heap.size 3 1 v q (iv fun i _ => endH X Y (i + 1)) := by
  have HQ := hide hq; have HK := hide hok
  clear hq hok
  obtain ⟨s, hs⟩ : ∃ s, errsB n X = s := ⟨_, rfl⟩
  obtain ⟨t, ht⟩ : ∃ t, planB n m Y = t := ⟨_, rfl⟩
  have HS := hide hs; have HT := hide ht
  clear hs ht
  cases s
  · obtain rfl : false = ok := by rw [← HK.out, HS.out]; simp
    go_enter Try.func48, Try.ntmps48
    go_wp2_with fail
    refine (impl_errs _ _ _ X _ HS.out _ hn ha).mono ?_
    rintro e w1 ⟨rfl, hb1⟩
    obtain ⟨qc1, qf1⟩ := bcell hb1
    have hz1 := hb1.size
    try simp only [World.size_alloc, World.size_setCell, World.size_drew] at hz1
    have hq1 : Below w.heap.size w w1 := below_call (by go_grown) hb1
    try have hl0_1 : w.heap.size < w1.heap.size := by omega
    try have hl1_1 : w.heap.size + 1 < w1.heap.size := by omega
    try have hl2_1 : w.heap.size + 2 < w1.heap.size := by omega
    try have hl3_1 : w.heap.size + 3 < w1.heap.size := by omega
    go_wp2
    go_returns
    obtain rfl : q = 0 := HQ.out
    exact ⟨_, rfl, hq1, .inl ⟨rfl, rfl⟩⟩
  · cases t
    · obtain rfl : false = ok := by rw [← HK.out, HS.out, HT.out]; rfl
      go_enter Try.func48, Try.ntmps48
      go_wp2_with fail
      refine (impl_errs _ _ _ X _ HS.out _ hn ha).mono ?_
      rintro e w1 ⟨rfl, hb1⟩
      obtain ⟨qc1, qf1⟩ := bcell hb1
      have hz1 := hb1.size
      try simp only [World.size_alloc, World.size_setCell, World.size_drew] at hz1
      have hq1 : Below w.heap.size w w1 := below_call (by go_grown) hb1
      try have hl0_1 : w.heap.size < w1.heap.size := by omega
      try have hl1_1 : w.heap.size + 1 < w1.heap.size := by omega
      try have hl2_1 : w.heap.size + 2 < w1.heap.size := by omega
      try have hl3_1 : w.heap.size + 3 < w1.heap.size := by omega
      go_wp2_with fail
      refine (impl_isPlan0 A _ n c _ _ Y _ HT.out _ hn hm (hb.on hq1)).mono ?_
      rintro e w2 ⟨rfl, hb2⟩
      obtain ⟨qc2, qf2⟩ := bcell hb2
      have hz2 := hb2.size
      try simp only [World.size_alloc, World.size_setCell, World.size_drew] at hz2
      have hq2 : Below w.heap.size w w2 := below_call (by go_grown) hb2
      try have hl0_2 : w.heap.size < w2.heap.size := by omega
      try have hl1_2 : w.heap.size + 1 < w2.heap.size := by omega
      try have hl2_2 : w.heap.size + 2 < w2.heap.size := by omega
      try have hl3_2 : w.heap.size + 3 < w2.heap.size := by omega
      try have hn1_2 : w1.heap.size < w2.heap.size := by omega
      go_wp2
      go_returns
      obtain rfl : q = 0 := HQ.out
      exact ⟨_, rfl, hq2, .inl ⟨rfl, rfl⟩⟩
    · obtain rfl : true = ok := by rw [← HK.out, HS.out, HT.out]; rfl
      obtain ⟨hP, hE, hX⟩ := plan_of HK.out
      go_enter Try.func48, Try.ntmps48
      go_wp2_with fail
      refine (impl_errs _ _ _ X _ HS.out _ hn ha).mono ?_
      rintro e w1 ⟨rfl, hb1⟩
      obtain ⟨qc1, qf1⟩ := bcell hb1
      have hz1 := hb1.size
      try simp only [World.size_alloc, World.size_setCell, World.size_drew] at hz1
      have hq1 : Below w.heap.size w w1 := below_call (by go_grown) hb1
      try have hl0_1 : w.heap.size < w1.heap.size := by omega
      try have hl1_1 : w.heap.size + 1 < w1.heap.size := by omega
      try have hl2_1 : w.heap.size + 2 < w1.heap.size := by omega
      try have hl3_1 : w.heap.size + 3 < w1.heap.size := by omega
      go_wp2_with fail
      refine (impl_isPlan0 A _ n c _ _ Y _ HT.out _ hn hm (hb.on hq1)).mono ?_
      rintro e w2 ⟨rfl, hb2⟩
      obtain ⟨qc2, qf2⟩ := bcell hb2
      have hz2 := hb2.size
      try simp only [World.size_alloc, World.size_setCell, World.size_drew] at hz2
      have hq2 : Below w.heap.size w w2 := below_call (by go_grown) hb2
      try have hl0_2 : w.heap.size < w2.heap.size := by omega
      try have hl1_2 : w.heap.size + 1 < w2.heap.size := by omega
      try have hl2_2 : w.heap.size + 2 < w2.heap.size := by omega
      try have hl3_2 : w.heap.size + 3 < w2.heap.size := by omega
      try have hn1_2 : w1.heap.size < w2.heap.size := by omega
      go_wp2_with fail
      refine (impl_ends _ _ _ _ _ _ X Y _ hn hm (ha.on hq2) (hb.on hq2) hX hP).mono ?_
      rintro e w3 ⟨v, rfl, hb3, ho⟩
      go_wp2
      go_returns
      obtain rfl : q = m := HQ.out
      exact ⟨v, rfl, below_call hq2 hb3, ho.base hq2.size⟩
end Go.Proofs.Ytfdgnjnnbhelgaa
