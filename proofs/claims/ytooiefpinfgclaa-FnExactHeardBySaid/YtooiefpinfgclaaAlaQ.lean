/- Chapter 21: what is asked of an alarm: made by alaqgen.py. -/
import Derived.Test.YtooiefpinfgclaaAlaI
import Derived.Test.YtooiefpinfgclaaList
namespace Go.Proofs.Ytooiefpinfgclaa
open Go.RowKit
set_option linter.unusedVariables false
set_option linter.unusedSimpArgs false

theorem ala_of {x0 x1 : Int} {n : Nat} {X : Nat → Nat → Int} {x3 x4 : Int} (h : alaB x0 x1 n X x3 x4 = true) : (0 ≤ x0 ∧ x0 ≤ 1000000) ∧ (0 ≤ x1 ∧ x1 ≤ 3) ∧ cntB x1 n = true ∧ n ≤ 8 ∧ ∀ i, i < n → hrdOk x0 X i ∧ hrdNew X i := by
  unfold alaB at h
  simp only [Bool.and_eq_true] at h
  exact ⟨inB_of h.1.1.1.1.1, inB_of h.1.1.1.1.2, h.1.2, cntB_8 h.1.2, of_decide_eq_true h.2.1⟩
theorem cnt_one {n : Nat} (h : cntB 1 n = true) : 0 < n := by
  unfold cntB at h; rw [if_pos rfl] at h; have := inB_of h; omega
set_option maxHeartbeats 2000000 in
theorem spec_forget (x0 x1 : Int) (A : Option Addr) (n c : Nat) (X : Nat → Nat → Int) (x3 x4 : Int) (v : Bool) (hv : (alaB x0 x1 n X x3 x4 && decide (x1 = 1)) = v) (r : Int) (hr : onlyI v (X 0 1 + 501 - x0) = r) (w : World) (hn : n ≤ 1048576) (hnc : n ≤ c) (ha : Arr w w.heap.size A n 2 (iv X)) :
    Calls Try.prog 17 #[.agg #[.int .i64 x0, .int .i64 x1, .slice A n c, .int .i64 x3, .int .i64 x4]] w fun e w' => e = .returned (.tuple #[.int .i64 r, .bool v]) ∧ Below w.heap.size w w' := by
  have HV := hide hv; have HR := hide hr
  clear hv hr
  have hcx0 : Cells (w.alloc (.cells #[.int .i64 x0, .int .i64 x1, .slice A n c, .int .i64 x3, .int .i64 x4] 24)) w.heap.size [.int .i64 x0, .int .i64 x1, .slice A n c, .int .i64 x3, .int .i64 x4] := Cells.new w _ _ _ rfl
  have hb0 : Below w.heap.size w (w.alloc (.cells #[.int .i64 x0, .int .i64 x1, .slice A n c, .int .i64 x3, .int .i64 x4] 24)) := below_al (Below.refl _ _)
  cases hg : alaB x0 x1 n X x3 x4
  · obtain rfl : false = v := by rw [← HV.out, hg]; rfl
    obtain rfl : 0 = r := HR.out
    have HG := hide hg; clear hg
    go_enter Try.func17, Try.ntmps17
    go_wp2_with fail
    refine (spec_ala _ _ _ _ _ X _ _ _ HG.out _ hn hnc (ha.on hb0)).mono ?_
    rintro e w1 ⟨rfl, hb1⟩
    obtain ⟨qc1, qf1⟩ := bcell hb1
    have hz1 := hb1.size
    try simp only [World.size_alloc, World.size_setCell, World.size_drew] at hz1
    have hq1 : Below w.heap.size w w1 := below_call (by go_grown) hb1
    try have hl0_1 : w.heap.size < w1.heap.size := by omega
    try have hl1_1 : w.heap.size + 1 < w1.heap.size := by omega
    try have hl2_1 : w.heap.size + 2 < w1.heap.size := by omega
    try have hl3_1 : w.heap.size + 3 < w1.heap.size := by omega
    have hcx1 := hcx0.on hb1
    have l0 := hcx1.2 0 _ rfl; have l1 := hcx1.2 1 _ rfl; have l2 := hcx1.2 2 _ rfl; have l3 := hcx1.2 3 _ rfl; have l4 := hcx1.2 4 _ rfl; have l5 := hcx1.1
    clear qc1 qf1 hcx0 hb0
    go_wp2
    go_returns
    exact ⟨rfl, hq1⟩
  · obtain ⟨⟨t0, t1⟩, ⟨s0, s1⟩, hcn, h8, hall⟩ := ala_of hg
    have HG := hide hg; clear hg
    by_cases hc : x1 = 1
    · obtain rfl : true = v := by rw [← HV.out, HG.out, decide_eq_true hc]; rfl
      have hr : X 0 1 + 501 - x0 = r := HR.out
      subst hc
      have hn0 := cnt_one hcn
      obtain ⟨u1, u2, u3, u4, _⟩ := (hall 0 hn0).1
      have HRR := hide hr
      clear hall hcn hr
      go_enter Try.func17, Try.ntmps17
      go_wp2_with fail
      refine (spec_ala _ _ _ _ _ X _ _ _ HG.out _ hn hnc (ha.on hb0)).mono ?_
      rintro e w1 ⟨rfl, hb1⟩
      obtain ⟨qc1, qf1⟩ := bcell hb1
      have hz1 := hb1.size
      try simp only [World.size_alloc, World.size_setCell, World.size_drew] at hz1
      have hq1 : Below w.heap.size w w1 := below_call (by go_grown) hb1
      try have hl0_1 : w.heap.size < w1.heap.size := by omega
      try have hl1_1 : w.heap.size + 1 < w1.heap.size := by omega
      try have hl2_1 : w.heap.size + 2 < w1.heap.size := by omega
      try have hl3_1 : w.heap.size + 3 < w1.heap.size := by omega
      have hcx1 := hcx0.on hb1
      have l0 := hcx1.2 0 _ rfl; have l1 := hcx1.2 1 _ rfl; have l2 := hcx1.2 2 _ rfl; have l3 := hcx1.2 3 _ rfl; have l4 := hcx1.2 4 _ rfl; have l5 := hcx1.1
      clear qc1 qf1 hcx0 hb0
      have HAA := hide ha
      obtain ⟨b, off, rfl, hbb, hcc⟩ := ha hn0
      have c1 := hcc 0 1 hn0 (by omega)
      simp only [Nat.add_zero, Nat.zero_mul, iv] at c1
      have d1 := (hq1.cell (p := ⟨b, _, none⟩) hbb).trans c1
      have hbl : b < w1.heap.size := by have := hq1.size; omega
      have hx := BW.cell (w := w1)
      clear hcc c1
      go_wp2
      refine wp_region_bw (by kernel_rfl) (by kernel_rfl) ?_
      repeat (go_big_quiet_step ((first | fail)))
      refine wpQuiet_end fun w1 hb1 => ?_
      clear hx
      go_wp2
      go_returns
      exact ⟨by rw [← HRR.out]; rfl, below_call hq1 (by assumption)⟩
    · obtain rfl : false = v := by rw [← HV.out, decide_eq_false hc]; simp
      obtain rfl : 0 = r := HR.out
      have e1 : (x1 != 1) = true := by simp [hc]
      have e2 : (x1 == 1) = false := by simp [hc]
      clear hall hcn
      go_enter Try.func17, Try.ntmps17
      go_wp2_with fail
      refine (spec_ala _ _ _ _ _ X _ _ _ HG.out _ hn hnc (ha.on hb0)).mono ?_
      rintro e w1 ⟨rfl, hb1⟩
      obtain ⟨qc1, qf1⟩ := bcell hb1
      have hz1 := hb1.size
      try simp only [World.size_alloc, World.size_setCell, World.size_drew] at hz1
      have hq1 : Below w.heap.size w w1 := below_call (by go_grown) hb1
      try have hl0_1 : w.heap.size < w1.heap.size := by omega
      try have hl1_1 : w.heap.size + 1 < w1.heap.size := by omega
      try have hl2_1 : w.heap.size + 2 < w1.heap.size := by omega
      try have hl3_1 : w.heap.size + 3 < w1.heap.size := by omega
      have hcx1 := hcx0.on hb1
      have l0 := hcx1.2 0 _ rfl; have l1 := hcx1.2 1 _ rfl; have l2 := hcx1.2 2 _ rfl; have l3 := hcx1.2 3 _ rfl; have l4 := hcx1.2 4 _ rfl; have l5 := hcx1.1
      clear qc1 qf1 hcx0 hb0
      go_wp2
      go_returns
      exact ⟨rfl, hq1⟩
set_option maxHeartbeats 2000000 in
theorem spec_missing (x0 x1 : Int) (A : Option Addr) (n c : Nat) (X : Nat → Nat → Int) (x3 x4 : Int) (v : Bool) (hv : (alaB x0 x1 n X x3 x4 && decide (x1 ≠ 3)) = v) (r : Int) (hr : onlyI v (max 0 (3 - (n : Int))) = r) (w : World) (hn : n ≤ 1048576) (hnc : n ≤ c) (ha : Arr w w.heap.size A n 2 (iv X)) :
    Calls Try.prog 19 #[.agg #[.int .i64 x0, .int .i64 x1, .slice A n c, .int .i64 x3, .int .i64 x4]] w fun e w' => e = .returned (.tuple #[.int .i64 r, .bool v]) ∧ Below w.heap.size w w' := by
  have HV := hide hv; have HR := hide hr
  clear hv hr
  have hcx0 : Cells (w.alloc (.cells #[.int .i64 x0, .int .i64 x1, .slice A n c, .int .i64 x3, .int .i64 x4] 24)) w.heap.size [.int .i64 x0, .int .i64 x1, .slice A n c, .int .i64 x3, .int .i64 x4] := Cells.new w _ _ _ rfl
  have hb0 : Below w.heap.size w (w.alloc (.cells #[.int .i64 x0, .int .i64 x1, .slice A n c, .int .i64 x3, .int .i64 x4] 24)) := below_al (Below.refl _ _)
  cases hg : alaB x0 x1 n X x3 x4
  · obtain rfl : false = v := by rw [← HV.out, hg]; rfl
    obtain rfl : 0 = r := HR.out
    have HG := hide hg; clear hg
    go_enter Try.func19, Try.ntmps19
    go_wp2_with fail
    refine (spec_ala _ _ _ _ _ X _ _ _ HG.out _ hn hnc (ha.on hb0)).mono ?_
    rintro e w1 ⟨rfl, hb1⟩
    obtain ⟨qc1, qf1⟩ := bcell hb1
    have hz1 := hb1.size
    try simp only [World.size_alloc, World.size_setCell, World.size_drew] at hz1
    have hq1 : Below w.heap.size w w1 := below_call (by go_grown) hb1
    try have hl0_1 : w.heap.size < w1.heap.size := by omega
    try have hl1_1 : w.heap.size + 1 < w1.heap.size := by omega
    try have hl2_1 : w.heap.size + 2 < w1.heap.size := by omega
    try have hl3_1 : w.heap.size + 3 < w1.heap.size := by omega
    have hcx1 := hcx0.on hb1
    have l0 := hcx1.2 0 _ rfl; have l1 := hcx1.2 1 _ rfl; have l2 := hcx1.2 2 _ rfl; have l3 := hcx1.2 3 _ rfl; have l4 := hcx1.2 4 _ rfl; have l5 := hcx1.1
    clear qc1 qf1 hcx0 hb0
    go_wp2
    go_returns
    exact ⟨rfl, hq1⟩
  · obtain ⟨⟨t0, t1⟩, ⟨s0, s1⟩, hcn, h8, hall⟩ := ala_of hg
    have HG := hide hg; clear hg
    by_cases hc : x1 ≠ 3
    · obtain rfl : true = v := by rw [← HV.out, HG.out, decide_eq_true hc]; rfl
      have hr : max 0 (3 - (n : Int)) = r := HR.out
      have e3 : (x1 == 3) = false := by simp [hc]
      have HRR := hide hr
      clear hall hcn hr
      go_enter Try.func19, Try.ntmps19
      go_wp2_with fail
      refine (spec_ala _ _ _ _ _ X _ _ _ HG.out _ hn hnc (ha.on hb0)).mono ?_
      rintro e w1 ⟨rfl, hb1⟩
      obtain ⟨qc1, qf1⟩ := bcell hb1
      have hz1 := hb1.size
      try simp only [World.size_alloc, World.size_setCell, World.size_drew] at hz1
      have hq1 : Below w.heap.size w w1 := below_call (by go_grown) hb1
      try have hl0_1 : w.heap.size < w1.heap.size := by omega
      try have hl1_1 : w.heap.size + 1 < w1.heap.size := by omega
      try have hl2_1 : w.heap.size + 2 < w1.heap.size := by omega
      try have hl3_1 : w.heap.size + 3 < w1.heap.size := by omega
      have hcx1 := hcx0.on hb1
      have l0 := hcx1.2 0 _ rfl; have l1 := hcx1.2 1 _ rfl; have l2 := hcx1.2 2 _ rfl; have l3 := hcx1.2 3 _ rfl; have l4 := hcx1.2 4 _ rfl; have l5 := hcx1.1
      clear qc1 qf1 hcx0 hb0
      go_wp2_with (go_at_call 40; refine (spec_most _ _ _ HRR.out _).mono ?_; rintro e w' ⟨rfl, rfl⟩)
      go_returns
      exact ⟨rfl, hq1⟩
    · obtain rfl : false = v := by rw [← HV.out, decide_eq_false hc]; simp
      obtain rfl : 0 = r := HR.out
      obtain rfl : x1 = 3 := by omega
      clear hall hcn
      go_enter Try.func19, Try.ntmps19
      go_wp2_with fail
      refine (spec_ala _ _ _ _ _ X _ _ _ HG.out _ hn hnc (ha.on hb0)).mono ?_
      rintro e w1 ⟨rfl, hb1⟩
      obtain ⟨qc1, qf1⟩ := bcell hb1
      have hz1 := hb1.size
      try simp only [World.size_alloc, World.size_setCell, World.size_drew] at hz1
      have hq1 : Below w.heap.size w w1 := below_call (by go_grown) hb1
      try have hl0_1 : w.heap.size < w1.heap.size := by omega
      try have hl1_1 : w.heap.size + 1 < w1.heap.size := by omega
      try have hl2_1 : w.heap.size + 2 < w1.heap.size := by omega
      try have hl3_1 : w.heap.size + 3 < w1.heap.size := by omega
      have hcx1 := hcx0.on hb1
      have l0 := hcx1.2 0 _ rfl; have l1 := hcx1.2 1 _ rfl; have l2 := hcx1.2 2 _ rfl; have l3 := hcx1.2 3 _ rfl; have l4 := hcx1.2 4 _ rfl; have l5 := hcx1.1
      clear qc1 qf1 hcx0 hb0
      go_wp2
      go_returns
      exact ⟨rfl, hq1⟩
set_option maxHeartbeats 2000000 in
theorem impl_forget (x0 x1 : Int) (A : Option Addr) (n c : Nat) (X : Nat → Nat → Int) (x3 x4 : Int) (v : Bool) (hv : (alaB x0 x1 n X x3 x4 && decide (x1 = 1)) = v) (r : Int) (hr : onlyI v (X 0 1 + 501 - x0) = r) (w : World) (hn : n ≤ 1048576) (hnc : n ≤ c) (ha : Arr w w.heap.size A n 2 (iv X)) :
    Calls Try.prog 18 #[.agg #[.int .i64 x0, .int .i64 x1, .slice A n c, .int .i64 x3, .int .i64 x4]] w fun e w' => e = .returned (.tuple #[.int .i64 r, .bool v]) ∧ Below w.heap.size w w' := by
  have HV := hide hv; have HR := hide hr
  clear hv hr
  have hcx0 : Cells (w.alloc (.cells #[.int .i64 x0, .int .i64 x1, .slice A n c, .int .i64 x3, .int .i64 x4] 24)) w.heap.size [.int .i64 x0, .int .i64 x1, .slice A n c, .int .i64 x3, .int .i64 x4] := Cells.new w _ _ _ rfl
  have hb0 : Below w.heap.size w (w.alloc (.cells #[.int .i64 x0, .int .i64 x1, .slice A n c, .int .i64 x3, .int .i64 x4] 24)) := below_al (Below.refl _ _)
  cases hg : alaB x0 x1 n X x3 x4
  · obtain rfl : false = v := by rw [← HV.out, hg]; rfl
    obtain rfl : 0 = r := HR.out
    have HG := hide hg; clear hg
    go_enter Try.func18, Try.ntmps18
    go_wp2_with fail
    refine (impl_isAla _ _ _ _ _ X _ _ _ HG.out _ hn hnc (ha.on hb0)).mono ?_
    rintro e w1 ⟨rfl, hb1⟩
    obtain ⟨qc1, qf1⟩ := bcell hb1
    have hz1 := hb1.size
    try simp only [World.size_alloc, World.size_setCell, World.size_drew] at hz1
    have hq1 : Below w.heap.size w w1 := below_call (by go_grown) hb1
    try have hl0_1 : w.heap.size < w1.heap.size := by omega
    try have hl1_1 : w.heap.size + 1 < w1.heap.size := by omega
    try have hl2_1 : w.heap.size + 2 < w1.heap.size := by omega
    try have hl3_1 : w.heap.size + 3 < w1.heap.size := by omega
    have hcx1 := hcx0.on hb1
    have l0 := hcx1.2 0 _ rfl; have l1 := hcx1.2 1 _ rfl; have l2 := hcx1.2 2 _ rfl; have l3 := hcx1.2 3 _ rfl; have l4 := hcx1.2 4 _ rfl; have l5 := hcx1.1
    clear qc1 qf1 hcx0 hb0
    go_wp2
    go_returns
    exact ⟨rfl, hq1⟩
  · obtain ⟨⟨t0, t1⟩, ⟨s0, s1⟩, hcn, h8, hall⟩ := ala_of hg
    have HG := hide hg; clear hg
    by_cases hc : x1 = 1
    · obtain rfl : true = v := by rw [← HV.out, HG.out, decide_eq_true hc]; rfl
      have hr : X 0 1 + 501 - x0 = r := HR.out
      subst hc
      have hn0 := cnt_one hcn
      obtain ⟨u1, u2, u3, u4, _⟩ := (hall 0 hn0).1
      have HRR := hide hr
      clear hall hcn hr
      go_enter Try.func18, Try.ntmps18
      go_wp2_with fail
      refine (impl_isAla _ _ _ _ _ X _ _ _ HG.out _ hn hnc (ha.on hb0)).mono ?_
      rintro e w1 ⟨rfl, hb1⟩
      obtain ⟨qc1, qf1⟩ := bcell hb1
      have hz1 := hb1.size
      try simp only [World.size_alloc, World.size_setCell, World.size_drew] at hz1
      have hq1 : Below w.heap.size w w1 := below_call (by go_grown) hb1
      try have hl0_1 : w.heap.size < w1.heap.size := by omega
      try have hl1_1 : w.heap.size + 1 < w1.heap.size := by omega
      try have hl2_1 : w.heap.size + 2 < w1.heap.size := by omega
      try have hl3_1 : w.heap.size + 3 < w1.heap.size := by omega
      have hcx1 := hcx0.on hb1
      have l0 := hcx1.2 0 _ rfl; have l1 := hcx1.2 1 _ rfl; have l2 := hcx1.2 2 _ rfl; have l3 := hcx1.2 3 _ rfl; have l4 := hcx1.2 4 _ rfl; have l5 := hcx1.1
      clear qc1 qf1 hcx0 hb0
      have HAA := hide ha
      obtain ⟨b, off, rfl, hbb, hcc⟩ := ha hn0
      have c1 := hcc 0 1 hn0 (by omega)
      simp only [Nat.add_zero, Nat.zero_mul, iv] at c1
      have d1 := (hq1.cell (p := ⟨b, _, none⟩) hbb).trans c1
      have hbl : b < w1.heap.size := by have := hq1.size; omega
      have hx := BW.cell (w := w1)
      clear hcc c1
      go_wp2
      refine wp_region_bw (by kernel_rfl) (by kernel_rfl) ?_
      repeat (go_big_quiet_step ((first | fail)))
      refine wpQuiet_end fun w1 hb1 => ?_
      clear hx
      go_wp2
      go_returns
      exact ⟨by rw [← HRR.out]; rfl, below_call hq1 (by assumption)⟩
    · obtain rfl : false = v := by rw [← HV.out, decide_eq_false hc]; simp
      obtain rfl : 0 = r := HR.out
      have e1 : (x1 != 1) = true := by simp [hc]
      have e2 : (x1 == 1) = false := by simp [hc]
      clear hall hcn
      go_enter Try.func18, Try.ntmps18
      go_wp2_with fail
      refine (impl_isAla _ _ _ _ _ X _ _ _ HG.out _ hn hnc (ha.on hb0)).mono ?_
      rintro e w1 ⟨rfl, hb1⟩
      obtain ⟨qc1, qf1⟩ := bcell hb1
      have hz1 := hb1.size
      try simp only [World.size_alloc, World.size_setCell, World.size_drew] at hz1
      have hq1 : Below w.heap.size w w1 := below_call (by go_grown) hb1
      try have hl0_1 : w.heap.size < w1.heap.size := by omega
      try have hl1_1 : w.heap.size + 1 < w1.heap.size := by omega
      try have hl2_1 : w.heap.size + 2 < w1.heap.size := by omega
      try have hl3_1 : w.heap.size + 3 < w1.heap.size := by omega
      have hcx1 := hcx0.on hb1
      have l0 := hcx1.2 0 _ rfl; have l1 := hcx1.2 1 _ rfl; have l2 := hcx1.2 2 _ rfl; have l3 := hcx1.2 3 _ rfl; have l4 := hcx1.2 4 _ rfl; have l5 := hcx1.1
      clear qc1 qf1 hcx0 hb0
      go_wp2
      go_returns
      exact ⟨rfl, hq1⟩
set_option maxHeartbeats 2000000 in
theorem impl_missing (x0 x1 : Int) (A : Option Addr) (n c : Nat) (X : Nat → Nat → Int) (x3 x4 : Int) (v : Bool) (hv : (alaB x0 x1 n X x3 x4 && decide (x1 ≠ 3)) = v) (r : Int) (hr : onlyI v (max 0 (3 - (n : Int))) = r) (w : World) (hn : n ≤ 1048576) (hnc : n ≤ c) (ha : Arr w w.heap.size A n 2 (iv X)) :
    Calls Try.prog 20 #[.agg #[.int .i64 x0, .int .i64 x1, .slice A n c, .int .i64 x3, .int .i64 x4]] w fun e w' => e = .returned (.tuple #[.int .i64 r, .bool v]) ∧ Below w.heap.size w w' := by
  have HV := hide hv; have HR := hide hr
  clear hv hr
  have hcx0 : Cells (w.alloc (.cells #[.int .i64 x0, .int .i64 x1, .slice A n c, .int .i64 x3, .int .i64 x4] 24)) w.heap.size [.int .i64 x0, .int .i64 x1, .slice A n c, .int .i64 x3, .int .i64 x4] := Cells.new w _ _ _ rfl
  have hb0 : Below w.heap.size w (w.alloc (.cells #[.int .i64 x0, .int .i64 x1, .slice A n c, .int .i64 x3, .int .i64 x4] 24)) := below_al (Below.refl _ _)
  cases hg : alaB x0 x1 n X x3 x4
  · obtain rfl : false = v := by rw [← HV.out, hg]; rfl
    obtain rfl : 0 = r := HR.out
    have HG := hide hg; clear hg
    go_enter Try.func20, Try.ntmps20
    go_wp2_with fail
    refine (impl_isAla _ _ _ _ _ X _ _ _ HG.out _ hn hnc (ha.on hb0)).mono ?_
    rintro e w1 ⟨rfl, hb1⟩
    obtain ⟨qc1, qf1⟩ := bcell hb1
    have hz1 := hb1.size
    try simp only [World.size_alloc, World.size_setCell, World.size_drew] at hz1
    have hq1 : Below w.heap.size w w1 := below_call (by go_grown) hb1
    try have hl0_1 : w.heap.size < w1.heap.size := by omega
    try have hl1_1 : w.heap.size + 1 < w1.heap.size := by omega
    try have hl2_1 : w.heap.size + 2 < w1.heap.size := by omega
    try have hl3_1 : w.heap.size + 3 < w1.heap.size := by omega
    have hcx1 := hcx0.on hb1
    have l0 := hcx1.2 0 _ rfl; have l1 := hcx1.2 1 _ rfl; have l2 := hcx1.2 2 _ rfl; have l3 := hcx1.2 3 _ rfl; have l4 := hcx1.2 4 _ rfl; have l5 := hcx1.1
    clear qc1 qf1 hcx0 hb0
    go_wp2
    go_returns
    exact ⟨rfl, hq1⟩
  · obtain ⟨⟨t0, t1⟩, ⟨s0, s1⟩, hcn, h8, hall⟩ := ala_of hg
    have HG := hide hg; clear hg
    by_cases hc : x1 ≠ 3
    · obtain rfl : true = v := by rw [← HV.out, HG.out, decide_eq_true hc]; rfl
      have hr : max 0 (3 - (n : Int)) = r := HR.out
      have e3 : (x1 == 3) = false := by simp [hc]
      have HRR := hide hr
      clear hall hcn hr
      by_cases h3 : (3 : Int) - n ≤ 0
      · obtain rfl : 0 = r := by rw [← HRR.out]; omega
        go_enter Try.func20, Try.ntmps20
        go_wp2_with fail
        refine (impl_isAla _ _ _ _ _ X _ _ _ HG.out _ hn hnc (ha.on hb0)).mono ?_
        rintro e w1 ⟨rfl, hb1⟩
        obtain ⟨qc1, qf1⟩ := bcell hb1
        have hz1 := hb1.size
        try simp only [World.size_alloc, World.size_setCell, World.size_drew] at hz1
        have hq1 : Below w.heap.size w w1 := below_call (by go_grown) hb1
        try have hl0_1 : w.heap.size < w1.heap.size := by omega
        try have hl1_1 : w.heap.size + 1 < w1.heap.size := by omega
        try have hl2_1 : w.heap.size + 2 < w1.heap.size := by omega
        try have hl3_1 : w.heap.size + 3 < w1.heap.size := by omega
        have hcx1 := hcx0.on hb1
        have l0 := hcx1.2 0 _ rfl; have l1 := hcx1.2 1 _ rfl; have l2 := hcx1.2 2 _ rfl; have l3 := hcx1.2 3 _ rfl; have l4 := hcx1.2 4 _ rfl; have l5 := hcx1.1
        clear qc1 qf1 hcx0 hb0
        go_wp2
        go_returns
        exact ⟨rfl, hq1⟩
      · obtain rfl : 3 - (n : Int) = r := by rw [← HRR.out]; omega
        go_enter Try.func20, Try.ntmps20
        go_wp2_with fail
        refine (impl_isAla _ _ _ _ _ X _ _ _ HG.out _ hn hnc (ha.on hb0)).mono ?_
        rintro e w1 ⟨rfl, hb1⟩
        obtain ⟨qc1, qf1⟩ := bcell hb1
        have hz1 := hb1.size
        try simp only [World.size_alloc, World.size_setCell, World.size_drew] at hz1
        have hq1 : Below w.heap.size w w1 := below_call (by go_grown) hb1
        try have hl0_1 : w.heap.size < w1.heap.size := by omega
        try have hl1_1 : w.heap.size + 1 < w1.heap.size := by omega
        try have hl2_1 : w.heap.size + 2 < w1.heap.size := by omega
        try have hl3_1 : w.heap.size + 3 < w1.heap.size := by omega
        have hcx1 := hcx0.on hb1
        have l0 := hcx1.2 0 _ rfl; have l1 := hcx1.2 1 _ rfl; have l2 := hcx1.2 2 _ rfl; have l3 := hcx1.2 3 _ rfl; have l4 := hcx1.2 4 _ rfl; have l5 := hcx1.1
        clear qc1 qf1 hcx0 hb0
        go_wp2
        go_returns
        exact ⟨rfl, hq1⟩
    · obtain rfl : false = v := by rw [← HV.out, decide_eq_false hc]; simp
      obtain rfl : 0 = r := HR.out
      obtain rfl : x1 = 3 := by omega
      clear hall hcn
      go_enter Try.func20, Try.ntmps20
      go_wp2_with fail
      refine (impl_isAla _ _ _ _ _ X _ _ _ HG.out _ hn hnc (ha.on hb0)).mono ?_
      rintro e w1 ⟨rfl, hb1⟩
      obtain ⟨qc1, qf1⟩ := bcell hb1
      have hz1 := hb1.size
      try simp only [World.size_alloc, World.size_setCell, World.size_drew] at hz1
      have hq1 : Below w.heap.size w w1 := below_call (by go_grown) hb1
      try have hl0_1 : w.heap.size < w1.heap.size := by omega
      try have hl1_1 : w.heap.size + 1 < w1.heap.size := by omega
      try have hl2_1 : w.heap.size + 2 < w1.heap.size := by omega
      try have hl3_1 : w.heap.size + 3 < w1.heap.size := by omega
      have hcx1 := hcx0.on hb1
      have l0 := hcx1.2 0 _ rfl; have l1 := hcx1.2 1 _ rfl; have l2 := hcx1.2 2 _ rfl; have l3 := hcx1.2 3 _ rfl; have l4 := hcx1.2 4 _ rfl; have l5 := hcx1.1
      clear qc1 qf1 hcx0 hb0
      go_wp2
      go_returns
      exact ⟨rfl, hq1⟩
end Go.Proofs.Ytooiefpinfgclaa
