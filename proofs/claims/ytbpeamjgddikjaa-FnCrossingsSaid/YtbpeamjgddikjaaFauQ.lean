/- Chapter 18: what is asked of one fault: made by fauqgen.py. -/
import Derived.Test.YtbpeamjgddikjaaFauI
namespace Go.Proofs.Ytbpeamjgddikjaa
open Go.RowKit
set_option linter.unusedVariables false
set_option linter.unusedSimpArgs false

theorem fau_of {x0 : Int} {s : ByteArray} {n : Nat} {X : Nat → Nat → Int} {x3 : Int} (h : fauB x0 s n X x3 = true) : (∀ i, i + 1 < n → segX X i = true) ∧ 2 ≤ n ∧ n ≤ 8 ∧ 0 ≤ x3 ∧ x3 ≤ 1000 := by
  unfold fauB at h
  simp only [Bool.and_eq_true] at h
  have h1 := of_decide_eq_true h.1
  have h2 := inB_of h.2.1.2
  have h3 := inB_of h.2.2
  exact ⟨fun i hi => h1 i (by omega), by omega, by omega, h3.1, h3.2⟩
def yrV (m x3 : Int) : Int := if m = 0 then 0 else Int.tdiv (10000 * m + x3 - 1) x3
def yrOk (b : Bool) (m x3 : Int) : Bool := (b && inB m 0 100) && (decide (x3 ≠ 0) || decide (m = 0))
theorem yr_zero {x3 : Int} (h0 : 0 < x3) : Int.tdiv (10000 * 0 + x3 - 1) x3 = 0 := by
  rw [show (10000 : Int) * 0 + x3 - 1 = x3 - 1 by omega]
  exact Int.tdiv_eq_zero_of_lt (by omega) (by omega)

set_option maxHeartbeats 2000000 in
theorem spec_years (x0 : Int) (s : ByteArray) (A : Option Addr) (n c : Nat) (X : Nat → Nat → Int) (x3 m : Int) (v : Bool) (hv : yrOk (fauB x0 s n X x3) m x3 = v) (r : Int) (hr : onlyI v (yrV m x3) = r) (w : World) (hs : s.size ≤ 1048576) (hn : n ≤ 1048576) (ha : Arr w w.heap.size A n 2 (iv X)) :
    Calls Try.prog 19 #[.agg #[.int .i64 x0, .string s, .slice A n c, .int .i64 x3], .int .i64 m] w fun e w' => e = .returned (.tuple #[.int .i64 r, .bool v]) ∧ Below w.heap.size w w' := by
  have HV := hide hv; have HR := hide hr
  clear hv hr
  have hcx0 : Cells (w.alloc (.cells #[.int .i64 x0, .string s, .slice A n c, .int .i64 x3] 36)) w.heap.size [.int .i64 x0, .string s, .slice A n c, .int .i64 x3] := Cells.new w _ _ _ rfl
  have hb0 : Below w.heap.size w (w.alloc (.cells #[.int .i64 x0, .string s, .slice A n c, .int .i64 x3] 36)) := below_al (Below.refl _ _)
  cases hg : fauB x0 s n X x3
  · obtain rfl : false = v := by rw [← HV.out, hg]; rfl
    obtain rfl : 0 = r := HR.out
    have HG := hide hg; clear hg
    go_enter Try.func19, Try.ntmps19
    go_wp2_with fail
    refine (spec_fau _ _ _ _ _ X _ _ HG.out _ hs hn (ha.on hb0)).mono ?_
    rintro e w1 ⟨rfl, hb1⟩
    obtain ⟨qc1, qf1⟩ := bcell hb1
    have hz1 := hb1.size
    try simp only [World.size_alloc, World.size_setCell, World.size_drew] at hz1
    have hq1 : Below w.heap.size w w1 := below_call (by go_grown) hb1
    try have hl0_1 : w.heap.size < w1.heap.size := by omega
    try have hl1_1 : w.heap.size + 1 < w1.heap.size := by omega
    try have hl2_1 : w.heap.size + 2 < w1.heap.size := by omega
    try have hl3_1 : w.heap.size + 3 < w1.heap.size := by omega
    have hcx1 := hcx0.on hb1
    have l0 := hcx1.2 0 _ rfl; have l1 := hcx1.2 1 _ rfl; have l2 := hcx1.2 2 _ rfl; have l3 := hcx1.2 3 _ rfl; have l5 := hcx1.1
    clear qc1 qf1 hcx0 hb0
    go_wp2_with (go_at_call 53; refine (spec_in _ _ _ _ (by assumption) _).mono ?_; rintro e w' ⟨rfl, rfl⟩)
    go_returns
    exact ⟨rfl, hq1⟩
  · obtain ⟨_, _, _, z0, z1⟩ := fau_of hg
    have HG := hide hg; clear hg
    cases hm : inB m 0 100
    · obtain rfl : false = v := by rw [← HV.out]; unfold yrOk; rw [HG.out, hm]; rfl
      obtain rfl : 0 = r := HR.out
      go_enter Try.func19, Try.ntmps19
      go_wp2_with fail
      refine (spec_fau _ _ _ _ _ X _ _ HG.out _ hs hn (ha.on hb0)).mono ?_
      rintro e w1 ⟨rfl, hb1⟩
      obtain ⟨qc1, qf1⟩ := bcell hb1
      have hz1 := hb1.size
      try simp only [World.size_alloc, World.size_setCell, World.size_drew] at hz1
      have hq1 : Below w.heap.size w w1 := below_call (by go_grown) hb1
      try have hl0_1 : w.heap.size < w1.heap.size := by omega
      try have hl1_1 : w.heap.size + 1 < w1.heap.size := by omega
      try have hl2_1 : w.heap.size + 2 < w1.heap.size := by omega
      try have hl3_1 : w.heap.size + 3 < w1.heap.size := by omega
      have hcx1 := hcx0.on hb1
      have l0 := hcx1.2 0 _ rfl; have l1 := hcx1.2 1 _ rfl; have l2 := hcx1.2 2 _ rfl; have l3 := hcx1.2 3 _ rfl; have l5 := hcx1.1
      clear qc1 qf1 hcx0 hb0
      go_wp2_with (go_at_call 53; refine (spec_in _ _ _ _ (by assumption) _).mono ?_; rintro e w' ⟨rfl, rfl⟩)
      go_returns
      exact ⟨rfl, hq1⟩
    · obtain ⟨m0, m1⟩ := inB_of hm
      have HM := hide hm
      by_cases h3 : x3 = 0
      · subst h3
        by_cases hz : m = 0
        · subst hz
          obtain rfl : true = v := by rw [← HV.out]; unfold yrOk; rw [HG.out, HM.out]; rfl
          obtain rfl : 0 = r := HR.out
          go_enter Try.func19, Try.ntmps19
          go_wp2_with fail
          refine (spec_fau _ _ _ _ _ X _ _ HG.out _ hs hn (ha.on hb0)).mono ?_
          rintro e w1 ⟨rfl, hb1⟩
          obtain ⟨qc1, qf1⟩ := bcell hb1
          have hz1 := hb1.size
          try simp only [World.size_alloc, World.size_setCell, World.size_drew] at hz1
          have hq1 : Below w.heap.size w w1 := below_call (by go_grown) hb1
          try have hl0_1 : w.heap.size < w1.heap.size := by omega
          try have hl1_1 : w.heap.size + 1 < w1.heap.size := by omega
          try have hl2_1 : w.heap.size + 2 < w1.heap.size := by omega
          try have hl3_1 : w.heap.size + 3 < w1.heap.size := by omega
          have hcx1 := hcx0.on hb1
          have l0 := hcx1.2 0 _ rfl; have l1 := hcx1.2 1 _ rfl; have l2 := hcx1.2 2 _ rfl; have l3 := hcx1.2 3 _ rfl; have l5 := hcx1.1
          clear qc1 qf1 hcx0 hb0
          go_wp2_with (go_at_call 53; refine (spec_in _ _ _ _ (by assumption) _).mono ?_; rintro e w' ⟨rfl, rfl⟩)
          go_returns
          exact ⟨rfl, hq1⟩
        · obtain rfl : false = v := by rw [← HV.out]; unfold yrOk; rw [HG.out, HM.out]; simp [hz]
          obtain rfl : 0 = r := HR.out
          have e1 : (m == 0) = false := by simp [hz]
          have e2 : decide (0 < m) = true := by simp; omega
          go_enter Try.func19, Try.ntmps19
          go_wp2_with fail
          refine (spec_fau _ _ _ _ _ X _ _ HG.out _ hs hn (ha.on hb0)).mono ?_
          rintro e w1 ⟨rfl, hb1⟩
          obtain ⟨qc1, qf1⟩ := bcell hb1
          have hz1 := hb1.size
          try simp only [World.size_alloc, World.size_setCell, World.size_drew] at hz1
          have hq1 : Below w.heap.size w w1 := below_call (by go_grown) hb1
          try have hl0_1 : w.heap.size < w1.heap.size := by omega
          try have hl1_1 : w.heap.size + 1 < w1.heap.size := by omega
          try have hl2_1 : w.heap.size + 2 < w1.heap.size := by omega
          try have hl3_1 : w.heap.size + 3 < w1.heap.size := by omega
          have hcx1 := hcx0.on hb1
          have l0 := hcx1.2 0 _ rfl; have l1 := hcx1.2 1 _ rfl; have l2 := hcx1.2 2 _ rfl; have l3 := hcx1.2 3 _ rfl; have l5 := hcx1.1
          clear qc1 qf1 hcx0 hb0
          go_wp2_with (go_at_call 53; refine (spec_in _ _ _ _ (by assumption) _).mono ?_; rintro e w' ⟨rfl, rfl⟩)
          go_returns
          exact ⟨rfl, hq1⟩
      · have e3 : (x3 == 0) = false := by simp [h3]
        obtain rfl : true = v := by rw [← HV.out]; unfold yrOk; rw [HG.out, HM.out]; simp [h3]
        by_cases hz : m = 0
        · subst hz
          obtain rfl : 0 = r := HR.out
          have hyz := yr_zero (x3 := x3) (by omega)
          have hyw : Int.tdiv (x3 - 1) x3 = 0 := Int.tdiv_eq_zero_of_lt (by omega) (by omega)
          go_enter Try.func19, Try.ntmps19
          go_wp2_with fail
          refine (spec_fau _ _ _ _ _ X _ _ HG.out _ hs hn (ha.on hb0)).mono ?_
          rintro e w1 ⟨rfl, hb1⟩
          obtain ⟨qc1, qf1⟩ := bcell hb1
          have hz1 := hb1.size
          try simp only [World.size_alloc, World.size_setCell, World.size_drew] at hz1
          have hq1 : Below w.heap.size w w1 := below_call (by go_grown) hb1
          try have hl0_1 : w.heap.size < w1.heap.size := by omega
          try have hl1_1 : w.heap.size + 1 < w1.heap.size := by omega
          try have hl2_1 : w.heap.size + 2 < w1.heap.size := by omega
          try have hl3_1 : w.heap.size + 3 < w1.heap.size := by omega
          have hcx1 := hcx0.on hb1
          have l0 := hcx1.2 0 _ rfl; have l1 := hcx1.2 1 _ rfl; have l2 := hcx1.2 2 _ rfl; have l3 := hcx1.2 3 _ rfl; have l5 := hcx1.1
          clear qc1 qf1 hcx0 hb0
          go_wp2_with (go_at_call 53; refine (spec_in _ _ _ _ (by assumption) _).mono ?_; rintro e w' ⟨rfl, rfl⟩)
          go_returns
          exact ⟨by first | rfl | (simp [hyz, hyw]; done) | (simp [hyz, hyw]; rfl), hq1⟩
        · have hr : Int.tdiv (10000 * m + x3 - 1) x3 = r := by rw [← HR.out]; simp [onlyI, yrV, hz]
          have e1 : (m == 0) = false := by simp [hz]
          have hcm : m * 10000 = 10000 * m := by omega
          have b0 : 0 ≤ Int.tdiv (10000 * m + x3 - 1) x3 := Int.tdiv_nonneg (by omega) (by omega)
          have b1 : Int.tdiv (10000 * m + x3 - 1) x3 ≤ 10000 * m + x3 - 1 := Int.tdiv_le_self _ (by omega)
          have HRR := hide hr
          clear hr
          go_enter Try.func19, Try.ntmps19
          go_wp2_with fail
          refine (spec_fau _ _ _ _ _ X _ _ HG.out _ hs hn (ha.on hb0)).mono ?_
          rintro e w1 ⟨rfl, hb1⟩
          obtain ⟨qc1, qf1⟩ := bcell hb1
          have hz1 := hb1.size
          try simp only [World.size_alloc, World.size_setCell, World.size_drew] at hz1
          have hq1 : Below w.heap.size w w1 := below_call (by go_grown) hb1
          try have hl0_1 : w.heap.size < w1.heap.size := by omega
          try have hl1_1 : w.heap.size + 1 < w1.heap.size := by omega
          try have hl2_1 : w.heap.size + 2 < w1.heap.size := by omega
          try have hl3_1 : w.heap.size + 3 < w1.heap.size := by omega
          have hcx1 := hcx0.on hb1
          have l0 := hcx1.2 0 _ rfl; have l1 := hcx1.2 1 _ rfl; have l2 := hcx1.2 2 _ rfl; have l3 := hcx1.2 3 _ rfl; have l5 := hcx1.1
          clear qc1 qf1 hcx0 hb0
          go_wp2_with (go_at_call 53; refine (spec_in _ _ _ _ (by assumption) _).mono ?_; rintro e w' ⟨rfl, rfl⟩)
          go_returns
          exact ⟨by rw [← HRR.out]; first | rfl | (simp [hcm]; done) | (simp [hcm]; rfl), hq1⟩
set_option maxHeartbeats 2000000 in
theorem impl_years (x0 : Int) (s : ByteArray) (A : Option Addr) (n c : Nat) (X : Nat → Nat → Int) (x3 m : Int) (v : Bool) (hv : yrOk (fauB x0 s n X x3) m x3 = v) (r : Int) (hr : onlyI v (yrV m x3) = r) (w : World) (hs : s.size ≤ 1048576) (hn : n ≤ 1048576) (ha : Arr w w.heap.size A n 2 (iv X)) :
    Calls Try.prog 20 #[.agg #[.int .i64 x0, .string s, .slice A n c, .int .i64 x3], .int .i64 m] w fun e w' => e = .returned (.tuple #[.int .i64 r, .bool v]) ∧ Below w.heap.size w w' := by
  have HV := hide hv; have HR := hide hr
  clear hv hr
  have hcx0 : Cells (w.alloc (.cells #[.int .i64 x0, .string s, .slice A n c, .int .i64 x3] 36)) w.heap.size [.int .i64 x0, .string s, .slice A n c, .int .i64 x3] := Cells.new w _ _ _ rfl
  have hb0 : Below w.heap.size w (w.alloc (.cells #[.int .i64 x0, .string s, .slice A n c, .int .i64 x3] 36)) := below_al (Below.refl _ _)
  cases hg : fauB x0 s n X x3
  · obtain rfl : false = v := by rw [← HV.out, hg]; rfl
    obtain rfl : 0 = r := HR.out
    have HG := hide hg; clear hg
    go_enter Try.func20, Try.ntmps20
    go_wp2_with fail
    refine (impl_isFau _ _ _ _ _ X _ _ HG.out _ hs hn (ha.on hb0)).mono ?_
    rintro e w1 ⟨rfl, hb1⟩
    obtain ⟨qc1, qf1⟩ := bcell hb1
    have hz1 := hb1.size
    try simp only [World.size_alloc, World.size_setCell, World.size_drew] at hz1
    have hq1 : Below w.heap.size w w1 := below_call (by go_grown) hb1
    try have hl0_1 : w.heap.size < w1.heap.size := by omega
    try have hl1_1 : w.heap.size + 1 < w1.heap.size := by omega
    try have hl2_1 : w.heap.size + 2 < w1.heap.size := by omega
    try have hl3_1 : w.heap.size + 3 < w1.heap.size := by omega
    have hcx1 := hcx0.on hb1
    have l0 := hcx1.2 0 _ rfl; have l1 := hcx1.2 1 _ rfl; have l2 := hcx1.2 2 _ rfl; have l3 := hcx1.2 3 _ rfl; have l5 := hcx1.1
    clear qc1 qf1 hcx0 hb0
    go_wp2_with (go_at_call 48; refine (impl_in _ _ _ _ (by assumption) _).mono ?_; rintro e w' ⟨rfl, rfl⟩)
    go_returns
    exact ⟨rfl, hq1⟩
  · obtain ⟨_, _, _, z0, z1⟩ := fau_of hg
    have HG := hide hg; clear hg
    cases hm : inB m 0 100
    · obtain rfl : false = v := by rw [← HV.out]; unfold yrOk; rw [HG.out, hm]; rfl
      obtain rfl : 0 = r := HR.out
      go_enter Try.func20, Try.ntmps20
      go_wp2_with fail
      refine (impl_isFau _ _ _ _ _ X _ _ HG.out _ hs hn (ha.on hb0)).mono ?_
      rintro e w1 ⟨rfl, hb1⟩
      obtain ⟨qc1, qf1⟩ := bcell hb1
      have hz1 := hb1.size
      try simp only [World.size_alloc, World.size_setCell, World.size_drew] at hz1
      have hq1 : Below w.heap.size w w1 := below_call (by go_grown) hb1
      try have hl0_1 : w.heap.size < w1.heap.size := by omega
      try have hl1_1 : w.heap.size + 1 < w1.heap.size := by omega
      try have hl2_1 : w.heap.size + 2 < w1.heap.size := by omega
      try have hl3_1 : w.heap.size + 3 < w1.heap.size := by omega
      have hcx1 := hcx0.on hb1
      have l0 := hcx1.2 0 _ rfl; have l1 := hcx1.2 1 _ rfl; have l2 := hcx1.2 2 _ rfl; have l3 := hcx1.2 3 _ rfl; have l5 := hcx1.1
      clear qc1 qf1 hcx0 hb0
      go_wp2_with (go_at_call 48; refine (impl_in _ _ _ _ (by assumption) _).mono ?_; rintro e w' ⟨rfl, rfl⟩)
      go_returns
      exact ⟨rfl, hq1⟩
    · obtain ⟨m0, m1⟩ := inB_of hm
      have HM := hide hm
      by_cases h3 : x3 = 0
      · subst h3
        by_cases hz : m = 0
        · subst hz
          obtain rfl : true = v := by rw [← HV.out]; unfold yrOk; rw [HG.out, HM.out]; rfl
          obtain rfl : 0 = r := HR.out
          go_enter Try.func20, Try.ntmps20
          go_wp2_with fail
          refine (impl_isFau _ _ _ _ _ X _ _ HG.out _ hs hn (ha.on hb0)).mono ?_
          rintro e w1 ⟨rfl, hb1⟩
          obtain ⟨qc1, qf1⟩ := bcell hb1
          have hz1 := hb1.size
          try simp only [World.size_alloc, World.size_setCell, World.size_drew] at hz1
          have hq1 : Below w.heap.size w w1 := below_call (by go_grown) hb1
          try have hl0_1 : w.heap.size < w1.heap.size := by omega
          try have hl1_1 : w.heap.size + 1 < w1.heap.size := by omega
          try have hl2_1 : w.heap.size + 2 < w1.heap.size := by omega
          try have hl3_1 : w.heap.size + 3 < w1.heap.size := by omega
          have hcx1 := hcx0.on hb1
          have l0 := hcx1.2 0 _ rfl; have l1 := hcx1.2 1 _ rfl; have l2 := hcx1.2 2 _ rfl; have l3 := hcx1.2 3 _ rfl; have l5 := hcx1.1
          clear qc1 qf1 hcx0 hb0
          go_wp2_with (go_at_call 48; refine (impl_in _ _ _ _ (by assumption) _).mono ?_; rintro e w' ⟨rfl, rfl⟩)
          go_returns
          exact ⟨rfl, hq1⟩
        · obtain rfl : false = v := by rw [← HV.out]; unfold yrOk; rw [HG.out, HM.out]; simp [hz]
          obtain rfl : 0 = r := HR.out
          have e1 : (m == 0) = false := by simp [hz]
          have e2 : decide (0 < m) = true := by simp; omega
          go_enter Try.func20, Try.ntmps20
          go_wp2_with fail
          refine (impl_isFau _ _ _ _ _ X _ _ HG.out _ hs hn (ha.on hb0)).mono ?_
          rintro e w1 ⟨rfl, hb1⟩
          obtain ⟨qc1, qf1⟩ := bcell hb1
          have hz1 := hb1.size
          try simp only [World.size_alloc, World.size_setCell, World.size_drew] at hz1
          have hq1 : Below w.heap.size w w1 := below_call (by go_grown) hb1
          try have hl0_1 : w.heap.size < w1.heap.size := by omega
          try have hl1_1 : w.heap.size + 1 < w1.heap.size := by omega
          try have hl2_1 : w.heap.size + 2 < w1.heap.size := by omega
          try have hl3_1 : w.heap.size + 3 < w1.heap.size := by omega
          have hcx1 := hcx0.on hb1
          have l0 := hcx1.2 0 _ rfl; have l1 := hcx1.2 1 _ rfl; have l2 := hcx1.2 2 _ rfl; have l3 := hcx1.2 3 _ rfl; have l5 := hcx1.1
          clear qc1 qf1 hcx0 hb0
          go_wp2_with (go_at_call 48; refine (impl_in _ _ _ _ (by assumption) _).mono ?_; rintro e w' ⟨rfl, rfl⟩)
          go_returns
          exact ⟨rfl, hq1⟩
      · have e3 : (x3 == 0) = false := by simp [h3]
        obtain rfl : true = v := by rw [← HV.out]; unfold yrOk; rw [HG.out, HM.out]; simp [h3]
        by_cases hz : m = 0
        · subst hz
          obtain rfl : 0 = r := HR.out
          have hyz := yr_zero (x3 := x3) (by omega)
          have hyw : Int.tdiv (x3 - 1) x3 = 0 := Int.tdiv_eq_zero_of_lt (by omega) (by omega)
          go_enter Try.func20, Try.ntmps20
          go_wp2_with fail
          refine (impl_isFau _ _ _ _ _ X _ _ HG.out _ hs hn (ha.on hb0)).mono ?_
          rintro e w1 ⟨rfl, hb1⟩
          obtain ⟨qc1, qf1⟩ := bcell hb1
          have hz1 := hb1.size
          try simp only [World.size_alloc, World.size_setCell, World.size_drew] at hz1
          have hq1 : Below w.heap.size w w1 := below_call (by go_grown) hb1
          try have hl0_1 : w.heap.size < w1.heap.size := by omega
          try have hl1_1 : w.heap.size + 1 < w1.heap.size := by omega
          try have hl2_1 : w.heap.size + 2 < w1.heap.size := by omega
          try have hl3_1 : w.heap.size + 3 < w1.heap.size := by omega
          have hcx1 := hcx0.on hb1
          have l0 := hcx1.2 0 _ rfl; have l1 := hcx1.2 1 _ rfl; have l2 := hcx1.2 2 _ rfl; have l3 := hcx1.2 3 _ rfl; have l5 := hcx1.1
          clear qc1 qf1 hcx0 hb0
          go_wp2_with (go_at_call 48; refine (impl_in _ _ _ _ (by assumption) _).mono ?_; rintro e w' ⟨rfl, rfl⟩)
          go_returns
          exact ⟨by first | rfl | (simp [hyz, hyw]; done) | (simp [hyz, hyw]; rfl), hq1⟩
        · have hr : Int.tdiv (10000 * m + x3 - 1) x3 = r := by rw [← HR.out]; simp [onlyI, yrV, hz]
          have e1 : (m == 0) = false := by simp [hz]
          have hcm : m * 10000 = 10000 * m := by omega
          have b0 : 0 ≤ Int.tdiv (10000 * m + x3 - 1) x3 := Int.tdiv_nonneg (by omega) (by omega)
          have b1 : Int.tdiv (10000 * m + x3 - 1) x3 ≤ 10000 * m + x3 - 1 := Int.tdiv_le_self _ (by omega)
          have HRR := hide hr
          clear hr
          go_enter Try.func20, Try.ntmps20
          go_wp2_with fail
          refine (impl_isFau _ _ _ _ _ X _ _ HG.out _ hs hn (ha.on hb0)).mono ?_
          rintro e w1 ⟨rfl, hb1⟩
          obtain ⟨qc1, qf1⟩ := bcell hb1
          have hz1 := hb1.size
          try simp only [World.size_alloc, World.size_setCell, World.size_drew] at hz1
          have hq1 : Below w.heap.size w w1 := below_call (by go_grown) hb1
          try have hl0_1 : w.heap.size < w1.heap.size := by omega
          try have hl1_1 : w.heap.size + 1 < w1.heap.size := by omega
          try have hl2_1 : w.heap.size + 2 < w1.heap.size := by omega
          try have hl3_1 : w.heap.size + 3 < w1.heap.size := by omega
          have hcx1 := hcx0.on hb1
          have l0 := hcx1.2 0 _ rfl; have l1 := hcx1.2 1 _ rfl; have l2 := hcx1.2 2 _ rfl; have l3 := hcx1.2 3 _ rfl; have l5 := hcx1.1
          clear qc1 qf1 hcx0 hb0
          go_wp2_with (go_at_call 48; refine (impl_in _ _ _ _ (by assumption) _).mono ?_; rintro e w' ⟨rfl, rfl⟩)
          go_returns
          exact ⟨by rw [← HRR.out]; first | rfl | (simp [hcm]; done) | (simp [hcm]; rfl), hq1⟩
/-! the greatest number whose square is at most n -/
def rtN (n : Nat) : Nat → Nat
  | 0 => 0
  | k + 1 => if (k + 1) * (k + 1) ≤ n then k + 1 else rtN n k
def rt (n : Nat) : Nat := rtN n n
theorem rtN_eq {n r : Nat} (h0 : r * r ≤ n) (h1 : n < (r + 1) * (r + 1)) : ∀ k, r ≤ k → rtN n k = r
  | 0, h => by have : r = 0 := by omega
               subst this; rfl
  | k + 1, h => by
    rw [rtN]
    by_cases e : r = k + 1
    · subst e; rw [if_pos h0]
    · have hk : (r + 1) * (r + 1) ≤ (k + 1) * (k + 1) := Nat.mul_le_mul (by omega) (by omega)
      rw [if_neg (by omega)]
      exact rtN_eq h0 h1 k (by omega)
theorem rt_eq {n r : Nat} (h0 : r * r ≤ n) (h1 : n < (r + 1) * (r + 1)) : rt n = r := by
  refine rtN_eq h0 h1 n ?_
  rcases r with _ | r
  · omega
  · have : (r + 1) * 1 ≤ (r + 1) * (r + 1) := Nat.mul_le_mul (Nat.le_refl _) (by omega)
    omega
theorem rt_le {n r k : Nat} (h0 : rt n = r) (hk : n < (k + 1) * (k + 1)) : r ≤ k := by
  have key : ∀ m, rtN n m ≤ k := by
    intro m
    induction m with
    | zero => exact Nat.zero_le _
    | succ m ih =>
      rw [rtN]
      split
      · next h =>
        apply Classical.byContradiction
        intro H
        have : (k + 1) * (k + 1) ≤ (m + 1) * (m + 1) := Nat.mul_le_mul (by omega) (by omega)
        omega
      · exact ih
  rw [← h0]; exact key n
theorem sq_cast (k : Nat) : ((k : Int) + 1) * ((k : Int) + 1) = (((k + 1) * (k + 1) : Nat) : Int) := by push_cast; rfl
theorem sq_bd {k : Nat} (h : k ≤ 2000) : (k + 1) * (k + 1) ≤ 4004001 := by
  have : (k + 1) * (k + 1) ≤ 2001 * 2001 := Nat.mul_le_mul (by omega) (by omega)
  omega
theorem sq_big {k n : Nat} (h : k * k ≤ n) (hn : n ≤ 2000000) : k ≤ 1414 := by
  apply Classical.byContradiction
  intro H
  have : 1415 * 1415 ≤ k * k := Nat.mul_le_mul (by omega) (by omega)
  omega
set_option maxHeartbeats 1000000 in
theorem spec_root (n r : Nat) (hr : rt n = r) (hn : n ≤ 2000000) (w : World) :
    Calls Try.prog 54 #[.int .i64 n] w fun e w' => e = .returned (.int .i64 r) ∧ w = w' := by
  have HR := hide hr
  clear hr
  go_enter Try.func54, Try.ntmps54
  go_wp2
  go_loop [3] (fun i => ∃ k : Nat, i = .int .i64 k ∧ k * k ≤ n) (fun i => n + 1 - (intOf i).toNat * (intOf i).toNat)
  case atStart => exact ⟨0, rfl, by omega⟩
  case round =>
    obtain ⟨k, rfl, hkk⟩ := hrel
    have hk := sq_big hkk hn
    have hs := sq_bd (k := k) (by omega)
    have hc := sq_cast k
    have hc0 : ((k : Int) + 1) * ((k : Int) + 1) ≤ 4004001 := by rw [hc]; omega
    have hc1 : 0 ≤ ((k : Int) + 1) * ((k : Int) + 1) := by rw [hc]; omega
    by_cases hle : (k + 1) * (k + 1) ≤ n
    · have hd : ((k : Int) + 1) * ((k : Int) + 1) ≤ (n : Int) := by rw [hc]; omega
      clear hc hkk
      go_wp2
      go_round
      case rel => exact ⟨k + 1, by go_num, hle⟩
      case measure =>
        have e1 : (intOf (.int .i64 ((k : Int) + 1))).toNat = k + 1 := by simp [intOf] <;> omega
        have e2 : (intOf (.int .i64 (k : Int))).toNat = k := by simp [intOf]
        have e3 : (k + 1) * (k + 1) = k * k + 2 * k + 1 := by rw [Nat.add_mul, Nat.mul_add]; omega
        simp only [e1, e2]
        omega
    · have hd : ¬ ((k : Int) + 1) * ((k : Int) + 1) ≤ (n : Int) := by rw [hc]; omega
      have hre := rt_eq hkk (by omega)
      rw [HR.out] at hre
      subst hre
      clear hc hkk
      go_wp2
      go_ret
      exact ⟨rfl, rfl⟩
theorem tdiv_nat (a b : Nat) : Int.tdiv (a : Int) (b : Int) = ((a / b : Nat) : Int) := rfl
set_option maxHeartbeats 1000000 in
theorem impl_root (n r : Nat) (hr : rt n = r) (hn : n ≤ 2000000) (w : World) :
    Calls Try.prog 56 #[.int .i64 n] w fun e w' => ∃ b : Bool, e = .returned (.tuple #[.int .i64 r, .bool b]) ∧ w = w' := by
  have HR := hide hr
  clear hr
  go_enter Try.func56, Try.ntmps56
  go_wp2
  go_loop [4, 5] (fun lo hi => ∃ a b : Nat, lo = .int .i64 a ∧ hi = .int .i64 b ∧ a < b ∧ b ≤ n + 1 ∧ a * a ≤ n ∧ n < b * b) (fun lo hi => (intOf hi).toNat - (intOf lo).toNat)
  case atStart => exact ⟨0, n + 1, rfl, by go_num, by omega, Nat.le_refl _, by omega, by have : (n + 1) * 1 ≤ (n + 1) * (n + 1) := Nat.mul_le_mul (Nat.le_refl _) (by omega); omega⟩
  case round =>
    obtain ⟨a, b, rfl, rfl, hab, hbn, haa, hbb⟩ := hrel
    by_cases hgap : a + 1 < b
    · obtain ⟨m, hm⟩ : ∃ m, (a + b) / 2 = m := ⟨_, rfl⟩
      have hm0 : a < m := by omega
      have hm1 : m < b := by omega
      have hmt : Int.tdiv ((a : Int) + (b : Int)) 2 = (m : Int) := by
        have := tdiv_nat (a + b) 2
        push_cast at this
        rw [this, ← hm]; push_cast; rfl
      have hnt : Int.tdiv (n : Int) (m : Int) = ((n / m : Nat) : Int) := tdiv_nat n m
      have hdn : n / m ≤ n := Nat.div_le_self _ _
      have hdiv : m ≤ n / m ↔ m * m ≤ n := Nat.le_div_iff_mul_le (by omega)
      obtain ⟨q, hq⟩ : ∃ q, n / m = q := ⟨_, rfl⟩
      rw [hq] at hdiv hnt hdn
      clear hq
      by_cases hle : m ≤ q
      · have hmm : m * m ≤ n := hdiv.1 hle
        clear hm hdiv
        go_wp2
        go_round
        case rel => exact ⟨m, b, rfl, rfl, hm1, hbn, hmm, hbb⟩
        case measure => simp [intOf]; omega
      · have hmm : n < m * m := by
          apply Classical.byContradiction
          intro H
          exact hle (hdiv.2 (by omega))
        clear hm hdiv
        go_wp2
        go_round
        case rel => exact ⟨a, m, rfl, rfl, hm0, by omega, haa, hmm⟩
        case measure => simp [intOf]; omega
    · obtain rfl : b = a + 1 := by omega
      have hre := rt_eq haa hbb
      rw [HR.out] at hre
      subst hre
      have hb1 := sq_big haa hn
      have hsq : (r : Int) * (r : Int) = ((r * r : Nat) : Int) := by push_cast; rfl
      have hs0 : (r : Int) * (r : Int) ≤ 2000000 := by rw [hsq]; omega
      have hs1 : 0 ≤ (r : Int) * (r : Int) := by rw [hsq]; omega
      clear hsq haa hbb
      go_wp2
      go_returns
      first | exact ⟨_, rfl, rfl⟩ | exact ⟨_, rfl⟩ | exact ⟨rfl, rfl⟩ | (simp; done) | (simp; exact (Classical.em _).symm)

end Go.Proofs.Ytbpeamjgddikjaa
