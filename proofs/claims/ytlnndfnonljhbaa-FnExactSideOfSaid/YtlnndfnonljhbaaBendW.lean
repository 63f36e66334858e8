/- Chapter 18: SideOf. -/
import Derived.Test.YtlnndfnonljhbaaBend
import Derived.Test.YtlnndfnonljhbaaList
namespace Go.Proofs.Ytlnndfnonljhbaa
open Go.RowKit
set_option linter.unusedVariables false
set_option linter.unusedSimpArgs false

theorem seg_of {ax ay bx by' : Int} (h : segB ax ay bx by' = true) : Pl ax ay ∧ Pl bx by' := by
  simp only [segB, Bool.and_eq_true] at h
  exact ⟨pl_of h.1.1, pl_of h.1.2⟩
set_option maxHeartbeats 1000000 in
theorem spec_sideOf (ax ay bx by' px py : Int) (ok : Bool) (hok : (segB ax ay bx by' && plB px py) = ok) (r : Int) (hr : onlyI ok (sideI ax ay bx by' px py) = r) (w : World) :
    Calls Try.prog 8 #[.agg #[.int .i64 ax, .int .i64 ay], .agg #[.int .i64 bx, .int .i64 by'], .agg #[.int .i64 px, .int .i64 py]] w fun e w' => e = .returned (.tuple #[.int .i64 r, .bool ok]) ∧ Below w.heap.size w w' := by
  have hfa := frozen_al; have hfo := frozen_out
  have HK := hide hok; have HR := hide hr
  clear hok hr
  cases h1 : segB ax ay bx by'
  · obtain rfl : false = ok := by rw [← HK.out, h1]; rfl
    obtain rfl : 0 = r := HR.out
    have H1 := hide h1; clear h1
    go_enter Try.func8, Try.ntmps8
    go_wp2_with fail
    refine (spec_seg _ _ _ _ _ H1.out _).mono ?_
    rintro e w1 ⟨rfl, hb1⟩
    obtain ⟨qc1, qf1⟩ := bcell hb1
    have hz1 := hb1.size
    try simp only [World.size_alloc, World.size_setCell, World.size_drew] at hz1
    have hq1 : Below w.heap.size w w1 := below_call (by go_grown) hb1
    try have hl0_1 : w.heap.size < w1.heap.size := by omega
    try have hl1_1 : w.heap.size + 1 < w1.heap.size := by omega
    try have hl2_1 : w.heap.size + 2 < w1.heap.size := by omega
    try have hl3_1 : w.heap.size + 3 < w1.heap.size := by omega
    go_wp2
    go_returns
    exact ⟨rfl, hq1⟩
  · cases h2 : plB px py
    · obtain rfl : false = ok := by rw [← HK.out, h1, h2]; rfl
      obtain rfl : 0 = r := HR.out
      have H1 := hide h1; have H2 := hide h2; clear h1 h2
      go_enter Try.func8, Try.ntmps8
      go_wp2_with fail
      refine (spec_seg _ _ _ _ _ H1.out _).mono ?_
      rintro e w1 ⟨rfl, hb1⟩
      obtain ⟨qc1, qf1⟩ := bcell hb1
      have hz1 := hb1.size
      try simp only [World.size_alloc, World.size_setCell, World.size_drew] at hz1
      have hq1 : Below w.heap.size w w1 := below_call (by go_grown) hb1
      try have hl0_1 : w.heap.size < w1.heap.size := by omega
      try have hl1_1 : w.heap.size + 1 < w1.heap.size := by omega
      try have hl2_1 : w.heap.size + 2 < w1.heap.size := by omega
      try have hl3_1 : w.heap.size + 3 < w1.heap.size := by omega
      go_wp2_with fail
      refine (spec_bend _ _ _ H2.out _).mono ?_
      rintro e w2 ⟨rfl, hb2⟩
      obtain ⟨qc2, qf2⟩ := bcell hb2
      have hz2 := hb2.size
      try simp only [World.size_alloc, World.size_setCell, World.size_drew] at hz2
      have hq2 : Below w.heap.size w w2 := below_call (by go_grown) hb2
      try have hl0_2 : w.heap.size < w2.heap.size := by omega
      try have hl1_2 : w.heap.size + 1 < w2.heap.size := by omega
      try have hl2_2 : w.heap.size + 2 < w2.heap.size := by omega
      try have hl3_2 : w.heap.size + 3 < w2.heap.size := by omega
      try have hn1_2 : w1.heap.size < w2.heap.size := by omega
      go_wp2
      go_returns
      exact ⟨rfl, hq2⟩
    · obtain rfl : true = ok := by rw [← HK.out, h1, h2]; rfl
      have hr : sideI ax ay bx by' px py = r := HR.out
      obtain ⟨hpa, hpb⟩ := seg_of h1
      have hpp := pl_of h2
      have H1 := hide h1; have H2 := hide h2; have H3 := hide hr; have H4 := hide hpa; have H5 := hide hpb; have H6 := hide hpp; clear h1 h2 hr hpa hpb hpp
      go_enter Try.func8, Try.ntmps8
      go_wp2_with fail
      refine (spec_seg _ _ _ _ _ H1.out _).mono ?_
      rintro e w1 ⟨rfl, hb1⟩
      obtain ⟨qc1, qf1⟩ := bcell hb1
      have hz1 := hb1.size
      try simp only [World.size_alloc, World.size_setCell, World.size_drew] at hz1
      have hq1 : Below w.heap.size w w1 := below_call (by go_grown) hb1
      try have hl0_1 : w.heap.size < w1.heap.size := by omega
      try have hl1_1 : w.heap.size + 1 < w1.heap.size := by omega
      try have hl2_1 : w.heap.size + 2 < w1.heap.size := by omega
      try have hl3_1 : w.heap.size + 3 < w1.heap.size := by omega
      go_wp2_with fail
      refine (spec_bend _ _ _ H2.out _).mono ?_
      rintro e w2 ⟨rfl, hb2⟩
      obtain ⟨qc2, qf2⟩ := bcell hb2
      have hz2 := hb2.size
      try simp only [World.size_alloc, World.size_setCell, World.size_drew] at hz2
      have hq2 : Below w.heap.size w w2 := below_call (by go_grown) hb2
      try have hl0_2 : w.heap.size < w2.heap.size := by omega
      try have hl1_2 : w.heap.size + 1 < w2.heap.size := by omega
      try have hl2_2 : w.heap.size + 2 < w2.heap.size := by omega
      try have hl3_2 : w.heap.size + 3 < w2.heap.size := by omega
      try have hn1_2 : w1.heap.size < w2.heap.size := by omega
      go_wp2_with fail
      refine (spec_side _ _ _ _ _ _ _ H3.out H4.out H5.out H6.out _).mono ?_
      rintro e w3 ⟨rfl, hb3⟩
      obtain ⟨qc3, qf3⟩ := bcell hb3
      have hz3 := hb3.size
      try simp only [World.size_alloc, World.size_setCell, World.size_drew] at hz3
      have hq3 : Below w.heap.size w w3 := below_call (by go_grown) hb3
      try have hl0_3 : w.heap.size < w3.heap.size := by omega
      try have hl1_3 : w.heap.size + 1 < w3.heap.size := by omega
      try have hl2_3 : w.heap.size + 2 < w3.heap.size := by omega
      try have hl3_3 : w.heap.size + 3 < w3.heap.size := by omega
      try have hn1_3 : w1.heap.size < w3.heap.size := by omega
      try have hn2_3 : w2.heap.size < w3.heap.size := by omega
      go_wp2
      go_returns
      exact ⟨rfl, hq3⟩
set_option maxHeartbeats 1000000 in
theorem impl_sideOf (ax ay bx by' px py : Int) (ok : Bool) (hok : (segB ax ay bx by' && plB px py) = ok) (r : Int) (hr : onlyI ok (sideI ax ay bx by' px py) = r) (w : World) :
    Calls Try.prog 10 #[.agg #[.int .i64 ax, .int .i64 ay], .agg #[.int .i64 bx, .int .i64 by'], .agg #[.int .i64 px, .int .i64 py]] w fun e w' => e = .returned (.tuple #[.int .i64 r, .bool ok]) ∧ Below w.heap.size w w' := by
  have hfa := frozen_al; have hfo := frozen_out
  have HK := hide hok; have HR := hide hr
  clear hok hr
  cases h1 : segB ax ay bx by'
  · obtain rfl : false = ok := by rw [← HK.out, h1]; rfl
    obtain rfl : 0 = r := HR.out
    have H1 := hide h1; clear h1
    go_enter Try.func10, Try.ntmps10
    go_wp2_with fail
    refine (impl_seg _ _ _ _ _ H1.out _).mono ?_
    rintro e w1 ⟨rfl, hb1⟩
    obtain ⟨qc1, qf1⟩ := bcell hb1
    have hz1 := hb1.size
    try simp only [World.size_alloc, World.size_setCell, World.size_drew] at hz1
    have hq1 : Below w.heap.size w w1 := below_call (by go_grown) hb1
    try have hl0_1 : w.heap.size < w1.heap.size := by omega
    try have hl1_1 : w.heap.size + 1 < w1.heap.size := by omega
    try have hl2_1 : w.heap.size + 2 < w1.heap.size := by omega
    try have hl3_1 : w.heap.size + 3 < w1.heap.size := by omega
    go_wp2
    go_returns
    exact ⟨rfl, hq1⟩
  · cases h2 : plB px py
    · obtain rfl : false = ok := by rw [← HK.out, h1, h2]; rfl
      obtain rfl : 0 = r := HR.out
      have H1 := hide h1; have H2 := hide h2; clear h1 h2
      go_enter Try.func10, Try.ntmps10
      go_wp2_with fail
      refine (impl_seg _ _ _ _ _ H1.out _).mono ?_
      rintro e w1 ⟨rfl, hb1⟩
      obtain ⟨qc1, qf1⟩ := bcell hb1
      have hz1 := hb1.size
      try simp only [World.size_alloc, World.size_setCell, World.size_drew] at hz1
      have hq1 : Below w.heap.size w w1 := below_call (by go_grown) hb1
      try have hl0_1 : w.heap.size < w1.heap.size := by omega
      try have hl1_1 : w.heap.size + 1 < w1.heap.size := by omega
      try have hl2_1 : w.heap.size + 2 < w1.heap.size := by omega
      try have hl3_1 : w.heap.size + 3 < w1.heap.size := by omega
      go_wp2_with fail
      refine (impl_bend _ _ _ H2.out _).mono ?_
      rintro e w2 ⟨rfl, hb2⟩
      obtain ⟨qc2, qf2⟩ := bcell hb2
      have hz2 := hb2.size
      try simp only [World.size_alloc, World.size_setCell, World.size_drew] at hz2
      have hq2 : Below w.heap.size w w2 := below_call (by go_grown) hb2
      try have hl0_2 : w.heap.size < w2.heap.size := by omega
      try have hl1_2 : w.heap.size + 1 < w2.heap.size := by omega
      try have hl2_2 : w.heap.size + 2 < w2.heap.size := by omega
      try have hl3_2 : w.heap.size + 3 < w2.heap.size := by omega
      try have hn1_2 : w1.heap.size < w2.heap.size := by omega
      go_wp2
      go_returns
      exact ⟨rfl, hq2⟩
    · obtain rfl : true = ok := by rw [← HK.out, h1, h2]; rfl
      have hr : sideI ax ay bx by' px py = r := HR.out
      obtain ⟨hpa, hpb⟩ := seg_of h1
      have hpp := pl_of h2
      have H1 := hide h1; have H2 := hide h2; have H3 := hide hr; have H4 := hide hpa; have H5 := hide hpb; have H6 := hide hpp; clear h1 h2 hr hpa hpb hpp
      go_enter Try.func10, Try.ntmps10
      go_wp2_with fail
      refine (impl_seg _ _ _ _ _ H1.out _).mono ?_
      rintro e w1 ⟨rfl, hb1⟩
      obtain ⟨qc1, qf1⟩ := bcell hb1
      have hz1 := hb1.size
      try simp only [World.size_alloc, World.size_setCell, World.size_drew] at hz1
      have hq1 : Below w.heap.size w w1 := below_call (by go_grown) hb1
      try have hl0_1 : w.heap.size < w1.heap.size := by omega
      try have hl1_1 : w.heap.size + 1 < w1.heap.size := by omega
      try have hl2_1 : w.heap.size + 2 < w1.heap.size := by omega
      try have hl3_1 : w.heap.size + 3 < w1.heap.size := by omega
      go_wp2_with fail
      refine (impl_bend _ _ _ H2.out _).mono ?_
      rintro e w2 ⟨rfl, hb2⟩
      obtain ⟨qc2, qf2⟩ := bcell hb2
      have hz2 := hb2.size
      try simp only [World.size_alloc, World.size_setCell, World.size_drew] at hz2
      have hq2 : Below w.heap.size w w2 := below_call (by go_grown) hb2
      try have hl0_2 : w.heap.size < w2.heap.size := by omega
      try have hl1_2 : w.heap.size + 1 < w2.heap.size := by omega
      try have hl2_2 : w.heap.size + 2 < w2.heap.size := by omega
      try have hl3_2 : w.heap.size + 3 < w2.heap.size := by omega
      try have hn1_2 : w1.heap.size < w2.heap.size := by omega
      go_wp2_with fail
      refine (impl_side _ _ _ _ _ _ _ H3.out H4.out H5.out H6.out _).mono ?_
      rintro e w3 ⟨rfl, hb3⟩
      obtain ⟨qc3, qf3⟩ := bcell hb3
      have hz3 := hb3.size
      try simp only [World.size_alloc, World.size_setCell, World.size_drew] at hz3
      have hq3 : Below w.heap.size w w3 := below_call (by go_grown) hb3
      try have hl0_3 : w.heap.size < w3.heap.size := by omega
      try have hl1_3 : w.heap.size + 1 < w3.heap.size := by omega
      try have hl2_3 : w.heap.size + 2 < w3.heap.size := by omega
      try have hl3_3 : w.heap.size + 3 < w3.heap.size := by omega
      try have hn1_3 : w1.heap.size < w3.heap.size := by omega
      try have hn2_3 : w2.heap.size < w3.heap.size := by omega
      go_wp2
      go_returns
      exact ⟨rfl, hq3⟩
end Go.Proofs.Ytlnndfnonljhbaa
