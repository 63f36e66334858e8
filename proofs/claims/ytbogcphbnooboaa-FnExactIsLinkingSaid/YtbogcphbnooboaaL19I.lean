/- Walks of laws, written by lawgen2.py out of their Go text. -/
import Derived.Test.YtbogcphbnooboaaLink
namespace Go.Proofs.Ytbogcphbnooboaa
open Go.RowKit
set_option linter.unusedVariables false
set_option linter.unusedSimpArgs false

set_option maxHeartbeats 4000000 in
set_option maxRecDepth 100000 in
theorem walk_FnExactIsLinking (x0_0 x0_1 x0_2 : Int) (w0 : World)  :
    Calls Try.prog 3 #[.agg #[.int .i64 x0_0, .int .i64 x0_1, .int .i64 x0_2]] w0 fun e w' => e = .returned (.bool true) ∧ Below w0.heap.size w0 w' := by
  have hfa := frozen_al; have hfo := frozen_out
  obtain ⟨u, hu⟩ : ∃ u, linkB x0_0 x0_1 x0_2 = u := ⟨_, rfl⟩
  have HR := hide hu
  clear hu
  cases u
  all_goals
    go_enter Try.func3, Try.ntmps3
    have hq0 : Below w0.heap.size w0 w0 := Below.refl _ _
    go_wp2_with fail
    refine (to_linking _ _ _ _).mono ?_
    rintro e w1 ⟨rfl, hb1⟩
    have hs1 : Below w0.heap.size w0 w1 := below_call (by go_grown) hb1
    have hz1 := hs1.size
    obtain ⟨qc1, qf1⟩ := bcell hb1
    have hq1 : Below w0.heap.size w0 w1 := hq0.trans (hs1.mono hq0.size)
    have hl1_0 : w0.heap.size < w1.heap.size := by first | (have := hb1.size; simp only [World.size_alloc, World.size_setCell, World.size_drew] at this; omega) | omega
    go_wp2_with fail
    refine (spec_isLink _ _ _ _ HR.out _).mono ?_
    rintro e w2 ⟨rfl, hb2⟩
    have hs2 : Below w1.heap.size w1 w2 := below_call (by go_grown) hb2
    have hz2 := hs2.size
    obtain ⟨qc2, qf2⟩ := bcell hb2
    have hq2 : Below w0.heap.size w0 w2 := hq1.trans (hs2.mono hq1.size)
    have hl2_0 : w0.heap.size < w2.heap.size := by first | (have := hb2.size; simp only [World.size_alloc, World.size_setCell, World.size_drew] at this; omega) | omega
    go_wp2_with fail
    refine (to_linking _ _ _ _).mono ?_
    rintro e w3 ⟨rfl, hb3⟩
    have hs3 : Below w2.heap.size w2 w3 := below_call (by go_grown) hb3
    have hz3 := hs3.size
    obtain ⟨qc3, qf3⟩ := bcell hb3
    have hq3 : Below w0.heap.size w0 w3 := hq2.trans (hs3.mono hq2.size)
    have hl3_0 : w0.heap.size < w3.heap.size := by first | (have := hb3.size; simp only [World.size_alloc, World.size_setCell, World.size_drew] at this; omega) | omega
    go_wp2_with fail
    refine (impl_link _ _ _ _ HR.out _).mono ?_
    rintro e w4 ⟨rfl, hb4⟩
    have hs4 : Below w3.heap.size w3 w4 := below_call (by go_grown) hb4
    have hz4 := hs4.size
    obtain ⟨qc4, qf4⟩ := bcell hb4
    have hq4 : Below w0.heap.size w0 w4 := hq3.trans (hs4.mono hq3.size)
    have hl4_0 : w0.heap.size < w4.heap.size := by first | (have := hb4.size; simp only [World.size_alloc, World.size_setCell, World.size_drew] at this; omega) | omega
    go_wp2
    go_returns
    exact ⟨rfl, hq4⟩
end Go.Proofs.Ytbogcphbnooboaa
