/- The walk of the law SegmentsMeet. -/
import Derived.Test.YtbpeamjgddikjaaMeet
namespace Go.Proofs.Ytbpeamjgddikjaa
open Go.RowKit
set_option linter.unusedVariables false
set_option linter.unusedSimpArgs false

set_option maxHeartbeats 2000000 in
set_option maxRecDepth 100000 in
theorem walk_FnExactSegmentsMeet (x0_0 x0_1 x1_0 x1_1 x2_0 x2_1 x3_0 x3_1 : Int) (w0 : World) :
    Calls Try.prog 3 #[.agg #[.int .i64 x0_0, .int .i64 x0_1], .agg #[.int .i64 x1_0, .int .i64 x1_1], .agg #[.int .i64 x2_0, .int .i64 x2_1], .agg #[.int .i64 x3_0, .int .i64 x3_1]] w0 fun e w' => e = .returned (.bool true) ∧ Below w0.heap.size w0 w' := by
  obtain ⟨u, hu⟩ : ∃ u, (segB x0_0 x0_1 x1_0 x1_1 && segB x2_0 x2_1 x3_0 x3_1) = u := ⟨_, rfl⟩
  obtain ⟨r, hr⟩ : ∃ r, (u && meetB x0_0 x0_1 x1_0 x1_1 x2_0 x2_1 x3_0 x3_1) = r := ⟨_, rfl⟩
  have HR := hide hu; have HQ := hide hr
  clear hu hr
  cases u <;> cases r
  all_goals
    have hx := fun (o0 o1 o2 o3 : Obj) => BW.cell (w := ((((w0.alloc o0).alloc o1).alloc o2).alloc o3))
    go_enter Try.func3, Try.ntmps3
    go_wp2
    refine wp_region_bw (by kernel_rfl) (by kernel_rfl) ?_
    repeat (go_big_quiet_step ((first | (go_at_call 12; exact BW.call (to_bend _ _ _)) | (go_at_call 11; exact BW.call (spec_segs _ _ _ _ _ _ _ _ _ HR.out _ HQ.out _)))))
    refine wpQuiet_end fun w1 hb1 => ?_
    clear hx
    have hq1 : Below w0.heap.size w0 w1 := below_call (by go_grown) hb1
    obtain ⟨qc1, qf1⟩ := bcell hb1
    have hs1 := hb1.size
    simp only [World.size_alloc] at hs1
    have hl0 : w0.heap.size < w1.heap.size := by omega
    have hl1 : w0.heap.size + 1 < w1.heap.size := by omega
    have hl2 : w0.heap.size + 2 < w1.heap.size := by omega
    have hl3 : w0.heap.size + 3 < w1.heap.size := by omega
    have hy := BW.cell (w := w1)
    go_wp2
    refine wp_region_bw (by kernel_rfl) (by kernel_rfl) ?_
    repeat (go_big_quiet_step ((first | (go_at_call 12; exact BW.call (to_bend _ _ _)) | (go_at_call 13; exact BW.call (impl_segs _ _ _ _ _ _ _ _ _ HR.out _ HQ.out _)))))
    refine wpQuiet_end fun w2 hb2 => ?_
    go_wp2
    go_returns
    exact ⟨rfl, below_call hq1 hb2⟩
end Go.Proofs.Ytbpeamjgddikjaa
