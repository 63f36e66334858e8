/- The draw of a battery and a number: made by dreFgen.py. -/
import Derived.Test.YtfdgnjnnbhelgaaDrwF
namespace Go.Proofs.Ytfdgnjnnbhelgaa
open Go.RowKit
set_option linter.unusedVariables false
set_option linter.unusedSimpArgs false

set_option maxHeartbeats 4000000 in
set_option maxRecDepth 100000 in
theorem draw_afterDay (A : Option Addr) (n c : Nat) (C : Nat → Int) (w : World) (hC : CodeOk w A n C) :
    Calls Try.prog 22 #[.slice A n c] w fun e w' => ∃ x y z u s : Int, e = .returned (.tuple #[.agg #[.int .i64 x, .int .i64 y, .int .i64 z, .int .i64 u], .int .i64 s]) ∧ Below w.heap.size w w' := by
  have hr : Blk (w.alloc (.cells #[.int .i64 0, .int .i64 0, .int .i64 0, .int .i64 0] 25)) w.heap.size 25 #[.int .i64 0, .int .i64 0, .int .i64 0, .int .i64 0] := Blk.new _ _ _
  have hb0 : Below w.heap.size w ((w.alloc (.cells #[.int .i64 0, .int .i64 0, .int .i64 0, .int .i64 0] 25)).alloc (.cells #[.slice A n c, .int .i64 0, .int .u64 0] 85)) := below_al (below_al (Below.refl _ _))
  go_enter Try.func22, Try.ntmps22
  go_wp2_with fail
  refine (spec_battery (w.heap.size + 1) _ 0 _ (by omega) (cur_new (hC.on (below_al (Below.refl _ _))) _ (by simp))).mono ?_
  rintro e w1 ⟨x, y, z, u, rfl, hd⟩
  have hb1 := below_drawn hb0 hd.1 (by omega)
  have hr1 : Blk w1 w.heap.size 25 #[.int .i64 0, .int .i64 0, .int .i64 0, .int .i64 0] := (hd.1.block w.heap.size (by simp; omega) (fun e => by injection e with e; omega)).trans (hr.alloc _)
  have hc1 := hd.2
  have hcl := hc1.lt
  have hq0 : Blk (w1.alloc (.cells #[.int .i64 x, .int .i64 y, .int .i64 z, .int .i64 u] 25)) w1.heap.size 25 #[.int .i64 x, .int .i64 y, .int .i64 z, .int .i64 u] := Blk.new _ _ _
  have hS0 := se_blk (blk_drewC hq0)
  have hs1 := hb1.size
  clear hd hr hb0
  go_wp2_with fail
  go_region_held3 (fun w' => w1.heap.size < w'.heap.size ∧ w'.cell? ⟨w1.heap.size, 0, none⟩ = some (.int .i64 x) ∧ w'.cell? ⟨w1.heap.size, 1, none⟩ = some (.int .i64 y) ∧ w'.cell? ⟨w1.heap.size, 2, none⟩ = some (.int .i64 z) ∧ w'.cell? ⟨w1.heap.size, 3, none⟩ = some (.int .i64 u)) (first | assumption | (with_reducible exact se_ald _ (by assumption)) | (with_reducible exact se_al _ (by assumption)) | exact se_far _ (by omega) (by assumption) | exact se_far _ (by omega) (se_far _ (by omega) (by assumption)) | exact se_far _ (by omega) (se_far _ (by omega) (se_far _ (by omega) (by assumption))) | exact se_far _ (by omega) (se_far _ (by omega) (se_far _ (by omega) (se_far _ (by omega) (by assumption))))) (first
    | ((go_at_call 84); (refine (spec_pick (w.heap.size + 1) _ (0 + 20) 24 _ (by omega) (by omega) (Cur.drew ((hc1.alloc _).alloc _))).mono ?_); (rintro e w2 ⟨t, rfl, t0, t1, _, hd2⟩); (obtain ⟨q, hq, hq3, hq2, hqa, hqb, hqw, hqn, hqc, hqd, hqe, hqf, hqg, hqz, hqy⟩ := part_in5 t0 (t1 (by decide))); (have hbl := blk_drawn hd2 (blk_drewC (blk_new_atC _ (w1.heap.size + 1) _ _ (by simp))) (by omega)); (have hr2 := blk_drawn2 hd2 (blk_drewC ((hr1.alloc _).alloc _)) (by omega)); (have hqq2 := blk_drawn2 hd2 (blk_drewC (hq0.alloc _)) (by omega)); (have hS2 := se_blk hqq2); (have hb2 : Below w.heap.size w w2 := below_drawn (Below.drew (below_al (below_al hb1))) hd2.1 (by omega)); (have hc2 := hd2.2); (clear hd2 t1))
    | ((go_at_call 84); (refine (spec_pick (w.heap.size + 1) _ (0 + 20) 24 _ (by omega) (by omega) (Cur.drew (hc1.alloc _))).mono ?_); (rintro e w2 ⟨t, rfl, t0, t1, _, hd2⟩); (obtain ⟨q, hq, hq3, hq2, hqa, hqb, hqw, hqn, hqc, hqd, hqe, hqf, hqg, hqz, hqy⟩ := part_in5 t0 (t1 (by decide))); (have hr2 := blk_drawn2 hd2 (blk_drewC (hr1.alloc _)) (by omega)); (have hqq2 := blk_drawn2 hd2 (blk_drewC hq0) (by omega)); (have hS2 := se_blk hqq2); (have hb2 : Below w.heap.size w w2 := below_drawn (Below.drew (below_al hb1)) hd2.1 (by omega)); (have hc2 := hd2.2); (clear hd2 t1))
    | ((go_at_call 83); (refine (spec_amongP (w.heap.size + 1) _ (0 + 20 + 2) [0, 1, 50, 120, 1000, -1, 1001] _ _ _ _ (by simp; omega) (by omega) (by omega) _ rfl hbl (by omega) (by omega) hc2).mono ?_); (rintro e w3 ⟨s, rfl, hd3⟩); (have hr3 := blk_drawn2 hd3 hr2 (by omega)); (have hS3 := se_blk (blk_drawn2 hd3 hqq2 (by omega))); (have hb3 : Below w.heap.size w w3 := below_drawn hb2 hd3.1 (by omega)); (have cr0 := hr3.cell 0); (have cr1 := hr3.cell 1); (have cr2 := hr3.cell 2); (have cr3 := hr3.cell 3); (have fr0 := hr3.frozen 0); (have fr1 := hr3.frozen 1); (have fr2 := hr3.frozen 2); (have fr3 := hr3.frozen 3); (simp at cr0 cr1 cr2 cr3))
    | ((go_at_call 83); (refine (spec_amongP (w.heap.size + 1) _ (0 + 20 + 2) [0, 1, 50, 120, 1000, -1, 1001] _ _ _ _ (by simp; omega) (by omega) (by omega) _ rfl (blk_new_atC _ _ _ _ (by first | rfl | simp)) (by first | omega | (simp; omega)) (by omega) (hc2.alloc _)).mono ?_); (rintro e w3 ⟨s, rfl, hd3⟩); (have hr3 := blk_drawn2 hd3 (hr2.alloc _) (by omega)); (have hS3 := se_blk (blk_drawn2 hd3 (hqq2.alloc _) (by omega))); (have hb3 : Below w.heap.size w w3 := below_drawn (below_al hb2) hd3.1 (by omega)); (have cr0 := hr3.cell 0); (have cr1 := hr3.cell 1); (have cr2 := hr3.cell 2); (have cr3 := hr3.cell 3); (have fr0 := hr3.frozen 0); (have fr1 := hr3.frozen 1); (have fr2 := hr3.frozen 2); (have fr3 := hr3.frozen 3); (simp at cr0 cr1 cr2 cr3)))
  all_goals
    go_wp2
    refine bodyPost_ret (v := .tuple #[.agg #[.int .i64 x, .int .i64 y, .int .i64 z, .int .i64 u], .int .i64 s]) (by simp [results, Try.results22, go_sem, cr0, cr1, cr2, cr3]) rfl ⟨_, _, _, _, _, rfl, by go_grown⟩
end Go.Proofs.Ytfdgnjnnbhelgaa
