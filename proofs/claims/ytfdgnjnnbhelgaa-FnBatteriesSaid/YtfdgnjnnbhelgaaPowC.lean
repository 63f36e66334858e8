/- Chapter 22: after a day. -/
import Derived.Test.YtfdgnjnnbhelgaaPowA
namespace Go.Proofs.Ytfdgnjnnbhelgaa
open Go.RowKit
set_option linter.unusedVariables false
set_option linter.unusedSimpArgs false

theorem spec_afterDayNo (f nw u lo s : Int) (hB : (batB f nw u lo && inB s 0 1000) = false) (w : World) :
    Calls Try.prog 23 #[.agg #[.int .i64 f, .int .i64 nw, .int .i64 u, .int .i64 lo], .int .i64 s] w fun e w' => e = .returned (.tuple #[.agg #[.int .i64 0, .int .i64 0, .int .i64 0, .int .i64 0], .bool false, .bool false]) ∧ Below w.heap.size w w' := by
  have hfa := frozen_al; have hfo := frozen_out
  cases h1 : batB f nw u lo
  · clear hB
    go_enter Try.func23, Try.ntmps23
    go_wp2_with (first | (go_at_call 74; refine (spec_bat _ _ _ _ _ (by assumption) _).mono ?_; rintro e w1 ⟨rfl, hb1⟩; obtain ⟨qc1, qf1⟩ := bcell hb1; have hz1 := hb1.size; (try simp only [World.size_alloc, World.size_setCell, World.size_drew] at hz1); (try have hl1 : w.heap.size < w1.heap.size := by omega); (try have hm1 : w.heap.size + 1 < w1.heap.size := by omega)))
    refine bodyPost_ret (v := .tuple #[.agg #[.int .i64 0, .int .i64 0, .int .i64 0, .int .i64 0], .bool false, .bool false]) (by simp [results, Try.results23, go_sem, qc1, hl1, hm1]) rfl ⟨rfl, ?_⟩
    have hq := below_call (by go_grown : Below w.heap.size w _) hb1
    go_grown
  · obtain h2 : inB s 0 1000 = false := by simpa [h1] using hB
    clear hB
    go_enter Try.func23, Try.ntmps23
    go_wp2_with (first | (go_at_call 74; refine (spec_bat _ _ _ _ _ (by assumption) _).mono ?_; rintro e w1 ⟨rfl, hb1⟩; obtain ⟨qc1, qf1⟩ := bcell hb1; have hz1 := hb1.size; (try simp only [World.size_alloc, World.size_setCell, World.size_drew] at hz1); (try have hl1 : w.heap.size < w1.heap.size := by omega); (try have hm1 : w.heap.size + 1 < w1.heap.size := by omega)) | (go_at_call 85; refine (spec_sun _ _ (by assumption) _).mono ?_; rintro e w' ⟨rfl, rfl⟩))
    refine bodyPost_ret (v := .tuple #[.agg #[.int .i64 0, .int .i64 0, .int .i64 0, .int .i64 0], .bool false, .bool false]) (by simp [results, Try.results23, go_sem, qc1, hl1, hm1]) rfl ⟨rfl, ?_⟩
    have hq := below_call (by go_grown : Below w.heap.size w _) hb1
    go_grown
theorem spec_afterDay (f nw u lo s : Int) (hB : (batB f nw u lo && inB s 0 1000) = true) (nw' : Int) (r : Bool) (hN : aNow f nw u lo s = nw') (hR : aRan f nw u lo s = r) (w : World) :
    Calls Try.prog 23 #[.agg #[.int .i64 f, .int .i64 nw, .int .i64 u, .int .i64 lo], .int .i64 s] w fun e w' => e = .returned (.tuple #[.agg #[.int .i64 f, .int .i64 nw', .int .i64 u, .int .i64 lo], .bool r, .bool true]) ∧ Below w.heap.size w w' := by
  obtain ⟨h1, h2⟩ : batB f nw u lo = true ∧ inB s 0 1000 = true := by simpa using hB
  have hbat := bat_of h1
  obtain ⟨s1, s2⟩ := inB_of h2
  have hfa := frozen_al; have hfo := frozen_out
  clear hB
  go_enter Try.func23, Try.ntmps23
  go_wp2_with (first | (go_at_call 74; refine (spec_bat _ _ _ _ _ (by assumption) _).mono ?_; rintro e w1 ⟨rfl, hb1⟩; obtain ⟨qc1, qf1⟩ := bcell hb1; have hz1 := hb1.size; (try simp only [World.size_alloc, World.size_setCell, World.size_drew] at hz1); (try have hl1 : w.heap.size < w1.heap.size := by omega); (try have hm1 : w.heap.size + 1 < w1.heap.size := by omega)) | (go_at_call 85; refine (spec_sun _ _ (by assumption) _).mono ?_; rintro e w' ⟨rfl, rfl⟩) | (go_at_call 82; refine (spec_day _ _ _ _ _ _ _ _ (by assumption) (by assumption) rfl hbat s1 s2 _).mono ?_; rintro e w2 ⟨rfl, hb2⟩; obtain ⟨qc2, qf2⟩ := bcell hb2; have hz2 := hb2.size; (try simp only [World.size_alloc, World.size_setCell, World.size_drew] at hz2); (try have hl2 : w.heap.size < w2.heap.size := by omega); (try have hm2 : w.heap.size + 1 < w2.heap.size := by omega); (try have hn1_2 : w1.heap.size < w2.heap.size := by omega)))
  refine bodyPost_ret (v := .tuple #[.agg #[.int .i64 f, .int .i64 nw', .int .i64 u, .int .i64 lo], .bool r, .bool true]) (by simp [results, Try.results23, go_sem, qc2, qc1, hl1, hm1, hl2, hm2]) rfl ⟨rfl, ?_⟩
  have hq := below_call (below_call (by go_grown : Below w.heap.size w _) hb1) hb2
  go_grown

theorem impl_afterDayNo (f nw u lo s : Int) (hB : (batB f nw u lo && inB s 0 1000) = false) (w : World) :
    Calls Try.prog 12 #[.agg #[.int .i64 f, .int .i64 nw, .int .i64 u, .int .i64 lo], .int .i64 s] w fun e w' => e = .returned (.tuple #[.agg #[.int .i64 0, .int .i64 0, .int .i64 0, .int .i64 0], .bool false, .bool false]) ∧ Below w.heap.size w w' := by
  have hfa := frozen_al; have hfo := frozen_out
  cases h1 : batB f nw u lo
  · clear hB
    go_enter Try.func12, Try.ntmps12
    go_wp2_with (first | (go_at_call 18; refine (impl_bat _ _ _ _ _ (by assumption) _).mono ?_; rintro e w1 ⟨rfl, hb1⟩; obtain ⟨qc1, qf1⟩ := bcell hb1; have hz1 := hb1.size; (try simp only [World.size_alloc, World.size_setCell, World.size_drew] at hz1); (try have hl1 : w.heap.size < w1.heap.size := by omega); (try have hm1 : w.heap.size + 1 < w1.heap.size := by omega)))
    refine bodyPost_ret (v := .tuple #[.agg #[.int .i64 0, .int .i64 0, .int .i64 0, .int .i64 0], .bool false, .bool false]) (by simp [results, Try.results12, go_sem, qc1, hl1, hm1]) rfl ⟨rfl, ?_⟩
    have hq := below_call (by go_grown : Below w.heap.size w _) hb1
    go_grown
  · obtain h2 : inB s 0 1000 = false := by simpa [h1] using hB
    clear hB
    go_enter Try.func12, Try.ntmps12
    go_wp2_with (first | (go_at_call 18; refine (impl_bat _ _ _ _ _ (by assumption) _).mono ?_; rintro e w1 ⟨rfl, hb1⟩; obtain ⟨qc1, qf1⟩ := bcell hb1; have hz1 := hb1.size; (try simp only [World.size_alloc, World.size_setCell, World.size_drew] at hz1); (try have hl1 : w.heap.size < w1.heap.size := by omega); (try have hm1 : w.heap.size + 1 < w1.heap.size := by omega)) | (go_at_call 72; refine (impl_sun _ _ (by assumption) _).mono ?_; rintro e w' ⟨rfl, rfl⟩))
    refine bodyPost_ret (v := .tuple #[.agg #[.int .i64 0, .int .i64 0, .int .i64 0, .int .i64 0], .bool false, .bool false]) (by simp [results, Try.results12, go_sem, qc1, hl1, hm1]) rfl ⟨rfl, ?_⟩
    have hq := below_call (by go_grown : Below w.heap.size w _) hb1
    go_grown
theorem impl_afterDay (f nw u lo s : Int) (hB : (batB f nw u lo && inB s 0 1000) = true) (nw' : Int) (r : Bool) (hN : aNow f nw u lo s = nw') (hR : aRan f nw u lo s = r) (w : World) :
    Calls Try.prog 12 #[.agg #[.int .i64 f, .int .i64 nw, .int .i64 u, .int .i64 lo], .int .i64 s] w fun e w' => e = .returned (.tuple #[.agg #[.int .i64 f, .int .i64 nw', .int .i64 u, .int .i64 lo], .bool r, .bool true]) ∧ Below w.heap.size w w' := by
  obtain ⟨h1, h2⟩ : batB f nw u lo = true ∧ inB s 0 1000 = true := by simpa using hB
  have hbat := bat_of h1
  obtain ⟨s1, s2⟩ := inB_of h2
  have hfa := frozen_al; have hfo := frozen_out
  clear hB
  go_enter Try.func12, Try.ntmps12
  go_wp2_with (first | (go_at_call 18; refine (impl_bat _ _ _ _ _ (by assumption) _).mono ?_; rintro e w1 ⟨rfl, hb1⟩; obtain ⟨qc1, qf1⟩ := bcell hb1; have hz1 := hb1.size; (try simp only [World.size_alloc, World.size_setCell, World.size_drew] at hz1); (try have hl1 : w.heap.size < w1.heap.size := by omega); (try have hm1 : w.heap.size + 1 < w1.heap.size := by omega)) | (go_at_call 72; refine (impl_sun _ _ (by assumption) _).mono ?_; rintro e w' ⟨rfl, rfl⟩) | (go_at_call 73; refine (impl_after _ _ _ _ _ _ _ (by assumption) (by assumption) hbat s1 s2 _).mono ?_; rintro e w2 ⟨rfl, hb2⟩; obtain ⟨qc2, qf2⟩ := bcell hb2; have hz2 := hb2.size; (try simp only [World.size_alloc, World.size_setCell, World.size_drew] at hz2); (try have hl2 : w.heap.size < w2.heap.size := by omega); (try have hm2 : w.heap.size + 1 < w2.heap.size := by omega); (try have hn1_2 : w1.heap.size < w2.heap.size := by omega)))
  refine bodyPost_ret (v := .tuple #[.agg #[.int .i64 f, .int .i64 nw', .int .i64 u, .int .i64 lo], .bool r, .bool true]) (by simp [results, Try.results12, go_sem, qc2, qc1, hl1, hm1, hl2, hm2]) rfl ⟨rfl, ?_⟩
  have hq := below_call (below_call (by go_grown : Below w.heap.size w _) hb1) hb2
  go_grown
end Go.Proofs.Ytfdgnjnnbhelgaa
