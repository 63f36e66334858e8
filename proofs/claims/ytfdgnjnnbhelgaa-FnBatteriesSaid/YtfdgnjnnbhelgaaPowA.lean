/- Chapter 22: a battery, by value. -/
import Derived.Test.YtfdgnjnnbhelgaaNum
namespace Go.Proofs.Ytfdgnjnnbhelgaa
open Go.RowKit
set_option linter.unusedVariables false
set_option linter.unusedSimpArgs false

def batB (f nw u lo : Int) : Bool := inB f 1 10000 && inB nw 0 f && inB u 1 500 && inB lo 0 f
/-- A valid battery, in numbers. -/
structure Bat (f nw u lo : Int) : Prop where
  f1 : 1 ≤ f
  f2 : f ≤ 10000
  n1 : 0 ≤ nw
  n2 : nw ≤ f
  u1 : 1 ≤ u
  u2 : u ≤ 500
  l1 : 0 ≤ lo
  l2 : lo ≤ f
theorem bat_of {f nw u lo : Int} (h : batB f nw u lo = true) : Bat f nw u lo := by
  simp only [batB, inB, Bool.and_eq_true, decide_eq_true_eq] at h
  exact ⟨by omega, by omega, by omega, by omega, by omega, by omega, by omega, by omega⟩
theorem bat_mk {f nw u lo : Int} (h : Bat f nw u lo) : batB f nw u lo = true := by
  simp only [batB, inB, Bool.and_eq_true, decide_eq_true_eq]
  exact ⟨⟨⟨⟨h.f1, h.f2⟩, h.n1, h.n2⟩, h.u1, h.u2⟩, h.l1, h.l2⟩

/-- What a battery has after a day with some sun, and whether the station ran the whole day. -/
def aNow (f nw u lo s : Int) : Int := if lo ≤ nw then max 0 (min f (nw + s) - u) else min f (nw + s)
def aRan (f nw u lo s : Int) : Bool := decide (lo ≤ nw) && decide (u ≤ min f (nw + s))
theorem aNow_bd {f nw u lo s : Int} (h : Bat f nw u lo) (h0 : 0 ≤ s) : Bat f (aNow f nw u lo s) u lo := by
  have := h.f1; have := h.n1; have := h.n2; have := h.u1
  exact ⟨h.f1, h.f2, by unfold aNow; split <;> omega, by unfold aNow; split <;> omega, h.u1, h.u2, h.l1, h.l2⟩

theorem spec_bat (f nw u lo : Int) (v : Bool) (hv : batB f nw u lo = v) (w : World) :
    Calls Try.prog 74 #[.agg #[.int .i64 f, .int .i64 nw, .int .i64 u, .int .i64 lo]] w fun e w' => e = .returned (.bool v) ∧ Below w.heap.size w w' := by
  unfold batB at hv
  cases h0 : inB f 1 10000
  · skip
    obtain rfl : false = v := by simpa [h0] using hv
    go_enter Try.func74, Try.ntmps74
    go_wp2_with (first | (go_at_call 108; refine (spec_in _ _ _ _ (by assumption) _).mono ?_; rintro e w' ⟨rfl, rfl⟩))
    go_returns
    exact ⟨rfl, by go_grown⟩
  · skip
    cases h1 : inB nw 0 f
    · skip
      obtain rfl : false = v := by simpa [h0, h1] using hv
      go_enter Try.func74, Try.ntmps74
      go_wp2_with (first | (go_at_call 108; refine (spec_in _ _ _ _ (by assumption) _).mono ?_; rintro e w' ⟨rfl, rfl⟩))
      go_returns
      exact ⟨rfl, by go_grown⟩
    · skip
      cases h2 : inB u 1 500
      · skip
        obtain rfl : false = v := by simpa [h0, h1, h2] using hv
        go_enter Try.func74, Try.ntmps74
        go_wp2_with (first | (go_at_call 108; refine (spec_in _ _ _ _ (by assumption) _).mono ?_; rintro e w' ⟨rfl, rfl⟩))
        go_returns
        exact ⟨rfl, by go_grown⟩
      · skip
        cases h3 : inB lo 0 f
        · skip
          obtain rfl : false = v := by simpa [h0, h1, h2, h3] using hv
          go_enter Try.func74, Try.ntmps74
          go_wp2_with (first | (go_at_call 108; refine (spec_in _ _ _ _ (by assumption) _).mono ?_; rintro e w' ⟨rfl, rfl⟩))
          go_returns
          exact ⟨rfl, by go_grown⟩
        · skip
          obtain rfl : true = v := by simpa [h0, h1, h2, h3] using hv
          go_enter Try.func74, Try.ntmps74
          go_wp2_with (first | (go_at_call 108; refine (spec_in _ _ _ _ (by assumption) _).mono ?_; rintro e w' ⟨rfl, rfl⟩))
          go_returns
          exact ⟨rfl, by go_grown⟩
theorem impl_bat (f nw u lo : Int) (v : Bool) (hv : batB f nw u lo = v) (w : World) :
    Calls Try.prog 18 #[.agg #[.int .i64 f, .int .i64 nw, .int .i64 u, .int .i64 lo]] w fun e w' => e = .returned (.bool v) ∧ Below w.heap.size w w' := by
  unfold batB at hv
  cases h0 : inB f 1 10000
  · skip
    obtain rfl : false = v := by simpa [h0] using hv
    go_enter Try.func18, Try.ntmps18
    go_wp2_with (first | (go_at_call 81; refine (impl_in _ _ _ _ (by assumption) _).mono ?_; rintro e w' ⟨rfl, rfl⟩))
    go_returns
    exact ⟨rfl, by go_grown⟩
  · skip
    cases h1 : inB nw 0 f
    · skip
      obtain rfl : false = v := by simpa [h0, h1] using hv
      go_enter Try.func18, Try.ntmps18
      go_wp2_with (first | (go_at_call 81; refine (impl_in _ _ _ _ (by assumption) _).mono ?_; rintro e w' ⟨rfl, rfl⟩))
      go_returns
      exact ⟨rfl, by go_grown⟩
    · skip
      cases h2 : inB u 1 500
      · skip
        obtain rfl : false = v := by simpa [h0, h1, h2] using hv
        go_enter Try.func18, Try.ntmps18
        go_wp2_with (first | (go_at_call 81; refine (impl_in _ _ _ _ (by assumption) _).mono ?_; rintro e w' ⟨rfl, rfl⟩))
        go_returns
        exact ⟨rfl, by go_grown⟩
      · skip
        cases h3 : inB lo 0 f
        · skip
          obtain rfl : false = v := by simpa [h0, h1, h2, h3] using hv
          go_enter Try.func18, Try.ntmps18
          go_wp2_with (first | (go_at_call 81; refine (impl_in _ _ _ _ (by assumption) _).mono ?_; rintro e w' ⟨rfl, rfl⟩))
          go_returns
          exact ⟨rfl, by go_grown⟩
        · skip
          obtain rfl : true = v := by simpa [h0, h1, h2, h3] using hv
          go_enter Try.func18, Try.ntmps18
          go_wp2_with (first | (go_at_call 81; refine (impl_in _ _ _ _ (by assumption) _).mono ?_; rintro e w' ⟨rfl, rfl⟩))
          go_returns
          exact ⟨rfl, by go_grown⟩
theorem spec_sun (x : Int) (v : Bool) (hv : inB x 0 1000 = v) (w : World) :
    Calls Try.prog 85 #[.int .i64 x] w fun e w' => e = .returned (.bool v) ∧ w = w' := by
  go_enter Try.func85, Try.ntmps85
  go_wp2_with (go_at_call 108; refine (spec_in _ _ _ _ (by assumption) _).mono ?_; rintro e w' ⟨rfl, rfl⟩)
  go_ret
  exact ⟨rfl, rfl⟩
theorem impl_sun (x : Int) (v : Bool) (hv : inB x 0 1000 = v) (w : World) :
    Calls Try.prog 72 #[.int .i64 x] w fun e w' => e = .returned (.bool v) ∧ w = w' := by
  go_enter Try.func72, Try.ntmps72
  go_wp2_with (go_at_call 81; refine (impl_in _ _ _ _ (by assumption) _).mono ?_; rintro e w' ⟨rfl, rfl⟩)
  go_ret
  exact ⟨rfl, rfl⟩

set_option maxHeartbeats 400000 in
theorem impl_after (f nw u lo s nw' : Int) (r : Bool) (hN : aNow f nw u lo s = nw') (hR : aRan f nw u lo s = r) (hbat : Bat f nw u lo) (hs0 : 0 ≤ s) (hs1 : s ≤ 1000) (w : World) :
    Calls Try.prog 73 #[.agg #[.int .i64 f, .int .i64 nw, .int .i64 u, .int .i64 lo], .int .i64 s] w fun e w' =>
      e = .returned (.tuple #[.agg #[.int .i64 f, .int .i64 nw', .int .i64 u, .int .i64 lo], .bool r]) ∧ Below w.heap.size w w' := by
  obtain ⟨f1, f2, n1, n2, u1, u2, l1, l2⟩ := hbat
  unfold aNow at hN; unfold aRan at hR
  by_cases h1 : lo ≤ nw
  · by_cases h2 : nw + s ≤ f
    · by_cases h3 : u ≤ nw + s
      · obtain rfl : nw + s - u = nw' := by rw [if_pos h1] at hN; omega
        obtain rfl : true = r := by rw [← hR]; simp [h1]; omega
        clear hN hR
        go_enter Try.func73, Try.ntmps73
        go_wp2
        all_goals
          go_returns
          exact ⟨by first | rfl | (simp; omega), by go_grown⟩
      · obtain rfl : 0 = nw' := by rw [if_pos h1] at hN; omega
        obtain rfl : false = r := by rw [← hR]; simp [h1]; omega
        clear hN hR
        go_enter Try.func73, Try.ntmps73
        go_wp2
        all_goals
          go_returns
          exact ⟨by first | rfl | (simp; omega), by go_grown⟩
    · by_cases h3 : u ≤ f
      · obtain rfl : f - u = nw' := by rw [if_pos h1] at hN; omega
        obtain rfl : true = r := by rw [← hR]; simp [h1]; omega
        clear hN hR
        go_enter Try.func73, Try.ntmps73
        go_wp2
        all_goals
          go_returns
          exact ⟨by first | rfl | (simp; omega), by go_grown⟩
      · obtain rfl : 0 = nw' := by rw [if_pos h1] at hN; omega
        obtain rfl : false = r := by rw [← hR]; simp [h1]; omega
        clear hN hR
        go_enter Try.func73, Try.ntmps73
        go_wp2
        all_goals
          go_returns
          exact ⟨by first | rfl | (simp; omega), by go_grown⟩
  · obtain rfl : false = r := by rw [← hR]; simp [h1]
    by_cases h2 : nw + s ≤ f
    · obtain rfl : nw + s = nw' := by rw [if_neg h1] at hN; omega
      clear hN hR
      go_enter Try.func73, Try.ntmps73
      go_wp2
      all_goals
        go_returns
        exact ⟨by first | rfl | (simp; omega), by go_grown⟩
    · obtain rfl : f = nw' := by rw [if_neg h1] at hN; omega
      clear hN hR
      go_enter Try.func73, Try.ntmps73
      go_wp2
      all_goals
        go_returns
        exact ⟨by first | rfl | (simp; omega), by go_grown⟩

set_option maxHeartbeats 400000 in
theorem spec_day (f nw u lo s nw' l : Int) (r : Bool) (hN : aNow f nw u lo s = nw') (hR : aRan f nw u lo s = r) (hL : max 0 (nw + s - f) = l) (hbat : Bat f nw u lo) (hs0 : 0 ≤ s) (hs1 : s ≤ 1000) (w : World) :
    Calls Try.prog 82 #[.agg #[.int .i64 f, .int .i64 nw, .int .i64 u, .int .i64 lo], .int .i64 s] w fun e w' =>
      e = .returned (.tuple #[.agg #[.int .i64 f, .int .i64 nw', .int .i64 u, .int .i64 lo], .bool r, .int .i64 l]) ∧ Below w.heap.size w w' := by
  obtain ⟨f1, f2, n1, n2, u1, u2, l1, l2⟩ := hbat
  unfold aNow at hN; unfold aRan at hR
  have hl0 : 0 ≤ l := by omega
  have hl1 : l ≤ nw + s := by omega
  by_cases h1 : lo ≤ nw
  · by_cases h3 : u ≤ nw + s - l
    · obtain rfl : nw + s - l - u = nw' := by rw [if_pos h1] at hN; omega
      obtain rfl : true = r := by rw [← hR]; simp [h1]; omega
      have hM : max 0 (nw + s - l - u) = nw + s - l - u := by omega
      have HN := hide hN; have HR := hide hR
      clear hN hR
      go_enter Try.func82, Try.ntmps82
      go_wp2_with (go_at_call 75; refine (spec_most _ _ _ (by assumption) _).mono ?_; rintro e w' ⟨rfl, rfl⟩)
      all_goals
        go_returns
        exact ⟨by first | rfl | (simp; omega), by go_grown⟩
    · obtain rfl : 0 = nw' := by rw [if_pos h1] at hN; omega
      obtain rfl : false = r := by rw [← hR]; simp [h1]; omega
      have hM : max 0 (nw + s - l - u) = 0 := by omega
      have HN := hide hN; have HR := hide hR
      clear hN hR
      go_enter Try.func82, Try.ntmps82
      go_wp2_with (go_at_call 75; refine (spec_most _ _ _ (by assumption) _).mono ?_; rintro e w' ⟨rfl, rfl⟩)
      all_goals
        go_returns
        exact ⟨by first | rfl | (simp; omega), by go_grown⟩
  · obtain rfl : false = r := by rw [← hR]; simp [h1]
    obtain rfl : nw + s - l = nw' := by rw [if_neg h1] at hN; omega
    clear hN hR
    go_enter Try.func82, Try.ntmps82
    go_wp2_with (go_at_call 75; refine (spec_most _ _ _ (by assumption) _).mono ?_; rintro e w' ⟨rfl, rfl⟩)
    all_goals
      go_returns
      exact ⟨by first | rfl | (simp; omega), by go_grown⟩
end Go.Proofs.Ytfdgnjnnbhelgaa
