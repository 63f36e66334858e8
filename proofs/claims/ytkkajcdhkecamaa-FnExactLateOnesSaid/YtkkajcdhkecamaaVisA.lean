/- Chapter 23: errands. -/
import Derived.Test.YtkkajcdhkecamaaNum
import Derived.Test.YtkkajcdhkecamaaTyErrand
namespace Go.Proofs.Ytkkajcdhkecamaa
open Go.RowKit
set_option linter.unusedVariables false

def errB (s h r b : Int) : Bool := inB s 1 99 && inB h 1 12 && inB r 1 5 && inB b 1 200
theorem spec_err (s h r b : Int) (v : Bool) (hv : errB s h r b = v) (w : World) :
    Calls Try.prog 54 #[.agg #[.int .i64 s, .int .i64 h, .int .i64 r, .int .i64 b]] w fun e w' => e = .returned (.bool v) ∧ Below w.heap.size w w' := by
  unfold errB at hv
  cases h0 : inB s 1 99
  · skip
    obtain rfl : false = v := by simpa [h0] using hv
    go_enter Try.func54, Try.ntmps54
    go_wp2_with (first | (go_at_call 69; refine (spec_in _ _ _ _ (by assumption) _).mono ?_; rintro e w' ⟨rfl, rfl⟩))
    go_returns
    exact ⟨rfl, by go_grown⟩
  · skip
    cases h1 : inB h 1 12
    · skip
      obtain rfl : false = v := by simpa [h0, h1] using hv
      go_enter Try.func54, Try.ntmps54
      go_wp2_with (first | (go_at_call 69; refine (spec_in _ _ _ _ (by assumption) _).mono ?_; rintro e w' ⟨rfl, rfl⟩))
      go_returns
      exact ⟨rfl, by go_grown⟩
    · skip
      cases h2 : inB r 1 5
      · skip
        obtain rfl : false = v := by simpa [h0, h1, h2] using hv
        go_enter Try.func54, Try.ntmps54
        go_wp2_with (first | (go_at_call 69; refine (spec_in _ _ _ _ (by assumption) _).mono ?_; rintro e w' ⟨rfl, rfl⟩))
        go_returns
        exact ⟨rfl, by go_grown⟩
      · skip
        cases h3 : inB b 1 200
        · skip
          obtain rfl : false = v := by simpa [h0, h1, h2, h3] using hv
          go_enter Try.func54, Try.ntmps54
          go_wp2_with (first | (go_at_call 69; refine (spec_in _ _ _ _ (by assumption) _).mono ?_; rintro e w' ⟨rfl, rfl⟩))
          go_returns
          exact ⟨rfl, by go_grown⟩
        · skip
          obtain rfl : true = v := by simpa [h0, h1, h2, h3] using hv
          go_enter Try.func54, Try.ntmps54
          go_wp2_with (first | (go_at_call 69; refine (spec_in _ _ _ _ (by assumption) _).mono ?_; rintro e w' ⟨rfl, rfl⟩))
          go_returns
          exact ⟨rfl, by go_grown⟩
theorem impl_stationId (x : Int) (v : Bool) (hv : inB x 1 99 = v) (w : World) :
    Calls Try.prog 55 #[.int .i64 x] w fun e w' => e = .returned (.bool v) ∧ w = w' := by
  go_enter Try.func55, Try.ntmps55
  go_wp2_with (go_at_call 56; refine (impl_in _ _ _ _ (by assumption) _).mono ?_; rintro e w' ⟨rfl, rfl⟩)
  go_ret
  exact ⟨rfl, rfl⟩
theorem impl_err (s h r b : Int) (v : Bool) (hv : errB s h r b = v) (w : World) :
    Calls Try.prog 17 #[.agg #[.int .i64 s, .int .i64 h, .int .i64 r, .int .i64 b]] w fun e w' => e = .returned (.bool v) ∧ Below w.heap.size w w' := by
  unfold errB at hv
  cases h0 : inB s 1 99
  · skip
    obtain rfl : false = v := by simpa [h0] using hv
    go_enter Try.func17, Try.ntmps17
    go_wp2_with (first | (go_at_call 56; refine (impl_in _ _ _ _ (by assumption) _).mono ?_; rintro e w' ⟨rfl, rfl⟩) | (go_at_call 55; refine (impl_stationId _ _ (by assumption) _).mono ?_; rintro e w' ⟨rfl, rfl⟩))
    go_returns
    exact ⟨rfl, by go_grown⟩
  · skip
    cases h1 : inB h 1 12
    · skip
      obtain rfl : false = v := by simpa [h0, h1] using hv
      go_enter Try.func17, Try.ntmps17
      go_wp2_with (first | (go_at_call 56; refine (impl_in _ _ _ _ (by assumption) _).mono ?_; rintro e w' ⟨rfl, rfl⟩) | (go_at_call 55; refine (impl_stationId _ _ (by assumption) _).mono ?_; rintro e w' ⟨rfl, rfl⟩))
      go_returns
      exact ⟨rfl, by go_grown⟩
    · skip
      cases h2 : inB r 1 5
      · skip
        obtain rfl : false = v := by simpa [h0, h1, h2] using hv
        go_enter Try.func17, Try.ntmps17
        go_wp2_with (first | (go_at_call 56; refine (impl_in _ _ _ _ (by assumption) _).mono ?_; rintro e w' ⟨rfl, rfl⟩) | (go_at_call 55; refine (impl_stationId _ _ (by assumption) _).mono ?_; rintro e w' ⟨rfl, rfl⟩))
        go_returns
        exact ⟨rfl, by go_grown⟩
      · skip
        cases h3 : inB b 1 200
        · skip
          obtain rfl : false = v := by simpa [h0, h1, h2, h3] using hv
          go_enter Try.func17, Try.ntmps17
          go_wp2_with (first | (go_at_call 56; refine (impl_in _ _ _ _ (by assumption) _).mono ?_; rintro e w' ⟨rfl, rfl⟩) | (go_at_call 55; refine (impl_stationId _ _ (by assumption) _).mono ?_; rintro e w' ⟨rfl, rfl⟩))
          go_returns
          exact ⟨rfl, by go_grown⟩
        · skip
          obtain rfl : true = v := by simpa [h0, h1, h2, h3] using hv
          go_enter Try.func17, Try.ntmps17
          go_wp2_with (first | (go_at_call 56; refine (impl_in _ _ _ _ (by assumption) _).mono ?_; rintro e w' ⟨rfl, rfl⟩) | (go_at_call 55; refine (impl_stationId _ _ (by assumption) _).mono ?_; rintro e w' ⟨rfl, rfl⟩))
          go_returns
          exact ⟨rfl, by go_grown⟩
theorem spec_isErr (s h r b : Int) (v : Bool) (hv : errB s h r b = v) (w : World) :
    Calls Try.prog 15 #[.agg #[.int .i64 s, .int .i64 h, .int .i64 r, .int .i64 b]] w fun e w' => e = .returned (.bool v) ∧ Below w.heap.size w w' := by
  go_enter Try.func15, Try.ntmps15
  go_wp2_with fail
  refine (spec_err _ _ _ _ _ hv _).mono ?_
  rintro e w1 ⟨rfl, hb1⟩
  obtain ⟨qc1, qf1⟩ := bcell hb1
  have hz1 := hb1.size
  try simp only [World.size_alloc, World.size_setCell, World.size_drew] at hz1
  have hq1 : Below w.heap.size w w1 := below_call (by go_grown) hb1
  try have hl0_1 : w.heap.size < w1.heap.size := by omega
  try have hl1_1 : w.heap.size + 1 < w1.heap.size := by omega
  try have hl2_1 : w.heap.size + 2 < w1.heap.size := by omega
  try have hl3_1 : w.heap.size + 3 < w1.heap.size := by omega
  go_wp2
  go_returns
  exact ⟨rfl, hq1⟩
theorem err_id (s h r b : Int) (w : World) :
    Calls Try.prog 59 #[.agg #[.int .i64 s, .int .i64 h, .int .i64 r, .int .i64 b]] w fun e w' => e = .returned (.int .i64 s) ∧ Below w.heap.size w w' := by
  go_enter Try.func59, Try.ntmps59
  go_wp2
  go_returns
  exact ⟨rfl, by go_grown⟩

def errOk (X : Nat → Nat → Int) (i : Nat) : Prop := errB (X i 0) (X i 1) (X i 2) (X i 3) = true ∧ (0 < i → X (i - 1) 0 < X i 0)
instance (X : Nat → Nat → Int) (i : Nat) : Decidable (errOk X i) := by unfold errOk; infer_instance
def errsB (n : Nat) (X : Nat → Nat → Int) : Bool := decide (∀ i, i < n → errOk X i) && decide (n ≤ 12)
theorem errsB_no {n : Nat} {X : Nat → Nat → Int} {k : Nat} (hk : k < n) (h : ¬ errOk X k) : errsB n X = false := by
  unfold errsB
  rw [decide_eq_false (fun H => h (H k hk))]; rfl
theorem errsB_yes {n : Nat} {X : Nat → Nat → Int} (h : ∀ i, i < n → errOk X i) : errsB n X = decide (n ≤ 12) := by
  unfold errsB
  rw [decide_eq_true h]; rfl

theorem walk_FnExactIsErrand (a b c d : Int) (w : World) :
    Calls Try.prog 3 #[.agg #[.int .i64 a, .int .i64 b, .int .i64 c, .int .i64 d]] w fun e w' => e = .returned (.bool true) ∧ Below w.heap.size w w' := by
  cases hB : errB a b c d
  all_goals
    go_enter Try.func3, Try.ntmps3
    go_wp2_with fail
    refine (to_errand _ _ _ _ _).mono ?_
    rintro e w1 ⟨rfl, hb1⟩
    obtain ⟨qc1, qf1⟩ := bcell hb1
    have hz1 := hb1.size
    try simp only [World.size_alloc, World.size_setCell, World.size_drew] at hz1
    have hq1 : Below w.heap.size w w1 := below_call (by go_grown) hb1
    try have hl0_1 : w.heap.size < w1.heap.size := by omega
    try have hl1_1 : w.heap.size + 1 < w1.heap.size := by omega
    try have hl2_1 : w.heap.size + 2 < w1.heap.size := by omega
    try have hl3_1 : w.heap.size + 3 < w1.heap.size := by omega
    go_wp2_with fail
    refine (spec_isErr _ _ _ _ _ hB _).mono ?_
    rintro e w2 ⟨rfl, hb2⟩
    obtain ⟨qc2, qf2⟩ := bcell hb2
    have hz2 := hb2.size
    try simp only [World.size_alloc, World.size_setCell, World.size_drew] at hz2
    have hq2 : Below w.heap.size w w2 := below_call (by go_grown) hb2
    try have hl0_2 : w.heap.size < w2.heap.size := by omega
    try have hl1_2 : w.heap.size + 1 < w2.heap.size := by omega
    try have hl2_2 : w.heap.size + 2 < w2.heap.size := by omega
    try have hl3_2 : w.heap.size + 3 < w2.heap.size := by omega
    try have hn1_2 : w1.heap.size < w2.heap.size := by omega
    go_wp2_with fail
    refine (to_errand _ _ _ _ _).mono ?_
    rintro e w3 ⟨rfl, hb3⟩
    obtain ⟨qc3, qf3⟩ := bcell hb3
    have hz3 := hb3.size
    try simp only [World.size_alloc, World.size_setCell, World.size_drew] at hz3
    have hq3 : Below w.heap.size w w3 := below_call (by go_grown) hb3
    try have hl0_3 : w.heap.size < w3.heap.size := by omega
    try have hl1_3 : w.heap.size + 1 < w3.heap.size := by omega
    try have hl2_3 : w.heap.size + 2 < w3.heap.size := by omega
    try have hl3_3 : w.heap.size + 3 < w3.heap.size := by omega
    try have hn1_3 : w1.heap.size < w3.heap.size := by omega
    try have hn2_3 : w2.heap.size < w3.heap.size := by omega
    go_wp2_with fail
    refine (impl_err _ _ _ _ _ hB _).mono ?_
    rintro e w4 ⟨rfl, hb4⟩
    obtain ⟨qc4, qf4⟩ := bcell hb4
    have hz4 := hb4.size
    try simp only [World.size_alloc, World.size_setCell, World.size_drew] at hz4
    have hq4 : Below w.heap.size w w4 := below_call (by go_grown) hb4
    try have hl0_4 : w.heap.size < w4.heap.size := by omega
    try have hl1_4 : w.heap.size + 1 < w4.heap.size := by omega
    try have hl2_4 : w.heap.size + 2 < w4.heap.size := by omega
    try have hl3_4 : w.heap.size + 3 < w4.heap.size := by omega
    try have hn1_4 : w1.heap.size < w4.heap.size := by omega
    try have hn2_4 : w2.heap.size < w4.heap.size := by omega
    try have hn3_4 : w3.heap.size < w4.heap.size := by omega
    go_wp2
    go_returns
    exact ⟨rfl, hq4⟩

set_option maxHeartbeats 1000000 in
theorem spec_good23 (A : Option Addr) (n c : Nat) (X : Nat → Nat → Int) (v : Bool) (hv : errsB n X = v) (w : World) (hn : n ≤ 1048576) (ha : Arr w w.heap.size A n 4 (iv X)) :
    Calls Try.prog 57 #[.slice A n c] w fun e w' => e = .returned (.bool v) ∧ Below w.heap.size w w' := by
  have HV := hide hv
  clear hv
  go_enter Try.func57, Try.ntmps57
  go_wp2
  go_loopw [3] (fun i wr => ∃ k : Nat, k ≤ n ∧ i = .int .i64 k ∧ Below w.heap.size w wr ∧ ∀ i, i < k → errOk X i) (fun i _ => n - (intOf i).toNat)
  case atStart => exact ⟨0, Nat.zero_le _, rfl, by go_grown, all_zero⟩
  case round =>
    obtain ⟨k, hk, rfl, hb, hall⟩ := hrel
    by_cases hlt : k < n
    · obtain ⟨b, off, rfl, hbb, hc⟩ := ha (by omega)
      obtain ⟨q1, q2⟩ := bcell hb
      have c0 := hc k 0 hlt (by omega); have c1 := hc k 1 hlt (by omega); have c2 := hc k 2 hlt (by omega); have c3 := hc k 3 hlt (by omega)
      simp only [Nat.add_zero, iv] at c0 c1 c2 c3
      have HA := hide hall
      have hbl : b < wr.heap.size := by have := hb.size; omega
      have hx := BW.cell (w := wr)
      have HC := hide hc
      clear ha hall hc
      cases h1 : errB (X k 0) (X k 1) (X k 2) (X k 3)
      · go_wp2
        refine wp_region_bw (by kernel_rfl) (by kernel_rfl) ?_
        repeat (go_big_quiet_step ((first | (go_at_call 54; exact BW.call (spec_err _ _ _ _ _ (by assumption) _)))))
        refine wpQuiet_end fun w1 hb1 => ?_
        go_wp2
        go_ret
        exact ⟨ret_bool (by rw [← HV.out, errsB_no hlt (fun h => by simp [h.1] at h1)]; rfl), hb.trans (hb1.mono hb.size)⟩
      · rcases k with _ | p
        · simp only [Nat.zero_mul, Nat.add_zero] at c0 c1 c2 c3
          go_wp2
          refine wp_region_bw (by kernel_rfl) (by kernel_rfl) ?_
          repeat (go_big_quiet_step ((first | (go_at_call 54; exact BW.call (spec_err _ _ _ _ _ (by assumption) _)))))
          refine wpQuiet_end fun w1 hb1 => ?_
          go_wp2
          go_roundw
          case rel => exact ⟨1, by omega, by go_num, hb.trans (hb1.mono hb.size), all_snoc all_zero ⟨h1, by omega⟩⟩
          case measure => simp [intOf]; omega
        · have d0 := HC.out p 0 (by omega) (by omega)
          simp only [Nat.add_zero, iv] at d0
          by_cases h3 : X p 0 < X (p + 1) 0
          · go_wp2
            refine wp_region_bw (by kernel_rfl) (by kernel_rfl) ?_
            repeat (go_big_quiet_step ((first | (go_at_call 54; exact BW.call (spec_err _ _ _ _ _ (by assumption) _)))))
            refine wpQuiet_end fun w1 hb1 => ?_
            go_wp2
            go_roundw
            case rel => exact ⟨p + 2, by omega, by go_num, hb.trans (hb1.mono hb.size), all_snoc HA.out ⟨h1, fun _ => h3⟩⟩
            case measure => simp [intOf]; omega
          · have h4 : X (p + 1) 0 ≤ X p 0 := by omega
            go_wp2
            refine wp_region_bw (by kernel_rfl) (by kernel_rfl) ?_
            repeat (go_big_quiet_step ((first | (go_at_call 54; exact BW.call (spec_err _ _ _ _ _ (by assumption) _)))))
            refine wpQuiet_end fun w1 hb1 => ?_
            go_wp2
            go_ret
            exact ⟨ret_bool (by rw [← HV.out, errsB_no hlt (fun h => Int.not_lt.2 h4 (h.2 (by omega)))]; rfl), hb.trans (hb1.mono hb.size)⟩
    · obtain rfl : k = n := by omega
      have HA := hide hall
      clear hall
      go_wp2
      go_ret
      exact ⟨ret_bool (by rw [← HV.out, errsB_yes HA.out]; simp; omega), hb⟩
theorem spec_errs (A : Option Addr) (n c : Nat) (X : Nat → Nat → Int) (v : Bool) (hv : errsB n X = v) (w : World) (hn : n ≤ 1048576) (ha : Arr w w.heap.size A n 4 (iv X)) :
    Calls Try.prog 19 #[.slice A n c] w fun e w' => e = .returned (.bool v) ∧ Below w.heap.size w w' := by
  go_enter Try.func19, Try.ntmps19
  go_wp2_with fail
  refine (spec_good23 _ _ _ X _ hv _ hn ha).mono ?_
  rintro e w1 ⟨rfl, hb1⟩
  obtain ⟨qc1, qf1⟩ := bcell hb1
  have hz1 := hb1.size
  try simp only [World.size_alloc, World.size_setCell, World.size_drew] at hz1
  have hq1 : Below w.heap.size w w1 := below_call (by go_grown) hb1
  try have hl0_1 : w.heap.size < w1.heap.size := by omega
  try have hl1_1 : w.heap.size + 1 < w1.heap.size := by omega
  try have hl2_1 : w.heap.size + 2 < w1.heap.size := by omega
  try have hl3_1 : w.heap.size + 3 < w1.heap.size := by omega
  go_wp2
  go_returns
  exact ⟨rfl, hq1⟩

theorem below3 {w wr w1 : World} {o : Obj} (hb : Below w.heap.size w wr) (hb1 : Below (wr.alloc o).heap.size (wr.alloc o) w1) : Below w.heap.size w w1 := below_call (below_al hb) hb1

set_option maxHeartbeats 1000000 in
theorem impl_listed (A : Option Addr) (n c : Nat) (X : Nat → Nat → Int) (v : Bool) (hv : errsB n X = v) (w : World) (hn : n ≤ 1048576) (ha : Arr w w.heap.size A n 4 (iv X)) :
    Calls Try.prog 58 #[.slice A n c, .int .i64 12, .func (.func 17) #[] #[], .func (.func 59) #[] #[]] w fun e w' => e = .returned (.bool v) ∧ Below w.heap.size w w' := by
  have HV := hide hv
  clear hv
  go_enter Try.func58, Try.ntmps58
  go_wp2
  go_loopw [13] (fun i wr => ∃ k : Nat, k ≤ n ∧ i = .int .i64 k ∧ Below w.heap.size w wr ∧ ∀ i, i < k → errOk X i) (fun i _ => n - (intOf i).toNat)
  case atStart => exact ⟨0, Nat.zero_le _, rfl, by go_grown, all_zero⟩
  case round =>
    obtain ⟨k, hk, rfl, hb, hall⟩ := hrel
    by_cases hlt : k < n
    · obtain ⟨b, off, rfl, hbb, hc⟩ := ha (by omega)
      obtain ⟨q1, q2⟩ := bcell hb
      have c0 := hc k 0 hlt (by omega); have c1 := hc k 1 hlt (by omega); have c2 := hc k 2 hlt (by omega); have c3 := hc k 3 hlt (by omega)
      simp only [Nat.add_zero, iv] at c0 c1 c2 c3
      have HA := hide hall
      have hbl : b < wr.heap.size := by have := hb.size; omega
      have hx := fun (o : Obj) => BW.cell (w := wr.alloc o)
      have HC := hide hc
      clear ha hall hc
      cases h1 : errB (X k 0) (X k 1) (X k 2) (X k 3)
      · go_wp2
        refine wp_region_bw (by kernel_rfl) (by kernel_rfl) ?_
        repeat (go_big_quiet_step ((first | (go_at_call 17; exact BW.call (impl_err _ _ _ _ _ (by assumption) _)) | (go_at_call 59; exact BW.call (err_id _ _ _ _ _)))))
        refine wpQuiet_end fun w1 hb1 => ?_
        go_wp2
        go_ret
        exact ⟨ret_bool (by rw [← HV.out, errsB_no hlt (fun h => by simp [h.1] at h1)]; rfl), below3 hb hb1⟩
      · rcases k with _ | p
        · simp only [Nat.zero_mul, Nat.add_zero] at c0 c1 c2 c3
          go_wp2
          refine wp_region_bw (by kernel_rfl) (by kernel_rfl) ?_
          repeat (go_big_quiet_step ((first | (go_at_call 17; exact BW.call (impl_err _ _ _ _ _ (by assumption) _)) | (go_at_call 59; exact BW.call (err_id _ _ _ _ _)))))
          refine wpQuiet_end fun w1 hb1 => ?_
          go_wp2
          go_roundw
          case rel => exact ⟨1, by omega, by go_num, below3 hb hb1, all_snoc all_zero ⟨h1, by omega⟩⟩
          case measure => simp [intOf]; omega
        · have d0 := HC.out p 0 (by omega) (by omega); have d1 := HC.out p 1 (by omega) (by omega); have d2 := HC.out p 2 (by omega) (by omega); have d3 := HC.out p 3 (by omega) (by omega)
          simp only [Nat.add_zero, iv] at d0 d1 d2 d3
          by_cases h3 : X p 0 < X (p + 1) 0
          · go_wp2
            refine wp_region_bw (by kernel_rfl) (by kernel_rfl) ?_
            repeat (go_big_quiet_step ((first | (go_at_call 17; exact BW.call (impl_err _ _ _ _ _ (by assumption) _)) | (go_at_call 59; exact BW.call (err_id _ _ _ _ _)))))
            refine wpQuiet_end fun w1 hb1 => ?_
            go_wp2
            go_roundw
            case rel => exact ⟨p + 2, by omega, by go_num, below3 hb hb1, all_snoc HA.out ⟨h1, fun _ => h3⟩⟩
            case measure => simp [intOf]; omega
          · have h4 : X (p + 1) 0 ≤ X p 0 := by omega
            go_wp2
            refine wp_region_bw (by kernel_rfl) (by kernel_rfl) ?_
            repeat (go_big_quiet_step ((first | (go_at_call 17; exact BW.call (impl_err _ _ _ _ _ (by assumption) _)) | (go_at_call 59; exact BW.call (err_id _ _ _ _ _)))))
            refine wpQuiet_end fun w1 hb1 => ?_
            go_wp2
            go_ret
            exact ⟨ret_bool (by rw [← HV.out, errsB_no hlt (fun h => Int.not_lt.2 h4 (h.2 (by omega)))]; rfl), below3 hb hb1⟩
    · obtain rfl : k = n := by omega
      have HA := hide hall
      clear hall
      go_wp2
      go_ret
      exact ⟨ret_bool (by rw [← HV.out, errsB_yes HA.out]; simp; omega), hb⟩
theorem impl_errs (A : Option Addr) (n c : Nat) (X : Nat → Nat → Int) (v : Bool) (hv : errsB n X = v) (w : World) (hn : n ≤ 1048576) (ha : Arr w w.heap.size A n 4 (iv X)) :
    Calls Try.prog 21 #[.slice A n c] w fun e w' => e = .returned (.bool v) ∧ Below w.heap.size w w' := by
  go_enter Try.func21, Try.ntmps21
  go_wp2_with fail
  refine (impl_listed _ _ _ X _ hv _ hn ha).mono ?_
  rintro e w1 ⟨rfl, hb1⟩
  obtain ⟨qc1, qf1⟩ := bcell hb1
  have hz1 := hb1.size
  try simp only [World.size_alloc, World.size_setCell, World.size_drew] at hz1
  have hq1 : Below w.heap.size w w1 := below_call (by go_grown) hb1
  try have hl0_1 : w.heap.size < w1.heap.size := by omega
  try have hl1_1 : w.heap.size + 1 < w1.heap.size := by omega
  try have hl2_1 : w.heap.size + 2 < w1.heap.size := by omega
  try have hl3_1 : w.heap.size + 3 < w1.heap.size := by omega
  go_wp2
  go_returns
  exact ⟨rfl, hq1⟩

theorem walk_FnExactAreErrands (A : Option Addr) (n c : Nat) (X : Nat → Nat → Int) (w : World) (hn : n ≤ maxLen) (ha : Arr w w.heap.size A n 4 (iv X)) :
    Calls Try.prog 4 #[.slice A n c] w fun e w' => e = .returned (.bool true) ∧ Below w.heap.size w w' := by
  by_cases hs : (n : Int) ≤ 1048576
  · have hn' : n ≤ 1048576 := by omega
    have hr : (0 : Int) ≤ 1048576 - n := by omega
    cases hB : errsB n X
    all_goals
      go_enter Try.func4, Try.ntmps4
      go_wp2_with fail
      refine (sz_errandS_ok _ _ _ _ hs (by omega) _).mono ?_
      rintro e w0 ⟨rfl, rfl⟩
      go_wp2_with fail
      refine (to_errandS _ _ _ X _ hn' ha).mono ?_
      rintro e w1 ⟨v1, rfl, hb1, ho1⟩
      obtain ⟨qc1, qf1⟩ := bcell hb1
      have hz1 := hb1.size
      try simp only [World.size_alloc, World.size_setCell, World.size_drew] at hz1
      have hq1 : Below w.heap.size w w1 := below_call (by go_grown) hb1
      try have hl0_1 : w.heap.size < w1.heap.size := by omega
      try have hl1_1 : w.heap.size + 1 < w1.heap.size := by omega
      try have hl2_1 : w.heap.size + 2 < w1.heap.size := by omega
      try have hl3_1 : w.heap.size + 3 < w1.heap.size := by omega
      obtain ⟨A1, c1, rfl, hc1, ha1⟩ := ho1.arr
      go_wp2_with fail
      refine (spec_errs _ _ _ X _ hB _ hn' ha1).mono ?_
      rintro e w2 ⟨rfl, hb2⟩
      obtain ⟨qc2, qf2⟩ := bcell hb2
      have hz2 := hb2.size
      try simp only [World.size_alloc, World.size_setCell, World.size_drew] at hz2
      have hq2 : Below w.heap.size w w2 := below_call (by go_grown) hb2
      try have hl0_2 : w.heap.size < w2.heap.size := by omega
      try have hl1_2 : w.heap.size + 1 < w2.heap.size := by omega
      try have hl2_2 : w.heap.size + 2 < w2.heap.size := by omega
      try have hl3_2 : w.heap.size + 3 < w2.heap.size := by omega
      try have hn1_2 : w1.heap.size < w2.heap.size := by omega
      go_wp2_with fail
      refine (to_errandS _ _ _ X _ hn' (ha.on hq2)).mono ?_
      rintro e w3 ⟨v3, rfl, hb3, ho3⟩
      obtain ⟨qc3, qf3⟩ := bcell hb3
      have hz3 := hb3.size
      try simp only [World.size_alloc, World.size_setCell, World.size_drew] at hz3
      have hq3 : Below w.heap.size w w3 := below_call (by go_grown) hb3
      try have hl0_3 : w.heap.size < w3.heap.size := by omega
      try have hl1_3 : w.heap.size + 1 < w3.heap.size := by omega
      try have hl2_3 : w.heap.size + 2 < w3.heap.size := by omega
      try have hl3_3 : w.heap.size + 3 < w3.heap.size := by omega
      try have hn1_3 : w1.heap.size < w3.heap.size := by omega
      try have hn2_3 : w2.heap.size < w3.heap.size := by omega
      obtain ⟨A3, c3, rfl, hc3, ha3⟩ := ho3.arr
      go_wp2_with fail
      refine (impl_errs _ _ _ X _ hB _ hn' ha3).mono ?_
      rintro e w4 ⟨rfl, hb4⟩
      obtain ⟨qc4, qf4⟩ := bcell hb4
      have hz4 := hb4.size
      try simp only [World.size_alloc, World.size_setCell, World.size_drew] at hz4
      have hq4 : Below w.heap.size w w4 := below_call (by go_grown) hb4
      try have hl0_4 : w.heap.size < w4.heap.size := by omega
      try have hl1_4 : w.heap.size + 1 < w4.heap.size := by omega
      try have hl2_4 : w.heap.size + 2 < w4.heap.size := by omega
      try have hl3_4 : w.heap.size + 3 < w4.heap.size := by omega
      try have hn1_4 : w1.heap.size < w4.heap.size := by omega
      try have hn2_4 : w2.heap.size < w4.heap.size := by omega
      try have hn3_4 : w3.heap.size < w4.heap.size := by omega
      go_wp2_with fail
      refine (to_errandS _ _ _ X _ hn' (ha.on hq4)).mono ?_
      rintro e w5 ⟨v5, rfl, hb5, ho5⟩
      obtain ⟨qc5, qf5⟩ := bcell hb5
      have hz5 := hb5.size
      try simp only [World.size_alloc, World.size_setCell, World.size_drew] at hz5
      have hq5 : Below w.heap.size w w5 := below_call (by go_grown) hb5
      try have hl0_5 : w.heap.size < w5.heap.size := by omega
      try have hl1_5 : w.heap.size + 1 < w5.heap.size := by omega
      try have hl2_5 : w.heap.size + 2 < w5.heap.size := by omega
      try have hl3_5 : w.heap.size + 3 < w5.heap.size := by omega
      try have hn1_5 : w1.heap.size < w5.heap.size := by omega
      try have hn2_5 : w2.heap.size < w5.heap.size := by omega
      try have hn3_5 : w3.heap.size < w5.heap.size := by omega
      try have hn4_5 : w4.heap.size < w5.heap.size := by omega
      obtain ⟨A5, c5, rfl, hc5, ha5⟩ := ho5.arr
      go_wp2_with fail
      refine (eq_errandS _ _ _ _ _ _ X X true (eqX_self _ _ _) _ hn' hn' (ha3.on (below_call hb4 hb5)) ha5).mono ?_
      rintro e w6 ⟨rfl, hb6⟩
      obtain ⟨qc6, qf6⟩ := bcell hb6
      have hz6 := hb6.size
      try simp only [World.size_alloc, World.size_setCell, World.size_drew] at hz6
      have hq6 : Below w.heap.size w w6 := below_call (by go_grown) hb6
      try have hl0_6 : w.heap.size < w6.heap.size := by omega
      try have hl1_6 : w.heap.size + 1 < w6.heap.size := by omega
      try have hl2_6 : w.heap.size + 2 < w6.heap.size := by omega
      try have hl3_6 : w.heap.size + 3 < w6.heap.size := by omega
      try have hn1_6 : w1.heap.size < w6.heap.size := by omega
      try have hn2_6 : w2.heap.size < w6.heap.size := by omega
      try have hn3_6 : w3.heap.size < w6.heap.size := by omega
      try have hn4_6 : w4.heap.size < w6.heap.size := by omega
      try have hn5_6 : w5.heap.size < w6.heap.size := by omega
      go_wp2
      go_returns
      exact ⟨rfl, hq6⟩
  · have hs' : (1048576 : Int) < n := by omega
    go_enter Try.func4, Try.ntmps4
    go_wp2_with fail
    refine (sz_errandS_over _ _ _ _ hs' hn (by omega) (by omega) _).mono ?_
    rintro e w0 ⟨rfl, rfl⟩
    go_wp2
    go_returns
    exact ⟨rfl, Below.refl _ _⟩
end Go.Proofs.Ytkkajcdhkecamaa
