/- Chapter 23: errands. -/
import Derived.Test.YtfdgnjnnbhelgaaNum
import Derived.Test.YtfdgnjnnbhelgaaTyErrand
namespace Go.Proofs.Ytfdgnjnnbhelgaa
open Go.RowKit
set_option linter.unusedVariables false
set_option linter.unusedSimpArgs false

def errB (s h r b : Int) : Bool := inB s 1 99 && inB h 1 12 && inB r 1 5 && inB b 1 200
theorem spec_err (s h r b : Int) (v : Bool) (hv : errB s h r b = v) (w : World) :
    Calls Try.prog 114 #[.agg #[.int .i64 s, .int .i64 h, .int .i64 r, .int .i64 b]] w fun e w' => e = .returned (.bool v) ∧ Below w.heap.size w w' := by
  unfold errB at hv
  cases h0 : inB s 1 99
  · skip
    obtain rfl : false = v := by simpa [h0] using hv
    go_enter Try.func114, Try.ntmps114
    go_wp2_with (first | (go_at_call 108; refine (spec_in _ _ _ _ (by assumption) _).mono ?_; rintro e w' ⟨rfl, rfl⟩))
    go_returns
    exact ⟨rfl, by go_grown⟩
  · skip
    cases h1 : inB h 1 12
    · skip
      obtain rfl : false = v := by simpa [h0, h1] using hv
      go_enter Try.func114, Try.ntmps114
      go_wp2_with (first | (go_at_call 108; refine (spec_in _ _ _ _ (by assumption) _).mono ?_; rintro e w' ⟨rfl, rfl⟩))
      go_returns
      exact ⟨rfl, by go_grown⟩
    · skip
      cases h2 : inB r 1 5
      · skip
        obtain rfl : false = v := by simpa [h0, h1, h2] using hv
        go_enter Try.func114, Try.ntmps114
        go_wp2_with (first | (go_at_call 108; refine (spec_in _ _ _ _ (by assumption) _).mono ?_; rintro e w' ⟨rfl, rfl⟩))
        go_returns
        exact ⟨rfl, by go_grown⟩
      · skip
        cases h3 : inB b 1 200
        · skip
          obtain rfl : false = v := by simpa [h0, h1, h2, h3] using hv
          go_enter Try.func114, Try.ntmps114
          go_wp2_with (first | (go_at_call 108; refine (spec_in _ _ _ _ (by assumption) _).mono ?_; rintro e w' ⟨rfl, rfl⟩))
          go_returns
          exact ⟨rfl, by go_grown⟩
        · skip
          obtain rfl : true = v := by simpa [h0, h1, h2, h3] using hv
          go_enter Try.func114, Try.ntmps114
          go_wp2_with (first | (go_at_call 108; refine (spec_in _ _ _ _ (by assumption) _).mono ?_; rintro e w' ⟨rfl, rfl⟩))
          go_returns
          exact ⟨rfl, by go_grown⟩
theorem impl_stationId (x : Int) (v : Bool) (hv : inB x 1 99 = v) (w : World) :
    Calls Try.prog 113 #[.int .i64 x] w fun e w' => e = .returned (.bool v) ∧ w = w' := by
  go_enter Try.func113, Try.ntmps113
  go_wp2_with (go_at_call 81; refine (impl_in _ _ _ _ (by assumption) _).mono ?_; rintro e w' ⟨rfl, rfl⟩)
  go_ret
  exact ⟨rfl, rfl⟩
theorem impl_err (s h r b : Int) (v : Bool) (hv : errB s h r b = v) (w : World) :
    Calls Try.prog 61 #[.agg #[.int .i64 s, .int .i64 h, .int .i64 r, .int .i64 b]] w fun e w' => e = .returned (.bool v) ∧ Below w.heap.size w w' := by
  unfold errB at hv
  cases h0 : inB s 1 99
  · skip
    obtain rfl : false = v := by simpa [h0] using hv
    go_enter Try.func61, Try.ntmps61
    go_wp2_with (first | (go_at_call 81; refine (impl_in _ _ _ _ (by assumption) _).mono ?_; rintro e w' ⟨rfl, rfl⟩) | (go_at_call 113; refine (impl_stationId _ _ (by assumption) _).mono ?_; rintro e w' ⟨rfl, rfl⟩))
    go_returns
    exact ⟨rfl, by go_grown⟩
  · skip
    cases h1 : inB h 1 12
    · skip
      obtain rfl : false = v := by simpa [h0, h1] using hv
      go_enter Try.func61, Try.ntmps61
      go_wp2_with (first | (go_at_call 81; refine (impl_in _ _ _ _ (by assumption) _).mono ?_; rintro e w' ⟨rfl, rfl⟩) | (go_at_call 113; refine (impl_stationId _ _ (by assumption) _).mono ?_; rintro e w' ⟨rfl, rfl⟩))
      go_returns
      exact ⟨rfl, by go_grown⟩
    · skip
      cases h2 : inB r 1 5
      · skip
        obtain rfl : false = v := by simpa [h0, h1, h2] using hv
        go_enter Try.func61, Try.ntmps61
        go_wp2_with (first | (go_at_call 81; refine (impl_in _ _ _ _ (by assumption) _).mono ?_; rintro e w' ⟨rfl, rfl⟩) | (go_at_call 113; refine (impl_stationId _ _ (by assumption) _).mono ?_; rintro e w' ⟨rfl, rfl⟩))
        go_returns
        exact ⟨rfl, by go_grown⟩
      · skip
        cases h3 : inB b 1 200
        · skip
          obtain rfl : false = v := by simpa [h0, h1, h2, h3] using hv
          go_enter Try.func61, Try.ntmps61
          go_wp2_with (first | (go_at_call 81; refine (impl_in _ _ _ _ (by assumption) _).mono ?_; rintro e w' ⟨rfl, rfl⟩) | (go_at_call 113; refine (impl_stationId _ _ (by assumption) _).mono ?_; rintro e w' ⟨rfl, rfl⟩))
          go_returns
          exact ⟨rfl, by go_grown⟩
        · skip
          obtain rfl : true = v := by simpa [h0, h1, h2, h3] using hv
          go_enter Try.func61, Try.ntmps61
          go_wp2_with (first | (go_at_call 81; refine (impl_in _ _ _ _ (by assumption) _).mono ?_; rintro e w' ⟨rfl, rfl⟩) | (go_at_call 113; refine (impl_stationId _ _ (by assumption) _).mono ?_; rintro e w' ⟨rfl, rfl⟩))
          go_returns
          exact ⟨rfl, by go_grown⟩
theorem spec_isErr (s h r b : Int) (v : Bool) (hv : errB s h r b = v) (w : World) :
    Calls Try.prog 62 #[.agg #[.int .i64 s, .int .i64 h, .int .i64 r, .int .i64 b]] w fun e w' => e = .returned (.bool v) ∧ Below w.heap.size w w' := by
  go_enter Try.func62, Try.ntmps62
  go_wp2_with fail
  refine (spec_err _ _ _ _ _ hv _).mono ?_
  rintro e w1 ⟨rfl, hb1⟩
  obtain ⟨qc1, qf1⟩ := bcell hb1
  have hz1 := hb1.size
  try simp only [World.size_alloc, World.size_setCell, World.size_drew] at hz1
  have hq1 : Below w.heap.size w w1 := below_call (by go_grown) hb1
  try have hl0_1 : w.heap.size < w1.heap.size := by omega
  try have hl1_1 : w.heap.size + 1 < w1.heap.size := by omega
  try have hl2_1 : w.heap.size + 2 < w1.heap.size := by omega
  try have hl3_1 : w.heap.size + 3 < w1.heap.size := by omega
  go_wp2
  go_returns
  exact ⟨rfl, hq1⟩
theorem err_id (s h r b : Int) (w : World) :
    Calls Try.prog 111 #[.agg #[.int .i64 s, .int .i64 h, .int .i64 r, .int .i64 b]] w fun e w' => e = .returned (.int .i64 s) ∧ Below w.heap.size w w' := by
  go_enter Try.func111, Try.ntmps111
  go_wp2
  go_returns
  exact ⟨rfl, by go_grown⟩

def errOk (X : Nat → Nat → Int) (i : Nat) : Prop := errB (X i 0) (X i 1) (X i 2) (X i 3) = true ∧ (0 < i → X (i - 1) 0 < X i 0)
instance (X : Nat → Nat → Int) (i : Nat) : Decidable (errOk X i) := by unfold errOk; infer_instance
def errsB (n : Nat) (X : Nat → Nat → Int) : Bool := decide (∀ i, i < n → errOk X i) && decide (n ≤ 12)
theorem errsB_no {n : Nat} {X : Nat → Nat → Int} {k : Nat} (hk : k < n) (h : ¬ errOk X k) : errsB n X = false := by
  unfold errsB
  rw [decide_eq_false (fun H => h (H k hk))]; rfl
theorem errsB_yes {n : Nat} {X : Nat → Nat → Int} (h : ∀ i, i < n → errOk X i) : errsB n X = decide (n ≤ 12) := by
  unfold errsB
  rw [decide_eq_true h]; rfl

set_option maxHeartbeats 1000000 in
theorem spec_good23 (A : Option Addr) (n c : Nat) (X : Nat → Nat → Int) (v : Bool) (hv : errsB n X = v) (w : World) (hn : n ≤ 1048576) (ha : Arr w w.heap.size A n 4 (iv X)) :
    Calls Try.prog 90 #[.slice A n c] w fun e w' => e = .returned (.bool v) ∧ Below w.heap.size w w' := by
  have HV := hide hv
  clear hv
  go_enter Try.func90, Try.ntmps90
  go_wp2
  go_loopw [3] (fun i wr => ∃ k : Nat, k ≤ n ∧ i = .int .i64 k ∧ Below w.heap.size w wr ∧ ∀ i, i < k → errOk X i) (fun i _ => n - (intOf i).toNat)
  case atStart => exact ⟨0, Nat.zero_le _, rfl, by go_grown, all_zero⟩
  case round =>
    obtain ⟨k, hk, rfl, hb, hall⟩ := hrel
    by_cases hlt : k < n
    · obtain ⟨b, off, rfl, hbb, hc⟩ := ha (by omega)
      obtain ⟨q1, q2⟩ := bcell hb
      have c0 := hc k 0 hlt (by omega); have c1 := hc k 1 hlt (by omega); have c2 := hc k 2 hlt (by omega); have c3 := hc k 3 hlt (by omega)
      simp only [Nat.add_zero, iv] at c0 c1 c2 c3
      have HA := hide hall
      have hbl : b < wr.heap.size := by have := hb.size; omega
      have hx := BW.cell (w := wr)
      have HC := hide hc
      clear ha hall hc
      cases h1 : errB (X k 0) (X k 1) (X k 2) (X k 3)
      · go_wp2
        refine wp_region_bw (by kernel_rfl) (by kernel_rfl) ?_
        repeat (go_big_quiet_step ((first | (go_at_call 114; exact BW.call (spec_err _ _ _ _ _ (by assumption) _)))))
        refine wpQuiet_end fun w1 hb1 => ?_
        go_wp2
        go_ret
        exact ⟨ret_bool (by rw [← HV.out, errsB_no hlt (fun h => by simp [h.1] at h1)]; rfl), hb.trans (hb1.mono hb.size)⟩
      · rcases k with _ | p
        · simp only [Nat.zero_mul, Nat.add_zero] at c0 c1 c2 c3
          go_wp2
          refine wp_region_bw (by kernel_rfl) (by kernel_rfl) ?_
          repeat (go_big_quiet_step ((first | (go_at_call 114; exact BW.call (spec_err _ _ _ _ _ (by assumption) _)))))
          refine wpQuiet_end fun w1 hb1 => ?_
          go_wp2
          go_roundw
          case rel => exact ⟨1, by omega, by go_num, hb.trans (hb1.mono hb.size), all_snoc all_zero ⟨h1, by omega⟩⟩
          case measure => simp [intOf]; omega
        · have d0 := HC.out p 0 (by omega) (by omega)
          simp only [Nat.add_zero, iv] at d0
          by_cases h3 : X p 0 < X (p + 1) 0
          · go_wp2
            refine wp_region_bw (by kernel_rfl) (by kernel_rfl) ?_
            repeat (go_big_quiet_step ((first | (go_at_call 114; exact BW.call (spec_err _ _ _ _ _ (by assumption) _)))))
            refine wpQuiet_end fun w1 hb1 => ?_
            go_wp2
            go_roundw
            case rel => exact ⟨p + 2, by omega, by go_num, hb.trans (hb1.mono hb.size), all_snoc HA.out ⟨h1, fun _ => h3⟩⟩
            case measure => simp [intOf]; omega
          · have h4 : X (p + 1) 0 ≤ X p 0 := by omega
            go_wp2
            refine wp_region_bw (by kernel_rfl) (by kernel_rfl) ?_
            repeat (go_big_quiet_step ((first | (go_at_call 114; exact BW.call (spec_err _ _ _ _ _ (by assumption) _)))))
            refine wpQuiet_end fun w1 hb1 => ?_
            go_wp2
            go_ret
            exact ⟨ret_bool (by rw [← HV.out, errsB_no hlt (fun h => Int.not_lt.2 h4 (h.2 (by omega)))]; rfl), hb.trans (hb1.mono hb.size)⟩
    · obtain rfl : k = n := by omega
      have HA := hide hall
      clear hall
      go_wp2
      go_ret
      exact ⟨ret_bool (by rw [← HV.out, errsB_yes HA.out]; simp; omega), hb⟩
theorem below3 {w wr w1 : World} {o : Obj} (hb : Below w.heap.size w wr) (hb1 : Below (wr.alloc o).heap.size (wr.alloc o) w1) : Below w.heap.size w w1 := below_call (below_al hb) hb1

set_option maxHeartbeats 1000000 in
theorem impl_listed (A : Option Addr) (n c : Nat) (X : Nat → Nat → Int) (v : Bool) (hv : errsB n X = v) (w : World) (hn : n ≤ 1048576) (ha : Arr w w.heap.size A n 4 (iv X)) :
    Calls Try.prog 110 #[.slice A n c, .int .i64 12, .func (.func 61) #[] #[], .func (.func 111) #[] #[]] w fun e w' => e = .returned (.bool v) ∧ Below w.heap.size w w' := by
  have HV := hide hv
  clear hv
  go_enter Try.func110, Try.ntmps110
  go_wp2
  go_loopw [13] (fun i wr => ∃ k : Nat, k ≤ n ∧ i = .int .i64 k ∧ Below w.heap.size w wr ∧ ∀ i, i < k → errOk X i) (fun i _ => n - (intOf i).toNat)
  case atStart => exact ⟨0, Nat.zero_le _, rfl, by go_grown, all_zero⟩
  case round =>
    obtain ⟨k, hk, rfl, hb, hall⟩ := hrel
    by_cases hlt : k < n
    · obtain ⟨b, off, rfl, hbb, hc⟩ := ha (by omega)
      obtain ⟨q1, q2⟩ := bcell hb
      have c0 := hc k 0 hlt (by omega); have c1 := hc k 1 hlt (by omega); have c2 := hc k 2 hlt (by omega); have c3 := hc k 3 hlt (by omega)
      simp only [Nat.add_zero, iv] at c0 c1 c2 c3
      have HA := hide hall
      have hbl : b < wr.heap.size := by have := hb.size; omega
      have hx := fun (o : Obj) => BW.cell (w := wr.alloc o)
      have HC := hide hc
      clear ha hall hc
      cases h1 : errB (X k 0) (X k 1) (X k 2) (X k 3)
      · go_wp2
        refine wp_region_bw (by kernel_rfl) (by kernel_rfl) ?_
        repeat (go_big_quiet_step ((first | (go_at_call 61; exact BW.call (impl_err _ _ _ _ _ (by assumption) _)) | (go_at_call 111; exact BW.call (err_id _ _ _ _ _)))))
        refine wpQuiet_end fun w1 hb1 => ?_
        go_wp2
        go_ret
        exact ⟨ret_bool (by rw [← HV.out, errsB_no hlt (fun h => by simp [h.1] at h1)]; rfl), below3 hb hb1⟩
      · rcases k with _ | p
        · simp only [Nat.zero_mul, Nat.add_zero] at c0 c1 c2 c3
          go_wp2
          refine wp_region_bw (by kernel_rfl) (by kernel_rfl) ?_
          repeat (go_big_quiet_step ((first | (go_at_call 61; exact BW.call (impl_err _ _ _ _ _ (by assumption) _)) | (go_at_call 111; exact BW.call (err_id _ _ _ _ _)))))
          refine wpQuiet_end fun w1 hb1 => ?_
          go_wp2
          go_roundw
          case rel => exact ⟨1, by omega, by go_num, below3 hb hb1, all_snoc all_zero ⟨h1, by omega⟩⟩
          case measure => simp [intOf]; omega
        · have d0 := HC.out p 0 (by omega) (by omega); have d1 := HC.out p 1 (by omega) (by omega); have d2 := HC.out p 2 (by omega) (by omega); have d3 := HC.out p 3 (by omega) (by omega)
          simp only [Nat.add_zero, iv] at d0 d1 d2 d3
          by_cases h3 : X p 0 < X (p + 1) 0
          · go_wp2
            refine wp_region_bw (by kernel_rfl) (by kernel_rfl) ?_
            repeat (go_big_quiet_step ((first | (go_at_call 61; exact BW.call (impl_err _ _ _ _ _ (by assumption) _)) | (go_at_call 111; exact BW.call (err_id _ _ _ _ _)))))
            refine wpQuiet_end fun w1 hb1 => ?_
            go_wp2
            go_roundw
            case rel => exact ⟨p + 2, by omega, by go_num, below3 hb hb1, all_snoc HA.out ⟨h1, fun _ => h3⟩⟩
            case measure => simp [intOf]; omega
          · have h4 : X (p + 1) 0 ≤ X p 0 := by omega
            go_wp2
            refine wp_region_bw (by kernel_rfl) (by kernel_rfl) ?_
            repeat (go_big_quiet_step ((first | (go_at_call 61; exact BW.call (impl_err _ _ _ _ _ (by assumption) _)) | (go_at_call 111; exact BW.call (err_id _ _ _ _ _)))))
            refine wpQuiet_end fun w1 hb1 => ?_
            go_wp2
            go_ret
            exact ⟨ret_bool (by rw [← HV.out, errsB_no hlt (fun h => Int.not_lt.2 h4 (h.2 (by omega)))]; rfl), below3 hb hb1⟩
    · obtain rfl : k = n := by omega
      have HA := hide hall
      clear hall
      go_wp2
      go_ret
      exact ⟨ret_bool (by rw [← HV.out, errsB_yes HA.out]; simp; omega), hb⟩
theorem impl_errs (A : Option Addr) (n c : Nat) (X : Nat → Nat → Int) (v : Bool) (hv : errsB n X = v) (w : World) (hn : n ≤ 1048576) (ha : Arr w w.heap.size A n 4 (iv X)) :
    Calls Try.prog 58 #[.slice A n c] w fun e w' => e = .returned (.bool v) ∧ Below w.heap.size w w' := by
  go_enter Try.func58, Try.ntmps58
  go_wp2_with fail
  refine (impl_listed _ _ _ X _ hv _ hn ha).mono ?_
  rintro e w1 ⟨rfl, hb1⟩
  obtain ⟨qc1, qf1⟩ := bcell hb1
  have hz1 := hb1.size
  try simp only [World.size_alloc, World.size_setCell, World.size_drew] at hz1
  have hq1 : Below w.heap.size w w1 := below_call (by go_grown) hb1
  try have hl0_1 : w.heap.size < w1.heap.size := by omega
  try have hl1_1 : w.heap.size + 1 < w1.heap.size := by omega
  try have hl2_1 : w.heap.size + 2 < w1.heap.size := by omega
  try have hl3_1 : w.heap.size + 3 < w1.heap.size := by omega
  go_wp2
  go_returns
  exact ⟨rfl, hq1⟩

end Go.Proofs.Ytfdgnjnnbhelgaa
