/- Chapter 24: is a list a bulletin? Both sides: made by bul2gen.py. -/
import Derived.Test.YteklalbjlmkagaaRowQ
import Derived.Test.YteklalbjlmkagaaDifQuakeRow
namespace Go.Proofs.Yteklalbjlmkagaa
open Go.RowKit
set_option linter.unusedVariables false
set_option linter.unusedSimpArgs false

def rowOk (X : Nat → Nat → Int) (i : Nat) : Prop := rowB (X i 0) (X i 1) (X i 2) (X i 3) (X i 4) (X i 5) (X i 6) = true ∧ (0 < i → X (i - 1) 1 < X i 1)
instance (X : Nat → Nat → Int) (i : Nat) : Decidable (rowOk X i) := by unfold rowOk; infer_instance
def idsOk (X : Nat → Nat → Int) (i : Nat) : Prop := ∀ k, k < i → X k 0 ≠ X i 0
def listB (n : Nat) (X : Nat → Nat → Int) : Bool := decide (∀ i, i < n → rowOk X i) && decide (n ≤ 12)
def diffQ (n : Nat) (X : Nat → Nat → Int) : Bool := decide (∀ i, i < n → ∀ k, k < i → X k 0 ≠ X i 0)
def bulB (n : Nat) (X : Nat → Nat → Int) : Bool := listB n X && diffQ n X
theorem bulB_row {n : Nat} {X : Nat → Nat → Int} {k : Nat} (hk : k < n) (h : ¬ rowOk X k) : bulB n X = false := by
  unfold bulB listB
  rw [decide_eq_false (fun H => h (H k hk))]; rfl
theorem bulB_id {n : Nat} {X : Nat → Nat → Int} {k j : Nat} (hk : k < n) (hj : j < k) (h : X j 0 = X k 0) : bulB n X = false := by
  unfold bulB diffQ
  rw [decide_eq_false (fun H => H k hk j hj h)]; simp
theorem bulB_big {n : Nat} {X : Nat → Nat → Int} (h : 12 < n) : bulB n X = false := by
  unfold bulB listB
  rw [decide_eq_false (p := n ≤ 12) (by omega)]; simp
theorem bulB_yes {n : Nat} {X : Nat → Nat → Int} (h : ∀ i, i < n → rowOk X i ∧ idsOk X i) (hn : n ≤ 12) : bulB n X = true := by
  unfold bulB listB diffQ
  rw [decide_eq_true (fun i hi => (h i hi).1), decide_eq_true hn, decide_eq_true (fun i hi k hk => (h i hi).2 k hk)]; rfl


theorem listB_bad {n : Nat} {X : Nat → Nat → Int} {k : Nat} (hk : k < n) (h : ¬ rowOk X k) : listB n X = false := by
  unfold listB
  rw [decide_eq_false (fun H => h (H k hk))]; rfl
theorem listB_end {n : Nat} {X : Nat → Nat → Int} (h : ∀ i, i < n → rowOk X i) : listB n X = decide ((n : Int) ≤ 12) := by
  unfold listB
  rw [decide_eq_true h, Bool.true_and]
  apply decide_eq_decide.2
  omega
theorem row_id {X : Nat → Nat → Int} {i : Nat} (h : rowOk X i) : 0 ≤ X i 0 ∧ X i 0 ≤ 1048576 := by
  have := h.1
  simp only [rowB, Bool.and_eq_true] at this
  have := inB_of this.1.1.1.1.1
  omega

set_option maxHeartbeats 4000000 in
set_option maxRecDepth 100000 in
theorem spec_good24 (A : Option Addr) (n c : Nat) (X : Nat → Nat → Int) (v : Bool) (hv : bulB n X = v) (w : World) (hn : n ≤ 1048576) (ha : Arr w w.heap.size A n 7 (iv X)) :
    Calls Try.prog 59 #[.slice A n c] w fun e w' => e = .returned (.bool v) ∧ Below w.heap.size w w' := by
  have HV := hide hv
  clear hv
  go_enter Try.func59, Try.ntmps59
  go_wp2
  go_loopw [3] (fun i wr => ∃ k : Nat, k ≤ n ∧ k ≤ 13 ∧ i = .int .i64 k ∧ Below w.heap.size w wr ∧ ∀ i, i < k → rowOk X i ∧ idsOk X i) (fun i _ => n - (intOf i).toNat)
  case atStart => exact ⟨0, Nat.zero_le _, Nat.zero_le _, rfl, by go_grown, all_zero⟩
  case round =>
    obtain ⟨k, hk, hk13, rfl, hb, hall⟩ := hrel
    have HA := hide hall
    clear hall
    by_cases hlt : k < n
    · by_cases hle : k ≤ 12
      · obtain ⟨b, off, rfl, hbb, hc⟩ := ha (by omega)
        obtain ⟨q1, q2⟩ := bcell hb
        have hsb := hb.size
        have c0 := hc k 0 hlt (by omega); have c1 := hc k 1 hlt (by omega); have c2 := hc k 2 hlt (by omega); have c3 := hc k 3 hlt (by omega); have c4 := hc k 4 hlt (by omega); have c5 := hc k 5 hlt (by omega); have c6 := hc k 6 hlt (by omega)
        simp only [Nat.add_zero, iv] at c0 c1 c2 c3 c4 c5 c6
        have hbl : b < wr.heap.size := by omega
        have hx := BW.cell (w := wr)
        have HC := hide hc
        clear ha hc
        cases h1 : rowB (X k 0) (X k 1) (X k 2) (X k 3) (X k 4) (X k 5) (X k 6)
        · go_wp2
          refine wp_region_bw (by kernel_rfl) (by kernel_rfl) ?_
          repeat (go_big_quiet_step ((first | (go_at_call 79; exact BW.call (spec_row _ _ _ _ _ _ _ _ (by assumption) _)))))
          refine wpQuiet_end fun w1 hb1 => ?_
          go_wp2
          go_ret
          exact ⟨ret_bool (by rw [← HV.out, bulB_row hlt (fun h => by simp [h.1] at h1)]; try rfl), hb.trans (hb1.mono hb.size)⟩
        · rcases k with _ | p
          · simp only [Nat.zero_mul, Nat.add_zero] at c0 c1 c2 c3 c4 c5 c6
            have HOK := hide (show rowOk X 0 from ⟨h1, fun h => absurd h (by omega)⟩)
            go_wp2
            refine wp_region_bw (by kernel_rfl) (by kernel_rfl) ?_
            repeat (go_big_quiet_step ((first | (go_at_call 79; exact BW.call (spec_row _ _ _ _ _ _ _ _ (by assumption) _)))))
            refine wpQuiet_end fun w1 hb1 => ?_
            clear hx
            have hbw1 : Below w.heap.size w w1 := hb.trans (hb1.mono hb.size)
            go_wp2
            go_loopw [4] (fun y wq => ∃ j : Nat, j ≤ 0 ∧ y = .int .i64 j ∧ Below w.heap.size w wq ∧ ∀ i, i < j → X i 0 ≠ X 0 0) (fun y _ => 0 - (intOf y).toNat)
            case atStart => exact ⟨0, Nat.zero_le _, rfl, hbw1, all_zero⟩
            case round =>
              obtain ⟨j, hj, rfl, hbq, hall2⟩ := hrel
              have HI := hide hall2
              clear hall2
              obtain rfl : j = 0 := by omega
              go_wp2
              go_roundw
              case rel => exact ⟨1, by omega, by omega, by go_num, hbq, all_snoc all_zero ⟨HOK.out, HI.out⟩⟩
              case measure => simp [intOf]; omega
          · have d1 := HC.out p 1 (by omega) (by omega)
            simp only [Nat.add_zero, iv] at d1
            by_cases h3 : X p 1 < X (p + 1) 1
            · have h3f : decide (X (p + 1) 1 ≤ X p 1) = false := decide_eq_false (by omega)
              have HOK := hide (show rowOk X (p + 1) from ⟨h1, fun _ => h3⟩)
              go_wp2
              refine wp_region_bw (by kernel_rfl) (by kernel_rfl) ?_
              repeat (go_big_quiet_step ((first | (go_at_call 79; exact BW.call (spec_row _ _ _ _ _ _ _ _ (by assumption) _)))))
              refine wpQuiet_end fun w1 hb1 => ?_
              clear hx
              have hbw1 : Below w.heap.size w w1 := hb.trans (hb1.mono hb.size)
              go_wp2
              go_loopw [4] (fun y wq => ∃ j : Nat, j ≤ (p + 1) ∧ y = .int .i64 j ∧ Below w.heap.size w wq ∧ ∀ i, i < j → X i 0 ≠ X (p + 1) 0) (fun y _ => (p + 1) - (intOf y).toNat)
              case atStart => exact ⟨0, Nat.zero_le _, rfl, hbw1, all_zero⟩
              case round =>
                obtain ⟨j, hj, rfl, hbq, hall2⟩ := hrel
                have HI := hide hall2
                clear hall2
                by_cases hjl : j < (p + 1)
                · have e0 := HC.out j 0 (by omega) (by omega)
                  simp only [Nat.add_zero, iv] at e0
                  have hsq := hbq.size
                  have e0r := (hbq.cell (p := ⟨b, _, none⟩) hbb).trans e0
                  have c0r := (hbq.cell (p := ⟨b, _, none⟩) hbb).trans c0
                  have hblq : b < wr.heap.size := by omega
                  have hxq := BW.cell (w := wr)
                  by_cases he : X j 0 = X (p + 1) 0
                  · have he1 : (X j 0 == X (p + 1) 0) = true := by simp [he]
                    go_wp2
                    refine wp_region_bw (by kernel_rfl) (by kernel_rfl) ?_
                    repeat (go_big_quiet_step ((first | fail)))
                    refine wpQuiet_end fun w1 hb1 => ?_
                    clear hxq
                    go_wp2
                    go_ret
                    exact ⟨ret_bool (by rw [← HV.out, bulB_id hlt hjl he]; try rfl), hbq.trans (hb1.mono hbq.size)⟩
                  · have he1 : (X j 0 == X (p + 1) 0) = false := by simp [he]
                    have HE := hide he
                    clear he
                    go_wp2
                    refine wp_region_bw (by kernel_rfl) (by kernel_rfl) ?_
                    repeat (go_big_quiet_step ((first | fail)))
                    refine wpQuiet_end fun w1 hb1 => ?_
                    clear hxq
                    go_wp2
                    go_roundw
                    case rel => exact ⟨j + 1, by omega, by go_num, hbq.trans (hb1.mono hbq.size), all_snoc HI.out HE.out⟩
                    case measure => simp [intOf]; omega
                · obtain rfl : j = (p + 1) := by omega
                  go_wp2
                  go_roundw
                  case rel => exact ⟨(p + 1) + 1, by omega, by omega, by go_num, hbq, all_snoc HA.out ⟨HOK.out, HI.out⟩⟩
                  case measure => simp [intOf]; omega
            · have h3f : decide (X (p + 1) 1 ≤ X p 1) = true := decide_eq_true (by omega)
              go_wp2
              refine wp_region_bw (by kernel_rfl) (by kernel_rfl) ?_
              repeat (go_big_quiet_step ((first | (go_at_call 79; exact BW.call (spec_row _ _ _ _ _ _ _ _ (by assumption) _)))))
              refine wpQuiet_end fun w1 hb1 => ?_
              go_wp2
              go_ret
              exact ⟨ret_bool (by rw [← HV.out, bulB_row hlt (fun h => by have := h.2 (by omega); simp only [Nat.add_sub_cancel] at this; omega)]; try rfl), hb.trans (hb1.mono hb.size)⟩
      · have hle2 : decide ((k : Int) ≤ 12) = false := decide_eq_false (by omega)
        have hle3 : decide ((n : Int) ≤ 12) = false := decide_eq_false (by omega)
        go_wp2
        go_ret
        exact ⟨ret_bool (by rw [← HV.out, bulB_big (by omega)]; simp <;> omega), hb⟩
    · obtain rfl : k = n := by omega
      by_cases hle : k ≤ 12
      · go_wp2
        go_ret
        exact ⟨ret_bool (by rw [← HV.out, bulB_yes HA.out hle]; simp <;> omega), hb⟩
      · go_wp2
        go_ret
        exact ⟨ret_bool (by rw [← HV.out, bulB_big (by omega)]; simp <;> omega), hb⟩
theorem spec_bul (A : Option Addr) (n c : Nat) (X : Nat → Nat → Int) (v : Bool) (hv : bulB n X = v) (w : World) (hn : n ≤ 1048576) (ha : Arr w w.heap.size A n 7 (iv X)) :
    Calls Try.prog 28 #[.slice A n c] w fun e w' => e = .returned (.bool v) ∧ Below w.heap.size w w' := by
  go_enter Try.func28, Try.ntmps28
  go_wp2_with fail
  refine (spec_good24 _ _ _ X _ hv _ hn ha).mono ?_
  rintro e w1 ⟨rfl, hb1⟩
  obtain ⟨qc1, qf1⟩ := bcell hb1
  have hz1 := hb1.size
  try simp only [World.size_alloc, World.size_setCell, World.size_drew] at hz1
  have hq1 : Below w.heap.size w w1 := below_call (by go_grown) hb1
  try have hl0_1 : w.heap.size < w1.heap.size := by omega
  try have hl1_1 : w.heap.size + 1 < w1.heap.size := by omega
  try have hl2_1 : w.heap.size + 2 < w1.heap.size := by omega
  try have hl3_1 : w.heap.size + 3 < w1.heap.size := by omega
  go_wp2
  go_returns
  exact ⟨rfl, hq1⟩
theorem key_tick (x0 x1 x2 x3 x4 x5 x6 : Int) (w : World) : Calls Try.prog 63 #[.agg #[.int .i64 x0, .int .i64 x1, .int .i64 x2, .int .i64 x3, .int .i64 x4, .int .i64 x5, .int .i64 x6]] w fun e w' => e = .returned (.int .i64 x1) ∧ Below w.heap.size w w' := by
  go_enter Try.func63, Try.ntmps63
  go_wp2
  go_returns
  exact ⟨rfl, by go_grown⟩
set_option maxHeartbeats 4000000 in
set_option maxRecDepth 100000 in
theorem impl_listed (A : Option Addr) (n c : Nat) (X : Nat → Nat → Int) (v : Bool) (hv : listB n X = v) (w : World) (hn : n ≤ 1048576) (ha : Arr w w.heap.size A n 7 (iv X)) :
    Calls Try.prog 61 #[.slice A n c, .int .i64 12, .func (.func 62) #[] #[], .func (.func 63) #[] #[]] w fun e w' => e = .returned (.bool v) ∧ Below w.heap.size w w' := by
  have HV := hide hv
  clear hv
  go_enter Try.func61, Try.ntmps61
  go_wp2
  go_loopw [13] (fun i wr => ∃ k : Nat, k ≤ n ∧ i = .int .i64 k ∧ Below w.heap.size w wr ∧ ∀ i, i < k → rowOk X i) (fun i _ => n - (intOf i).toNat)
  case atStart => exact ⟨0, Nat.zero_le _, rfl, by go_grown, all_zero⟩
  case round =>
    obtain ⟨k, hk, rfl, hb, hall⟩ := hrel
    have HA := hide hall
    clear hall
    by_cases hlt : k < n
    · obtain ⟨b, off, rfl, hbb, hc⟩ := ha (by omega)
      obtain ⟨q1, q2⟩ := bcell hb
      have hsb := hb.size
      have c0 := hc k 0 hlt (by omega); have c1 := hc k 1 hlt (by omega); have c2 := hc k 2 hlt (by omega); have c3 := hc k 3 hlt (by omega); have c4 := hc k 4 hlt (by omega); have c5 := hc k 5 hlt (by omega); have c6 := hc k 6 hlt (by omega)
      simp only [Nat.add_zero, iv] at c0 c1 c2 c3 c4 c5 c6
      have hbl : b < wr.heap.size := by omega
      have hx := BW.cell (w := wr.alloc (.cells #[.int .i64 (X k 0), .int .i64 (X k 1), .int .i64 (X k 2), .int .i64 (X k 3), .int .i64 (X k 4), .int .i64 (X k 5), .int .i64 (X k 6)] 82))
      have HC := hide hc
      clear ha hc
      cases h1 : rowB (X k 0) (X k 1) (X k 2) (X k 3) (X k 4) (X k 5) (X k 6)
      · go_wp2
        refine wp_region_bw (by kernel_rfl) (by kernel_rfl) ?_
        repeat (go_big_quiet_step ((first | (go_at_call 62; exact BW.call (impl_row _ _ _ _ _ _ _ _ (by assumption) _)) | (go_at_call 63; exact BW.call (key_tick _ _ _ _ _ _ _ _)))))
        refine wpQuiet_end fun w1 hb1 => ?_
        clear hx
        go_wp2
        go_ret
        exact ⟨ret_bool (by rw [← HV.out, listB_bad hlt (fun h => by simp [h.1] at h1)]; try rfl), below_call (below_al hb) hb1⟩
      · rcases k with _ | p
        · simp only [Nat.zero_mul, Nat.add_zero] at c0 c1 c2 c3 c4 c5 c6
          have HOK := hide (show rowOk X 0 from ⟨h1, fun h => absurd h (by omega)⟩)
          go_wp2
          refine wp_region_bw (by kernel_rfl) (by kernel_rfl) ?_
          repeat (go_big_quiet_step ((first | (go_at_call 62; exact BW.call (impl_row _ _ _ _ _ _ _ _ (by assumption) _)) | (go_at_call 63; exact BW.call (key_tick _ _ _ _ _ _ _ _)))))
          refine wpQuiet_end fun w1 hb1 => ?_
          clear hx
          go_wp2
          go_roundw
          case rel => exact ⟨1, by omega, by go_num, below_call (below_al hb) hb1, all_snoc all_zero HOK.out⟩
          case measure => simp [intOf]; omega
        · have d0 := HC.out p 0 (by omega) (by omega); have d1 := HC.out p 1 (by omega) (by omega); have d2 := HC.out p 2 (by omega) (by omega); have d3 := HC.out p 3 (by omega) (by omega); have d4 := HC.out p 4 (by omega) (by omega); have d5 := HC.out p 5 (by omega) (by omega); have d6 := HC.out p 6 (by omega) (by omega)
          simp only [Nat.add_zero, iv] at d0 d1 d2 d3 d4 d5 d6
          by_cases h3 : X p 1 < X (p + 1) 1
          · have h3f : decide (X (p + 1) 1 ≤ X p 1) = false := decide_eq_false (by omega)
            have HOK := hide (show rowOk X (p + 1) from ⟨h1, fun _ => h3⟩)
            go_wp2
            refine wp_region_bw (by kernel_rfl) (by kernel_rfl) ?_
            repeat (go_big_quiet_step ((first | (go_at_call 62; exact BW.call (impl_row _ _ _ _ _ _ _ _ (by assumption) _)) | (go_at_call 63; exact BW.call (key_tick _ _ _ _ _ _ _ _)))))
            refine wpQuiet_end fun w1 hb1 => ?_
            clear hx
            go_wp2
            go_roundw
            case rel => exact ⟨p + 1 + 1, by omega, by go_num, below_call (below_al hb) hb1, all_snoc HA.out HOK.out⟩
            case measure => simp [intOf]; omega
          · have h3f : decide (X (p + 1) 1 ≤ X p 1) = true := decide_eq_true (by omega)
            go_wp2
            refine wp_region_bw (by kernel_rfl) (by kernel_rfl) ?_
            repeat (go_big_quiet_step ((first | (go_at_call 62; exact BW.call (impl_row _ _ _ _ _ _ _ _ (by assumption) _)) | (go_at_call 63; exact BW.call (key_tick _ _ _ _ _ _ _ _)))))
            refine wpQuiet_end fun w1 hb1 => ?_
            clear hx
            go_wp2
            go_ret
            exact ⟨ret_bool (by rw [← HV.out, listB_bad hlt (fun h => by have := h.2 (by omega); simp only [Nat.add_sub_cancel] at this; omega)]; try rfl), below_call (below_al hb) hb1⟩
    · obtain rfl : k = n := by omega
      have he := listB_end HA.out
      rw [HV.out] at he
      have HE := hide he
      clear he
      go_wp2
      go_ret
      exact ⟨ret_bool (by rw [HE.out]; try rfl), hb⟩
set_option maxHeartbeats 1000000 in
theorem impl_bul (A : Option Addr) (n c : Nat) (X : Nat → Nat → Int) (v : Bool) (hv : bulB n X = v) (w : World) (hn : n ≤ 1048576) (ha : Arr w w.heap.size A n 7 (iv X)) :
    Calls Try.prog 30 #[.slice A n c] w fun e w' => e = .returned (.bool v) ∧ Below w.heap.size w w' := by
  have HV := hide hv
  clear hv
  cases h1 : listB n X
  · obtain rfl : false = v := by rw [← HV.out]; unfold bulB; rw [h1]; rfl
    go_enter Try.func30, Try.ntmps30
    go_wp2_with fail
    refine (impl_listed _ _ _ X _ h1 _ hn ha).mono ?_
    rintro e w1 ⟨rfl, hb1⟩
    obtain ⟨qc1, qf1⟩ := bcell hb1
    have hz1 := hb1.size
    try simp only [World.size_alloc, World.size_setCell, World.size_drew] at hz1
    have hq1 : Below w.heap.size w w1 := below_call (by go_grown) hb1
    try have hl0_1 : w.heap.size < w1.heap.size := by omega
    try have hl1_1 : w.heap.size + 1 < w1.heap.size := by omega
    try have hl2_1 : w.heap.size + 2 < w1.heap.size := by omega
    try have hl3_1 : w.heap.size + 3 < w1.heap.size := by omega
    go_wp2
    go_ret
    exact ⟨rfl, hq1⟩
  · have hd : diffF n (fun i => X i 0) = v := by rw [← HV.out]; unfold bulB; rw [h1]; rfl
    have hids : ∀ i, i < n → 0 ≤ X i 0 ∧ X i 0 ≤ 1048576 := fun i hi => by
      unfold listB at h1
      simp only [Bool.and_eq_true] at h1
      exact row_id (of_decide_eq_true h1.1 i hi)
    have HD := hide hd
    clear hd
    go_enter Try.func30, Try.ntmps30
    go_wp2_with fail
    refine (impl_listed _ _ _ X _ h1 _ hn ha).mono ?_
    rintro e w1 ⟨rfl, hb1⟩
    obtain ⟨qc1, qf1⟩ := bcell hb1
    have hz1 := hb1.size
    try simp only [World.size_alloc, World.size_setCell, World.size_drew] at hz1
    have hq1 : Below w.heap.size w w1 := below_call (by go_grown) hb1
    try have hl0_1 : w.heap.size < w1.heap.size := by omega
    try have hl1_1 : w.heap.size + 1 < w1.heap.size := by omega
    try have hl2_1 : w.heap.size + 2 < w1.heap.size := by omega
    try have hl3_1 : w.heap.size + 3 < w1.heap.size := by omega
    go_wp2_with fail
    refine (differ_quakeRow _ _ _ X _ HD.out _ hn (ha.on hq1) hids).mono ?_
    rintro e w2 ⟨rfl, hb2⟩
    go_wp2
    go_ret
    exact ⟨rfl, below_call hq1 hb2⟩
end Go.Proofs.Yteklalbjlmkagaa
