/- Chapter 18: is a fault valid? The program's side: made by faugen.py. -/
import Derived.Test.YtbpeamjgddikjaaFauS
namespace Go.Proofs.Ytbpeamjgddikjaa
open Go.RowKit
set_option linter.unusedVariables false
set_option linter.unusedSimpArgs false

theorem not_bend (x y : Int) (v : Bool) (hv : plB x y = v) (bh : Nat) (w : World) (hh : Cells w bh [.func (.func 51) #[] #[]]) :
    Calls Try.prog 84 #[.agg #[.int .i64 x, .int .i64 y], .pointer (some ⟨bh, 0, none⟩)] w fun e w' => e = .returned (.bool (!v)) ∧ Below w.heap.size w w' := by
  have l0 := hh.2 0 _ rfl
  have l1 := hh.1
  go_enter Try.func84, Try.ntmps84
  go_wp2_with fail
  refine (impl_bend _ _ _ hv _).mono ?_
  rintro e w1 ⟨rfl, hb1⟩
  obtain ⟨qc1, qf1⟩ := bcell hb1
  have hz1 := hb1.size
  try simp only [World.size_alloc, World.size_setCell, World.size_drew] at hz1
  have hq1 : Below w.heap.size w w1 := below_call (by go_grown) hb1
  try have hl0_1 : w.heap.size < w1.heap.size := by omega
  try have hl1_1 : w.heap.size + 1 < w1.heap.size := by omega
  try have hl2_1 : w.heap.size + 2 < w1.heap.size := by omega
  try have hl3_1 : w.heap.size + 3 < w1.heap.size := by omega
  go_wp2
  go_ret
  exact ⟨rfl, hq1⟩
set_option maxHeartbeats 1000000 in
theorem idx_bend (bh : Nat) (A : Option Addr) (n c : Nat) (X : Nat → Nat → Int) (w : World) (hn : n ≤ 1048576) (ha : Arr w w.heap.size A n 2 (iv X)) (hh : Cells w bh [.func (.func 51) #[] #[]]) :
    Calls Try.prog 93 #[.slice A n c, .func (.func 84) #[] #[.pointer (some ⟨bh, 0, none⟩)]] w fun e w' => ∃ r : Int, e = .returned (.int .i64 r) ∧ (!decide (0 ≤ r)) = plAll n X ∧ Below w.heap.size w w' := by
  go_enter Try.func93, Try.ntmps93
  go_wp2
  go_loopw [8] (fun y wr => ∃ k : Nat, k ≤ n ∧ y = .int .i64 k ∧ Below w.heap.size w wr ∧ ∀ i, i < k → plB (X i 0) (X i 1) = true) (fun y _ => n - (intOf y).toNat)
  case atStart => exact ⟨0, Nat.zero_le _, rfl, by go_grown, all_zero⟩
  case round =>
    obtain ⟨k, hk, rfl, hbw, hall⟩ := hrel
    by_cases hlt : k < n
    · obtain ⟨b, off, rfl, hbb, hc⟩ := ha (by omega)
      obtain ⟨q1, q2⟩ := bcell hbw
      have hsw := hbw.size
      have c0 := hc k 0 hlt (by omega); have c1 := hc k 1 hlt (by omega)
      simp only [Nat.add_zero, iv] at c0 c1
      have HA := hide hall
      have hhr := hh.on hbw
      clear hall hc ha
      cases hd : plB (X k 0) (X k 1)
      · go_wp2_with fail
        refine (not_bend _ _ _ hd _ _ hhr).mono ?_
        rintro e w1 ⟨rfl, hb1⟩
        go_wp2
        go_returns
        exact ⟨_, rfl, by rw [plAll_no hlt hd]; simp <;> omega, below_call hbw hb1⟩
      · have HD := hide hd
        go_wp2_with fail
        refine (not_bend _ _ _ hd _ _ hhr).mono ?_
        rintro e w1 ⟨rfl, hb1⟩
        clear hd
        go_wp2
        go_roundw
        case rel => exact ⟨k + 1, by omega, by go_num, below_call hbw hb1, all_snoc HA.out HD.out⟩
        case measure => simp [intOf]; omega
    · obtain rfl : k = n := by omega
      have HA := hide hall
      clear hall
      go_wp2
      go_returns
      exact ⟨_, rfl, by unfold plAll; rw [decide_eq_true HA.out]; rfl, hbw⟩
theorem has_bend (bh : Nat) (A : Option Addr) (n c : Nat) (X : Nat → Nat → Int) (v : Bool) (hv : plAll n X = v) (w : World) (hn : n ≤ 1048576) (ha : Arr w w.heap.size A n 2 (iv X)) (hh : Cells w bh [.func (.func 51) #[] #[]]) :
    Calls Try.prog 83 #[.slice A n c, .func (.func 84) #[] #[.pointer (some ⟨bh, 0, none⟩)]] w fun e w' => e = .returned (.bool (!v)) ∧ Below w.heap.size w w' := by
  go_enter Try.func83, Try.ntmps83
  go_wp2_with fail
  refine (idx_bend _ _ _ _ X _ hn ha hh).mono ?_
  rintro e w1 ⟨r, rfl, hr, hb1⟩
  rw [hv] at hr
  go_wp2
  go_ret
  exact ⟨ret_bool (by rw [← hr]; simp), hb1⟩
theorem all_bend (A : Option Addr) (n c : Nat) (X : Nat → Nat → Int) (v : Bool) (hv : plAll n X = v) (w : World) (hn : n ≤ 1048576) (ha : Arr w w.heap.size A n 2 (iv X)) :
    Calls Try.prog 50 #[.slice A n c, .func (.func 51) #[] #[]] w fun e w' => e = .returned (.bool v) ∧ Below w.heap.size w w' := by
  have hh : Cells (w.alloc (.cells #[.func (.func 51) #[] #[]] 74)) w.heap.size [.func (.func 51) #[] #[]] := Cells.new w _ _ _ rfl
  have hb0 : Below w.heap.size w (w.alloc (.cells #[.func (.func 51) #[] #[]] 74)) := below_al (Below.refl _ _)
  go_enter Try.func50, Try.ntmps50
  go_wp2_with fail
  refine (has_bend _ _ _ _ X _ hv _ hn (ha.on hb0) hh).mono ?_
  rintro e w1 ⟨rfl, hb1⟩
  obtain ⟨qc1, qf1⟩ := bcell hb1
  have hz1 := hb1.size
  try simp only [World.size_alloc, World.size_setCell, World.size_drew] at hz1
  have hq1 : Below w.heap.size w w1 := below_call (by go_grown) hb1
  try have hl0_1 : w.heap.size < w1.heap.size := by omega
  try have hl1_1 : w.heap.size + 1 < w1.heap.size := by omega
  try have hl2_1 : w.heap.size + 2 < w1.heap.size := by omega
  try have hl3_1 : w.heap.size + 3 < w1.heap.size := by omega
  go_wp2
  go_ret
  exact ⟨ret_bool (by cases v <;> rfl), hq1⟩

set_option maxHeartbeats 4000000 in
set_option maxRecDepth 100000 in
theorem impl_isFau (x0 : Int) (s : ByteArray) (A : Option Addr) (n c : Nat) (X : Nat → Nat → Int) (x3 : Int) (v : Bool) (hv : fauB x0 s n X x3 = v) (w : World) (hs : s.size ≤ 1048576) (hn : n ≤ 1048576) (ha : Arr w w.heap.size A n 2 (iv X)) :
    Calls Try.prog 17 #[.agg #[.int .i64 x0, .string s, .slice A n c, .int .i64 x3]] w fun e w' => e = .returned (.bool v) ∧ Below w.heap.size w w' := by
  have HV := hide hv
  clear hv
  have hcx0 : Cells (w.alloc (.cells #[.int .i64 x0, .string s, .slice A n c, .int .i64 x3] 36)) w.heap.size [.int .i64 x0, .string s, .slice A n c, .int .i64 x3] := Cells.new w _ _ _ rfl
  have hb0 : Below w.heap.size w (w.alloc (.cells #[.int .i64 x0, .string s, .slice A n c, .int .i64 x3] 36)) := below_al (Below.refl _ _)
  go_enter Try.func17, Try.ntmps17
  go_wp2
  go_loopw [3] (fun y wr => ∃ k : Nat, (k ≤ n ∨ k = 1) ∧ 1 ≤ k ∧ y = .int .i64 k ∧ Below w.heap.size w wr ∧ Cells wr w.heap.size [.int .i64 x0, .string s, .slice A n c, .int .i64 x3] ∧ ∀ i, i + 1 < k → ¬ sameX X i) (fun y _ => n - (intOf y).toNat)
  case atStart => exact ⟨1, .inr rfl, Nat.le_refl _, rfl, hb0, hcx0, fun i hi => absurd hi (by omega)⟩
  case round =>
    clear hcx0 hb0
    obtain ⟨k, hk, hk1, rfl, hbw, hcx, hall⟩ := hrel
    obtain ⟨p, rfl⟩ : ∃ p, k = p + 1 := ⟨k - 1, by omega⟩
    have l0 := hcx.2 0 _ rfl; have l1 := hcx.2 1 _ rfl; have l2 := hcx.2 2 _ rfl; have l3 := hcx.2 3 _ rfl; have l5 := hcx.1
    obtain ⟨q1, q2⟩ := bcell hbw
    have hsw := hbw.size
    have HA := hide hall
    have HAA := hide ha
    clear hall
    have hx := BW.cell (w := wr)
    by_cases hlt : p + 1 < n
    · obtain ⟨b, off, rfl, hbb, hc⟩ := ha (by omega)
      have c0 := hc p 0 (by omega) (by omega); have c1 := hc p 1 (by omega) (by omega); have d0 := hc (p + 1) 0 hlt (by omega); have d1 := hc (p + 1) 1 hlt (by omega)
      simp only [Nat.add_zero, iv] at c0 c1 d0 d1
      have hbl : b < wr.heap.size := by omega
      clear ha hc
      by_cases hg : X (p + 1) 0 = X p 0
      · by_cases hg1 : X (p + 1) 1 = X p 1
        · have HG := hide (seg_same (X := X) (i := p) ⟨hg, hg1⟩)
          rw [hg] at d0; rw [hg1] at d1
          go_wp2
          refine wp_region_bw (by kernel_rfl) (by kernel_rfl) ?_
          repeat (go_big_quiet_step ((first | fail)))
          refine wpQuiet_end fun w1 hb1 => ?_
          clear hx
          go_wp2
          go_ret
          exact ⟨ret_bool (by rw [← HV.out, fauB_bad hlt HG.out]; try rfl), below_call hbw hb1⟩
        · have e2 : (X (p + 1) 1 == X p 1) = false := by simp [hg1]
          have HF := hide (show ¬ sameX X p from fun h => hg1 h.2)
          go_wp2
          refine wp_region_bw (by kernel_rfl) (by kernel_rfl) ?_
          repeat (go_big_quiet_step ((first | fail)))
          refine wpQuiet_end fun w1 hb1 => ?_
          clear hx
          have HC1 := hide (hcx.on hb1)
          go_wp2
          go_roundw
          case rel => exact ⟨p + 1 + 1, by omega, by omega, by go_num, below_call hbw hb1, HC1.out, all_snoc2 HA.out HF.out⟩
          case measure => simp [intOf]; omega
      · have e1 : (X (p + 1) 0 == X p 0) = false := by simp [hg]
        have HF := hide (show ¬ sameX X p from fun h => hg h.1)
        go_wp2
        refine wp_region_bw (by kernel_rfl) (by kernel_rfl) ?_
        repeat (go_big_quiet_step ((first | fail)))
        refine wpQuiet_end fun w1 hb1 => ?_
        clear hx
        have HC1 := hide (hcx.on hb1)
        go_wp2
        go_roundw
        case rel => exact ⟨p + 1 + 1, by omega, by omega, by go_num, below_call hbw hb1, HC1.out, all_snoc2 HA.out HF.out⟩
        case measure => simp [intOf]; omega
    · have he := fau_alt (x0 := x0) (s := s) (x3 := x3) (n := n) (X := X) (fun i hi => HA.out i (by omega))
      rw [HV.out] at he
      have HE := hide he
      clear he hx
      cases b1 : inB x0 1 99
      · skip
        obtain rfl : false = v := by rw [HE.out, b1]; simp
        go_wp2_with (first | (go_at_call 48; refine (impl_in _ _ _ _ (by assumption) _).mono ?_; rintro e w' ⟨rfl, rfl⟩) | (go_at_call 49; refine (impl_word _ _ (by assumption) _ hs).mono ?_; rintro e w' ⟨rfl, rfl⟩))
        go_ret
        exact ⟨rfl, hbw⟩
      · skip
        cases b2 : wordB s
        · skip
          obtain rfl : false = v := by rw [HE.out, b1, b2]; simp
          go_wp2_with (first | (go_at_call 48; refine (impl_in _ _ _ _ (by assumption) _).mono ?_; rintro e w' ⟨rfl, rfl⟩) | (go_at_call 49; refine (impl_word _ _ (by assumption) _ hs).mono ?_; rintro e w' ⟨rfl, rfl⟩))
          go_ret
          exact ⟨rfl, hbw⟩
        · skip
          cases b3 : inB (n : Int) 2 8
          · skip
            obtain rfl : false = v := by rw [HE.out, b1, b2, b3]; simp
            go_wp2_with (first | (go_at_call 48; refine (impl_in _ _ _ _ (by assumption) _).mono ?_; rintro e w' ⟨rfl, rfl⟩) | (go_at_call 49; refine (impl_word _ _ (by assumption) _ hs).mono ?_; rintro e w' ⟨rfl, rfl⟩))
            go_ret
            exact ⟨rfl, hbw⟩
          · skip
            cases b4 : plAll n X
            · skip
              go_wp2_with (first | (go_at_call 48; refine (impl_in _ _ _ _ (by assumption) _).mono ?_; rintro e w' ⟨rfl, rfl⟩) | (go_at_call 49; refine (impl_word _ _ (by assumption) _ hs).mono ?_; rintro e w' ⟨rfl, rfl⟩))
              refine (all_bend _ _ _ X _ b4 _ hn (HAA.out.on hbw)).mono ?_
              rintro e w1 ⟨rfl, hb1⟩
              have hcx1 := hcx.on hb1
              clear l0 l1 l2 l3 l5 q1 q2
              have l0 := hcx1.2 0 _ rfl; have l1 := hcx1.2 1 _ rfl; have l2 := hcx1.2 2 _ rfl; have l3 := hcx1.2 3 _ rfl; have l5 := hcx1.1
              obtain rfl : false = v := by rw [HE.out, b1, b2, b3, b4]; simp
              go_wp2
              go_ret
              exact ⟨rfl, below_call hbw hb1⟩
            · skip
              go_wp2_with (first | (go_at_call 48; refine (impl_in _ _ _ _ (by assumption) _).mono ?_; rintro e w' ⟨rfl, rfl⟩) | (go_at_call 49; refine (impl_word _ _ (by assumption) _ hs).mono ?_; rintro e w' ⟨rfl, rfl⟩))
              refine (all_bend _ _ _ X _ b4 _ hn (HAA.out.on hbw)).mono ?_
              rintro e w1 ⟨rfl, hb1⟩
              have hcx1 := hcx.on hb1
              clear l0 l1 l2 l3 l5 q1 q2
              have l0 := hcx1.2 0 _ rfl; have l1 := hcx1.2 1 _ rfl; have l2 := hcx1.2 2 _ rfl; have l3 := hcx1.2 3 _ rfl; have l5 := hcx1.1
              cases b5 : inB x3 0 1000
              · obtain rfl : false = v := by rw [HE.out, b1, b2, b3, b4, b5]; rfl
                go_wp2_with (first | (go_at_call 48; refine (impl_in _ _ _ _ (by assumption) _).mono ?_; rintro e w' ⟨rfl, rfl⟩) | (go_at_call 49; refine (impl_word _ _ (by assumption) _ hs).mono ?_; rintro e w' ⟨rfl, rfl⟩))
                go_ret
                exact ⟨rfl, below_call hbw hb1⟩
              · obtain rfl : true = v := by rw [HE.out, b1, b2, b3, b4, b5]; rfl
                go_wp2_with (first | (go_at_call 48; refine (impl_in _ _ _ _ (by assumption) _).mono ?_; rintro e w' ⟨rfl, rfl⟩) | (go_at_call 49; refine (impl_word _ _ (by assumption) _ hs).mono ?_; rintro e w' ⟨rfl, rfl⟩))
                go_ret
                exact ⟨rfl, below_call hbw hb1⟩
end Go.Proofs.Ytbpeamjgddikjaa
