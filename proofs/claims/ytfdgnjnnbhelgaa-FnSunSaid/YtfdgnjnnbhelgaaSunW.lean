/- Chapter 22's law on sun: the walk. -/
import Derived.Test.YtfdgnjnnbhelgaaSunM
import Derived.Test.YtfdgnjnnbhelgaaDrwG
import Derived.Test.YtfdgnjnnbhelgaaRow3
import Derived.Test.YtfdgnjnnbhelgaaTyInt
import Derived.Deep.RegionWith
import Derived.Deep.DeepCutAuto
namespace Go.Proofs.Ytfdgnjnnbhelgaa
open Go.RowKit
set_option linter.unusedVariables false
set_option linter.unusedSimpArgs false

set_option maxRecDepth 100000 in
set_option maxHeartbeats 2000000 in
theorem walk_FnSun (A : Option Addr) (n c : Nat) (C : Nat → Int) (w : World) (hm : n ≤ maxLen) (ha : Arr w w.heap.size A n 1 (bv C)) (hC : ∀ i, i < n → 0 ≤ C i ∧ C i ≤ 255) :
    Calls Try.prog 4 #[.slice A n c] w fun e w' => e = .returned (.bool true) ∧ Below w.heap.size w w' := by
  have hfa := frozen_al; have hfo := frozen_out
  cases hB : decide (65536 < (n : Int))
  · have HC := hide (show CodeOk w A n C from ⟨by rw [decide_eq_false_iff_not] at hB; omega, ha, hC⟩)
    have HM := hide hm; have HB := hide hB
    clear ha hC hm hB
    go_enter Try.func4, Try.ntmps4
    go_wp2_with fail
    refine (r_big A n c false HB.out HM.out _).mono ?_
    rintro e w0 ⟨rfl, rfl⟩
    go_wp2_with fail
    refine (draw_leastFull A n c C _ HC.out).mono ?_
    rintro e w1 ⟨f, nw, u, lo, V, l, hl40, rfl, hb1, OL⟩
    obtain ⟨qc1, qf1⟩ := bcell hb1
    have hz1 := hb1.size
    have hq1 : Below w.heap.size w w1 := below_call (Below.refl _ _) hb1
    obtain ⟨m, hm⟩ : ∃ m, m = l.length := ⟨_, rfl⟩
    rw [← hm] at OL hl40
    obtain ⟨X, hX⟩ : ∃ X, X = sdX l := ⟨_, rfl⟩
    rw [← hX] at OL
    clear hm hX
    obtain ⟨B, cB, rfl, hcB, _⟩ := OL.arr
    have HO := hide OL; clear OL
    obtain ⟨v, HV⟩ : ∃ v, Hid ((batB f nw u lo && sunB m X) = v) := ⟨_, rfl⟩
    obtain ⟨r, ok, HR⟩ : ∃ r ok, Hid (LFv v nw u X m r ok) := LFv.ex _ _ _ _ _
    go_wp2_with fail
    refine (impl_leastFull B m cB X f nw u lo v HV.out r ok HR.out _ (by omega) (HO.out.arr1.on (by go_grown))).mono ?_
    rintro e w2 ⟨rfl, hb2⟩
    obtain ⟨qc2, qf2⟩ := bcell hb2
    have hz2 := hb2.size
    try simp only [World.size_alloc, World.size_setCell, World.size_drew] at hz2
    have hq2 : Below w.heap.size w w2 := below_call (by go_grown) hb2
    have hq21 : Below w1.heap.size w1 w2 := below_call (by go_grown) hb2
    have hn2 : w1.heap.size < w2.heap.size := by omega
    go_wp2_with fail
    refine (spec_leastFull B m cB X f nw u lo v HV.out r ok HR.out _ (by omega) (HO.out.arr1.on hq21)).mono ?_
    rintro e w3 ⟨rfl, hb3⟩
    obtain ⟨qc3, qf3⟩ := bcell hb3
    have hz3 := hb3.size
    try simp only [World.size_alloc, World.size_setCell, World.size_drew] at hz3
    have hq3 : Below w.heap.size w w3 := below_call (by go_grown) hb3
    have hq31 : Below w1.heap.size w1 w3 := below_call (by go_grown) hb3
    have hn3 : w1.heap.size < w3.heap.size := by omega
    go_upto_if 65 with fail
    go_cut [2] (fun s2 wx => s2 = .bool false ∧ Below w.heap.size w wx)
    case first =>
      cases ok
      · go_wp2_with fail
        go_meet
        exact ⟨rfl, by go_grown⟩
      · obtain ⟨⟨hr1, hr2⟩, h1, h2, h3⟩ := full_both HV.out HR.out
        obtain ⟨v2, HV2⟩ : ∃ v2, Hid ((batB (r - 1) nw u 0 && sunB m X) = v2) := ⟨_, rfl⟩
        obtain ⟨y0, H0⟩ : ∃ y0, Hid (onlyI true r = y0) := ⟨_, rfl⟩
        obtain ⟨y1, H1⟩ : ∃ y1, Hid (onlyI true (levD r nw u 0 X m) = y1) := ⟨_, rfl⟩
        obtain ⟨y2, H2⟩ : ∃ y2, Hid (onlyI true u = y2) := ⟨_, rfl⟩
        obtain ⟨y3, H3⟩ : ∃ y3, Hid (onlyI true 0 = y3) := ⟨_, rfl⟩
        obtain ⟨x0, G0⟩ : ∃ y0, Hid (onlyI v2 (r - 1) = y0) := ⟨_, rfl⟩
        obtain ⟨x1, G1⟩ : ∃ y1, Hid (onlyI v2 (levD (r - 1) nw u 0 X m) = y1) := ⟨_, rfl⟩
        obtain ⟨x2, G2⟩ : ∃ y2, Hid (onlyI v2 u = y2) := ⟨_, rfl⟩
        obtain ⟨x3, G3⟩ : ∃ y3, Hid (onlyI v2 0 = y3) := ⟨_, rfl⟩
        obtain ⟨q2, HQ2⟩ : ∃ q, Hid (q = onlyN v2 (badD (r - 1) nw u 0 X m).length) := ⟨_, rfl⟩
        have HQ := hide (show 0 = onlyN true (badD r nw u 0 X m).length by simp [onlyN, h2])
        have HT := hide h1
        have H4 := hide (h3 v2 HV2.out q2 HQ2.out)
        have hq240 : q2 ≤ 40 := by rw [HQ2.out]; exact onlyN_le (Nat.le_trans (badD_len _ _ _ _ _ _) hl40)
        clear h1 h2 h3
        go_wp2_with fail
        refine (impl_afterDays B m cB X r nw u 0 true HT.out y0 y1 y2 y3 0 H0.out H1.out H2.out H3.out HQ.out _ (by omega) (HO.out.arr1.on hq31)).mono ?_
        rintro e w4 ⟨S, rfl, hb4, OS⟩
        obtain ⟨qc4, qf4⟩ := bcell hb4
        have hz4 := hb4.size
        try simp only [World.size_alloc, World.size_setCell, World.size_drew] at hz4
        obtain ⟨AS, cS, rfl, hcS, _⟩ := OS.arr
        clear OS
        have hq4 : Below w.heap.size w w4 := below_call (by go_grown) hb4
        have hq41 : Below w1.heap.size w1 w4 := below_call (by go_grown) hb4
        have hn4 : w1.heap.size < w4.heap.size := by omega
        go_wp2_with fail
        refine (impl_afterDays B m cB X (r - 1) nw u 0 v2 HV2.out x0 x1 x2 x3 q2 G0.out G1.out G2.out G3.out HQ2.out _ (by omega) (HO.out.arr1.on (by go_grown))).mono ?_
        rintro e w5 ⟨S2, rfl, hb5, OS2⟩
        obtain ⟨qc5, qf5⟩ := bcell hb5
        have hz5 := hb5.size
        try simp only [World.size_alloc, World.size_setCell, World.size_drew] at hz5
        obtain ⟨AT, cT, rfl, hcT, _⟩ := OS2.arr
        clear OS2
        have hq5 : Below w.heap.size w w5 := below_call (by go_grown) hb5
        cases v2
        · go_wp2_with fail
          go_meet
          exact ⟨rfl, by go_grown⟩
        · have h6 := H4.out rfl
          have h7 : (decide ((q2 : Int) = 0)) = false := by rw [decide_eq_false_iff_not]; omega
          go_wp2_with fail
          go_meet
          exact ⟨rfl, by go_grown⟩
    case rest =>
      obtain ⟨rfl, hqc⟩ := hcut
      clear hz1 hz2 hz3 hq1 hq2 hq21 hq3 hq31 hn2 hn3 qc1 qf1 hb1 qc2 qf2 hb2 qc3 qf3 hb3 HO HV HR hcB hl40
      have hzc := hqc.size
      go_wp2_with fail
      refine (draw_lostSun A n c C _ (HC.out.on hqc)).mono ?_
      rintro e w1 ⟨f, nw, u, lo, V, l, hl40, rfl, hb1, OL⟩
      obtain ⟨qc1, qf1⟩ := bcell hb1
      have hz1 := hb1.size
      have hq1 : Below w.heap.size w w1 := below_call hqc hb1
      obtain ⟨m, hm⟩ : ∃ m, m = l.length := ⟨_, rfl⟩
      rw [← hm] at OL hl40
      obtain ⟨X, hX⟩ : ∃ X, X = sdX l := ⟨_, rfl⟩
      rw [← hX] at OL
      clear hm hX
      obtain ⟨B, cB, rfl, hcB, _⟩ := OL.arr
      have HO := hide OL; clear OL
      obtain ⟨v, HV⟩ : ∃ v, Hid ((batB f nw u lo && sunB m X) = v) := ⟨_, rfl⟩
      obtain ⟨r, HR⟩ : ∃ r, Hid (onlyI v (lostD f nw u lo X m) = r) := ⟨_, rfl⟩
      have hr0 := lost_pos HV.out HR.out
      go_wp2_with fail
      refine (impl_lost B m cB X f nw u lo v HV.out r HR.out _ (by omega) (HO.out.arr1.on (by go_grown))).mono ?_
      rintro e w2 ⟨rfl, hb2⟩
      obtain ⟨qc2, qf2⟩ := bcell hb2
      have hz2 := hb2.size
      try simp only [World.size_alloc, World.size_setCell, World.size_drew] at hz2
      have hq2 : Below w.heap.size w w2 := below_call (by go_grown) hb2
      have hq21 : Below w1.heap.size w1 w2 := below_call (by go_grown) hb2
      have hn2 : w1.heap.size < w2.heap.size := by omega
      go_wp2_with fail
      refine (spec_lost B m cB X f nw u lo v HV.out r HR.out _ (by omega) (HO.out.arr1.on hq21)).mono ?_
      rintro e w3 ⟨rfl, hb3⟩
      have hz3 := hb3.size
      have hq3 : Below w.heap.size w w3 := below_call (by go_grown) hb3
      go_wp2_with fail
      refine (draw_darkestRun A n c C _ (HC.out.on hq3)).mono ?_
      clear qc1 qf1 hb1 qc2 qf2 hb2 HO HV HR hcB hl40 hr0 hq1 hq2 hq21 hz1 hz2 hn2 hqc hzc hb3 hz3
      rintro e w1 ⟨V, l, s, hl40, rfl, hb1, OL⟩
      have hz1 := hb1.size
      have hq1 : Below w.heap.size w w1 := below_call hq3 hb1
      obtain ⟨m, hm⟩ : ∃ m, m = l.length := ⟨_, rfl⟩
      rw [← hm] at OL hl40
      obtain ⟨X, hX⟩ : ∃ X, X = sdX l := ⟨_, rfl⟩
      rw [← hX] at OL
      clear hm hX
      obtain ⟨B, cB, rfl, hcB, _⟩ := OL.arr
      have HO := hide OL; clear OL
      obtain ⟨a, b, t, HD⟩ : ∃ a b t, Hid (darkV m X s = (a, b, t)) := ⟨_, _, _, rfl⟩
      go_wp2_with fail
      refine (impl_darkest' B m cB X s a b t HD.out _ (by omega) HO.out.arr1).mono ?_
      rintro e w2 ⟨rfl, hb2⟩
      have hz2 := hb2.size
      have hq2 : Below w.heap.size w w2 := below_call hq1 hb2
      go_wp2_with fail
      refine (spec_darkest' B m cB X s a b t HD.out _ (by omega) (HO.out.arr1.on hb2)).mono ?_
      rintro e w4 ⟨rfl, hb4⟩
      have hz4 := hb4.size
      have hq4 : Below w.heap.size w w4 := below_call hq2 hb4
      have HO4 := hide (HO.out.arr1.on (below_call hb2 hb4))
      clear HO hb2 hb4 hq2 hz2 hb1 hz1 hq1 hq3
      cases t
      · go_wp2_with fail
        go_loopw [29, 30] (fun x i wr => x = .int .i64 0 ∧ i = .int .i64 0 ∧ wr = w4) (fun _ _ _ => 0)
        case atStart => exact ⟨rfl, rfl, rfl⟩
        case round =>
          obtain ⟨rfl, rfl, rfl⟩ := hrel
          by_cases h0 : 0 < m
          all_goals
            go_wp2_with fail
            refine (draw_meanSun A n c C _ (HC.out.on hq4)).mono ?_
            rintro e w5 ⟨V5, l5, hl5, rfl, hb5, OM⟩
            have hz5 := hb5.size
            have hq5 : Below w.heap.size w w5 := below_call hq4 hb5
            obtain ⟨m5, hm5⟩ : ∃ m, m = l5.length := ⟨_, rfl⟩
            rw [← hm5] at OM hl5
            obtain ⟨X5, hX5⟩ : ∃ X, X = sdX l5 := ⟨_, rfl⟩
            rw [← hX5] at OM
            clear hm5 hX5
            obtain ⟨B5, cB5, rfl, hcB5, _⟩ := OM.arr
            have HO5 := hide OM; clear OM
            obtain ⟨p5, d5, t5, HM5⟩ : ∃ a b ok, Hid (MeanRes m5 X5 a b ok) := mean_ex _ _
            obtain ⟨v5, HV5⟩ : ∃ v, Hid (sunB m5 X5 = v) := ⟨_, rfl⟩
            go_wp2_with fail
            refine (impl_mean B5 m5 cB5 X5 p5 d5 t5 HM5.out _ (by omega) HO5.out.arr1).mono ?_
            rintro e w6 ⟨rfl, hb6⟩
            have hz6 := hb6.size
            have hq6 : Below w.heap.size w w6 := below_call hq5 hb6
            go_wp2_with fail
            refine (spec_mean B5 m5 cB5 X5 p5 d5 t5 HM5.out _ (by omega) (HO5.out.arr1.on hb6)).mono ?_
            rintro e w7 ⟨rfl, hb7⟩
            have hz7 := hb7.size
            have hq7 : Below w.heap.size w w7 := below_call hq6 hb7
            have HO7 := hide (HO5.out.arr1.on (below_call hb6 hb7))
            go_wp2_with fail
            refine (impl_areSunDays B5 m5 cB5 X5 v5 HV5.out _ (by omega) HO7.out).mono ?_
            rintro e w8 ⟨rfl, hb8⟩
            have hz8 := hb8.size
            have hq8 : Below w.heap.size w w8 := below_call hq7 hb8
            go_wp2_with fail
            refine (spec_sunDays B5 m5 cB5 X5 v5 HV5.out _ (by omega) (HO7.out.on hb8)).mono ?_
            rintro e w9 ⟨rfl, hb9⟩
            have hq9 : Below w.heap.size w w9 := below_call hq8 hb9
            go_wp2
            go_returns
            exact ⟨ret_bool (by simp), hq9⟩
      · obtain ⟨hm20, ⟨hb0, hb9, ha0, hab⟩, hcn, hdk⟩ := dark_told HD.out
        have HN := hide hcn; have HK := hide hdk
        clear hcn hdk
        go_wp2_with fail
        go_loopw [29, 30] (fun x i wr => ∃ k : Nat, k ≤ m ∧ x = .int .i64 (cntD a b X k) ∧ i = .int .i64 k ∧ Below w4.heap.size w4 wr) (fun _ i _ => m - (intOf i).toNat)
        case atStart => exact ⟨0, Nat.zero_le _, rfl, rfl, Below.refl _ _⟩
        case round =>
          obtain ⟨k, hk, rfl, rfl, hbr⟩ := hrel
          have hqr := below_call hq4 hbr
          have hzr := hbr.size
          by_cases hlt : k < m
          · obtain ⟨bb, off, rfl, hbb, hc⟩ := (HO4.out.on hbr) (by omega)
            have c0 := hc k 0 hlt (by omega); have c1 := hc k 1 hlt (by omega)
            simp only [Nat.add_zero, iv] at c0 c1
            clear hc
            obtain ⟨cn, hcn⟩ : ∃ cn, cntD a b X k = cn := ⟨_, rfl⟩
            have hcb := cntD_bd a b X k
            rw [hcn] at hcb
            have HCN := hide hcn
            simp only [hcn]
            clear hcn
            by_cases h1 : a ≤ X k 0
            · by_cases h2 : X k 0 ≤ b
              · have h3 := HK.out k hlt h1 h2
                have HE := hide (show cntD a b X (k + 1) = cn + 1 by rw [cntD, if_pos ⟨h1, h2⟩, HCN.out])
                go_wp2
                go_roundw
                case rel => exact ⟨k + 1, by omega, by rw [HE.out], by go_num, by go_grown⟩
                case measure => simp [intOf]; omega
              · have HE := hide (show cntD a b X (k + 1) = cn by rw [cntD, if_neg (fun h => h2 h.2), HCN.out])
                go_wp2
                go_roundw
                case rel => exact ⟨k + 1, by omega, by rw [HE.out], by go_num, by go_grown⟩
                case measure => simp [intOf]; omega
            · have HE := hide (show cntD a b X (k + 1) = cn by rw [cntD, if_neg (fun h => h1 h.1), HCN.out])
              go_wp2
              go_roundw
              case rel => exact ⟨k + 1, by omega, by rw [HE.out], by go_num, by go_grown⟩
              case measure => simp [intOf]; omega
          · obtain rfl : k = m := by omega
            rw [HN.out]
            clear HK
            go_wp2_with fail
            refine (draw_meanSun A n c C _ (HC.out.on hqr)).mono ?_
            rintro e w5 ⟨V5, l5, hl5, rfl, hb5, OM⟩
            have hz5 := hb5.size
            have hq5 : Below w.heap.size w w5 := below_call hqr hb5
            obtain ⟨m5, hm5⟩ : ∃ m, m = l5.length := ⟨_, rfl⟩
            rw [← hm5] at OM hl5
            obtain ⟨X5, hX5⟩ : ∃ X, X = sdX l5 := ⟨_, rfl⟩
            rw [← hX5] at OM
            clear hm5 hX5
            obtain ⟨B5, cB5, rfl, hcB5, _⟩ := OM.arr
            have HO5 := hide OM; clear OM
            obtain ⟨p5, d5, t5, HM5⟩ : ∃ a b ok, Hid (MeanRes m5 X5 a b ok) := mean_ex _ _
            obtain ⟨v5, HV5⟩ : ∃ v, Hid (sunB m5 X5 = v) := ⟨_, rfl⟩
            go_wp2_with fail
            refine (impl_mean B5 m5 cB5 X5 p5 d5 t5 HM5.out _ (by omega) HO5.out.arr1).mono ?_
            rintro e w6 ⟨rfl, hb6⟩
            have hz6 := hb6.size
            have hq6 : Below w.heap.size w w6 := below_call hq5 hb6
            go_wp2_with fail
            refine (spec_mean B5 m5 cB5 X5 p5 d5 t5 HM5.out _ (by omega) (HO5.out.arr1.on hb6)).mono ?_
            rintro e w7 ⟨rfl, hb7⟩
            have hz7 := hb7.size
            have hq7 : Below w.heap.size w w7 := below_call hq6 hb7
            have HO7 := hide (HO5.out.arr1.on (below_call hb6 hb7))
            go_wp2_with fail
            refine (impl_areSunDays B5 m5 cB5 X5 v5 HV5.out _ (by omega) HO7.out).mono ?_
            rintro e w8 ⟨rfl, hb8⟩
            have hz8 := hb8.size
            have hq8 : Below w.heap.size w w8 := below_call hq7 hb8
            go_wp2_with fail
            refine (spec_sunDays B5 m5 cB5 X5 v5 HV5.out _ (by omega) (HO7.out.on hb8)).mono ?_
            rintro e w9 ⟨rfl, hb9⟩
            have hq9 : Below w.heap.size w w9 := below_call hq8 hb9
            go_wp2
            go_returns
            exact ⟨ret_bool (by simp), hq9⟩
  · have HB := hide hB; have HM := hide hm
    clear ha hC hB hm
    go_enter Try.func4, Try.ntmps4
    go_wp2_with fail
    refine (r_big A n c true HB.out HM.out _).mono ?_
    rintro e w0 ⟨rfl, rfl⟩
    go_wp2
    go_returns
    exact ⟨rfl, by go_grown⟩
end Go.Proofs.Ytfdgnjnnbhelgaa
