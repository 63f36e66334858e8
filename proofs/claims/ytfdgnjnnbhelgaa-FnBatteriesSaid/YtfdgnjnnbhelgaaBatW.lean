/- Chapter 22's law on batteries: the walk. -/
import Derived.Test.YtfdgnjnnbhelgaaBatM
import Derived.Test.YtfdgnjnnbhelgaaDrwG
import Derived.Test.YtfdgnjnnbhelgaaRow3
import Derived.Test.YtfdgnjnnbhelgaaTyInt
import Derived.Deep.RegionWith
import Derived.Deep.DeepCutAuto
namespace Go.Proofs.Ytfdgnjnnbhelgaa
open Go.RowKit
set_option linter.unusedVariables false
set_option linter.unusedSimpArgs false

set_option maxRecDepth 100000 in
set_option maxHeartbeats 2000000 in
theorem walk_FnBatteries (A : Option Addr) (n c : Nat) (C : Nat → Int) (w : World) (hm : n ≤ maxLen) (ha : Arr w w.heap.size A n 1 (bv C)) (hC : ∀ i, i < n → 0 ≤ C i ∧ C i ≤ 255) :
    Calls Try.prog 3 #[.slice A n c] w fun e w' => e = .returned (.bool true) ∧ Below w.heap.size w w' := by
  have hfa := frozen_al; have hfo := frozen_out
  cases hB : decide (65536 < (n : Int))
  · have HC := hide (show CodeOk w A n C from ⟨by rw [decide_eq_false_iff_not] at hB; omega, ha, hC⟩)
    have HM := hide hm; have HB := hide hB
    clear ha hC hm hB
    go_enter Try.func3, Try.ntmps3
    go_wp2_with fail
    refine (r_big A n c false HB.out HM.out _).mono ?_
    rintro e w0 ⟨rfl, rfl⟩
    go_wp2_with fail
    refine (draw_leastSun A n c C _ HC.out).mono ?_
    rintro e w1 ⟨x, y, z, u, rfl, hb1⟩
    obtain ⟨qc1, qf1⟩ := bcell hb1
    have hz1 := hb1.size
    try simp only [World.size_alloc, World.size_setCell, World.size_drew] at hz1
    have hq1 : Below w.heap.size w w1 := below_call (by go_grown) hb1
    try have hl0_1 : w.heap.size < w1.heap.size := by omega
    try have hl1_1 : w.heap.size + 1 < w1.heap.size := by omega
    try have hl2_1 : w.heap.size + 2 < w1.heap.size := by omega
    try have hl3_1 : w.heap.size + 3 < w1.heap.size := by omega
    obtain ⟨v, ok, HL⟩ : ∃ v ok, Hid (leastV x y z u = (v, ok)) := ⟨_, _, rfl⟩
    go_wp2_with fail
    refine (impl_least' x y z u v ok HL.out _).mono ?_
    rintro e w2 ⟨rfl, hb2⟩
    obtain ⟨qc2, qf2⟩ := bcell hb2
    have hz2 := hb2.size
    try simp only [World.size_alloc, World.size_setCell, World.size_drew] at hz2
    have hq2 : Below w.heap.size w w2 := below_call (by go_grown) hb2
    try have hl0_2 : w.heap.size < w2.heap.size := by omega
    try have hl1_2 : w.heap.size + 1 < w2.heap.size := by omega
    try have hl2_2 : w.heap.size + 2 < w2.heap.size := by omega
    try have hl3_2 : w.heap.size + 3 < w2.heap.size := by omega
    try have hn1_2 : w1.heap.size < w2.heap.size := by omega
    go_wp2_with fail
    refine (spec_least' x y z u v ok HL.out _).mono ?_
    rintro e w3 ⟨rfl, hb3⟩
    obtain ⟨qc3, qf3⟩ := bcell hb3
    have hz3 := hb3.size
    try simp only [World.size_alloc, World.size_setCell, World.size_drew] at hz3
    have hq3 : Below w.heap.size w w3 := below_call (by go_grown) hb3
    try have hl0_3 : w.heap.size < w3.heap.size := by omega
    try have hl1_3 : w.heap.size + 1 < w3.heap.size := by omega
    try have hl2_3 : w.heap.size + 2 < w3.heap.size := by omega
    try have hl3_3 : w.heap.size + 3 < w3.heap.size := by omega
    try have hn1_3 : w1.heap.size < w3.heap.size := by omega
    try have hn2_3 : w2.heap.size < w3.heap.size := by omega
    go_upto_if 62 with fail
    go_cut [2] (fun s2 wx => s2 = .bool false ∧ Below w.heap.size w wx)
    case first =>
      cases ok
      · go_wp2_with fail
        go_meet
        exact ⟨rfl, by go_grown⟩
      · have HA := hide (after_least HL.out)
        obtain ⟨y0, y1, y2, y3, less, two, HE⟩ : ∃ y0 y1 y2 y3 less two, Hid (AfterU x y z u (v - 1) y0 y1 y2 y3 less two) := AfterU.ex _ _ _ _ _
        obtain rfl := after_less HL.out HE.out
        obtain ⟨_, hv0, hv1, _⟩ := least_use HL.out
        go_wp2_with fail
        refine (impl_afterU x y z u v _ _ _ _ true true HA.out _).mono ?_
        rintro e w4 ⟨rfl, hb4⟩
        obtain ⟨qc4, qf4⟩ := bcell hb4
        have hz4 := hb4.size
        try simp only [World.size_alloc, World.size_setCell, World.size_drew] at hz4
        have hq4 : Below w.heap.size w w4 := below_call (by go_grown) hb4
        try have hl0_4 : w.heap.size < w4.heap.size := by omega
        try have hl1_4 : w.heap.size + 1 < w4.heap.size := by omega
        try have hl2_4 : w.heap.size + 2 < w4.heap.size := by omega
        try have hl3_4 : w.heap.size + 3 < w4.heap.size := by omega
        try have hn1_4 : w1.heap.size < w4.heap.size := by omega
        try have hn2_4 : w2.heap.size < w4.heap.size := by omega
        try have hn3_4 : w3.heap.size < w4.heap.size := by omega
        go_wp2_with fail
        refine (impl_afterU x y z u (v - 1) y0 y1 y2 y3 false two HE.out _).mono ?_
        rintro e w5 ⟨rfl, hb5⟩
        obtain ⟨qc5, qf5⟩ := bcell hb5
        have hz5 := hb5.size
        try simp only [World.size_alloc, World.size_setCell, World.size_drew] at hz5
        have hq5 : Below w.heap.size w w5 := below_call (by go_grown) hb5
        try have hl0_5 : w.heap.size < w5.heap.size := by omega
        try have hl1_5 : w.heap.size + 1 < w5.heap.size := by omega
        try have hl2_5 : w.heap.size + 2 < w5.heap.size := by omega
        try have hl3_5 : w.heap.size + 3 < w5.heap.size := by omega
        try have hn1_5 : w1.heap.size < w5.heap.size := by omega
        try have hn2_5 : w2.heap.size < w5.heap.size := by omega
        try have hn3_5 : w3.heap.size < w5.heap.size := by omega
        try have hn4_5 : w4.heap.size < w5.heap.size := by omega
        cases two
        · go_wp2_with fail
          go_meet
          exact ⟨rfl, by go_grown⟩
        · go_wp2_with fail
          go_meet
          exact ⟨rfl, by go_grown⟩
    case rest =>
      obtain ⟨rfl, hqc⟩ := hcut
      clear hb1 qc1 qf1 hb2 qc2 qf2 hb3 qc3 qf3 HL hz1 hz2 hz3 hq1 hq2 hq3
      have hzc := hqc.size
      go_wp2_with fail
      refine (draw_afterDays A n c C _ (HC.out.on hqc)).mono ?_
      rintro e w1 ⟨f, nw, u, lo, V, l, hl40, rfl, hb1, OL⟩
      obtain ⟨qc1, qf1⟩ := bcell hb1
      have hz1 := hb1.size
      have hq1 : Below w.heap.size w w1 := below_call hqc hb1
      obtain ⟨m, hm⟩ : ∃ m, m = l.length := ⟨_, rfl⟩
      rw [← hm] at OL hl40
      obtain ⟨X, hX⟩ : ∃ X, X = sdX l := ⟨_, rfl⟩
      rw [← hX] at OL
      clear hm hX
      obtain ⟨B, cB, rfl, hcB, _⟩ := OL.arr
      have HO := hide OL; clear OL
      obtain ⟨v, HV⟩ : ∃ v, Hid ((batB f nw u lo && sunB m X) = v) := ⟨_, rfl⟩
      obtain ⟨y0, H0⟩ : ∃ y0, Hid (onlyI v f = y0) := ⟨_, rfl⟩
      obtain ⟨y1, H1⟩ : ∃ y1, Hid (onlyI v (levD f nw u lo X m) = y1) := ⟨_, rfl⟩
      obtain ⟨y2, H2⟩ : ∃ y2, Hid (onlyI v u = y2) := ⟨_, rfl⟩
      obtain ⟨y3, H3⟩ : ∃ y3, Hid (onlyI v lo = y3) := ⟨_, rfl⟩
      obtain ⟨q, HQ⟩ : ∃ q, Hid (q = onlyN v (badD f nw u lo X m).length) := ⟨_, rfl⟩
      have hq40 : q ≤ 40 := by rw [HQ.out]; exact onlyN_le (Nat.le_trans (badD_len _ _ _ _ _ _) hl40)
      go_wp2_with fail
      refine (impl_afterDays B m cB X f nw u lo v HV.out y0 y1 y2 y3 q H0.out H1.out H2.out H3.out HQ.out _ (by omega) (HO.out.arr1.on (by go_grown))).mono ?_
      rintro e w2 ⟨S, rfl, hb2, OS⟩
      obtain ⟨qc2, qf2⟩ := bcell hb2
      have hz2 := hb2.size
      try simp only [World.size_alloc, World.size_setCell, World.size_drew] at hz2
      obtain ⟨AS, cS, rfl, hcS, _⟩ := OS.arr
      have HS := hide OS; clear OS
      have hq2 : Below w.heap.size w w2 := below_call (by go_grown) hb2
      have hq2' : Below w1.heap.size w1 w2 := below_call (by go_grown) hb2
      have hn2 : w1.heap.size < w2.heap.size := by omega
      go_wp2_with fail
      refine (spec_afterDays B m cB X f nw u lo v HV.out y0 y1 y2 y3 q H0.out H1.out H2.out H3.out HQ.out _ (by omega) (HO.out.arr1.on (by go_grown))).mono ?_
      rintro e w3 ⟨S', rfl, hb3, OS'⟩
      obtain ⟨qc3, qf3⟩ := bcell hb3
      have hz3 := hb3.size
      try simp only [World.size_alloc, World.size_setCell, World.size_drew] at hz3
      obtain ⟨AT, cT, rfl, hcT, _⟩ := OS'.arr
      have HT := hide OS'; clear OS'
      have hq3 : Below w.heap.size w w3 := below_call (by go_grown) hb3
      have hq3' : Below w1.heap.size w1 w3 := below_call (by go_grown) hb3
      have hq3'' : Below w2.heap.size w2 w3 := below_call (by go_grown) hb3
      have hn3 : w1.heap.size < w3.heap.size := by omega
      have hn3' : w2.heap.size < w3.heap.size := by omega
      go_wp2_with fail
      refine (r_ints AS AT q cS q cT _ _ true (eqX_self 1 q _) _ (by omega) (by omega) (HS.out.arr1.on (by go_grown)) (HT.out.arr1.on (by go_grown))).mono ?_
      rintro e w4 ⟨rfl, hb4⟩
      obtain ⟨qc4, qf4⟩ := bcell hb4
      have hz4 := hb4.size
      try simp only [World.size_alloc, World.size_setCell, World.size_drew] at hz4
      have hq4 : Below w.heap.size w w4 := below_call (by go_grown) hb4
      have hq41 : Below w1.heap.size w1 w4 := below_call (by go_grown) hb4
      have hq42 : Below w2.heap.size w2 w4 := below_call (by go_grown) hb4
      have hn41 : w1.heap.size < w4.heap.size := by omega
      have hn42 : w2.heap.size < w4.heap.size := by omega
      have hn43 : w3.heap.size < w4.heap.size := by omega
      go_upto_if 123 with fail
      go_cut [2] (fun s2 wx => s2 = .bool false ∧ Below w.heap.size w wx)
      case first =>
        cases v
        · go_wp2_with fail
          go_meet
          exact ⟨rfl, by go_grown⟩
        · have hV := HV.out
          rw [Bool.and_eq_true] at hV
          have HBT := hide (bat_of hV.1)
          have HSA := hide (show sunAll X m from (sunB_of hV.2).2)
          have hm20 := (sunB_of hV.2).1
          clear hV
          obtain rfl : f = y0 := by simpa [onlyI] using H0.out
          obtain rfl : u = y2 := by simpa [onlyI] using H2.out
          obtain rfl : lo = y3 := by simpa [onlyI] using H3.out
          have HL : Hid (y1 = levD f nw u lo X m) := by have := H1.out; simp [onlyI] at this; exact this.symm
          have HQ' := hide (show q = (badD f nw u lo X m).length by have := HQ.out; simpa [onlyN] using this)
          clear H0 H1 H2 H3 HQ HV
          have hX1 := (Blk.new w1 25 #[.int .i64 f, .int .i64 nw, .int .i64 u, .int .i64 lo]).below hb2 (by simp)
          have hX2 := (hX1.alloc (.cells #[.int .i64 f, .int .i64 y1, .int .i64 u, .int .i64 lo] 25)).below hb3 (by simp only [World.size_alloc]; omega)
          have hX3 := (hX2.alloc (.cells #[.int .i64 f, .int .i64 y1, .int .i64 u, .int .i64 lo] 25)).below hb4 (by simp only [World.size_alloc]; omega)
          have hY2 := (Blk.new w2 25 #[.int .i64 f, .int .i64 y1, .int .i64 u, .int .i64 lo]).below hb3 (by simp)
          have hY3 := (hY2.alloc (.cells #[.int .i64 f, .int .i64 y1, .int .i64 u, .int .i64 lo] 25)).below hb4 (by simp only [World.size_alloc]; omega)
          have HY := hide hY3
          have e0 := hX3.cell 0; have e1 := hX3.cell 1; have e2 := hX3.cell 2; have e3 := hX3.cell 3
          simp at e0 e1 e2 e3
          clear qc1 qf1 qc2 qf2 qc3 qf3 qc4 qf4 hb1 hb2 hb3 hb4 hX1 hX2 hX3 hY2 hY3
          go_wp2
          go_loopw [2, 23] (fun s2 i wr => ∃ (k : Nat) (x : Int), k ≤ m ∧ s2 = .bool false ∧ i = .int .i64 k ∧ x = levD f nw u lo X k ∧ Below w4.heap.size w4 wr ∧ Blk wr w4.heap.size 25 #[.int .i64 f, .int .i64 x, .int .i64 u, .int .i64 lo]) (fun _ i _ => m - (intOf i).toNat)
          case atStart => exact ⟨0, nw, Nat.zero_le _, rfl, rfl, rfl, below_al (Below.refl _ _), Blk.new _ _ _⟩
          case round =>
            obtain ⟨k, x, hk, rfl, rfl, hx, hbw, hblk⟩ := hrel
            have bx := levD_bat HBT.out HSA.out k hk
            rw [← hx] at bx
            have HX := hide hx; clear hx
            have HBX := hide bx; clear bx
            have hqr : Below w.heap.size w wr := below_call hq4 hbw
            have hqr1 : Below w1.heap.size w1 wr := below_call hq41 hbw
            have hqr2 : Below w2.heap.size w2 wr := below_call hq42 hbw
            have hzr := hbw.size
            have d0 := hblk.cell 0; have d1 := hblk.cell 1; have d2 := hblk.cell 2; have d3 := hblk.cell 3
            simp at d0 d1 d2 d3
            have fz0 := hblk.frozen 0; have fz1 := hblk.frozen 1; have fz2 := hblk.frozen 2; have fz3 := hblk.frozen 3
            have hlt0 := hblk.lt
            have HK := hide hblk; clear hblk
            by_cases hlt : k < m
            · obtain ⟨b, off, rfl, hbb, hc⟩ := (HO.out.arr1.on hqr1) (by omega)
              have c0 := hc k 0 hlt (by omega); have c1 := hc k 1 hlt (by omega)
              simp only [Nat.add_zero, iv] at c0 c1
              obtain ⟨y1, y2, y3, y4, _⟩ := HSA.out k hlt
              clear hc
              obtain ⟨r, HR⟩ : ∃ r, Hid (aRan f x u lo (X k 1) = r) := ⟨_, rfl⟩
              obtain ⟨x', HX'⟩ : ∃ x', Hid (aNow f x u lo (X k 1) = x') := ⟨_, rfl⟩
              have HA := hide (show AfterU f x u lo (X k 1) f x' u lo r true from .inl ⟨by rw [Bool.and_eq_true]; exact ⟨bat_to HBX.out, inB_le.2 ⟨y3, y4⟩⟩, rfl, HX'.out.symm, rfl, rfl, HR.out.symm, rfl⟩)
              go_upto_region 23 with fail
              go_cut [24, 25, 26] (fun s24 s25 s26 wx => ∃ g : Nat, s24 = .pointer (some ⟨g, 0, none⟩) ∧ s25 = .bool r ∧ s26 = .bool true ∧ wr.heap.size ≤ g ∧ Below wr.heap.size wr wx ∧ Blk wx g 25 #[.int .i64 f, .int .i64 x', .int .i64 u, .int .i64 lo])
              case first =>
                go_region_with (go_at_call 12; refine (impl_afterU f x u lo (X k 1) f x' u lo r true HA.out _).mono ?_; rintro e w9 ⟨rfl, hb9⟩; obtain ⟨qc9, qf9⟩ := bcell hb9; have hs9 := hb9.size; (try simp only [World.size_alloc, World.size_drew] at hs9); (try have hl9 : wr.heap.size < w9.heap.size := by omega); (have hl3 : wr.heap.size ≤ w9.heap.size := by omega))
                all_goals
                  go_wp2_with fail
                  go_meet
                  have hA : Below wr.heap.size wr w9 := below_call (by go_grown) hb9
                  refine ⟨_, rfl, rfl, rfl, ?_, ?_, ?_⟩
                  · first | exact hl3 | exact Nat.le_refl _
                  · first
                      | (with_reducible exact below_al hA)
                      | (with_reducible exact (((hA.setCell (p := ⟨wr.heap.size, 0, none⟩) (Nat.le_refl _) _).setCell (p := ⟨wr.heap.size, 1, none⟩) (Nat.le_refl _) _).setCell (p := ⟨wr.heap.size, 2, none⟩) (Nat.le_refl _) _).setCell (p := ⟨wr.heap.size, 3, none⟩) (Nat.le_refl _) _)
                  · first
                      | (have hZ : Blk w9 wr.heap.size 25 #[.int .i64 0, .int .i64 0, .int .i64 0, .int .i64 0] := (hb9.block wr.heap.size (by simp)).trans (heap_alloc_new wr _)
                         exact (((hZ.set_ 0 _).set_ 1 _).set_ 2 _).set_ 3 _)
                      | exact Blk.new _ _ _
              case rest =>
                obtain ⟨g, rfl, rfl, rfl, hg, hbx, hnx⟩ := hcut
                have n0 := hnx.cell 0; have n1 := hnx.cell 1; have n2 := hnx.cell 2; have n3 := hnx.cell 3
                simp at n0 n1 n2 n3
                have hKx := HK.out.below hbx hlt0
                have k0 := hKx.cell 0; have k1 := hKx.cell 1; have k2 := hKx.cell 2; have k3 := hKx.cell 3
                simp at k0 k1 k2 k3
                have fk0 := hKx.frozen 0; have fk1 := hKx.frozen 1; have fk2 := hKx.frozen 2; have fk3 := hKx.frozen 3
                have c0' := ((bcell hbx).1 b (off + k * 2) hbb).trans c0
                have hsx := hbx.size
                have hglt := hnx.lt
                have HKX := hide hKx
                have hbw2 := below_call hbw hbx
                have hq22 := below_call hqr2 hbx
                have HH := hide (has_bad (X := X) HSA.out hlt HQ'.out (show aRan f (levD f nw u lo X k) u lo (X k 1) = r by rw [← HX.out]; exact HR.out))
                have HLV := hide (show x' = levD f nw u lo X (k + 1) by rw [levD, ← HX.out]; exact HX'.out.symm)
                clear hKx hnx c0 c1 d0 d1 d2 d3 fz0 fz1 fz2 fz3 HX HX' HR HA
                cases r
                all_goals
                  go_wp2_with fail
                  refine (r_has AS q cS _ (X k 0) _ HH.out _ (by omega) (HS.out.arr1.on hq22)).mono ?_
                  rintro e w9 ⟨rfl, rfl⟩
                  go_wp2
                  go_roundw
                  case rel => exact ⟨k + 1, x', by omega, rfl, by go_num, HLV.out, (((hbw2.setCell (p := ⟨w4.heap.size, 0, none⟩) (Nat.le_refl _) _).setCell (p := ⟨w4.heap.size, 1, none⟩) (Nat.le_refl _) _).setCell (p := ⟨w4.heap.size, 2, none⟩) (Nat.le_refl _) _).setCell (p := ⟨w4.heap.size, 3, none⟩) (Nat.le_refl _) _, (((HKX.out.set_ 0 _).set_ 1 _).set_ 2 _).set_ 3 _⟩
                  case measure => simp [intOf]; omega
            · obtain rfl : k = m := by omega
              obtain rfl : x = y1 := by rw [HX.out, HL.out]
              have hYr := HY.out.below hbw hn42
              have k0 := hYr.cell 0; have k1 := hYr.cell 1; have k2 := hYr.cell 2; have k3 := hYr.cell 3
              simp at k0 k1 k2 k3
              clear hYr
              go_wp2_with fail
              refine (impl_bat f x u lo true (bat_to HBX.out) _).mono ?_
              rintro e w9 ⟨rfl, hb9⟩
              go_wp2_with fail
              go_meet
              exact ⟨rfl, below_call hqr hb9⟩
      case rest =>
        obtain ⟨rfl, hqd⟩ := hcut
        have hzd := hqd.size
        clear hq1 hq2 hq2' hq3 hq3' hq3'' hq4 hq41 hq42 HO HS HT H0 H1 H2 H3 HQ HV qc1 qf1 qc2 qf2 qc3 qf3 qc4 qf4 hb1 hb2 hb3 hb4
        clear hz1 hz2 hz3 hz4 hn2 hn3 hn3' hn41 hn42 hn43
        go_wp2_with fail
        refine (draw_darkDays A n c C _ (HC.out.on hqd)).mono ?_
        rintro e w1 ⟨x, y, z, u, rfl, hb1⟩
        obtain ⟨qc1, qf1⟩ := bcell hb1
        have hz1 := hb1.size
        try simp only [World.size_alloc, World.size_setCell, World.size_drew] at hz1
        have hq1 : Below w.heap.size w w1 := below_call (by go_grown) hb1
        try have hl0_1 : w.heap.size < w1.heap.size := by omega
        try have hl1_1 : w.heap.size + 1 < w1.heap.size := by omega
        try have hl2_1 : w.heap.size + 2 < w1.heap.size := by omega
        try have hl3_1 : w.heap.size + 3 < w1.heap.size := by omega
        go_wp2_with fail
        refine (impl_darkU x y z u _).mono ?_
        rintro e w2 ⟨d, told, rfl, hb2, HD⟩
        obtain ⟨qc2, qf2⟩ := bcell hb2
        have hz2 := hb2.size
        try simp only [World.size_alloc, World.size_setCell, World.size_drew] at hz2
        have hq2 : Below w.heap.size w w2 := below_call (by go_grown) hb2
        try have hl0_2 : w.heap.size < w2.heap.size := by omega
        try have hl1_2 : w.heap.size + 1 < w2.heap.size := by omega
        try have hl2_2 : w.heap.size + 2 < w2.heap.size := by omega
        try have hl3_2 : w.heap.size + 3 < w2.heap.size := by omega
        try have hn1_2 : w1.heap.size < w2.heap.size := by omega
        go_wp2_with fail
        refine (spec_darkU x y z u _).mono ?_
        rintro e w3 ⟨d', told', rfl, hb3, HD'⟩
        obtain ⟨qc3, qf3⟩ := bcell hb3
        have hz3 := hb3.size
        try simp only [World.size_alloc, World.size_setCell, World.size_drew] at hz3
        have hq3 : Below w.heap.size w w3 := below_call (by go_grown) hb3
        try have hl0_3 : w.heap.size < w3.heap.size := by omega
        try have hl1_3 : w.heap.size + 1 < w3.heap.size := by omega
        try have hl2_3 : w.heap.size + 2 < w3.heap.size := by omega
        try have hl3_3 : w.heap.size + 3 < w3.heap.size := by omega
        try have hn1_3 : w1.heap.size < w3.heap.size := by omega
        try have hn2_3 : w2.heap.size < w3.heap.size := by omega
        obtain ⟨rfl, rfl⟩ := HD.out.one HD'.out
        clear HD'
        cases told'
        case' true => have hle := HD.out.le
        all_goals
          go_wp2_with fail
          refine (draw_afterDay A n c C _ (HC.out.on (by go_grown))).mono ?_
          rintro e w4 ⟨x4, y4, z4, u4, s4, rfl, hb4⟩
          obtain ⟨qc4, qf4⟩ := bcell hb4
          have hz4 := hb4.size
          try simp only [World.size_alloc, World.size_setCell, World.size_drew] at hz4
          have hq4 : Below w.heap.size w w4 := below_call (by go_grown) hb4
          try have hl0_4 : w.heap.size < w4.heap.size := by omega
          try have hl1_4 : w.heap.size + 1 < w4.heap.size := by omega
          try have hl2_4 : w.heap.size + 2 < w4.heap.size := by omega
          try have hl3_4 : w.heap.size + 3 < w4.heap.size := by omega
          try have hn1_4 : w1.heap.size < w4.heap.size := by omega
          try have hn2_4 : w2.heap.size < w4.heap.size := by omega
          try have hn3_4 : w3.heap.size < w4.heap.size := by omega
          obtain ⟨a0, a1, a2, a3, r, ok, HE⟩ : ∃ a0 a1 a2 a3 r ok, Hid (AfterU x4 y4 z4 u4 s4 a0 a1 a2 a3 r ok) := AfterU.ex _ _ _ _ _
          go_wp2_with fail
          refine (impl_afterU x4 y4 z4 u4 s4 a0 a1 a2 a3 r ok HE.out _).mono ?_
          rintro e w5 ⟨rfl, hb5⟩
          obtain ⟨qc5, qf5⟩ := bcell hb5
          have hz5 := hb5.size
          try simp only [World.size_alloc, World.size_setCell, World.size_drew] at hz5
          have hq5 : Below w.heap.size w w5 := below_call (by go_grown) hb5
          try have hl0_5 : w.heap.size < w5.heap.size := by omega
          try have hl1_5 : w.heap.size + 1 < w5.heap.size := by omega
          try have hl2_5 : w.heap.size + 2 < w5.heap.size := by omega
          try have hl3_5 : w.heap.size + 3 < w5.heap.size := by omega
          try have hn1_5 : w1.heap.size < w5.heap.size := by omega
          try have hn2_5 : w2.heap.size < w5.heap.size := by omega
          try have hn3_5 : w3.heap.size < w5.heap.size := by omega
          try have hn4_5 : w4.heap.size < w5.heap.size := by omega
          go_wp2_with fail
          refine (spec_afterU x4 y4 z4 u4 s4 a0 a1 a2 a3 r ok HE.out _).mono ?_
          rintro e w6 ⟨rfl, hb6⟩
          obtain ⟨qc6, qf6⟩ := bcell hb6
          have hz6 := hb6.size
          try simp only [World.size_alloc, World.size_setCell, World.size_drew] at hz6
          have hq6 : Below w.heap.size w w6 := below_call (by go_grown) hb6
          try have hl0_6 : w.heap.size < w6.heap.size := by omega
          try have hl1_6 : w.heap.size + 1 < w6.heap.size := by omega
          try have hl2_6 : w.heap.size + 2 < w6.heap.size := by omega
          try have hl3_6 : w.heap.size + 3 < w6.heap.size := by omega
          try have hn1_6 : w1.heap.size < w6.heap.size := by omega
          try have hn2_6 : w2.heap.size < w6.heap.size := by omega
          try have hn3_6 : w3.heap.size < w6.heap.size := by omega
          try have hn4_6 : w4.heap.size < w6.heap.size := by omega
          try have hn5_6 : w5.heap.size < w6.heap.size := by omega
          go_wp2_with fail
          go_returns
          exact ⟨rfl, by go_grown⟩
  · have HB := hide hB; have HM := hide hm
    clear ha hC hB hm
    go_enter Try.func3, Try.ntmps3
    go_wp2_with fail
    refine (r_big A n c true HB.out HM.out _).mono ?_
    rintro e w0 ⟨rfl, rfl⟩
    go_wp2
    go_returns
    exact ⟨rfl, by go_grown⟩
end Go.Proofs.Ytfdgnjnnbhelgaa
