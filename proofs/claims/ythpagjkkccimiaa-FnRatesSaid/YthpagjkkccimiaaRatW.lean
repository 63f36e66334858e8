/- Chapter 20: the law on rates: the walk. -/
import Derived.Test.YthpagjkkccimiaaRatP
import Derived.Test.YthpagjkkccimiaaDrwR
import Derived.Test.YthpagjkkccimiaaRv2
import Derived.Test.YthpagjkkccimiaaRow3
import Derived.Deep.DeepCutAuto
import Derived.Deep.CutBlock
namespace Go.Proofs.Ythpagjkkccimiaa
open Go.RowKit
set_option linter.unusedVariables false
set_option linter.unusedSimpArgs false

set_option maxRecDepth 100000 in
set_option maxHeartbeats 8000000 in
theorem walk_FnRates (A : Option Addr) (n c : Nat) (C : Nat → Int) (w : World) (hm : n ≤ maxLen) (ha : Arr w w.heap.size A n 1 (bv C)) (hC : ∀ i, i < n → 0 ≤ C i ∧ C i ≤ 255) :
    Calls Try.prog 11 #[.slice A n c] w fun e w' => e = .returned (.bool true) ∧ Below w.heap.size w w' := by
  have hfa := frozen_al; have hfo := frozen_out
  cases hB : decide (65536 < (n : Int))
  · have HC := hide (show CodeOk w A n C from ⟨by rw [decide_eq_false_iff_not] at hB; omega, ha, hC⟩)
    have HM := hide hm; have HB := hide hB
    clear ha hC hm hB
    go_enter Try.func11, Try.ntmps11
    go_wp2_with fail
    refine (v_big A n c false HB.out HM.out _).mono ?_
    rintro e w0 ⟨rfl, rfl⟩
    go_wp2_with fail
    refine (draw_rate A n c C _ (HC.out.on (by go_grown))).mono ?_
    rintro e w1 ⟨Va, la, s, f, t, hla, rfl, hb1, OLa⟩
    have hs1 : Below w.heap.size w w1 := below_call (by go_grown) hb1
    have hq1 : Below w.heap.size w w1 := hs1
    have hz1 := hs1.size
    clear hb1 hs1
    obtain ⟨ma, hma⟩ : ∃ m, m = la.length := ⟨_, rfl⟩
    rw [← hma] at OLa hla
    obtain ⟨Xa, hXa⟩ : ∃ X, X = qX la := ⟨_, rfl⟩
    rw [← hXa] at OLa
    clear hma hXa
    obtain ⟨Aa, ca, rfl, hca, _⟩ := OLa.arr
    have Ha_1 := hide OLa; clear OLa
    obtain ⟨v, Hv⟩ : ∃ v, Hid (rateOk Xa s f t ma = v) := ⟨_, rfl⟩
    obtain ⟨r, Hr⟩ : ∃ r, Hid (onlyI v (rateA Xa s f t ma) = r) := ⟨_, rfl⟩
    obtain ⟨d, Hd⟩ : ∃ d, Hid (onlyI v (rateB Xa s f t ma) = d) := ⟨_, rfl⟩
    go_wp2_with fail
    refine (impl_rate Aa ma ca Xa s f t v Hv.out r d Hr.out Hd.out _ (by omega) (Ha_1.out.arr1.on (by go_grown))).mono ?_
    rintro e w2 ⟨rfl, hb2⟩
    have hs2 : Below w1.heap.size w1 w2 := below_call (by go_grown) hb2
    have hq2 : Below w.heap.size w w2 := below_call hq1 hs2
    have hz2 := hs2.size
    have Ha_2 := hide (Ha_1.out.below hs2 (Nat.le_refl _))
    clear Ha_1
    clear hb2 hs2
    go_wp2_with fail
    refine (spec_rate Aa ma ca Xa s f t v Hv.out r d Hr.out Hd.out _ (by omega) (Ha_2.out.arr1.on (by go_grown))).mono ?_
    rintro e w3 ⟨rfl, hb3⟩
    have hs3 : Below w2.heap.size w2 w3 := below_call (by go_grown) hb3
    have hq3 : Below w.heap.size w w3 := below_call hq2 hs3
    have hz3 := hs3.size
    have Ha_3 := hide (Ha_2.out.below hs3 (Nat.le_refl _))
    clear Ha_2
    clear hb3 hs3
    go_upto_if 78 with fail
    go_cut [2] (fun s2 wx => s2 = .bool false ∧ Below w.heap.size w wx)
    case first =>
      cases v
      · go_wp2_with fail
        go_meet
        exact ⟨rfl, by go_grown⟩
      · have hV := Hv.out
        have er : rateA Xa s f t ma = r := by simpa [onlyI] using Hr.out
        have ed : rateB Xa s f t ma = d := by simpa [onlyI] using Hd.out
        simp only [rateOk, Bool.and_eq_true, decide_eq_true_eq, inB] at hV
        obtain ⟨⟨⟨_, f0, f1⟩, t0, t1⟩, hft⟩ := hV
        obtain ⟨e1, e2, e3, e4⟩ := rate_bd (X := Xa) (s := s) (n := ma) hft
        have he := rate_law (X := Xa) (s := s) (n := ma) hft
        rw [er] at e1 e2 he; rw [ed] at e3 e4 he
        obtain ⟨z, hz⟩ : ∃ z, z = rtN Xa s f t ma := ⟨_, rfl⟩
        have hzb := rtN_bd Xa s f t ma
        rw [← hz] at he hzb
        have p1 := prod_bd (a := r) (b := t - f + 1) (A := 40) (B := 1000001) (by omega) (by omega) (by omega) (by omega)
        have p2 := prod_bd (a := z) (b := d) (A := 40) (B := 1000001) (by omega) (by omega) (by omega) (by omega)
        have hB0 : (r * (t - f + 1) != z * d) = false := by simp [he]
        have HZ := hide hz; have HE := hide he
        clear hz he Hr Hd Hv er ed
        go_wp2
        go_loop [13, 14] (fun u i => ∃ k : Nat, k ≤ ma ∧ i = .int .i64 k ∧ u = .int .i64 (rtN Xa s f t k)) (fun _ i => ma - (intOf i).toNat)
        case atStart => exact ⟨0, Nat.zero_le _, rfl, rfl⟩
        case round =>
          obtain ⟨k, hk, rfl, rfl⟩ := hrel
          have hu := rtN_bd Xa s f t k
          obtain ⟨u, hu'⟩ : ∃ u, rtN Xa s f t k = u := ⟨_, rfl⟩
          rw [hu'] at hu
          by_cases hlt : k < ma
          · obtain ⟨b, off, rfl, hbb, hc⟩ := Ha_3.out.arr1 (by omega)
            have c0 := hc k 0 hlt (by omega); have c3 := hc k 3 hlt (by omega)
            simp only [Nat.add_zero, iv] at c0 c3
            have HU := hide hu'
            rw [hu']
            clear hc hu'
            by_cases h1 : s ≤ Xa k 3
            · by_cases h2 : f ≤ Xa k 0
              · by_cases h3 : Xa k 0 ≤ t
                · go_wp2
                  go_round
                  case rel => exact ⟨k + 1, by omega, by go_num, by rw [rtN_yes h1 h2 h3, HU.out]⟩
                  case measure => simp [intOf]; omega
                · have hd3 : decide (Xa k 0 ≤ t) = false := by simpa using h3
                  go_wp2
                  go_round
                  case rel => exact ⟨k + 1, by omega, by go_num, by rw [rtN_no (by omega), HU.out]⟩
                  case measure => simp [intOf]; omega
              · have hd2 : decide (f ≤ Xa k 0) = false := by simpa using h2
                go_wp2
                go_round
                case rel => exact ⟨k + 1, by omega, by go_num, by rw [rtN_no (by omega), HU.out]⟩
                case measure => simp [intOf]; omega
            · have hd1 : decide (s ≤ Xa k 3) = false := by simpa using h1
              go_wp2
              go_round
              case rel => exact ⟨k + 1, by omega, by go_num, by rw [rtN_no (by omega), HU.out]⟩
              case measure => simp [intOf]; omega
          · obtain rfl : k = ma := by omega
            obtain rfl : z = u := by rw [HZ.out, hu']
            rw [hu']
            clear hu'
            go_wp2_with fail
            go_meet
            exact ⟨rfl, by go_grown⟩
    case rest =>
      obtain ⟨rfl, hqc⟩ := hcut
      clear hq1 hz1 hq2 hz2 hq3 hz3 Ha_3 Hv Hr Hd hla
      obtain ⟨w4, rfl⟩ : ∃ x, x = wc := ⟨_, rfl⟩
      have hq4 := hqc; clear hqc
      go_wp2_with fail
      refine (draw_wins A n c C _ (HC.out.on (by go_grown))).mono ?_
      rintro e w5 ⟨Vb, lb, x, hlb, rfl, hb5, OLb⟩
      have hs5 : Below w4.heap.size w4 w5 := below_call (by go_grown) hb5
      have hq5 : Below w.heap.size w w5 := below_call hq4 hs5
      have hz5 := hs5.size
      clear hb5 hs5
      obtain ⟨mb, hmb⟩ : ∃ m, m = lb.length := ⟨_, rfl⟩
      rw [← hmb] at OLb hlb
      obtain ⟨Xb, hXb⟩ : ∃ X, X = qX lb := ⟨_, rfl⟩
      rw [← hXb] at OLb
      clear hmb hXb
      obtain ⟨Ab, cb, rfl, hcb, _⟩ := OLb.arr
      have Hb_5 := hide OLb; clear OLb
      obtain ⟨u, Hu⟩ : ∃ u, Hid ((catB mb Xb && inB x 0 100000) = u) := ⟨_, rfl⟩
      obtain ⟨fn, Hfn⟩ : ∃ fn, Hid ((catB mb Xb && inB x 0 100000 && decide (mb ≠ 0)) = fn) := ⟨_, rfl⟩
      obtain ⟨q, Hq⟩ : ∃ q, Hid (q = onlyN u mb) := ⟨_, rfl⟩
      have hq40 : q ≤ 40 := by rw [Hq.out]; exact onlyN_le hlb
      obtain ⟨r, Hr⟩ : ∃ r, Hid (onlyI fn (Xb (bestI (winI Xb x mb) mb) 0) = r) := ⟨_, rfl⟩
      obtain ⟨d, Hd⟩ : ∃ d, Hid (onlyI fn (winI Xb x mb (bestI (winI Xb x mb) mb)) = d) := ⟨_, rfl⟩
      go_wp2_with fail
      refine (impl_winC Ab mb cb Xb x u Hu.out q Hq.out _ (by omega) (Hb_5.out.arr1.on (by go_grown))).mono ?_
      rintro e w6 ⟨vS, rfl, hb6, OS⟩
      have hs6 : Below w5.heap.size w5 w6 := below_call (by go_grown) hb6
      have hq6 : Below w.heap.size w w6 := below_call hq5 hs6
      have hz6 := hs6.size
      have Hb_6 := hide (Hb_5.out.below hs6 (Nat.le_refl _))
      clear Hb_5
      obtain ⟨AS, cS, rfl, hcS, _⟩ := OS.arr
      have HS_6 := hide OS; clear OS
      clear hb6 hs6
      go_wp2_with fail
      refine (spec_winC Ab mb cb Xb x u Hu.out q Hq.out _ (by omega) (Hb_6.out.arr1.on (by go_grown))).mono ?_
      rintro e w7 ⟨vT, rfl, hb7, OT⟩
      have hs7 : Below w6.heap.size w6 w7 := below_call (by go_grown) hb7
      have hq7 : Below w.heap.size w w7 := below_call hq6 hs7
      have hz7 := hs7.size
      have Hb_7 := hide (Hb_6.out.below hs7 (Nat.le_refl _))
      have HS_7 := hide (HS_6.out.below hs7 (Nat.le_refl _))
      clear Hb_6
      clear HS_6
      obtain ⟨AT, cT, rfl, hcT, _⟩ := OT.arr
      have HT_7 := hide OT; clear OT
      clear hb7 hs7
      go_wp2_with fail
      refine (v_ints AS AT q cS q cT _ _ true (eqX_self 1 q _) _ (by omega) (by omega) (HS_7.out.arr1.on (by go_grown)) (HT_7.out.arr1.on (by go_grown))).mono ?_
      rintro e w8 ⟨rfl, hb8⟩
      have hs8 : Below w7.heap.size w7 w8 := below_call (by go_grown) hb8
      have hq8 : Below w.heap.size w w8 := below_call hq7 hs8
      have hz8 := hs8.size
      have Hb_8 := hide (Hb_7.out.below hs8 (Nat.le_refl _))
      have HS_8 := hide (HS_7.out.below hs8 (Nat.le_refl _))
      have HT_8 := hide (HT_7.out.below hs8 (Nat.le_refl _))
      clear Hb_7
      clear HS_7
      clear HT_7
      clear hb8 hs8
      clear HT_8
      go_wp2_with fail
      refine (impl_busy Ab mb cb Xb x fn Hfn.out r d Hr.out Hd.out _ (by omega) (Hb_8.out.arr1.on (by go_grown))).mono ?_
      rintro e w9 ⟨rfl, hb9⟩
      have hs9 : Below w8.heap.size w8 w9 := below_call (by go_grown) hb9
      have hq9 : Below w.heap.size w w9 := below_call hq8 hs9
      have hz9 := hs9.size
      have Hb_9 := hide (Hb_8.out.below hs9 (Nat.le_refl _))
      have HS_9 := hide (HS_8.out.below hs9 (Nat.le_refl _))
      clear Hb_8
      clear HS_8
      clear hb9 hs9
      go_wp2_with fail
      refine (spec_busy Ab mb cb Xb x fn Hfn.out r d Hr.out Hd.out _ (by omega) (Hb_9.out.arr1.on (by go_grown))).mono ?_
      rintro e w10 ⟨rfl, hb10⟩
      have hs10 : Below w9.heap.size w9 w10 := below_call (by go_grown) hb10
      have hq10 : Below w.heap.size w w10 := below_call hq9 hs10
      have hz10 := hs10.size
      have Hb_10 := hide (Hb_9.out.below hs10 (Nat.le_refl _))
      have HS_10 := hide (HS_9.out.below hs10 (Nat.le_refl _))
      clear Hb_9
      clear HS_9
      clear hb10 hs10
      have hfn : fn = (u && decide (mb ≠ 0)) := by rw [← Hfn.out, ← Hu.out]
      have HFN := hide hfn; clear hfn
      go_upto_region 24 with fail
      go_cut [184] (fun s2 wx => s2 = .bool false ∧ wx = w10)
      case first =>
        have hfn := HFN.out
        cases u
        · obtain rfl : fn = false := by simpa using hfn
          clear hfn
          go_wp2_with fail
          go_meet
          exact ⟨rfl, rfl⟩
        · by_cases h0 : mb = 0
          · obtain rfl : fn = false := by simpa [h0] using hfn
            subst h0
            clear hfn
            go_wp2_with fail
            go_meet
            exact ⟨rfl, rfl⟩
          · obtain rfl : fn = true := by simpa [h0] using hfn
            have h1 : decide (0 < mb) = true := decide_eq_true (by omega)
            clear hfn
            go_wp2_with fail
            go_meet
            exact ⟨rfl, rfl⟩
      case rest =>
        obtain ⟨rfl, hw⟩ := hcut
        obtain rfl : w10 = wc := hw.symm
        go_upto_block 2 with fail
        go_cut [2] (fun s2 wx => s2 = .bool false ∧ wx = w10)
        case first =>
          have hAB : q = 0 ∨ (fn = true ∧ q = mb ∧ 0 ≤ x ∧ d = winI Xb x mb (bestI (winI Xb x mb) mb)) := by
            have h1 := Hq.out; have h2 := HFN.out; have h3 := Hd.out; have h4 := Hu.out
            cases u
            · exact .inl h1
            · by_cases h0 : mb = 0
              · left; rw [h1, h0]; rfl
              · have h5 : fn = true := by simpa [h0] using h2
                rw [Bool.and_eq_true] at h4
                rw [h5] at h3
                exact .inr ⟨h5, h1, (inB_of h4.2).1, h3.symm⟩
          have HAB := hide hAB
          clear hAB Hr Hd HFN Hu
          go_wp2_with fail
          go_loop [2, 27] (fun s2 i => ∃ k : Nat, k ≤ q ∧ s2 = .bool false ∧ i = .int .i64 k) (fun _ i => q - (intOf i).toNat)
          case atStart => exact ⟨0, Nat.zero_le _, rfl, rfl⟩
          case round =>
            obtain ⟨k, hk, rfl, rfl⟩ := hrel
            by_cases hlt : k < q
            · obtain ⟨hfn, hqm, hx0, hd⟩ : fn = true ∧ q = mb ∧ 0 ≤ x ∧ d = winI Xb x mb (bestI (winI Xb x mb) mb) := by
                rcases HAB.out with h | h
                · omega
                · exact h
              subst hfn
              have h1 := win_self (X := Xb) (wd := x) (n := mb) (i := k) hx0 (by omega)
              have h2 := best_max (winI Xb x mb) (k := mb) (i := k) (by omega)
              rw [← hd] at h2
              obtain ⟨b, off, rfl, hbb, hc⟩ := HS_10.out.arr1 (by omega)
              have c0 := hc k 0 hlt (by omega)
              simp only [Nat.add_zero, Nat.mul_one, iv] at c0
              obtain ⟨z, hz⟩ : ∃ z, winI Xb x mb k = z := ⟨_, rfl⟩
              rw [hz] at c0 h1 h2
              have d1 : decide (z < 1) = false := decide_eq_false (by omega)
              have d2 : decide (d < z) = false := decide_eq_false (by omega)
              clear hc hz hd hqm
              go_wp2
              go_round
              case rel => exact ⟨k + 1, by omega, rfl, by go_num⟩
              case measure => simp [intOf]; omega
            · obtain rfl : k = q := by omega
              go_wp2_with fail
              go_meet
              exact ⟨rfl, rfl⟩
        case rest =>
          obtain ⟨rfl, hw⟩ := hcut
          obtain rfl : w10 = wc := hw.symm
          clear HS_10
          clear Hb_10
          clear Hq Hr Hd HFN Hu Hfn hlb
          go_wp2_with fail
          refine (draw_span A n c C _ (HC.out.on (by go_grown))).mono ?_
          rintro e w11 ⟨Ve, le, y, hle, rfl, hb11, OLe⟩
          have hs11 : Below w10.heap.size w10 w11 := below_call (by go_grown) hb11
          have hq11 : Below w.heap.size w w11 := below_call hq10 hs11
          have hz11 := hs11.size
          clear hb11 hs11
          obtain ⟨me, hme⟩ : ∃ m, m = le.length := ⟨_, rfl⟩
          rw [← hme] at OLe hle
          obtain ⟨Xe, hXe⟩ : ∃ X, X = qX le := ⟨_, rfl⟩
          rw [← hXe] at OLe
          clear hme hXe
          obtain ⟨Ae, ce, rfl, hce, _⟩ := OLe.arr
          have He_11 := hide OLe; clear OLe
          obtain ⟨u, Hu⟩ : ∃ u, Hid (spanOk Xe y me = u) := ⟨_, rfl⟩
          obtain ⟨r, Hr⟩ : ∃ r, Hid (onlyI u (spanA Xe y me) = r) := ⟨_, rfl⟩
          obtain ⟨d, Hd⟩ : ∃ d, Hid (onlyI u (spanB Xe y me) = d) := ⟨_, rfl⟩
          go_wp2_with fail
          refine (impl_span Ae me ce Xe y u Hu.out r d Hr.out Hd.out _ (by omega) (He_11.out.arr1.on (by go_grown))).mono ?_
          rintro e w12 ⟨rfl, hb12⟩
          have hs12 : Below w11.heap.size w11 w12 := below_call (by go_grown) hb12
          have hq12 : Below w.heap.size w w12 := below_call hq11 hs12
          have hz12 := hs12.size
          have He_12 := hide (He_11.out.below hs12 (Nat.le_refl _))
          clear He_11
          clear hb12 hs12
          go_wp2_with fail
          refine (spec_span Ae me ce Xe y u Hu.out r d Hr.out Hd.out _ (by omega) (He_12.out.arr1.on (by go_grown))).mono ?_
          rintro e w13 ⟨rfl, hb13⟩
          have hs13 : Below w12.heap.size w12 w13 := below_call (by go_grown) hb13
          have hq13 : Below w.heap.size w w13 := below_call hq12 hs13
          have hz13 := hs13.size
          have He_13 := hide (He_12.out.below hs13 (Nat.le_refl _))
          clear He_12
          clear hb13 hs13
          cases u
          · skip
            go_wp2
            go_returns
            exact ⟨rfl, by go_grown⟩
          · skip
            have er : spanA Xe y me = r := by simpa [onlyI] using Hr.out
            have ed : spanB Xe y me = d := by simpa [onlyI] using Hd.out
            have hle := span_up Hu.out
            rw [er, ed] at hle
            obtain ⟨hs1, hs2⟩ := span_two Hu.out
            have HS1 := hide hs1
            have hs3 := selL_len (szP Xe y) me
            have dl : decide (d < r) = false := decide_eq_false (by omega)
            obtain ⟨z, hz⟩ : ∃ z : Int, onlyI true (selL (szP Xe y) me).length = z := ⟨_, rfl⟩
            have hz2 : 2 ≤ z ∧ z ≤ 40 := by rw [← hz]; simp only [onlyI, if_true]; omega
            have HZ := hide hz
            clear er ed hs1 hs2 hz Hr Hd hs3
            go_wp2_with fail
            refine (impl_larger' Ae me ce Xe y true HS1.out z HZ.out _ (by omega) (He_13.out.arr1.on (by go_grown))).mono ?_
            rintro e w14 ⟨rfl, hb14⟩
            have hs14 : Below w13.heap.size w13 w14 := below_call (by go_grown) hb14
            have hq14 : Below w.heap.size w w14 := below_call hq13 hs14
            have hz14 := hs14.size
            have He_14 := hide (He_13.out.below hs14 (Nat.le_refl _))
            clear He_13
            clear hb14 hs14
            go_wp2
            go_returns
            exact ⟨rfl, by go_grown⟩
  · have HB := hide hB; have HM := hide hm
    clear ha hC hB hm
    go_enter Try.func11, Try.ntmps11
    go_wp2_with fail
    refine (v_big A n c true HB.out HM.out _).mono ?_
    rintro e w0 ⟨rfl, rfl⟩
    go_wp2
    go_returns
    exact ⟨rfl, by go_grown⟩
end Go.Proofs.Ythpagjkkccimiaa
