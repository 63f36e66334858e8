/- Chapter 20: the law on histograms: the walk. -/
import Derived.Test.YthpagjkkccimiaaRatP
import Derived.Test.YthpagjkkccimiaaDrwR
import Derived.Test.YthpagjkkccimiaaRv2
import Derived.Test.YthpagjkkccimiaaRow3
import Derived.Deep.DeepCutAuto
import Derived.Deep.CutBlock
namespace Go.Proofs.Ythpagjkkccimiaa
open Go.RowKit
set_option linter.unusedVariables false
set_option linter.unusedSimpArgs false

set_option maxRecDepth 100000 in
set_option maxHeartbeats 8000000 in
theorem walk_FnHistograms (A : Option Addr) (n c : Nat) (C : Nat → Int) (w : World) (hm : n ≤ maxLen) (ha : Arr w w.heap.size A n 1 (bv C)) (hC : ∀ i, i < n → 0 ≤ C i ∧ C i ≤ 255) :
    Calls Try.prog 12 #[.slice A n c] w fun e w' => e = .returned (.bool true) ∧ Below w.heap.size w w' := by
  have hfa := frozen_al; have hfo := frozen_out
  cases hB : decide (65536 < (n : Int))
  · have HC := hide (show CodeOk w A n C from ⟨by rw [decide_eq_false_iff_not] at hB; omega, ha, hC⟩)
    have HM := hide hm; have HB := hide hB
    clear ha hC hm hB
    go_enter Try.func12, Try.ntmps12
    go_wp2_with fail
    refine (v_big A n c false HB.out HM.out _).mono ?_
    rintro e w0 ⟨rfl, rfl⟩
    go_wp2_with fail
    refine (draw_hist A n c C _ (HC.out.on (by go_grown))).mono ?_
    rintro e w1 ⟨Va, la, x, hla, rfl, hb1, OLa⟩
    have hs1 : Below w.heap.size w w1 := below_call (by go_grown) hb1
    have hq1 : Below w.heap.size w w1 := hs1
    have hz1 := hs1.size
    clear hb1 hs1
    obtain ⟨ma, hma⟩ : ∃ m, m = la.length := ⟨_, rfl⟩
    rw [← hma] at OLa hla
    obtain ⟨Xa, hXa⟩ : ∃ X, X = qX la := ⟨_, rfl⟩
    rw [← hXa] at OLa
    clear hma hXa
    obtain ⟨Aa, ca, rfl, hca, _⟩ := OLa.arr
    have Ha_1 := hide OLa; clear OLa
    obtain ⟨v, Hv⟩ : ∃ v, Hid ((catB ma Xa && inB x 1 50) = v) := ⟨_, rfl⟩
    obtain ⟨q, Hq⟩ : ∃ q, Hid (q = onlyN v 12) := ⟨_, rfl⟩
    have hq12 : q ≤ 12 := by rw [Hq.out]; exact onlyN_le (Nat.le_refl _)
    go_wp2_with fail
    refine (impl_hist Aa ma ca Xa x v Hv.out q Hq.out _ (by omega) (Ha_1.out.arr1.on (by go_grown))).mono ?_
    rintro e w2 ⟨vS, rfl, hb2, OS⟩
    have hs2 : Below w1.heap.size w1 w2 := below_call (by go_grown) hb2
    have hq2 : Below w.heap.size w w2 := below_call hq1 hs2
    have hz2 := hs2.size
    have Ha_2 := hide (Ha_1.out.below hs2 (Nat.le_refl _))
    clear Ha_1
    obtain ⟨AS, cS, rfl, hcS, _⟩ := OS.arr
    have HS_2 := hide OS; clear OS
    clear hb2 hs2
    go_wp2_with fail
    refine (spec_hist Aa ma ca Xa x v Hv.out q Hq.out _ (by omega) (Ha_2.out.arr1.on (by go_grown))).mono ?_
    rintro e w3 ⟨vT, rfl, hb3, OT⟩
    have hs3 : Below w2.heap.size w2 w3 := below_call (by go_grown) hb3
    have hq3 : Below w.heap.size w w3 := below_call hq2 hs3
    have hz3 := hs3.size
    have Ha_3 := hide (Ha_2.out.below hs3 (Nat.le_refl _))
    have HS_3 := hide (HS_2.out.below hs3 (Nat.le_refl _))
    clear Ha_2
    clear HS_2
    obtain ⟨AT, cT, rfl, hcT, _⟩ := OT.arr
    have HT_3 := hide OT; clear OT
    clear hb3 hs3
    go_upto_region 6 with fail
    go_cut [71] (fun s2 wx => s2 = .bool false ∧ Below w3.heap.size w3 wx)
    case first =>
      as_aux_lemma =>
        go_wp2_with fail
        refine (v_ints AS AT q cS q cT _ _ true (eqX_self 1 q _) _ (by omega) (by omega) (HS_3.out.arr1.on (by go_grown)) (HT_3.out.arr1.on (by go_grown))).mono ?_
        rintro e w4 ⟨rfl, hb4⟩
        have hs4 : Below w3.heap.size w3 w4 := below_call (by go_grown) hb4
        have hq4 : Below w.heap.size w w4 := below_call hq3 hs4
        have hk4 : Below w3.heap.size w3 w4 := hs4
        have hz4 := hs4.size
        have Ha_4 := hide (Ha_3.out.below hs4 (Nat.le_refl _))
        have HS_4 := hide (HS_3.out.below hs4 (Nat.le_refl _))
        have HT_4 := hide (HT_3.out.below hs4 (Nat.le_refl _))
        clear Ha_3
        clear HS_3
        clear HT_3
        clear hb4 hs4
        cases v
        · skip
          go_wp2_with fail
          go_meet
          exact ⟨rfl, by go_grown⟩
        · skip
          obtain rfl : q = 12 := by have := Hq.out; simpa [onlyN] using this
          have hV := Hv.out
          rw [Bool.and_eq_true] at hV
          have hX := catIn_of (catB_of hV.1).2
          have hw1 := (inB_of hV.2).1
          have hsum : smV (fun i => (fun i _ => hst Xa x ma i : Nat → Nat → Int) i 0) 12 = (ma : Int) := by
            have := hst_sum hX hw1 ma (Nat.le_refl _)
            simp only [smI] at this
            simp only [smV]; exact this
          have hbd : ∀ k, k ≤ 12 → 0 ≤ smV (fun i => (fun i _ => hst Xa x ma i : Nat → Nat → Int) i 0) k ∧ smV (fun i => (fun i _ => hst Xa x ma i : Nat → Nat → Int) i 0) k ≤ 1099511627776 := by
            intro k hk
            have h1 := smI_bd (f := hst Xa x ma) (M := ma) (by omega) (hst_bd Xa x ma) k
            have h2 : smV (fun i => hst Xa x ma i) k = smI (hst Xa x ma) k := by
              clear hk h1
              induction k with
              | zero => rfl
              | succ k ih => rw [smV, smI, ih]
            have h3 : (ma : Int) * k ≤ 40 * 12 := Int.mul_le_mul (by omega) (by omega) (by omega) (by omega)
            show 0 ≤ smV (fun i => hst Xa x ma i) k ∧ smV (fun i => hst Xa x ma i) k ≤ 1099511627776
            rw [h2]; omega
          have HSM := hide hsum; have HBD := hide hbd
          clear hsum hbd hV hX hw1
          go_wp2_with fail
          refine (v_sum AS 12 cS (fun i _ => hst Xa x ma i) (ma : Int) HSM.out _ (by omega) (HS_4.out.arr1.on (by go_grown)) HBD.out).mono ?_
          rintro e w4' ⟨rfl, rfl⟩
          go_wp2_with fail
          go_meet
          exact ⟨rfl, by go_grown⟩
    case rest =>
      obtain ⟨rfl, hqc⟩ := hcut
      obtain ⟨w5, rfl⟩ : ∃ x, x = wc := ⟨_, rfl⟩
      have hq5 : Below w.heap.size w w5 := below_call hq3 hqc
      have hz5 := hqc.size
      have Ha_5 := hide (Ha_3.out.below hqc (Nat.le_refl _))
      clear Ha_3
      have HS_5 := hide (HS_3.out.below hqc (Nat.le_refl _))
      clear HS_3
      have HT_5 := hide (HT_3.out.below hqc (Nat.le_refl _))
      clear HT_3
      clear hqc
      clear HS_5
      clear HT_5
      go_wp2_with fail
      refine (impl_counts Aa ma ca Xa x v Hv.out q Hq.out _ (by omega) (Ha_5.out.arr1.on (by go_grown))).mono ?_
      rintro e w6 ⟨vY, rfl, hb6, OY⟩
      have hs6 : Below w5.heap.size w5 w6 := below_call (by go_grown) hb6
      have hq6 : Below w.heap.size w w6 := below_call hq5 hs6
      have hz6 := hs6.size
      have Ha_6 := hide (Ha_5.out.below hs6 (Nat.le_refl _))
      clear Ha_5
      obtain ⟨AY, cY, rfl, hcY, _⟩ := OY.arr
      have HY_6 := hide OY; clear OY
      clear hb6 hs6
      go_wp2_with fail
      refine (spec_counts Aa ma ca Xa x v Hv.out q Hq.out _ (by omega) (Ha_6.out.arr1.on (by go_grown))).mono ?_
      rintro e w7 ⟨vZ, rfl, hb7, OZ⟩
      have hs7 : Below w6.heap.size w6 w7 := below_call (by go_grown) hb7
      have hq7 : Below w.heap.size w w7 := below_call hq6 hs7
      have hz7 := hs7.size
      have Ha_7 := hide (Ha_6.out.below hs7 (Nat.le_refl _))
      have HY_7 := hide (HY_6.out.below hs7 (Nat.le_refl _))
      clear Ha_6
      clear HY_6
      obtain ⟨AZ, cZ, rfl, hcZ, _⟩ := OZ.arr
      have HZ_7 := hide OZ; clear OZ
      clear hb7 hs7
      go_wp2_with fail
      refine (v_ints AY AZ q cY q cZ _ _ true (eqX_self 1 q _) _ (by omega) (by omega) (HY_7.out.arr1.on (by go_grown)) (HZ_7.out.arr1.on (by go_grown))).mono ?_
      rintro e w8 ⟨rfl, hb8⟩
      have hs8 : Below w7.heap.size w7 w8 := below_call (by go_grown) hb8
      have hq8 : Below w.heap.size w w8 := below_call hq7 hs8
      have hz8 := hs8.size
      have Ha_8 := hide (Ha_7.out.below hs8 (Nat.le_refl _))
      have HY_8 := hide (HY_7.out.below hs8 (Nat.le_refl _))
      have HZ_8 := hide (HZ_7.out.below hs8 (Nat.le_refl _))
      clear Ha_7
      clear HY_7
      clear HZ_7
      clear hb8 hs8
      clear HZ_8
      go_upto_block 0 with fail
      clear Ha_8
      go_cut [2] (fun s2 wx => s2 = .bool false ∧ Below w8.heap.size w8 wx)
      case first =>
        as_aux_lemma =>
          have hAB : q = 0 ∨ (q = 12 ∧ (∀ k, k < 12 → sufI (hst Xa x ma) (k + 1 - 1) ≤ 480) ∧ sufI (hst Xa x ma) 0 = (ma : Int) ∧ ∀ k, k < 11 → sufI (hst Xa x ma) (k + 1) ≤ sufI (hst Xa x ma) k) := by
            have h1 := Hq.out; have h4 := Hv.out
            cases v
            · exact .inl h1
            · rw [Bool.and_eq_true] at h4
              refine .inr ⟨h1, ?_, ?_, fun k hk => suf_up (fun i => (hst_bd Xa x ma i).1) hk⟩
              · intro k hk
                have h5 := sufD_bd (f := hst Xa x ma) (m := (ma : Int)) (by omega) (hst_bd Xa x ma) (11 - (k + 1 - 1))
                have h6 : (((11 - (k + 1 - 1) : Nat) : Int) + 1) * (ma : Int) ≤ 12 * 40 := Int.mul_le_mul (by omega) (by omega) (by omega) (by omega)
                unfold sufI; omega
              · rw [suf_zero]; exact hst_sum (catIn_of (catB_of h4.1).2) (inB_of h4.2).1 ma (Nat.le_refl _)
          have HAB := hide hAB
          clear hAB
          go_wp2_with fail
          go_loopw [2, 13] (fun s2 i wr => ∃ k : Nat, k ≤ q ∧ s2 = .bool false ∧ i = .int .i64 k ∧ Below w8.heap.size w8 wr) (fun _ i _ => q - (intOf i).toNat)
          case atStart => exact ⟨0, Nat.zero_le _, rfl, rfl, Below.refl _ _⟩
          case round =>
            obtain ⟨k, hk, rfl, rfl, hbr⟩ := hrel
            by_cases hlt : k < q
            · obtain ⟨hq2, _, hs0, hsu⟩ : q = 12 ∧ (∀ k, k < 12 → sufI (hst Xa x ma) (k + 1 - 1) ≤ 480) ∧ sufI (hst Xa x ma) 0 = (ma : Int) ∧ ∀ k, k < 11 → sufI (hst Xa x ma) (k + 1) ≤ sufI (hst Xa x ma) k := by
                rcases HAB.out with h | h
                · omega
                · exact h
              obtain ⟨b, off, rfl, hbb, hc⟩ := (HY_8.out.arr1.on hbr) (by omega)
              have hx := BW.cell (w := wr)
              rcases k with _ | k
              · have c0 := hc 0 0 (by omega) (by omega)
                simp only [Nat.add_zero, Nat.mul_one, Nat.zero_mul, iv] at c0
                rw [hs0] at c0
                clear hc hsu hs0
                go_wp2
                refine wp_region_bw (by kernel_rfl) (by kernel_rfl) ?_
                repeat (go_big_quiet_step ((first | fail)))
                refine wpQuiet_end fun w1 hb1 => ?_
                go_wp2
                go_roundw
                case rel => exact ⟨1, by omega, rfl, by go_num, below_call hbr hb1⟩
                case measure => simp [intOf]; omega
              · have c1 := hc (k + 1) 0 (by omega) (by omega); have c0 := hc k 0 (by omega) (by omega)
                simp only [Nat.add_zero, Nat.mul_one, iv] at c0 c1
                have hle := hsu k (by omega)
                obtain ⟨y, hy⟩ : ∃ y, sufI (hst Xa x ma) k = y := ⟨_, rfl⟩
                obtain ⟨z, hz⟩ : ∃ z, sufI (hst Xa x ma) (k + 1) = z := ⟨_, rfl⟩
                rw [hy] at c0 hle; rw [hz] at c1 hle
                have hd : decide (y < z) = false := decide_eq_false (by omega)
                have hww : IntKind.i64.wrap ((k : Int) + 1 - 1) = (k : Int) := by rw [IntWalk.i64_in _ (by omega)]; omega
                have he : ((k : Int) + 1 == 0) = false := by simp; omega
                clear hc hsu hs0 hy hz
                go_wp2
                refine wp_region_bw (by kernel_rfl) (by kernel_rfl) ?_
                repeat (go_big_quiet_step ((first | fail)))
                refine wpQuiet_end fun w1 hb1 => ?_
                clear hww
                go_wp2
                go_roundw
                case rel => exact ⟨k + 2, by omega, rfl, by go_num, below_call hbr hb1⟩
                case measure => simp [intOf]; omega
            · obtain rfl : k = q := by omega
              go_wp2_with fail
              go_meet
              exact ⟨rfl, hbr⟩
      case rest =>
        obtain ⟨rfl, hqc⟩ := hcut
        obtain ⟨w9, rfl⟩ : ∃ x, x = wc := ⟨_, rfl⟩
        have hq9 : Below w.heap.size w w9 := below_call hq8 hqc
        have hz9 := hqc.size
        have HY_9 := hide (HY_8.out.below hqc (Nat.le_refl _))
        clear HY_8
        clear hqc
        clear HY_9
        clear Hq Hv hla
        go_wp2_with fail
        refine (draw_complete A n c C _ (HC.out.on (by go_grown))).mono ?_
        rintro e w10 ⟨Vb, lb, y, hlb, rfl, hb10, OLb⟩
        have hs10 : Below w9.heap.size w9 w10 := below_call (by go_grown) hb10
        have hq10 : Below w.heap.size w w10 := below_call hq9 hs10
        have hz10 := hs10.size
        clear hb10 hs10
        obtain ⟨mb, hmb⟩ : ∃ m, m = lb.length := ⟨_, rfl⟩
        rw [← hmb] at OLb hlb
        obtain ⟨Xb, hXb⟩ : ∃ X, X = qX lb := ⟨_, rfl⟩
        rw [← hXb] at OLb
        clear hmb hXb
        obtain ⟨Ab, cb, rfl, hcb, _⟩ := OLb.arr
        have Hb_10 := hide OLb; clear OLb
        obtain ⟨v, Hv⟩ : ∃ v, Hid ((catB mb Xb && inB y 1 50 && decide (mb ≠ 0)) = v) := ⟨_, rfl⟩
        obtain ⟨r, Hr⟩ : ∃ r, Hid (onlyI v (bestI (hst Xb y mb) 12 * y - 20) = r) := ⟨_, rfl⟩
        go_wp2_with fail
        refine (impl_complete Ab mb cb Xb y v Hv.out r Hr.out _ (by omega) (Hb_10.out.arr1.on (by go_grown))).mono ?_
        rintro e w11 ⟨rfl, hb11⟩
        have hs11 : Below w10.heap.size w10 w11 := below_call (by go_grown) hb11
        have hq11 : Below w.heap.size w w11 := below_call hq10 hs11
        have hz11 := hs11.size
        have Hb_11 := hide (Hb_10.out.below hs11 (Nat.le_refl _))
        clear Hb_10
        clear hb11 hs11
        go_wp2_with fail
        refine (spec_complete Ab mb cb Xb y v Hv.out r Hr.out _ (by omega) (Hb_11.out.arr1.on (by go_grown))).mono ?_
        rintro e w12 ⟨rfl, hb12⟩
        have hs12 : Below w11.heap.size w11 w12 := below_call (by go_grown) hb12
        have hq12 : Below w.heap.size w w12 := below_call hq11 hs12
        have hz12 := hs12.size
        have Hb_12 := hide (Hb_11.out.below hs12 (Nat.le_refl _))
        clear Hb_11
        clear hb12 hs12
        go_upto_region 22 with fail
        go_cut [160] (fun s2 wx => ∃ u : Bool, s2 = .bool u ∧ (v && decide (r ≤ 95)) = u ∧ wx = w12)
        case first =>
          cases v
          · go_wp2_with fail
            go_meet
            exact ⟨false, rfl, rfl, rfl⟩
          · by_cases h95 : r ≤ 95
            · have dr : decide (r ≤ 95) = true := decide_eq_true h95
              go_wp2_with fail
              go_meet
              exact ⟨true, rfl, by simp [h95], rfl⟩
            · have dr : decide (r ≤ 95) = false := decide_eq_false h95
              go_wp2_with fail
              go_meet
              exact ⟨false, rfl, by simp [h95], rfl⟩
        case rest =>
          obtain ⟨u, rfl, hu, hw⟩ := hcut
          have HU := hide hu; clear hu
          obtain rfl : w12 = wc := hw.symm
          go_upto_if 160 with fail
          go_cut [2] (fun s2 wx => s2 = .bool false ∧ Below w12.heap.size w12 wx)
          case first =>
            as_aux_lemma =>
              cases u
              · skip
                go_wp2_with fail
                go_meet
                exact ⟨rfl, by go_grown⟩
              · skip
                have hu := HU.out
                rw [Bool.and_eq_true, decide_eq_true_eq] at hu
                obtain ⟨hv, h95⟩ := hu
                subst hv
                have er : (bestI (hst Xb y mb) 12 : Int) * y - 20 = r := by simpa [onlyI] using Hr.out
                obtain ⟨p0, p1, p2⟩ := complete_one Hv.out
                rw [er] at p2
                have hV := Hv.out
                simp only [Bool.and_eq_true] at hV
                have HS1 := hide (show (catB mb Xb && inB r (-20) 95) = true by rw [hV.1.1, Bool.true_and]; exact inB_mk (by omega) h95)
                have hs3 := selL_len (szP Xb r) mb
                obtain ⟨z, hz⟩ : ∃ z : Int, onlyI true (selL (szP Xb r) mb).length = z := ⟨_, rfl⟩
                have hz2 : 1 ≤ z ∧ z ≤ 40 := by rw [← hz]; simp only [onlyI, if_true]; omega
                have HZ := hide hz
                have dz : decide (z < 1) = false := decide_eq_false (by omega)
                clear hz hs3 hV p0 p1 p2 er HU
                go_wp2_with fail
                refine (impl_larger' Ab mb cb Xb r true HS1.out z HZ.out _ (by omega) (Hb_12.out.arr1.on (by go_grown))).mono ?_
                rintro e w13 ⟨rfl, hb13⟩
                have hs13 : Below w12.heap.size w12 w13 := below_call (by go_grown) hb13
                have hq13 : Below w.heap.size w w13 := below_call hq12 hs13
                have hk13 : Below w12.heap.size w12 w13 := hs13
                have hz13 := hs13.size
                have Hb_13 := hide (Hb_12.out.below hs13 (Nat.le_refl _))
                clear Hb_12
                clear hb13 hs13
                go_wp2_with fail
                go_meet
                exact ⟨rfl, by go_grown⟩
          case rest =>
            obtain ⟨rfl, hqc⟩ := hcut
            obtain ⟨w14, rfl⟩ : ∃ x, x = wc := ⟨_, rfl⟩
            have hq14 : Below w.heap.size w w14 := below_call hq12 hqc
            have hz14 := hqc.size
            have Hb_14 := hide (Hb_12.out.below hqc (Nat.le_refl _))
            clear Hb_12
            clear hqc
            clear Hb_14
            clear Hr Hv hlb HU
            go_wp2_with fail
            refine (draw_larger A n c C _ (HC.out.on (by go_grown))).mono ?_
            rintro e w15 ⟨Vd, ld, s, hld, rfl, hb15, OLd⟩
            have hs15 : Below w14.heap.size w14 w15 := below_call (by go_grown) hb15
            have hq15 : Below w.heap.size w w15 := below_call hq14 hs15
            have hz15 := hs15.size
            clear hb15 hs15
            obtain ⟨md, hmd⟩ : ∃ m, m = ld.length := ⟨_, rfl⟩
            rw [← hmd] at OLd hld
            obtain ⟨Xd, hXd⟩ : ∃ X, X = qX ld := ⟨_, rfl⟩
            rw [← hXd] at OLd
            clear hmd hXd
            obtain ⟨Ad, cd, rfl, hcd, _⟩ := OLd.arr
            have Hd_15 := hide OLd; clear OLd
            obtain ⟨v, Hv⟩ : ∃ v, Hid ((catB md Xd && inB s (-20) 95) = v) := ⟨_, rfl⟩
            obtain ⟨z, Hz⟩ : ∃ z, Hid (onlyI v (selL (szP Xd s) md).length = z) := ⟨_, rfl⟩
            go_wp2_with fail
            refine (impl_larger' Ad md cd Xd s v Hv.out z Hz.out _ (by omega) (Hd_15.out.arr1.on (by go_grown))).mono ?_
            rintro e w16 ⟨rfl, hb16⟩
            have hs16 : Below w15.heap.size w15 w16 := below_call (by go_grown) hb16
            have hq16 : Below w.heap.size w w16 := below_call hq15 hs16
            have hz16 := hs16.size
            have Hd_16 := hide (Hd_15.out.below hs16 (Nat.le_refl _))
            clear Hd_15
            clear hb16 hs16
            go_wp2_with fail
            refine (spec_larger' Ad md cd Xd s v Hv.out z Hz.out _ (by omega) (Hd_16.out.arr1.on (by go_grown))).mono ?_
            rintro e w17 ⟨rfl, hb17⟩
            have hs17 : Below w16.heap.size w16 w17 := below_call (by go_grown) hb17
            have hq17 : Below w.heap.size w w17 := below_call hq16 hs17
            have hz17 := hs17.size
            have Hd_17 := hide (Hd_16.out.below hs17 (Nat.le_refl _))
            clear Hd_16
            clear hb17 hs17
            obtain ⟨u, Hu⟩ : ∃ u, Hid (meanOk Xd s md = u) := ⟨_, rfl⟩
            obtain ⟨r, Hr⟩ : ∃ r, Hid (onlyI u (meanA Xd s md) = r) := ⟨_, rfl⟩
            obtain ⟨d, Hd⟩ : ∃ d, Hid (onlyI u (meanB Xd s md) = d) := ⟨_, rfl⟩
            go_wp2_with fail
            refine (impl_meanS Ad md cd Xd s u Hu.out r d Hr.out Hd.out _ (by omega) (Hd_17.out.arr1.on (by go_grown))).mono ?_
            rintro e w18 ⟨rfl, hb18⟩
            have hs18 : Below w17.heap.size w17 w18 := below_call (by go_grown) hb18
            have hq18 : Below w.heap.size w w18 := below_call hq17 hs18
            have hz18 := hs18.size
            have Hd_18 := hide (Hd_17.out.below hs18 (Nat.le_refl _))
            clear Hd_17
            clear hb18 hs18
            go_wp2_with fail
            refine (spec_meanS Ad md cd Xd s u Hu.out r d Hr.out Hd.out _ (by omega) (Hd_18.out.arr1.on (by go_grown))).mono ?_
            rintro e w19 ⟨rfl, hb19⟩
            have hs19 : Below w18.heap.size w18 w19 := below_call (by go_grown) hb19
            have hq19 : Below w.heap.size w w19 := below_call hq18 hs19
            have hz19 := hs19.size
            have Hd_19 := hide (Hd_18.out.below hs19 (Nat.le_refl _))
            clear Hd_18
            clear hb19 hs19
            have hu : u = (v && decide (0 < z)) := by
              have h1 := Hu.out; have h2 := Hv.out; have h3 := Hz.out
              unfold meanOk at h1
              rw [h2] at h1
              cases v
              · rw [← h1]; rfl
              · rw [← h1, ← h3]; simp [onlyI]
            have HU := hide hu; clear hu
            cases v
            · as_aux_lemma =>
                obtain rfl : u = false := by simpa using HU.out
                clear HU
                go_wp2
                go_returns
                exact ⟨rfl, by go_grown⟩
            · skip
              by_cases h0 : 0 < z
              · as_aux_lemma =>
                  obtain rfl : u = true := by simpa [h0] using HU.out
                  have er : meanA Xd s md = r := by simpa [onlyI] using Hr.out
                  have ed : meanB Xd s md = d := by simpa [onlyI] using Hd.out
                  have hz := Hz.out
                  simp only [onlyI, if_true] at hz
                  have hl : 0 < (selL (szP Xd s) md).length := by omega
                  have h1 := mean_law (X := Xd) (s := s) (n := md) hl
                  have h2 := mean_den (X := Xd) (s := s) (n := md) hl
                  rw [er, ed] at h1; rw [ed] at h2
                  have hV := Hv.out
                  rw [Bool.and_eq_true] at hV
                  have hs := inB_of hV.2
                  have b1 : s * d ≤ 95 * 40 := by
                    by_cases hs0 : 0 ≤ s
                    · exact Int.mul_le_mul hs.2 (by omega) (by omega) (by omega)
                    · have : s * d ≤ 0 := Int.mul_nonpos_of_nonpos_of_nonneg (by omega) (by omega)
                      omega
                  have b2 : -(20 * 40) ≤ s * d := by
                    have : (-s) * d ≤ 20 * 40 := by
                      by_cases hs0 : 0 ≤ -s
                      · exact Int.mul_le_mul (by omega) (by omega) (by omega) (by omega)
                      · have : (-s) * d ≤ 0 := Int.mul_nonpos_of_nonpos_of_nonneg (by omega) (by omega)
                        omega
                    rw [Int.neg_mul] at this; omega
                  have dd : decide (r < s * d) = false := decide_eq_false (by omega)
                  have dz : decide (0 < z) = true := decide_eq_true h0
                  clear er ed hz hl h2 hV HU Hr Hd Hz
                  go_wp2
                  go_returns
                  exact ⟨rfl, by go_grown⟩
              · skip
                obtain rfl : u = false := by simpa [h0] using HU.out
                have dz : decide (0 < z) = false := decide_eq_false h0
                clear HU
                go_wp2
                go_returns
                exact ⟨rfl, by go_grown⟩
  · have HB := hide hB; have HM := hide hm
    clear ha hC hB hm
    go_enter Try.func12, Try.ntmps12
    go_wp2_with fail
    refine (v_big A n c true HB.out HM.out _).mono ?_
    rintro e w0 ⟨rfl, rfl⟩
    go_wp2
    go_returns
    exact ⟨rfl, by go_grown⟩
end Go.Proofs.Ythpagjkkccimiaa
