/- Chapter 19: the law on clusters: the walk. -/
import Derived.Test.YthpagjkkccimiaaCluP
import Derived.Test.YthpagjkkccimiaaDrwR
import Derived.Test.YthpagjkkccimiaaRv2
import Derived.Test.YthpagjkkccimiaaRow3
import Derived.Deep.DeepCutAuto
import Derived.Deep.CutBlock
namespace Go.Proofs.Ythpagjkkccimiaa
open Go.RowKit
set_option linter.unusedVariables false
set_option linter.unusedSimpArgs false

set_option maxRecDepth 100000 in
set_option maxHeartbeats 8000000 in
theorem walk_FnClusters (A : Option Addr) (n c : Nat) (C : Nat → Int) (w : World) (hm : n ≤ maxLen) (ha : Arr w w.heap.size A n 1 (bv C)) (hC : ∀ i, i < n → 0 ≤ C i ∧ C i ≤ 255) :
    Calls Try.prog 9 #[.slice A n c] w fun e w' => e = .returned (.bool true) ∧ Below w.heap.size w w' := by
  have hfa := frozen_al; have hfo := frozen_out
  cases hB : decide (65536 < (n : Int))
  · have HC := hide (show CodeOk w A n C from ⟨by rw [decide_eq_false_iff_not] at hB; omega, ha, hC⟩)
    have HM := hide hm; have HB := hide hB
    clear ha hC hm hB
    go_enter Try.func9, Try.ntmps9
    go_wp2_with fail
    refine (v_big A n c false HB.out HM.out _).mono ?_
    rintro e w0 ⟨rfl, rfl⟩
    go_wp2_with fail
    refine (draw_numbers A n c C _ (HC.out.on (by go_grown))).mono ?_
    rintro e w1 ⟨Va, la, ta, fa, ga, hla, rfl, hb1, OLa⟩
    have hs1 : Below w.heap.size w w1 := below_call (by go_grown) hb1
    have hq1 : Below w.heap.size w w1 := hs1
    have hz1 := hs1.size
    clear hb1 hs1
    obtain ⟨ma, hma⟩ : ∃ m, m = la.length := ⟨_, rfl⟩
    rw [← hma] at OLa hla
    obtain ⟨Xa, hXa⟩ : ∃ X, X = qX la := ⟨_, rfl⟩
    rw [← hXa] at OLa
    clear hma hXa
    obtain ⟨Aa, ca, rfl, hca, _⟩ := OLa.arr
    have Ha_1 := hide OLa; clear OLa
    obtain ⟨v, Hv⟩ : ∃ v, Hid ((catB ma Xa && linkB ta fa ga) = v) := ⟨_, rfl⟩
    obtain ⟨qn, Hqn⟩ : ∃ q, Hid (q = onlyN v ma) := ⟨_, rfl⟩
    have hqn40 : qn ≤ 40 := by rw [Hqn.out]; exact onlyN_le hla
    go_wp2_with fail
    refine (impl_clN Aa ma ca Xa ta fa ga v Hv.out qn Hqn.out _ (by omega) (Ha_1.out.arr1.on (by go_grown))).mono ?_
    rintro e w2 ⟨vS, rfl, hb2, OS⟩
    have hs2 : Below w1.heap.size w1 w2 := below_call (by go_grown) hb2
    have hq2 : Below w.heap.size w w2 := below_call hq1 hs2
    have hz2 := hs2.size
    have Ha_2 := hide (Ha_1.out.below hs2 (Nat.le_refl _))
    clear Ha_1
    have HBa_2 := hide ((Blk.new w1 30 #[.int .i64 ta, .int .i64 fa, .int .i64 ga]).below hb2 (by simp))
    have ba0 := HBa_2.out.cell 0
    have ba1 := HBa_2.out.cell 1
    have ba2 := HBa_2.out.cell 2
    simp at ba0 ba1 ba2
    obtain ⟨AS, cS, rfl, hcS, _⟩ := OS.arr
    have HS_2 := hide OS; clear OS
    clear hb2 hs2
    go_wp2_with fail
    refine (spec_clN Aa ma ca Xa ta fa ga v Hv.out qn Hqn.out _ (by omega) (Ha_2.out.arr1.on (by go_grown))).mono ?_
    rintro e w3 ⟨vT, rfl, hb3, OT⟩
    have hs3 : Below w2.heap.size w2 w3 := below_call (by go_grown) hb3
    have hq3 : Below w.heap.size w w3 := below_call hq2 hs3
    have hz3 := hs3.size
    have Ha_3 := hide (Ha_2.out.below hs3 (Nat.le_refl _))
    have HS_3 := hide (HS_2.out.below hs3 (Nat.le_refl _))
    clear Ha_2
    clear HS_2
    have HBa_3 := hide (HBa_2.out.below hs3 HBa_2.out.lt)
    clear HBa_2 ba0 ba1 ba2
    have ba0 := HBa_3.out.cell 0
    have ba1 := HBa_3.out.cell 1
    have ba2 := HBa_3.out.cell 2
    simp at ba0 ba1 ba2
    obtain ⟨AT, cT, rfl, hcT, _⟩ := OT.arr
    have HT_3 := hide OT; clear OT
    clear hb3 hs3
    obtain ⟨lv, Hlv⟩ : ∃ lv, Hid (linkB ta fa ga = lv) := ⟨_, rfl⟩
    have HS0 := hide (HS_3.out.arr1); have HT0 := hide (HT_3.out.arr1)
    go_upto_region 6 with fail
    go_cut [73] (fun s2 wx => s2 = .bool false ∧ Below w3.heap.size w3 wx)
    case first =>
      have hx := BW.cell (w := w3)
      have hbx := HBa_3.out.lt
      refine wp_region_bw (by kernel_rfl) (by kernel_rfl) ?_
      repeat (go_big_quiet_step ((first | (go_at_call 38; with_reducible exact BW.call (v_ints AS AT qn cS qn cT _ _ true (eqX_self 1 qn _) _ (by omega) (by omega) (HS0.out.on (BW.prop _)) (HT0.out.on (BW.prop _)))) | (go_at_call 39; exact BW.call (impl_link _ _ _ _ Hlv.out _)) | (go_at_call 40; exact BW.call (spec_isLink _ _ _ _ Hlv.out _)))))
      refine wpQuiet_end fun w1 hb1 => ?_
      go_wp2_with fail
      go_meet
      exact ⟨rfl, hb1⟩
    case rest =>
      obtain ⟨rfl, hqc⟩ := hcut
      obtain ⟨w4, rfl⟩ : ∃ x, x = wc := ⟨_, rfl⟩
      have hq4 : Below w.heap.size w w4 := below_call hq3 hqc
      have hz4 := hqc.size
      have Ha_4 := hide (Ha_3.out.below hqc (Nat.le_refl _))
      clear Ha_3
      have HS_4 := hide (HS_3.out.below hqc (Nat.le_refl _))
      clear HS_3
      have HT_4 := hide (HT_3.out.below hqc (Nat.le_refl _))
      clear HT_3
      have HBa_4 := hide (HBa_3.out.below hqc HBa_3.out.lt)
      clear HBa_3 ba0 ba1 ba2
      have ba0 := HBa_4.out.cell 0
      have ba1 := HBa_4.out.cell 1
      have ba2 := HBa_4.out.cell 2
      simp at ba0 ba1 ba2
      clear hqc HS0 HT0
      clear HT_4
      obtain ⟨qm, Hqm⟩ : ∃ q, Hid (q = onlyN v (mainsL ma (rchX ta fa ga Xa) (sizeS Xa)).length) := ⟨_, rfl⟩
      have hqm40 : qm ≤ 40 := by rw [Hqm.out]; exact onlyN_le (Nat.le_trans (mainsL_len _ _ _) hla)
      go_wp2_with fail
      refine (impl_mainsh Aa ma ca Xa ta fa ga v Hv.out qm Hqm.out _ (by omega) (Ha_4.out.arr1.on (by go_grown))).mono ?_
      rintro e w5 ⟨vM, rfl, hb5, OM⟩
      have hs5 : Below w4.heap.size w4 w5 := below_call (by go_grown) hb5
      have hq5 : Below w.heap.size w w5 := below_call hq4 hs5
      have hz5 := hs5.size
      have Ha_5 := hide (Ha_4.out.below hs5 (Nat.le_refl _))
      have HS_5 := hide (HS_4.out.below hs5 (Nat.le_refl _))
      clear Ha_4
      clear HS_4
      have HBa_5 := hide (HBa_4.out.below hs5 HBa_4.out.lt)
      clear HBa_4 ba0 ba1 ba2
      have ba0 := HBa_5.out.cell 0
      have ba1 := HBa_5.out.cell 1
      have ba2 := HBa_5.out.cell 2
      simp at ba0 ba1 ba2
      obtain ⟨AM, cM, rfl, hcM, _⟩ := OM.arr
      have HM_5 := hide OM; clear OM
      clear hb5 hs5
      go_wp2_with fail
      refine (spec_mainsh Aa ma ca Xa ta fa ga v Hv.out qm Hqm.out _ (by omega) (Ha_5.out.arr1.on (by go_grown))).mono ?_
      rintro e w6 ⟨vN, rfl, hb6, ON⟩
      have hs6 : Below w5.heap.size w5 w6 := below_call (by go_grown) hb6
      have hq6 : Below w.heap.size w w6 := below_call hq5 hs6
      have hz6 := hs6.size
      have Ha_6 := hide (Ha_5.out.below hs6 (Nat.le_refl _))
      have HS_6 := hide (HS_5.out.below hs6 (Nat.le_refl _))
      have HM_6 := hide (HM_5.out.below hs6 (Nat.le_refl _))
      clear Ha_5
      clear HS_5
      clear HM_5
      have HBa_6 := hide (HBa_5.out.below hs6 HBa_5.out.lt)
      clear HBa_5 ba0 ba1 ba2
      have ba0 := HBa_6.out.cell 0
      have ba1 := HBa_6.out.cell 1
      have ba2 := HBa_6.out.cell 2
      simp at ba0 ba1 ba2
      obtain ⟨AN, cN, rfl, hcN, _⟩ := ON.arr
      have HN_6 := hide ON; clear ON
      clear hb6 hs6
      go_wp2_with fail
      refine (v_ints AM AN qm cM qm cN _ _ true (eqX_self 1 qm _) _ (by omega) (by omega) (HM_6.out.arr1.on (by go_grown)) (HN_6.out.arr1.on (by go_grown))).mono ?_
      rintro e w7 ⟨rfl, hb7⟩
      have hs7 : Below w6.heap.size w6 w7 := below_call (by go_grown) hb7
      have hq7 : Below w.heap.size w w7 := below_call hq6 hs7
      have hz7 := hs7.size
      have Ha_7 := hide (Ha_6.out.below hs7 (Nat.le_refl _))
      have HS_7 := hide (HS_6.out.below hs7 (Nat.le_refl _))
      have HM_7 := hide (HM_6.out.below hs7 (Nat.le_refl _))
      have HN_7 := hide (HN_6.out.below hs7 (Nat.le_refl _))
      clear Ha_6
      clear HS_6
      clear HM_6
      clear HN_6
      have HBa_7 := hide (HBa_6.out.below hs7 HBa_6.out.lt)
      clear HBa_6 ba0 ba1 ba2
      have ba0 := HBa_7.out.cell 0
      have ba1 := HBa_7.out.cell 1
      have ba2 := HBa_7.out.cell 2
      simp at ba0 ba1 ba2
      clear hb7 hs7
      clear HN_7
      go_upto_if 100 with fail
      go_cut [2] (fun s2 wx => s2 = .bool false ∧ Below w7.heap.size w7 wx)
      case first =>
        as_aux_lemma =>
          cases v
          · skip
            go_wp2_with fail
            go_meet
            exact ⟨rfl, by go_grown⟩
          · skip
            have hqn := Hqn.out
            have hqm := Hqm.out
            simp only [onlyN, if_true] at hqn hqm
            obtain ⟨ql, hql⟩ : ∃ q, q = (prI (rchX ta fa ga Xa) ma ma).length := ⟨_, rfl⟩
            have hql2 : ql ≤ 1600 := by
              rw [hql]; exact Nat.le_trans (prI_len _ _ _) (Nat.le_trans (Nat.mul_le_mul hla hla) (by omega))
            have HQM := hide hqm; have HQL := hide hql
            obtain rfl : ma = qn := hqn.symm
            have Hql := hide (show ql = onlyN true (prI (rchX ta fa ga Xa) ma ma).length from hql)
            clear hql hqm Hqm Hqn
            go_wp2_with fail
            refine (impl_links Aa ma ca Xa ta fa ga true Hv.out ql Hql.out _ (by omega) (Ha_7.out.arr1.on (by go_grown))).mono ?_
            rintro e w8 ⟨vP, rfl, hb8, OP⟩
            have hs8 : Below w7.heap.size w7 w8 := below_call (by go_grown) hb8
            have hq8 : Below w.heap.size w w8 := below_call hq7 hs8
            have hk8 : Below w7.heap.size w7 w8 := hs8
            have hz8 := hs8.size
            have Ha_8 := hide (Ha_7.out.below hs8 (Nat.le_refl _))
            have HS_8 := hide (HS_7.out.below hs8 (Nat.le_refl _))
            have HM_8 := hide (HM_7.out.below hs8 (Nat.le_refl _))
            clear Ha_7
            clear HS_7
            clear HM_7
            have HBa_8 := hide (HBa_7.out.below hs8 HBa_7.out.lt)
            clear HBa_7 ba0 ba1 ba2
            have ba0 := HBa_8.out.cell 0
            have ba1 := HBa_8.out.cell 1
            have ba2 := HBa_8.out.cell 2
            simp at ba0 ba1 ba2
            obtain ⟨AP, cP, rfl, hcP, _⟩ := OP.arr
            have HP_8 := hide OP; clear OP
            clear hb8 hs8
            go_wp2_with fail
            refine (spec_links Aa ma ca Xa ta fa ga true Hv.out ql Hql.out _ (by omega) (Ha_8.out.arr1.on (by go_grown))).mono ?_
            rintro e w9 ⟨vQ, rfl, hb9, OQ⟩
            have hs9 : Below w8.heap.size w8 w9 := below_call (by go_grown) hb9
            have hq9 : Below w.heap.size w w9 := below_call hq8 hs9
            have hk9 : Below w7.heap.size w7 w9 := below_call hk8 hs9
            have hz9 := hs9.size
            have Ha_9 := hide (Ha_8.out.below hs9 (Nat.le_refl _))
            have HS_9 := hide (HS_8.out.below hs9 (Nat.le_refl _))
            have HM_9 := hide (HM_8.out.below hs9 (Nat.le_refl _))
            have HP_9 := hide (HP_8.out.below hs9 (Nat.le_refl _))
            clear Ha_8
            clear HS_8
            clear HM_8
            clear HP_8
            have HBa_9 := hide (HBa_8.out.below hs9 HBa_8.out.lt)
            clear HBa_8 ba0 ba1 ba2
            have ba0 := HBa_9.out.cell 0
            have ba1 := HBa_9.out.cell 1
            have ba2 := HBa_9.out.cell 2
            simp at ba0 ba1 ba2
            obtain ⟨AQ, cQ, rfl, hcQ, _⟩ := OQ.arr
            have HQ_9 := hide OQ; clear OQ
            clear hb9 hs9
            go_wp2_with fail
            refine (v_pairs AP AQ ql cP cQ _ _ (by omega) (HP_9.out.arr1.on (by go_grown)) (HQ_9.out.arr1.on (by go_grown))).mono ?_
            rintro e w10 ⟨rfl, hb10⟩
            have hs10 : Below w9.heap.size w9 w10 := below_call (by go_grown) hb10
            have hq10 : Below w.heap.size w w10 := below_call hq9 hs10
            have hk10 : Below w7.heap.size w7 w10 := below_call hk9 hs10
            have hz10 := hs10.size
            have Ha_10 := hide (Ha_9.out.below hs10 (Nat.le_refl _))
            have HS_10 := hide (HS_9.out.below hs10 (Nat.le_refl _))
            have HM_10 := hide (HM_9.out.below hs10 (Nat.le_refl _))
            have HP_10 := hide (HP_9.out.below hs10 (Nat.le_refl _))
            have HQ_10 := hide (HQ_9.out.below hs10 (Nat.le_refl _))
            clear Ha_9
            clear HS_9
            clear HM_9
            clear HP_9
            clear HQ_9
            have HBa_10 := hide (HBa_9.out.below hs10 HBa_9.out.lt)
            clear HBa_9 ba0 ba1 ba2
            have ba0 := HBa_10.out.cell 0
            have ba1 := HBa_10.out.cell 1
            have ba2 := HBa_10.out.cell 2
            simp at ba0 ba1 ba2
            clear hb10 hs10
            clear HQ_10
            go_upto_block 0 with fail
            go_cut [2] (fun s2 wx => s2 = .bool false ∧ Below w10.heap.size w10 wx)
            case first =>
              as_aux_lemma =>
                go_wp2_with fail
                go_loopw [2, 17] (fun s2 i wr => ∃ k : Nat, k ≤ ql ∧ s2 = .bool false ∧ i = .int .i64 k ∧ Below w10.heap.size w10 wr) (fun _ i _ => ql - (intOf i).toNat)
                case atStart => exact ⟨0, Nat.zero_le _, rfl, rfl, Below.refl _ _⟩
                case round =>
                  obtain ⟨k, hk, rfl, rfl, hbr⟩ := hrel
                  by_cases hlt : k < ql
                  · obtain ⟨b, off, rfl, hbb, hc⟩ := (HP_10.out.arr1.on hbr) (by omega)
                    obtain ⟨x, y, hx1, hy1, hxm, hym, he⟩ := pair_num (r := (rchX ta fa ga Xa)) (n := ma) (k := k) (by rw [← HQL.out]; exact hlt)
                    obtain ⟨b2, off2, rfl, hbb2, hc2⟩ := (HS_10.out.arr1.on hbr) (by omega)
                    have hx := BW.cell (w := wr)
                    have c0 := hc k 0 hlt (by omega); have c1 := hc k 1 hlt (by omega)
                    have e0 := hc2 x 0 hxm (by omega); have e1 := hc2 y 0 hym (by omega)
                    simp only [Nat.add_zero, Nat.mul_one, iv] at c0 c1 e0 e1
                    rw [hx1] at c0; rw [hy1] at c1; rw [he] at e0
                    have hxi : (x : Int) < (ma : Int) := by omega
                    have hyi : (y : Int) < (ma : Int) := by omega
                    clear hc hc2 hx1 hy1 he
                    go_wp2
                    refine wp_region_bw (by kernel_rfl) (by kernel_rfl) ?_
                    repeat (go_big_quiet_step ((first | fail)))
                    refine wpQuiet_end fun w1 hb1 => ?_
                    go_wp2
                    go_roundw
                    case rel => exact ⟨k + 1, by omega, rfl, by go_num, below_call hbr hb1⟩
                    case measure => simp [intOf]; omega
                  · obtain rfl : k = ql := by omega
                    go_wp2_with fail
                    go_meet
                    exact ⟨rfl, hbr⟩
            case rest =>
              obtain ⟨rfl, hqc⟩ := hcut
              obtain ⟨w11, rfl⟩ : ∃ x, x = wc := ⟨_, rfl⟩
              have hq11 : Below w.heap.size w w11 := below_call hq10 hqc
              have hk11 : Below w7.heap.size w7 w11 := below_call hk10 hqc
              have hz11 := hqc.size
              have Ha_11 := hide (Ha_10.out.below hqc (Nat.le_refl _))
              clear Ha_10
              have HS_11 := hide (HS_10.out.below hqc (Nat.le_refl _))
              clear HS_10
              have HM_11 := hide (HM_10.out.below hqc (Nat.le_refl _))
              clear HM_10
              have HP_11 := hide (HP_10.out.below hqc (Nat.le_refl _))
              clear HP_10
              have HBa_11 := hide (HBa_10.out.below hqc HBa_10.out.lt)
              clear HBa_10 ba0 ba1 ba2
              have ba0 := HBa_11.out.cell 0
              have ba1 := HBa_11.out.cell 1
              have ba2 := HBa_11.out.cell 2
              simp at ba0 ba1 ba2
              clear hqc
              clear HP_11
              go_upto_block 2 with fail
              go_cut [2, 18] (fun s2 s18 wx => s2 = .bool false ∧ s18 = .int .i64 (rootN ma (rchX ta fa ga Xa) ma) ∧ Below w11.heap.size w11 wx)
              case first =>
                as_aux_lemma =>
                  go_wp2_with fail
                  go_loopw [2, 18, 19] (fun s2 u i wr => ∃ k : Nat, k ≤ ma ∧ s2 = .bool false ∧ i = .int .i64 k ∧ u = .int .i64 (rootN ma (rchX ta fa ga Xa) k) ∧ Below w11.heap.size w11 wr) (fun _ _ i _ => ma - (intOf i).toNat)
                  case atStart => exact ⟨0, Nat.zero_le _, rfl, rfl, rfl, Below.refl _ _⟩
                  case round =>
                    obtain ⟨k, hk, rfl, rfl, rfl, hbr⟩ := hrel
                    have HBr := hide (HBa_11.out.below hbr HBa_11.out.lt)
                    clear ba0 ba1 ba2
                    have m0 := HBr.out.cell 0; have m1 := HBr.out.cell 1; have m2 := HBr.out.cell 2
                    simp at m0 m1 m2
                    have hu := rootN_bd ma (rchX ta fa ga Xa) k
                    by_cases hlt : k < ma
                    · obtain ⟨b2, off2, rfl, hbb2, hc2⟩ := (HS_11.out.arr1.on hbr) (by omega)
                      have e0 := hc2 k 0 hlt (by omega)
                      simp only [Nat.add_zero, Nat.mul_one, iv] at e0
                      obtain ⟨nk, hnk⟩ : ∃ x, x = numN ma (rchX ta fa ga Xa) k := ⟨_, rfl⟩
                      rw [← hnk] at e0
                      obtain ⟨u, hu'⟩ : ∃ u, rootN ma (rchX ta fa ga Xa) k = u := ⟨_, rfl⟩
                      obtain ⟨u2, hu2⟩ : ∃ u, rootN ma (rchX ta fa ga Xa) (k + 1) = u := ⟨_, rfl⟩
                      have hstep : u2 = if nk = k then u + 1 else u := by
                        rw [← hu2, ← hu', hnk]; split
                        next h => exact rootN_yes h
                        next h => exact rootN_no h
                      rw [hu'] at hu
                      rw [hu']
                      have HU2 := hide hu2
                      obtain ⟨pn, hpn⟩ : ∃ x, x = mainN ma (rchX ta fa ga Xa) (sizeS Xa) k := ⟨_, rfl⟩
                      have Hpn := hide (show onlyI true (mainN ma (rchX ta fa ga Xa) (sizeS Xa) ((k : Int)).toNat : Nat) = (pn : Int) by simp only [onlyI, if_true, Int.toNat_natCast]; rw [hpn])
                      obtain ⟨qk, hqk⟩ : ∃ x, x = (cluL ma (rchX ta fa ga Xa) k).length := ⟨_, rfl⟩
                      have Hqk := hide (show qk = onlyN true (cluL ma (rchX ta fa ga Xa) ((k : Int)).toNat).length by simp only [onlyN, if_true, Int.toNat_natCast]; exact hqk)
                      have hq40 : qk ≤ 40 := by rw [hqk]; exact Nat.le_trans (cluL_len _ _ _) hla
                      have Hv2 := hide (show ((catB ma Xa && linkB ta fa ga) && inB (k : Int) 0 ((ma : Int) - 1)) = true by rw [Hv.out, Bool.true_and]; exact inB_mk (by omega) (by omega))
                      have HH1 := hide (show hasI (fun p _ => ((mainsL ma (rchX ta fa ga Xa) (sizeS Xa)).getD p 0 : Nat)) qm (pn : Int) = true by
                        obtain ⟨j, hj, e⟩ := has_mem (main_in (r := (rchX ta fa ga Xa)) (S := (sizeS Xa)) hlt)
                        exact hasI_yes (by rw [HQM.out]; exact hj) (by rw [hpn]; exact e))
                      have HH2 := hide (show hasI (fun p _ => ((cluL ma (rchX ta fa ga Xa) ((k : Int)).toNat).getD p 0 : Nat)) qk (k : Int) = true by
                        obtain ⟨j, hj, e⟩ := has_mem (self_in (r := (rchX ta fa ga Xa)) hlt)
                        exact hasI_yes (by rw [hqk]; exact hj) (by simpa using e))
                      have HH3 := hide (show hasI (fun p _ => ((cluL ma (rchX ta fa ga Xa) ((k : Int)).toNat).getD p 0 : Nat)) qk (pn : Int) = true by
                        obtain ⟨j, hj, e⟩ := has_mem (main_mem (r := (rchX ta fa ga Xa)) (S := (sizeS Xa)) hlt)
                        exact hasI_yes (by rw [hqk]; exact hj) (by rw [hpn]; simpa using e))
                      clear hc2 hu' hu2 hpn hqk hnk
                      by_cases hroot : nk = k
                      · have hu3 : u2 = u + 1 := by rw [hstep, if_pos hroot]
                        have HU3 := hide hu3
                        subst hroot
                        clear hstep hu3
                        go_wp2_with fail
                        refine (impl_mainO Aa ma ca Xa ta fa ga (nk : Int) true Hv2.out (pn : Int) Hpn.out _ (by omega) (Ha_11.out.arr1.on (by go_grown))).mono ?_
                        rintro e w98 ⟨rfl, hb98⟩
                        have hs98 : Below wr.heap.size wr w98 := below_call (by go_grown) hb98
                        have HB98 := hide (HBr.out.below hs98 HBr.out.lt)
                        have n0 := HB98.out.cell 0; have n1 := HB98.out.cell 1; have n2 := HB98.out.cell 2
                        simp at n0 n1 n2
                        have HA98 := hide (below_call hbr hs98)
                        clear m0 m1 m2 hb98
                        go_wp2_with fail
                        refine (impl_clW Aa ma ca Xa ta fa ga (nk : Int) true Hv2.out qk Hqk.out _ (by omega) (Ha_11.out.arr1.on (below_call HA98.out (by go_grown)))).mono ?_
                        rintro e w99 ⟨vP, rfl, hb99, OP⟩
                        have hs99 : Below w98.heap.size w98 w99 := below_call (by go_grown) hb99
                        obtain ⟨AP2, cP2, rfl, hcP2, hAP⟩ := OP.arr
                        have HAP := hide hAP
                        have H99 := hide (below_call HA98.out hs99)
                        clear OP hb99 n0 n1 n2 hAP
                        go_wp2_with fail
                        refine (v_has AM qm cM _ (pn : Int) _ HH1.out _ (by omega) (HM_11.out.arr1.on H99.out)).mono ?_
                        rintro e w99' ⟨rfl, rfl⟩
                        go_wp2_with fail
                        refine (v_has AP2 qk cP2 _ (nk : Int) _ HH2.out _ (by omega) HAP.out).mono ?_
                        rintro e w99' ⟨rfl, rfl⟩
                        go_wp2_with fail
                        refine (v_has AP2 qk cP2 _ (pn : Int) _ HH3.out _ (by omega) HAP.out).mono ?_
                        rintro e w99' ⟨rfl, rfl⟩
                        go_wp2
                        go_roundw
                        case rel => exact ⟨nk + 1, by omega, rfl, by go_num, by rw [HU2.out, HU3.out], H99.out⟩
                        case measure => simp [intOf]; omega
                      · have hu3 : u2 = u := by rw [hstep, if_neg hroot]
                        have HU3 := hide hu3
                        have hne : ((nk : Int) == (k : Int)) = false := by simp; omega
                        clear hstep hu3
                        go_wp2_with fail
                        refine (impl_mainO Aa ma ca Xa ta fa ga (k : Int) true Hv2.out (pn : Int) Hpn.out _ (by omega) (Ha_11.out.arr1.on (by go_grown))).mono ?_
                        rintro e w98 ⟨rfl, hb98⟩
                        have hs98 : Below wr.heap.size wr w98 := below_call (by go_grown) hb98
                        have HB98 := hide (HBr.out.below hs98 HBr.out.lt)
                        have n0 := HB98.out.cell 0; have n1 := HB98.out.cell 1; have n2 := HB98.out.cell 2
                        simp at n0 n1 n2
                        have HA98 := hide (below_call hbr hs98)
                        clear m0 m1 m2 hb98
                        go_wp2_with fail
                        refine (impl_clW Aa ma ca Xa ta fa ga (k : Int) true Hv2.out qk Hqk.out _ (by omega) (Ha_11.out.arr1.on (below_call HA98.out (by go_grown)))).mono ?_
                        rintro e w99 ⟨vP, rfl, hb99, OP⟩
                        have hs99 : Below w98.heap.size w98 w99 := below_call (by go_grown) hb99
                        obtain ⟨AP2, cP2, rfl, hcP2, hAP⟩ := OP.arr
                        have HAP := hide hAP
                        have H99 := hide (below_call HA98.out hs99)
                        clear OP hb99 n0 n1 n2 hAP
                        go_wp2_with fail
                        refine (v_has AM qm cM _ (pn : Int) _ HH1.out _ (by omega) (HM_11.out.arr1.on H99.out)).mono ?_
                        rintro e w99' ⟨rfl, rfl⟩
                        go_wp2_with fail
                        refine (v_has AP2 qk cP2 _ (k : Int) _ HH2.out _ (by omega) HAP.out).mono ?_
                        rintro e w99' ⟨rfl, rfl⟩
                        go_wp2_with fail
                        refine (v_has AP2 qk cP2 _ (pn : Int) _ HH3.out _ (by omega) HAP.out).mono ?_
                        rintro e w99' ⟨rfl, rfl⟩
                        go_wp2
                        go_roundw
                        case rel => exact ⟨k + 1, by omega, rfl, by go_num, by rw [HU2.out, HU3.out], H99.out⟩
                        case measure => simp [intOf]; omega
                    · obtain rfl : k = ma := by omega
                      go_wp2_with fail
                      go_meet
                      exact ⟨rfl, rfl, hbr⟩
              case rest =>
                obtain ⟨rfl, rfl, hqc⟩ := hcut
                obtain ⟨w12, rfl⟩ : ∃ x, x = wc := ⟨_, rfl⟩
                have hq12 : Below w.heap.size w w12 := below_call hq11 hqc
                have hz12 := hqc.size
                have hk12 : Below w7.heap.size w7 w12 := below_call hk11 hqc
                have Ha_12 := hide (Ha_11.out.below hqc (Nat.le_refl _))
                clear Ha_11
                have HS_12 := hide (HS_11.out.below hqc (Nat.le_refl _))
                clear HS_11
                have HM_12 := hide (HM_11.out.below hqc (Nat.le_refl _))
                clear HM_11
                have HBa_12 := hide (HBa_11.out.below hqc HBa_11.out.lt)
                clear HBa_11 ba0 ba1 ba2
                have ba0 := HBa_12.out.cell 0
                have ba1 := HBa_12.out.cell 1
                have ba2 := HBa_12.out.cell 2
                simp at ba0 ba1 ba2
                clear hqc
                have hrt : rootN ma (rchX ta fa ga Xa) ma = (qm : Int) := by
                  unfold rootN
                  rw [roots_mains ma (rchX ta fa ga Xa) (sizeS Xa), HQM.out]
                have HQm := hide (show qm = onlyN true (mainsL ma (rchX ta fa ga Xa) (sizeS Xa)).length from HQM.out)
                rw [hrt]
                clear hrt
                go_wp2_with fail
                refine (impl_decl Aa ma ca Xa ta fa ga true Hv.out qm HQm.out _ (by omega) (Ha_12.out.arr1.on (by go_grown))).mono ?_
                rintro e w13 ⟨vD, rfl, hb13, OD⟩
                have hs13 : Below w12.heap.size w12 w13 := below_call (by go_grown) hb13
                have hq13 : Below w.heap.size w w13 := below_call hq12 hs13
                have hk13 : Below w7.heap.size w7 w13 := below_call hk12 hs13
                have hz13 := hs13.size
                have Ha_13 := hide (Ha_12.out.below hs13 (Nat.le_refl _))
                have HS_13 := hide (HS_12.out.below hs13 (Nat.le_refl _))
                have HM_13 := hide (HM_12.out.below hs13 (Nat.le_refl _))
                clear Ha_12
                clear HS_12
                clear HM_12
                have HBa_13 := hide (HBa_12.out.below hs13 HBa_12.out.lt)
                clear HBa_12 ba0 ba1 ba2
                have ba0 := HBa_13.out.cell 0
                have ba1 := HBa_13.out.cell 1
                have ba2 := HBa_13.out.cell 2
                simp at ba0 ba1 ba2
                obtain ⟨AD, cD, rfl, hcD, _⟩ := OD.arr
                have HD_13 := hide OD; clear OD
                clear hb13 hs13
                go_wp2_with fail
                go_meet
                exact ⟨rfl, by go_grown⟩
      case rest =>
        obtain ⟨rfl, hqc⟩ := hcut
        obtain ⟨w14, rfl⟩ : ∃ x, x = wc := ⟨_, rfl⟩
        have hq14 : Below w.heap.size w w14 := below_call hq7 hqc
        have hz14 := hqc.size
        have Ha_14 := hide (Ha_7.out.below hqc (Nat.le_refl _))
        clear Ha_7
        have HS_14 := hide (HS_7.out.below hqc (Nat.le_refl _))
        clear HS_7
        have HM_14 := hide (HM_7.out.below hqc (Nat.le_refl _))
        clear HM_7
        have HBa_14 := hide (HBa_7.out.below hqc HBa_7.out.lt)
        clear HBa_7 ba0 ba1 ba2
        have ba0 := HBa_14.out.cell 0
        have ba1 := HBa_14.out.cell 1
        have ba2 := HBa_14.out.cell 2
        simp at ba0 ba1 ba2
        clear hqc
        clear HS_14
        clear HM_14
        clear Ha_14
        clear HBa_14 ba0 ba1 ba2
        clear Hqn Hqm Hv Hlv hla hqn40 hqm40
        go_wp2_with fail
        refine (draw_with A n c C _ (HC.out.on (by go_grown))).mono ?_
        rintro e w15 ⟨Vb, lb, tb, fb, gb, x, hlb, rfl, hb15, OLb⟩
        have hs15 : Below w14.heap.size w14 w15 := below_call (by go_grown) hb15
        have hq15 : Below w.heap.size w w15 := below_call hq14 hs15
        have hz15 := hs15.size
        clear hb15 hs15
        obtain ⟨mb, hmb⟩ : ∃ m, m = lb.length := ⟨_, rfl⟩
        rw [← hmb] at OLb hlb
        obtain ⟨Xb, hXb⟩ : ∃ X, X = qX lb := ⟨_, rfl⟩
        rw [← hXb] at OLb
        clear hmb hXb
        obtain ⟨Ab, cb, rfl, hcb, _⟩ := OLb.arr
        have Hb_15 := hide OLb; clear OLb
        obtain ⟨v, Hv⟩ : ∃ v, Hid (((catB mb Xb && linkB tb fb gb) && inB x 0 ((mb : Int) - 1)) = v) := ⟨_, rfl⟩
        obtain ⟨q, Hq⟩ : ∃ q, Hid (q = onlyN v (cluL mb (rchX tb fb gb Xb) x.toNat).length) := ⟨_, rfl⟩
        have hq40 : q ≤ 40 := by rw [Hq.out]; exact onlyN_le (Nat.le_trans (cluL_len _ _ _) hlb)
        go_wp2_with fail
        refine (impl_clW Ab mb cb Xb tb fb gb x v Hv.out q Hq.out _ (by omega) (Hb_15.out.arr1.on (by go_grown))).mono ?_
        rintro e w16 ⟨vS, rfl, hb16, OS⟩
        have hs16 : Below w15.heap.size w15 w16 := below_call (by go_grown) hb16
        have hq16 : Below w.heap.size w w16 := below_call hq15 hs16
        have hz16 := hs16.size
        have Hb_16 := hide (Hb_15.out.below hs16 (Nat.le_refl _))
        clear Hb_15
        have HBb_16 := hide ((Blk.new w15 30 #[.int .i64 tb, .int .i64 fb, .int .i64 gb]).below hb16 (by simp))
        have bb0 := HBb_16.out.cell 0
        have bb1 := HBb_16.out.cell 1
        have bb2 := HBb_16.out.cell 2
        simp at bb0 bb1 bb2
        obtain ⟨AS, cS, rfl, hcS, _⟩ := OS.arr
        have HS_16 := hide OS; clear OS
        clear hb16 hs16
        go_wp2_with fail
        refine (spec_clW Ab mb cb Xb tb fb gb x v Hv.out q Hq.out _ (by omega) (Hb_16.out.arr1.on (by go_grown))).mono ?_
        rintro e w17 ⟨vT, rfl, hb17, OT⟩
        have hs17 : Below w16.heap.size w16 w17 := below_call (by go_grown) hb17
        have hq17 : Below w.heap.size w w17 := below_call hq16 hs17
        have hz17 := hs17.size
        have Hb_17 := hide (Hb_16.out.below hs17 (Nat.le_refl _))
        have HS_17 := hide (HS_16.out.below hs17 (Nat.le_refl _))
        clear Hb_16
        clear HS_16
        have HBb_17 := hide (HBb_16.out.below hs17 HBb_16.out.lt)
        clear HBb_16 bb0 bb1 bb2
        have bb0 := HBb_17.out.cell 0
        have bb1 := HBb_17.out.cell 1
        have bb2 := HBb_17.out.cell 2
        simp at bb0 bb1 bb2
        obtain ⟨AT, cT, rfl, hcT, _⟩ := OT.arr
        have HT_17 := hide OT; clear OT
        clear hb17 hs17
        go_wp2_with fail
        refine (v_ints AS AT q cS q cT _ _ true (eqX_self 1 q _) _ (by omega) (by omega) (HS_17.out.arr1.on (by go_grown)) (HT_17.out.arr1.on (by go_grown))).mono ?_
        rintro e w18 ⟨rfl, hb18⟩
        have hs18 : Below w17.heap.size w17 w18 := below_call (by go_grown) hb18
        have hq18 : Below w.heap.size w w18 := below_call hq17 hs18
        have hz18 := hs18.size
        have Hb_18 := hide (Hb_17.out.below hs18 (Nat.le_refl _))
        have HS_18 := hide (HS_17.out.below hs18 (Nat.le_refl _))
        have HT_18 := hide (HT_17.out.below hs18 (Nat.le_refl _))
        clear Hb_17
        clear HS_17
        clear HT_17
        have HBb_18 := hide (HBb_17.out.below hs18 HBb_17.out.lt)
        clear HBb_17 bb0 bb1 bb2
        have bb0 := HBb_18.out.cell 0
        have bb1 := HBb_18.out.cell 1
        have bb2 := HBb_18.out.cell 2
        simp at bb0 bb1 bb2
        clear hb18 hs18
        clear HS_18
        clear HT_18
        clear Hb_18
        clear HBb_18 bb0 bb1 bb2
        go_wp2_with fail
        refine (draw_declustered A n c C _ (HC.out.on (by go_grown))).mono ?_
        rintro e w19 ⟨Ve, le, te, fe, ge, hle, rfl, hb19, OLe⟩
        have hs19 : Below w18.heap.size w18 w19 := below_call (by go_grown) hb19
        have hq19 : Below w.heap.size w w19 := below_call hq18 hs19
        have hz19 := hs19.size
        clear hb19 hs19
        obtain ⟨me, hme⟩ : ∃ m, m = le.length := ⟨_, rfl⟩
        rw [← hme] at OLe hle
        obtain ⟨Xe, hXe⟩ : ∃ X, X = qX le := ⟨_, rfl⟩
        rw [← hXe] at OLe
        clear hme hXe
        obtain ⟨Ae, ce, rfl, hce, _⟩ := OLe.arr
        have He_19 := hide OLe; clear OLe
        obtain ⟨u, Hu⟩ : ∃ u, Hid ((catB me Xe && linkB te fe ge) = u) := ⟨_, rfl⟩
        obtain ⟨p, Hp⟩ : ∃ q, Hid (q = onlyN u (mainsL me (rchX te fe ge Xe) (sizeS Xe)).length) := ⟨_, rfl⟩
        have hp40 : p ≤ 40 := by rw [Hp.out]; exact onlyN_le (Nat.le_trans (mainsL_len _ _ _) hle)
        go_wp2_with fail
        refine (impl_decl Ae me ce Xe te fe ge u Hu.out p Hp.out _ (by omega) (He_19.out.arr1.on (by go_grown))).mono ?_
        rintro e w20 ⟨vS, rfl, hb20, OS⟩
        have hs20 : Below w19.heap.size w19 w20 := below_call (by go_grown) hb20
        have hq20 : Below w.heap.size w w20 := below_call hq19 hs20
        have hz20 := hs20.size
        have He_20 := hide (He_19.out.below hs20 (Nat.le_refl _))
        clear He_19
        have HBe_20 := hide ((Blk.new w19 30 #[.int .i64 te, .int .i64 fe, .int .i64 ge]).below hb20 (by simp))
        have be0 := HBe_20.out.cell 0
        have be1 := HBe_20.out.cell 1
        have be2 := HBe_20.out.cell 2
        simp at be0 be1 be2
        obtain ⟨AS, cS, rfl, hcS, _⟩ := OS.arr
        have HS_20 := hide OS; clear OS
        clear hb20 hs20
        go_wp2_with fail
        refine (spec_decl Ae me ce Xe te fe ge u Hu.out p Hp.out _ (by omega) (He_20.out.arr1.on (by go_grown))).mono ?_
        rintro e w21 ⟨vT, rfl, hb21, OT⟩
        have hs21 : Below w20.heap.size w20 w21 := below_call (by go_grown) hb21
        have hq21 : Below w.heap.size w w21 := below_call hq20 hs21
        have hz21 := hs21.size
        have He_21 := hide (He_20.out.below hs21 (Nat.le_refl _))
        have HS_21 := hide (HS_20.out.below hs21 (Nat.le_refl _))
        clear He_20
        clear HS_20
        have HBe_21 := hide (HBe_20.out.below hs21 HBe_20.out.lt)
        clear HBe_20 be0 be1 be2
        have be0 := HBe_21.out.cell 0
        have be1 := HBe_21.out.cell 1
        have be2 := HBe_21.out.cell 2
        simp at be0 be1 be2
        obtain ⟨AT, cT, rfl, hcT, _⟩ := OT.arr
        have HT_21 := hide OT; clear OT
        clear hb21 hs21
        go_wp2_with fail
        refine (v_quakes AS AT p cS cT _ _ (by omega) (HS_21.out.arr1.on (by go_grown)) (HT_21.out.arr1.on (by go_grown))).mono ?_
        rintro e w22 ⟨rfl, hb22⟩
        have hs22 : Below w21.heap.size w21 w22 := below_call (by go_grown) hb22
        have hq22 : Below w.heap.size w w22 := below_call hq21 hs22
        have hz22 := hs22.size
        have He_22 := hide (He_21.out.below hs22 (Nat.le_refl _))
        have HS_22 := hide (HS_21.out.below hs22 (Nat.le_refl _))
        have HT_22 := hide (HT_21.out.below hs22 (Nat.le_refl _))
        clear He_21
        clear HS_21
        clear HT_21
        have HBe_22 := hide (HBe_21.out.below hs22 HBe_21.out.lt)
        clear HBe_21 be0 be1 be2
        have be0 := HBe_22.out.cell 0
        have be1 := HBe_22.out.cell 1
        have be2 := HBe_22.out.cell 2
        simp at be0 be1 be2
        clear hb22 hs22
        go_wp2
        go_returns
        exact ⟨rfl, by go_grown⟩
  · have HB := hide hB; have HM := hide hm
    clear ha hC hB hm
    go_enter Try.func9, Try.ntmps9
    go_wp2_with fail
    refine (v_big A n c true HB.out HM.out _).mono ?_
    rintro e w0 ⟨rfl, rfl⟩
    go_wp2
    go_returns
    exact ⟨rfl, by go_grown⟩
end Go.Proofs.Ythpagjkkccimiaa
