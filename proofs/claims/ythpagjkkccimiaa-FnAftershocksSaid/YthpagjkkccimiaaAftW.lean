/- Chapter 19: the law on aftershocks: the walk. -/
import Derived.Test.YthpagjkkccimiaaCluP
import Derived.Test.YthpagjkkccimiaaDrwR
import Derived.Test.YthpagjkkccimiaaRv2
import Derived.Test.YthpagjkkccimiaaRow3
import Derived.Deep.DeepCutAuto
import Derived.Deep.CutBlock
namespace Go.Proofs.Ythpagjkkccimiaa
open Go.RowKit
set_option linter.unusedVariables false
set_option linter.unusedSimpArgs false

set_option maxRecDepth 100000 in
set_option maxHeartbeats 8000000 in
theorem walk_FnAftershocks (A : Option Addr) (n c : Nat) (C : Nat → Int) (w : World) (hm : n ≤ maxLen) (ha : Arr w w.heap.size A n 1 (bv C)) (hC : ∀ i, i < n → 0 ≤ C i ∧ C i ≤ 255) :
    Calls Try.prog 10 #[.slice A n c] w fun e w' => e = .returned (.bool true) ∧ Below w.heap.size w w' := by
  have hfa := frozen_al; have hfo := frozen_out
  cases hB : decide (65536 < (n : Int))
  · have HC := hide (show CodeOk w A n C from ⟨by rw [decide_eq_false_iff_not] at hB; omega, ha, hC⟩)
    have HM := hide hm; have HB := hide hB
    clear ha hC hm hB
    go_enter Try.func10, Try.ntmps10
    go_wp2_with fail
    refine (v_big A n c false HB.out HM.out _).mono ?_
    rintro e w0 ⟨rfl, rfl⟩
    go_wp2_with fail
    refine (draw_aftershocks A n c C _ (HC.out.on (by go_grown))).mono ?_
    rintro e w1 ⟨Va, la, ta, fa, ga, x, hla, rfl, hb1, OLa⟩
    have hs1 : Below w.heap.size w w1 := below_call (by go_grown) hb1
    have hq1 : Below w.heap.size w w1 := hs1
    have hz1 := hs1.size
    clear hb1 hs1
    obtain ⟨ma, hma⟩ : ∃ m, m = la.length := ⟨_, rfl⟩
    rw [← hma] at OLa hla
    obtain ⟨Xa, hXa⟩ : ∃ X, X = qX la := ⟨_, rfl⟩
    rw [← hXa] at OLa
    clear hma hXa
    obtain ⟨Aa, ca, rfl, hca, _⟩ := OLa.arr
    have Ha_1 := hide OLa; clear OLa
    obtain ⟨v, Hv⟩ : ∃ v, Hid (((catB ma Xa && linkB ta fa ga) && inB x 0 ((ma : Int) - 1)) = v) := ⟨_, rfl⟩
    obtain ⟨qa, Hqa⟩ : ∃ q, Hid (q = onlyN v (aftL ma (rchX ta fa ga Xa) (sizeS Xa) x.toNat).length) := ⟨_, rfl⟩
    have hqa40 : qa ≤ 40 := by rw [Hqa.out]; exact onlyN_le (Nat.le_trans (aftL_len _ _ _ _) hla)
    obtain ⟨p, Hp⟩ : ∃ p, Hid (onlyI v (mainN ma (rchX ta fa ga Xa) (sizeS Xa) x.toNat : Nat) = p) := ⟨_, rfl⟩
    go_wp2_with fail
    refine (impl_aft Aa ma ca Xa ta fa ga x v Hv.out qa Hqa.out _ (by omega) (Ha_1.out.arr1.on (by go_grown))).mono ?_
    rintro e w2 ⟨vS, rfl, hb2, OS⟩
    have hs2 : Below w1.heap.size w1 w2 := below_call (by go_grown) hb2
    have hq2 : Below w.heap.size w w2 := below_call hq1 hs2
    have hz2 := hs2.size
    have Ha_2 := hide (Ha_1.out.below hs2 (Nat.le_refl _))
    clear Ha_1
    have HBa_2 := hide ((Blk.new w1 30 #[.int .i64 ta, .int .i64 fa, .int .i64 ga]).below hb2 (by simp))
    have ba0 := HBa_2.out.cell 0
    have ba1 := HBa_2.out.cell 1
    have ba2 := HBa_2.out.cell 2
    simp at ba0 ba1 ba2
    obtain ⟨AS, cS, rfl, hcS, _⟩ := OS.arr
    have HS_2 := hide OS; clear OS
    clear hb2 hs2
    go_wp2_with fail
    refine (spec_aft Aa ma ca Xa ta fa ga x v Hv.out qa Hqa.out _ (by omega) (Ha_2.out.arr1.on (by go_grown))).mono ?_
    rintro e w3 ⟨vT, rfl, hb3, OT⟩
    have hs3 : Below w2.heap.size w2 w3 := below_call (by go_grown) hb3
    have hq3 : Below w.heap.size w w3 := below_call hq2 hs3
    have hz3 := hs3.size
    have Ha_3 := hide (Ha_2.out.below hs3 (Nat.le_refl _))
    have HS_3 := hide (HS_2.out.below hs3 (Nat.le_refl _))
    clear Ha_2
    clear HS_2
    have HBa_3 := hide (HBa_2.out.below hs3 HBa_2.out.lt)
    clear HBa_2 ba0 ba1 ba2
    have ba0 := HBa_3.out.cell 0
    have ba1 := HBa_3.out.cell 1
    have ba2 := HBa_3.out.cell 2
    simp at ba0 ba1 ba2
    obtain ⟨AT, cT, rfl, hcT, _⟩ := OT.arr
    have HT_3 := hide OT; clear OT
    clear hb3 hs3
    go_wp2_with fail
    refine (v_ints AS AT qa cS qa cT _ _ true (eqX_self 1 qa _) _ (by omega) (by omega) (HS_3.out.arr1.on (by go_grown)) (HT_3.out.arr1.on (by go_grown))).mono ?_
    rintro e w4 ⟨rfl, hb4⟩
    have hs4 : Below w3.heap.size w3 w4 := below_call (by go_grown) hb4
    have hq4 : Below w.heap.size w w4 := below_call hq3 hs4
    have hz4 := hs4.size
    have Ha_4 := hide (Ha_3.out.below hs4 (Nat.le_refl _))
    have HS_4 := hide (HS_3.out.below hs4 (Nat.le_refl _))
    have HT_4 := hide (HT_3.out.below hs4 (Nat.le_refl _))
    clear Ha_3
    clear HS_3
    clear HT_3
    have HBa_4 := hide (HBa_3.out.below hs4 HBa_3.out.lt)
    clear HBa_3 ba0 ba1 ba2
    have ba0 := HBa_4.out.cell 0
    have ba1 := HBa_4.out.cell 1
    have ba2 := HBa_4.out.cell 2
    simp at ba0 ba1 ba2
    clear hb4 hs4
    clear HT_4
    go_wp2_with fail
    refine (impl_mainO Aa ma ca Xa ta fa ga x v Hv.out p Hp.out _ (by omega) (Ha_4.out.arr1.on (by go_grown))).mono ?_
    rintro e w5 ⟨rfl, hb5⟩
    have hs5 : Below w4.heap.size w4 w5 := below_call (by go_grown) hb5
    have hq5 : Below w.heap.size w w5 := below_call hq4 hs5
    have hz5 := hs5.size
    have Ha_5 := hide (Ha_4.out.below hs5 (Nat.le_refl _))
    have HS_5 := hide (HS_4.out.below hs5 (Nat.le_refl _))
    clear Ha_4
    clear HS_4
    have HBa_5 := hide (HBa_4.out.below hs5 HBa_4.out.lt)
    clear HBa_4 ba0 ba1 ba2
    have ba0 := HBa_5.out.cell 0
    have ba1 := HBa_5.out.cell 1
    have ba2 := HBa_5.out.cell 2
    simp at ba0 ba1 ba2
    clear hb5 hs5
    go_wp2_with fail
    refine (spec_mainO Aa ma ca Xa ta fa ga x v Hv.out p Hp.out _ (by omega) (Ha_5.out.arr1.on (by go_grown))).mono ?_
    rintro e w6 ⟨rfl, hb6⟩
    have hs6 : Below w5.heap.size w5 w6 := below_call (by go_grown) hb6
    have hq6 : Below w.heap.size w w6 := below_call hq5 hs6
    have hz6 := hs6.size
    have Ha_6 := hide (Ha_5.out.below hs6 (Nat.le_refl _))
    have HS_6 := hide (HS_5.out.below hs6 (Nat.le_refl _))
    clear Ha_5
    clear HS_5
    have HBa_6 := hide (HBa_5.out.below hs6 HBa_5.out.lt)
    clear HBa_5 ba0 ba1 ba2
    have ba0 := HBa_6.out.cell 0
    have ba1 := HBa_6.out.cell 1
    have ba2 := HBa_6.out.cell 2
    simp at ba0 ba1 ba2
    clear hb6 hs6
    go_upto_if 94 with fail
    go_cut [2] (fun s2 wx => s2 = .bool false ∧ Below w6.heap.size w6 wx)
    case first =>
      as_aux_lemma =>
        cases v
        · skip
          go_wp2_with fail
          go_meet
          exact ⟨rfl, by go_grown⟩
        · skip
          have hV := Hv.out
          rw [Bool.and_eq_true] at hV
          have hx := inB_of hV.2
          obtain ⟨i, rfl⟩ : ∃ i : Nat, x = i := ⟨x.toNat, by omega⟩
          have hi : i < ma := by omega
          have hp := Hp.out
          have hqa := Hqa.out
          simp only [onlyI, onlyN, if_true, Int.toNat_natCast] at hp hqa
          obtain ⟨pn, hpn⟩ : ∃ pn, pn = mainN ma (rchX ta fa ga Xa) (sizeS Xa) i := ⟨_, rfl⟩
          rw [← hpn] at hp
          subst hp
          have hpl : pn < ma := by rw [hpn]; exact mainN_lt hi
          obtain ⟨L, hL⟩ : ∃ L, L = cluL ma (rchX ta fa ga Xa) i := ⟨_, rfl⟩
          obtain ⟨qc, hqc⟩ : ∃ qc, qc = L.length := ⟨_, rfl⟩
          have hqc40 : qc ≤ 40 := by rw [hqc, hL]; exact Nat.le_trans (cluL_len _ _ _) hla
          have Hqc := hide (show qc = onlyN true (cluL ma (rchX ta fa ga Xa) ((i : Int)).toNat).length by simp only [onlyN, if_true, Int.toNat_natCast]; rw [hqc, hL])
          have HL := hide hL; have HQC := hide hqc; have HPN := hide hpn; have HQA := hide hqa
          clear hV hx hqa hpn hL hqc Hp Hqa
          go_wp2_with fail
          refine (impl_clW Aa ma ca Xa ta fa ga (i : Int) true Hv.out qc Hqc.out _ (by omega) (Ha_6.out.arr1.on (by go_grown))).mono ?_
          rintro e w7 ⟨vP, rfl, hb7, OP⟩
          have hs7 : Below w6.heap.size w6 w7 := below_call (by go_grown) hb7
          have hq7 : Below w.heap.size w w7 := below_call hq6 hs7
          have hk7 : Below w6.heap.size w6 w7 := hs7
          have hz7 := hs7.size
          have Ha_7 := hide (Ha_6.out.below hs7 (Nat.le_refl _))
          have HS_7 := hide (HS_6.out.below hs7 (Nat.le_refl _))
          clear Ha_6
          clear HS_6
          have HBa_7 := hide (HBa_6.out.below hs7 HBa_6.out.lt)
          clear HBa_6 ba0 ba1 ba2
          have ba0 := HBa_7.out.cell 0
          have ba1 := HBa_7.out.cell 1
          have ba2 := HBa_7.out.cell 2
          simp at ba0 ba1 ba2
          obtain ⟨AP, cP, rfl, hcP, _⟩ := OP.arr
          have HP_7 := hide OP; clear OP
          clear hb7 hs7
          go_wp2_with fail
          refine (spec_clW Aa ma ca Xa ta fa ga (i : Int) true Hv.out qc Hqc.out _ (by omega) (Ha_7.out.arr1.on (by go_grown))).mono ?_
          rintro e w8 ⟨vQ, rfl, hb8, OQ⟩
          have hs8 : Below w7.heap.size w7 w8 := below_call (by go_grown) hb8
          have hq8 : Below w.heap.size w w8 := below_call hq7 hs8
          have hk8 : Below w6.heap.size w6 w8 := below_call hk7 hs8
          have hz8 := hs8.size
          have Ha_8 := hide (Ha_7.out.below hs8 (Nat.le_refl _))
          have HS_8 := hide (HS_7.out.below hs8 (Nat.le_refl _))
          have HP_8 := hide (HP_7.out.below hs8 (Nat.le_refl _))
          clear Ha_7
          clear HS_7
          clear HP_7
          have HBa_8 := hide (HBa_7.out.below hs8 HBa_7.out.lt)
          clear HBa_7 ba0 ba1 ba2
          have ba0 := HBa_8.out.cell 0
          have ba1 := HBa_8.out.cell 1
          have ba2 := HBa_8.out.cell 2
          simp at ba0 ba1 ba2
          obtain ⟨AQ, cQ, rfl, hcQ, _⟩ := OQ.arr
          have HQ_8 := hide OQ; clear OQ
          clear hb8 hs8
          go_wp2_with fail
          refine (v_ints AP AQ qc cP qc cQ _ _ true (eqX_self 1 qc _) _ (by omega) (by omega) (HP_8.out.arr1.on (by go_grown)) (HQ_8.out.arr1.on (by go_grown))).mono ?_
          rintro e w9 ⟨rfl, hb9⟩
          have hs9 : Below w8.heap.size w8 w9 := below_call (by go_grown) hb9
          have hq9 : Below w.heap.size w w9 := below_call hq8 hs9
          have hk9 : Below w6.heap.size w6 w9 := below_call hk8 hs9
          have hz9 := hs9.size
          have Ha_9 := hide (Ha_8.out.below hs9 (Nat.le_refl _))
          have HS_9 := hide (HS_8.out.below hs9 (Nat.le_refl _))
          have HP_9 := hide (HP_8.out.below hs9 (Nat.le_refl _))
          have HQ_9 := hide (HQ_8.out.below hs9 (Nat.le_refl _))
          clear Ha_8
          clear HS_8
          clear HP_8
          clear HQ_8
          have HBa_9 := hide (HBa_8.out.below hs9 HBa_8.out.lt)
          clear HBa_8 ba0 ba1 ba2
          have ba0 := HBa_9.out.cell 0
          have ba1 := HBa_9.out.cell 1
          have ba2 := HBa_9.out.cell 2
          simp at ba0 ba1 ba2
          clear hb9 hs9
          clear HQ_9
          clear ba0 ba1 ba2
          go_wp2_with fail
          go_loopw [2, 18] (fun s2 i wr => ∃ k : Nat, k ≤ qc ∧ s2 = .bool false ∧ i = .int .i64 k ∧ Below w9.heap.size w9 wr) (fun _ i _ => qc - (intOf i).toNat)
          case atStart => exact ⟨0, Nat.zero_le _, rfl, rfl, Below.refl _ _⟩
          case round =>
            obtain ⟨k, hk, rfl, rfl, hbr⟩ := hrel
            by_cases hlt : k < qc
            · obtain ⟨b, off, rfl, hbb, hc⟩ := (HP_9.out.arr1.on hbr) (by omega)
              obtain ⟨b2, off2, rfl, hbb2, hc2⟩ := (Ha_9.out.arr1.on hbr) (by omega)
              have hx := BW.cell (w := wr)
              obtain ⟨y, hy⟩ : ∃ y, y = (cluL ma (rchX ta fa ga Xa) i).getD k 0 := ⟨_, rfl⟩
              have hL := HL.out; have hqc := HQC.out
              have hkl : k < (cluL ma (rchX ta fa ga Xa) i).length := by rw [← hL]; omega
              have hyn : y < ma := by rw [hy]; exact cluL_get hkl
              have hym : y ∈ cluL ma (rchX ta fa ga Xa) i := by rw [hy]; exact getD_mem hkl
              have hmx : Xa y 3 ≤ Xa pn 3 := by
                have := main_max (r := (rchX ta fa ga Xa)) (S := (sizeS Xa)) (n := ma) (i := i) hkl
                rw [← hy, ← HPN.out] at this; exact this
              have c0 := hc k 0 hlt (by omega)
              simp only [Nat.add_zero, Nat.mul_one, iv, Int.toNat_natCast] at c0
              rw [← hy] at c0
              have e3 := hc2 y 3 hyn (by omega); have f3 := hc2 pn 3 hpl (by omega)
              simp only [iv] at e3 f3
              have dl : decide (Xa pn 3 < Xa y 3) = false := decide_eq_false (by omega)
              have hyi : (y : Int) < (ma : Int) := by omega
              have hpi : (pn : Int) < (ma : Int) := by omega
              by_cases hpy : pn < y
              · have HH := hide (show hasI (fun p _ => ((aftL ma (rchX ta fa ga Xa) (sizeS Xa) ((i : Int)).toNat).getD p 0 : Nat)) qa (y : Int) = true by
                  obtain ⟨j, hj, e⟩ := has_mem (aft_mem.2 ⟨hym, by rw [← HPN.out]; exact hpy⟩ : y ∈ aftL ma (rchX ta fa ga Xa) (sizeS Xa) i)
                  exact hasI_yes (by rw [HQA.out]; exact hj) (by simpa using e))
                have d2 : decide (pn < y) = true := decide_eq_true hpy
                clear hc hc2 hy hL hqc hkl hym hmx hyn
                go_wp2
                refine wp_region_bw (by kernel_rfl) (by kernel_rfl) ?_
                repeat (go_big_quiet_step ((first | (go_at_call 44; with_reducible exact BW.call0 (v_has _ qa _ _ (y : Int) _ HH.out _ (by omega) (HS_9.out.arr1.on (below_call hbr (BW.prop _))))))))
                refine wpQuiet_end fun w1 hb1 => ?_
                go_wp2
                go_roundw
                case rel => exact ⟨k + 1, by omega, rfl, by go_num, below_call hbr hb1⟩
                case measure => simp [intOf]; omega
              · have HH := hide (show hasI (fun p _ => ((aftL ma (rchX ta fa ga Xa) (sizeS Xa) ((i : Int)).toNat).getD p 0 : Nat)) qa (y : Int) = false by
                  refine hasI_no fun j hj e => ?_
                  have hn := not_mem_has (L := aftL ma (rchX ta fa ga Xa) (sizeS Xa) i) (x := y) (fun h => hpy (by rw [HPN.out]; exact (aft_mem.1 h).2)) j (by rw [← HQA.out]; exact hj)
                  exact hn (by simpa using e))
                have d2 : decide (pn < y) = false := decide_eq_false hpy
                clear hc hc2 hy hL hqc hkl hym hmx hyn
                go_wp2
                refine wp_region_bw (by kernel_rfl) (by kernel_rfl) ?_
                repeat (go_big_quiet_step ((first | (go_at_call 44; with_reducible exact BW.call0 (v_has _ qa _ _ (y : Int) _ HH.out _ (by omega) (HS_9.out.arr1.on (below_call hbr (BW.prop _))))))))
                refine wpQuiet_end fun w1 hb1 => ?_
                go_wp2
                go_roundw
                case rel => exact ⟨k + 1, by omega, rfl, by go_num, below_call hbr hb1⟩
                case measure => simp [intOf]; omega
            · obtain rfl : k = qc := by omega
              go_wp2_with fail
              go_meet
              exact ⟨rfl, below_call (by go_grown) hbr⟩
    case rest =>
      obtain ⟨rfl, hqc⟩ := hcut
      obtain ⟨w10, rfl⟩ : ∃ x, x = wc := ⟨_, rfl⟩
      have hq10 : Below w.heap.size w w10 := below_call hq6 hqc
      have hz10 := hqc.size
      have Ha_10 := hide (Ha_6.out.below hqc (Nat.le_refl _))
      clear Ha_6
      have HS_10 := hide (HS_6.out.below hqc (Nat.le_refl _))
      clear HS_6
      have HBa_10 := hide (HBa_6.out.below hqc HBa_6.out.lt)
      clear HBa_6 ba0 ba1 ba2
      have ba0 := HBa_10.out.cell 0
      have ba1 := HBa_10.out.cell 1
      have ba2 := HBa_10.out.cell 2
      simp at ba0 ba1 ba2
      clear hqc
      clear HS_10
      clear Ha_10
      clear HBa_10 ba0 ba1 ba2
      clear Hqa Hv Hp hla hqa40
      go_wp2_with fail
      refine (draw_largest A n c C _ (HC.out.on (by go_grown))).mono ?_
      rintro e w11 ⟨Vb, lb, tb, fb, gb, hlb, rfl, hb11, OLb⟩
      have hs11 : Below w10.heap.size w10 w11 := below_call (by go_grown) hb11
      have hq11 : Below w.heap.size w w11 := below_call hq10 hs11
      have hz11 := hs11.size
      clear hb11 hs11
      obtain ⟨mb, hmb⟩ : ∃ m, m = lb.length := ⟨_, rfl⟩
      rw [← hmb] at OLb hlb
      obtain ⟨Xb, hXb⟩ : ∃ X, X = qX lb := ⟨_, rfl⟩
      rw [← hXb] at OLb
      clear hmb hXb
      obtain ⟨Ab, cb, rfl, hcb, _⟩ := OLb.arr
      have Hb_11 := hide OLb; clear OLb
      obtain ⟨u, Hu⟩ : ∃ u, Hid (((catB mb Xb && linkB tb fb gb) && decide (mb ≠ 0)) = u) := ⟨_, rfl⟩
      obtain ⟨r, Hr⟩ : ∃ r, Hid (onlyI u ((lgS mb (rchX tb fb gb Xb) mb).1 : Nat) = r) := ⟨_, rfl⟩
      obtain ⟨d, Hd⟩ : ∃ d, Hid (onlyI u ((lgS mb (rchX tb fb gb Xb) mb).2 : Nat) = d) := ⟨_, rfl⟩
      go_wp2_with fail
      refine (impl_largest Ab mb cb Xb tb fb gb u Hu.out r d Hr.out Hd.out _ (by omega) (Hb_11.out.arr1.on (by go_grown))).mono ?_
      rintro e w12 ⟨rfl, hb12⟩
      have hs12 : Below w11.heap.size w11 w12 := below_call (by go_grown) hb12
      have hq12 : Below w.heap.size w w12 := below_call hq11 hs12
      have hz12 := hs12.size
      have Hb_12 := hide (Hb_11.out.below hs12 (Nat.le_refl _))
      clear Hb_11
      have HBb_12 := hide ((Blk.new w11 30 #[.int .i64 tb, .int .i64 fb, .int .i64 gb]).below hb12 (by simp))
      have bb0 := HBb_12.out.cell 0
      have bb1 := HBb_12.out.cell 1
      have bb2 := HBb_12.out.cell 2
      simp at bb0 bb1 bb2
      clear hb12 hs12
      go_wp2_with fail
      refine (spec_largest Ab mb cb Xb tb fb gb u Hu.out r d Hr.out Hd.out _ (by omega) (Hb_12.out.arr1.on (by go_grown))).mono ?_
      rintro e w13 ⟨rfl, hb13⟩
      have hs13 : Below w12.heap.size w12 w13 := below_call (by go_grown) hb13
      have hq13 : Below w.heap.size w w13 := below_call hq12 hs13
      have hz13 := hs13.size
      have Hb_13 := hide (Hb_12.out.below hs13 (Nat.le_refl _))
      clear Hb_12
      have HBb_13 := hide (HBb_12.out.below hs13 HBb_12.out.lt)
      clear HBb_12 bb0 bb1 bb2
      have bb0 := HBb_13.out.cell 0
      have bb1 := HBb_13.out.cell 1
      have bb2 := HBb_13.out.cell 2
      simp at bb0 bb1 bb2
      clear hb13 hs13
      go_upto_block 2 with fail
      go_cut [2] (fun s2 wx => s2 = .bool false ∧ Below w13.heap.size w13 wx)
      case first =>
        as_aux_lemma =>
          cases u
          · go_wp2_with fail
            go_loopw [2, 27] (fun s2 i wr => s2 = .bool false ∧ i = .int .i64 0 ∧ wr = w13) (fun _ _ _ => 0)
            case atStart => exact ⟨rfl, rfl, rfl⟩
            case round =>
              obtain ⟨rfl, rfl, rfl⟩ := hrel
              by_cases h0 : 0 < mb
              · have d0 : decide (0 < mb) = true := decide_eq_true h0
                go_wp2_with fail
                go_meet
                exact ⟨rfl, by go_grown⟩
              · have d0 : decide (0 < mb) = false := decide_eq_false h0
                go_wp2_with fail
                go_meet
                exact ⟨rfl, by go_grown⟩
          · skip
            have hV := Hu.out
            rw [Bool.and_eq_true, decide_eq_true_eq] at hV
            obtain ⟨hV, h0⟩ := hV
            have hr := Hr.out; have hd := Hd.out
            simp only [onlyI, if_true] at hr hd
            have hat := lgS_at (n := mb) (r := (rchX tb fb gb Xb)) (mb - 1) (by omega)
            rw [show mb - 1 + 1 = mb from by omega] at hat
            have hall := lgS_all mb (rchX tb fb gb Xb) mb
            obtain ⟨rn, hrn⟩ : ∃ x, x = (lgS mb (rchX tb fb gb Xb) mb).1 := ⟨_, rfl⟩
            obtain ⟨dn, hdn⟩ : ∃ x, x = (lgS mb (rchX tb fb gb Xb) mb).2 := ⟨_, rfl⟩
            rw [← hrn] at hr hat; rw [← hdn] at hd hat hall
            subst hr hd
            have HV := hide hV; have HAT := hide hat; have HALL := hide hall
            clear hV hat hall hrn hdn Hr Hd
            go_wp2_with fail
            go_loopw [2, 27] (fun s2 i wr => ∃ k : Nat, k ≤ mb ∧ s2 = .bool false ∧ i = .int .i64 k ∧ Below w13.heap.size w13 wr) (fun _ i _ => mb - (intOf i).toNat)
            case atStart => exact ⟨0, Nat.zero_le _, rfl, rfl, Below.refl _ _⟩
            case round =>
              obtain ⟨k, hk, rfl, rfl, hbr⟩ := hrel
              have HBr := hide (HBb_13.out.below hbr HBb_13.out.lt)
              clear bb0 bb1 bb2
              have m0 := HBr.out.cell 0; have m1 := HBr.out.cell 1; have m2 := HBr.out.cell 2
              simp at m0 m1 m2
              by_cases hlt : k < mb
              · obtain ⟨qk, hqk⟩ : ∃ x, x = (cluL mb (rchX tb fb gb Xb) k).length := ⟨_, rfl⟩
                have Hqk := hide (show qk = onlyN true (cluL mb (rchX tb fb gb Xb) ((k : Int)).toNat).length by simp only [onlyN, if_true, Int.toNat_natCast]; exact hqk)
                have Hv2 := hide (show ((catB mb Xb && linkB tb fb gb) && inB (k : Int) 0 ((mb : Int) - 1)) = true by rw [HV.out, Bool.true_and]; exact inB_mk (by omega) (by omega))
                have hle : qk ≤ dn := by rw [hqk]; exact HALL.out k hlt
                have hq40 : qk ≤ 40 := by rw [hqk]; exact Nat.le_trans (cluL_len _ _ _) hlb
                have heq : k = rn → qk = dn := fun e => by rw [hqk, e]; exact HAT.out.2
                have HEQ := hide heq
                clear hqk heq
                go_wp2_with fail
                refine (impl_clW Ab mb cb Xb tb fb gb (k : Int) true Hv2.out qk Hqk.out _ (by omega) (Hb_13.out.arr1.on (by go_grown))).mono ?_
                rintro e w99 ⟨vP, rfl, hb99, OP⟩
                have hs99 : Below wr.heap.size wr w99 := below_call (by go_grown) hb99
                obtain ⟨AP, cP, rfl, hcP, _⟩ := OP.arr
                have H99 := hide (below_call hbr hs99)
                have d1 : decide (dn < qk) = false := decide_eq_false (by omega)
                clear OP hb99 m0 m1 m2
                by_cases hkr : k = rn
                · obtain rfl := HEQ.out hkr
                  subst hkr
                  go_wp2
                  go_roundw
                  case rel => exact ⟨k + 1, by omega, rfl, by go_num, H99.out⟩
                  case measure => simp [intOf]; omega
                · have d2 : ((k : Int) == (rn : Int)) = false := by simp; omega
                  go_wp2
                  go_roundw
                  case rel => exact ⟨k + 1, by omega, rfl, by go_num, H99.out⟩
                  case measure => simp [intOf]; omega
              · obtain rfl : k = mb := by omega
                go_wp2_with fail
                go_meet
                exact ⟨rfl, by go_grown⟩
      case rest =>
        obtain ⟨rfl, hqc⟩ := hcut
        obtain ⟨w14, rfl⟩ : ∃ x, x = wc := ⟨_, rfl⟩
        have hq14 : Below w.heap.size w w14 := below_call hq13 hqc
        have hz14 := hqc.size
        have Hb_14 := hide (Hb_13.out.below hqc (Nat.le_refl _))
        clear Hb_13
        have HBb_14 := hide (HBb_13.out.below hqc HBb_13.out.lt)
        clear HBb_13 bb0 bb1 bb2
        have bb0 := HBb_14.out.cell 0
        have bb1 := HBb_14.out.cell 1
        have bb2 := HBb_14.out.cell 2
        simp at bb0 bb1 bb2
        clear hqc
        clear Hb_14
        clear HBb_14 bb0 bb1 bb2
        clear Hu Hr Hd hlb
        go_wp2_with fail
        refine (draw_links A n c C _ (HC.out.on (by go_grown))).mono ?_
        rintro e w15 ⟨Ve, le, te, fe, ge, hle, rfl, hb15, OLe⟩
        have hs15 : Below w14.heap.size w14 w15 := below_call (by go_grown) hb15
        have hq15 : Below w.heap.size w w15 := below_call hq14 hs15
        have hz15 := hs15.size
        clear hb15 hs15
        obtain ⟨me, hme⟩ : ∃ m, m = le.length := ⟨_, rfl⟩
        rw [← hme] at OLe hle
        obtain ⟨Xe, hXe⟩ : ∃ X, X = qX le := ⟨_, rfl⟩
        rw [← hXe] at OLe
        clear hme hXe
        obtain ⟨Ae, ce, rfl, hce, _⟩ := OLe.arr
        have He_15 := hide OLe; clear OLe
        obtain ⟨u, Hu⟩ : ∃ u, Hid ((catB me Xe && linkB te fe ge) = u) := ⟨_, rfl⟩
        obtain ⟨q, Hq⟩ : ∃ q, Hid (q = onlyN u (prI (rchX te fe ge Xe) me me).length) := ⟨_, rfl⟩
        have hq40 : q ≤ 1600 := by
          rw [Hq.out]; refine onlyN_le (Nat.le_trans (prI_len _ _ _) ?_)
          exact Nat.le_trans (Nat.mul_le_mul hle hle) (by omega)
        go_wp2_with fail
        refine (impl_links Ae me ce Xe te fe ge u Hu.out q Hq.out _ (by omega) (He_15.out.arr1.on (by go_grown))).mono ?_
        rintro e w16 ⟨vS, rfl, hb16, OS⟩
        have hs16 : Below w15.heap.size w15 w16 := below_call (by go_grown) hb16
        have hq16 : Below w.heap.size w w16 := below_call hq15 hs16
        have hz16 := hs16.size
        have He_16 := hide (He_15.out.below hs16 (Nat.le_refl _))
        clear He_15
        have HBe_16 := hide ((Blk.new w15 30 #[.int .i64 te, .int .i64 fe, .int .i64 ge]).below hb16 (by simp))
        have be0 := HBe_16.out.cell 0
        have be1 := HBe_16.out.cell 1
        have be2 := HBe_16.out.cell 2
        simp at be0 be1 be2
        obtain ⟨AS, cS, rfl, hcS, _⟩ := OS.arr
        have HS_16 := hide OS; clear OS
        clear hb16 hs16
        go_wp2_with fail
        refine (spec_links Ae me ce Xe te fe ge u Hu.out q Hq.out _ (by omega) (He_16.out.arr1.on (by go_grown))).mono ?_
        rintro e w17 ⟨vT, rfl, hb17, OT⟩
        have hs17 : Below w16.heap.size w16 w17 := below_call (by go_grown) hb17
        have hq17 : Below w.heap.size w w17 := below_call hq16 hs17
        have hz17 := hs17.size
        have He_17 := hide (He_16.out.below hs17 (Nat.le_refl _))
        have HS_17 := hide (HS_16.out.below hs17 (Nat.le_refl _))
        clear He_16
        clear HS_16
        have HBe_17 := hide (HBe_16.out.below hs17 HBe_16.out.lt)
        clear HBe_16 be0 be1 be2
        have be0 := HBe_17.out.cell 0
        have be1 := HBe_17.out.cell 1
        have be2 := HBe_17.out.cell 2
        simp at be0 be1 be2
        obtain ⟨AT, cT, rfl, hcT, _⟩ := OT.arr
        have HT_17 := hide OT; clear OT
        clear hb17 hs17
        go_wp2_with fail
        refine (v_pairs AS AT q cS cT _ _ (by omega) (HS_17.out.arr1.on (by go_grown)) (HT_17.out.arr1.on (by go_grown))).mono ?_
        rintro e w18 ⟨rfl, hb18⟩
        have hs18 : Below w17.heap.size w17 w18 := below_call (by go_grown) hb18
        have hq18 : Below w.heap.size w w18 := below_call hq17 hs18
        have hz18 := hs18.size
        have He_18 := hide (He_17.out.below hs18 (Nat.le_refl _))
        have HS_18 := hide (HS_17.out.below hs18 (Nat.le_refl _))
        have HT_18 := hide (HT_17.out.below hs18 (Nat.le_refl _))
        clear He_17
        clear HS_17
        clear HT_17
        have HBe_18 := hide (HBe_17.out.below hs18 HBe_17.out.lt)
        clear HBe_17 be0 be1 be2
        have be0 := HBe_18.out.cell 0
        have be1 := HBe_18.out.cell 1
        have be2 := HBe_18.out.cell 2
        simp at be0 be1 be2
        clear hb18 hs18
        go_wp2
        go_returns
        exact ⟨rfl, by go_grown⟩
  · have HB := hide hB; have HM := hide hm
    clear ha hC hB hm
    go_enter Try.func10, Try.ntmps10
    go_wp2_with fail
    refine (v_big A n c true HB.out HM.out _).mono ?_
    rintro e w0 ⟨rfl, rfl⟩
    go_wp2
    go_returns
    exact ⟨rfl, by go_grown⟩
end Go.Proofs.Ythpagjkkccimiaa
