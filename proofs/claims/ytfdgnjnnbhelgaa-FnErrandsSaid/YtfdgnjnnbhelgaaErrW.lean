/- Chapter 23: the law on errands: the walk. -/
import Derived.Test.YtfdgnjnnbhelgaaErrL
import Derived.Test.YtfdgnjnnbhelgaaDrvD
import Derived.Test.YtfdgnjnnbhelgaaVisN
import Derived.Test.YtfdgnjnnbhelgaaVisQ
import Derived.Test.YtfdgnjnnbhelgaaRv2
import Derived.Test.YtfdgnjnnbhelgaaRow3
import Derived.Deep.DeepCutAuto
import Derived.Deep.CutBlock
namespace Go.Proofs.Ytfdgnjnnbhelgaa
open Go.RowKit
set_option linter.unusedVariables false
set_option linter.unusedSimpArgs false

set_option maxRecDepth 100000 in
set_option maxHeartbeats 8000000 in
theorem walk_FnErrands (A : Option Addr) (n c : Nat) (C : Nat → Int) (w : World) (hm : n ≤ maxLen) (ha : Arr w w.heap.size A n 1 (bv C)) (hC : ∀ i, i < n → 0 ≤ C i ∧ C i ≤ 255) :
    Calls Try.prog 7 #[.slice A n c] w fun e w' => e = .returned (.bool true) ∧ Below w.heap.size w w' := by
  have hfa := frozen_al; have hfo := frozen_out
  cases hB : decide (65536 < (n : Int))
  · have HC := hide (show CodeOk w A n C from ⟨by rw [decide_eq_false_iff_not] at hB; omega, ha, hC⟩)
    have HM := hide hm; have HB := hide hB
    clear ha hC hm hB
    go_enter Try.func7, Try.ntmps7
    go_wp2_with fail
    refine (r_big A n c false HB.out HM.out _).mono ?_
    rintro e w0 ⟨rfl, rfl⟩
    go_wp2_with fail
    refine (draw_most A n c C _ (HC.out.on (by go_grown))).mono ?_
    rintro e w1 ⟨Va, la, Vp, lp, ha, hp, rfl, hb1, Oa, Op⟩
    have hs1 : Below w.heap.size w w1 := below_call (by go_grown) hb1
    have hq1 : Below w.heap.size w w1 := hs1
    have hz1 := hs1.size
    clear hb1 hs1
    obtain ⟨ma, hma⟩ : ∃ m, m = la.length := ⟨_, rfl⟩
    rw [← hma] at Oa ha
    obtain ⟨Xa, hXa⟩ : ∃ X, X = qX la := ⟨_, rfl⟩
    rw [← hXa] at Oa
    clear hma hXa
    obtain ⟨Aa, ca, rfl, hca, _⟩ := Oa.arr
    have Ha_1 := hide Oa; clear Oa
    obtain ⟨mp, hmp⟩ : ∃ m, m = lp.length := ⟨_, rfl⟩
    rw [← hmp] at Op hp
    obtain ⟨Xp, hXp⟩ : ∃ X, X = lf lp := ⟨_, rfl⟩
    rw [← hXp] at Op
    clear hmp hXp
    obtain ⟨Ap, cp, rfl, hcp, _⟩ := Op.arr
    have Hp_1 := hide Op; clear Op
    obtain ⟨v, Hv⟩ : ∃ v, Hid ((planB ma mp Xp && errsB ma Xa) = v) := ⟨_, rfl⟩
    obtain ⟨r, Hr⟩ : ∃ r, Hid (onlyI v (mostL Xa Xp mp) = r) := ⟨_, rfl⟩
    go_wp2_with fail
    refine (impl_most23 Aa Ap ma ca mp cp Xa Xp v r Hr.out Hv.out _ (by omega) (by omega) (Ha_1.out.arr1.on (by go_grown)) (Hp_1.out.arr1.on (by go_grown))).mono ?_
    rintro e w2 ⟨rfl, hb2⟩
    have hs2 : Below w1.heap.size w1 w2 := below_call (by go_grown) hb2
    have hq2 : Below w.heap.size w w2 := below_call hq1 hs2
    have hz2 := hs2.size
    have Ha_2 := hide (Ha_1.out.below hs2 (Nat.le_refl _))
    have Hp_2 := hide (Hp_1.out.below hs2 (Nat.le_refl _))
    clear Ha_1
    clear Hp_1
    clear hb2 hs2
    go_wp2_with fail
    refine (spec_most23 Aa Ap ma ca mp cp Xa Xp v r Hr.out Hv.out _ (by omega) (by omega) hcp (Ha_2.out.arr1.on (by go_grown)) (Hp_2.out.arr1.on (by go_grown))).mono ?_
    rintro e w3 ⟨rfl, hb3⟩
    have hs3 : Below w2.heap.size w2 w3 := below_call (by go_grown) hb3
    have hq3 : Below w.heap.size w w3 := below_call hq2 hs3
    have hz3 := hs3.size
    have Ha_3 := hide (Ha_2.out.below hs3 (Nat.le_refl _))
    have Hp_3 := hide (Hp_2.out.below hs3 (Nat.le_refl _))
    clear Ha_2
    clear Hp_2
    clear hb3 hs3
    obtain ⟨bb, Hbb⟩ : ∃ bb, Hid ((v && decide (mp = ma)) = bb) := ⟨_, rfl⟩
    go_upto_region 8 with fail
    go_cut [66] (fun s2 wx => s2 = .bool bb ∧ wx = w3)
    case first =>
      have hbb := Hbb.out
      cases v
      · obtain rfl : false = bb := by simpa using hbb
        clear hbb
        go_wp2_with fail
        go_meet
        exact ⟨rfl, rfl⟩
      · by_cases he : mp = ma
        · obtain rfl : true = bb := by simpa [he] using hbb
          clear hbb
          have d1 : ((mp : Int) == (ma : Int)) = true := by simp [he]
          have d2 : (mp == ma) = true := by simp [he]
          go_wp2_with fail
          go_meet
          exact ⟨by simp [he], rfl⟩
        · obtain rfl : false = bb := by simpa [he] using hbb
          clear hbb
          have d1 : ((mp : Int) == (ma : Int)) = false := by simp; omega
          have d2 : (mp == ma) = false := by simp; omega
          go_wp2_with fail
          go_meet
          exact ⟨by simp [he], rfl⟩
    case rest =>
      obtain ⟨rfl, hw⟩ := hcut
      obtain rfl : w3 = wc := hw.symm
      go_upto_if 66 with fail
      go_cut [2] (fun s2 wx => s2 = .bool false ∧ Below w3.heap.size w3 wx)
      case first =>
        as_aux_lemma =>
          cases bb
          · skip
            go_wp2_with fail
            go_meet
            exact ⟨rfl, by go_grown⟩
          · skip
            have hbb := Hbb.out
            rw [Bool.and_eq_true, decide_eq_true_iff] at hbb
            obtain ⟨hv, hpa⟩ := hbb
            have hV := Hv.out
            rw [hv] at hV
            have hE : errsB ma Xa = true := by rw [Bool.and_eq_true] at hV; exact hV.2
            obtain ⟨hpl, hle⟩ := least_law hpa hV
            obtain ⟨r2, hr2⟩ : ∃ r2 : Int, onlyI true (mostL Xa (keptY (fwO ma Xa)) ma) = r2 := ⟨_, rfl⟩
            have hrr : r2 ≤ r := by
              have h := Hr.out
              rw [hv] at h
              simp only [onlyI, if_true] at h hr2
              omega
            have dz : decide (r < r2) = false := decide_eq_false (by omega)
            have HPL := hide hpl; have HE := hide hE; have HR2 := hide hr2
            clear hv hpa hV hE hpl hle hr2 hrr
            go_wp2_with fail
            refine (impl_byDead Aa ma ca Xa true HE.out ma rfl _ (by omega) (Ha_3.out.arr1.on (by go_grown))).mono ?_
            rintro e w4 ⟨vO, rfl, hb4, OO⟩
            have hs4 : Below w3.heap.size w3 w4 := below_call (by go_grown) hb4
            have hq4 : Below w.heap.size w w4 := below_call hq3 hs4
            have hk4 : Below w3.heap.size w3 w4 := hs4
            have hz4 := hs4.size
            have Ha_4 := hide (Ha_3.out.below hs4 (Nat.le_refl _))
            have Hp_4 := hide (Hp_3.out.below hs4 (Nat.le_refl _))
            clear Ha_3
            clear Hp_3
            obtain ⟨AO, cO, rfl, hcO, _⟩ := OO.arr
            have HO_4 := hide OO; clear OO
            clear hb4 hs4
            have HO2 : Hid (Arr w4 w4.heap.size AO ma 1 (iv (keptY (fwO ma Xa)))) := hide HO_4.out.arr1
            go_wp2_with fail
            refine (impl_most23 Aa AO ma ca ma cO Xa (keptY (fwO ma Xa)) true r2 HR2.out HPL.out _ (by omega) (by omega) (Ha_4.out.arr1.on (by go_grown)) (HO2.out.on (by go_grown))).mono ?_
            rintro e w5 ⟨rfl, hb5⟩
            have hs5 : Below w4.heap.size w4 w5 := below_call (by go_grown) hb5
            have hq5 : Below w.heap.size w w5 := below_call hq4 hs5
            have hk5 : Below w3.heap.size w3 w5 := below_call hk4 hs5
            have hz5 := hs5.size
            have Ha_5 := hide (Ha_4.out.below hs5 (Nat.le_refl _))
            have Hp_5 := hide (Hp_4.out.below hs5 (Nat.le_refl _))
            have HO_5 := hide (HO_4.out.below hs5 (Nat.le_refl _))
            clear Ha_4
            clear Hp_4
            clear HO_4
            clear hb5 hs5
            go_wp2_with fail
            go_meet
            exact ⟨rfl, by go_grown⟩
      case rest =>
        obtain ⟨rfl, hqc⟩ := hcut
        obtain ⟨w6, rfl⟩ : ∃ x, x = wc := ⟨_, rfl⟩
        have hq6 : Below w.heap.size w w6 := below_call hq3 hqc
        have hz6 := hqc.size
        have Ha_6 := hide (Ha_3.out.below hqc (Nat.le_refl _))
        clear Ha_3
        have Hp_6 := hide (Hp_3.out.below hqc (Nat.le_refl _))
        clear Hp_3
        clear hqc
        clear Hbb
        obtain ⟨q, Hq⟩ : ∃ q, Hid (q = onlyN v (lateL Xa Xp mp).length) := ⟨_, rfl⟩
        have hq60 : q ≤ 60 := by rw [Hq.out]; exact onlyN_le (Nat.le_trans (lateL_len _ _ _) hp)
        go_wp2_with fail
        refine (impl_late Aa Ap ma ca mp cp Xa Xp v q Hq.out Hv.out _ (by omega) (by omega) (Ha_6.out.arr1.on (by go_grown)) (Hp_6.out.arr1.on (by go_grown))).mono ?_
        rintro e w7 ⟨vS, rfl, hb7, OS⟩
        have hs7 : Below w6.heap.size w6 w7 := below_call (by go_grown) hb7
        have hq7 : Below w.heap.size w w7 := below_call hq6 hs7
        have hz7 := hs7.size
        have Ha_7 := hide (Ha_6.out.below hs7 (Nat.le_refl _))
        have Hp_7 := hide (Hp_6.out.below hs7 (Nat.le_refl _))
        clear Ha_6
        clear Hp_6
        obtain ⟨AS, cS, rfl, hcS, _⟩ := OS.arr
        have HS_7 := hide OS; clear OS
        clear hb7 hs7
        go_wp2_with fail
        refine (spec_late Aa Ap ma ca mp cp Xa Xp v q Hq.out Hv.out _ (by omega) (by omega) hcp (Ha_7.out.arr1.on (by go_grown)) (Hp_7.out.arr1.on (by go_grown))).mono ?_
        rintro e w8 ⟨vT, rfl, hb8, OT⟩
        have hs8 : Below w7.heap.size w7 w8 := below_call (by go_grown) hb8
        have hq8 : Below w.heap.size w w8 := below_call hq7 hs8
        have hz8 := hs8.size
        have Ha_8 := hide (Ha_7.out.below hs8 (Nat.le_refl _))
        have Hp_8 := hide (Hp_7.out.below hs8 (Nat.le_refl _))
        have HS_8 := hide (HS_7.out.below hs8 (Nat.le_refl _))
        clear Ha_7
        clear Hp_7
        clear HS_7
        obtain ⟨AT, cT, rfl, hcT, _⟩ := OT.arr
        have HT_8 := hide OT; clear OT
        clear hb8 hs8
        go_upto_region 15 with fail
        go_cut [125] (fun s2 wx => s2 = .bool false ∧ Below w8.heap.size w8 wx)
        case first =>
          as_aux_lemma =>
            have hmost := late_most (X := Xa) (Y := Xp) mp
            have h1 := Hr.out; have h2 := Hq.out
            cases v
            · clear h1 h2 hmost
              go_wp2_with fail
              refine (r_ints AS AT q cS q cT _ _ true (eqX_self 1 q _) _ (by omega) (by omega) (HS_8.out.arr1.on (by go_grown)) (HT_8.out.arr1.on (by go_grown))).mono ?_
              rintro e w9 ⟨rfl, hb9⟩
              have hs9 : Below w8.heap.size w8 w9 := below_call (by go_grown) hb9
              have hq9 : Below w.heap.size w w9 := below_call hq8 hs9
              have hk9 : Below w8.heap.size w8 w9 := hs9
              have hz9 := hs9.size
              have Ha_9 := hide (Ha_8.out.below hs9 (Nat.le_refl _))
              have Hp_9 := hide (Hp_8.out.below hs9 (Nat.le_refl _))
              have HS_9 := hide (HS_8.out.below hs9 (Nat.le_refl _))
              have HT_9 := hide (HT_8.out.below hs9 (Nat.le_refl _))
              clear Ha_8
              clear Hp_8
              clear HS_8
              clear HT_8
              clear hb9 hs9
              go_wp2_with fail
              go_meet
              exact ⟨rfl, by go_grown⟩
            · skip
              simp only [onlyI, onlyN, if_true] at h1 h2
              rw [h1, ← h2] at hmost
              by_cases h0 : 0 < r
              · skip
                have e1 := hmost.1 h0
                have d1 : decide (0 < r) = true := decide_eq_true h0
                have d2 : decide (0 < q) = true := decide_eq_true e1
                have d3 : decide ((0 : Int) < (q : Int)) = true := decide_eq_true (by omega)
                clear h1 h2 hmost h0 e1
                go_wp2_with fail
                refine (r_ints AS AT q cS q cT _ _ true (eqX_self 1 q _) _ (by omega) (by omega) (HS_8.out.arr1.on (by go_grown)) (HT_8.out.arr1.on (by go_grown))).mono ?_
                rintro e w10 ⟨rfl, hb10⟩
                have hs10 : Below w8.heap.size w8 w10 := below_call (by go_grown) hb10
                have hq10 : Below w.heap.size w w10 := below_call hq8 hs10
                have hk10 : Below w8.heap.size w8 w10 := hs10
                have hz10 := hs10.size
                have Ha_10 := hide (Ha_8.out.below hs10 (Nat.le_refl _))
                have Hp_10 := hide (Hp_8.out.below hs10 (Nat.le_refl _))
                have HS_10 := hide (HS_8.out.below hs10 (Nat.le_refl _))
                have HT_10 := hide (HT_8.out.below hs10 (Nat.le_refl _))
                clear Ha_8
                clear Hp_8
                clear HS_8
                clear HT_8
                clear hb10 hs10
                go_wp2_with fail
                go_meet
                exact ⟨rfl, by go_grown⟩
              · skip
                have e1 : ¬ 0 < q := fun h => h0 (hmost.2 h)
                have d1 : decide (0 < r) = false := decide_eq_false h0
                have d2 : decide (0 < q) = false := decide_eq_false e1
                have d3 : decide ((0 : Int) < (q : Int)) = false := decide_eq_false (by omega)
                clear h1 h2 hmost h0 e1
                go_wp2_with fail
                refine (r_ints AS AT q cS q cT _ _ true (eqX_self 1 q _) _ (by omega) (by omega) (HS_8.out.arr1.on (by go_grown)) (HT_8.out.arr1.on (by go_grown))).mono ?_
                rintro e w11 ⟨rfl, hb11⟩
                have hs11 : Below w8.heap.size w8 w11 := below_call (by go_grown) hb11
                have hq11 : Below w.heap.size w w11 := below_call hq8 hs11
                have hk11 : Below w8.heap.size w8 w11 := hs11
                have hz11 := hs11.size
                have Ha_11 := hide (Ha_8.out.below hs11 (Nat.le_refl _))
                have Hp_11 := hide (Hp_8.out.below hs11 (Nat.le_refl _))
                have HS_11 := hide (HS_8.out.below hs11 (Nat.le_refl _))
                have HT_11 := hide (HT_8.out.below hs11 (Nat.le_refl _))
                clear Ha_8
                clear Hp_8
                clear HS_8
                clear HT_8
                clear hb11 hs11
                go_wp2_with fail
                go_meet
                exact ⟨rfl, by go_grown⟩
        case rest =>
          obtain ⟨rfl, hqc⟩ := hcut
          obtain ⟨w12, rfl⟩ : ∃ x, x = wc := ⟨_, rfl⟩
          have hq12 : Below w.heap.size w w12 := below_call hq8 hqc
          have hz12 := hqc.size
          have Ha_12 := hide (Ha_8.out.below hqc (Nat.le_refl _))
          clear Ha_8
          have Hp_12 := hide (Hp_8.out.below hqc (Nat.le_refl _))
          clear Hp_8
          have HS_12 := hide (HS_8.out.below hqc (Nat.le_refl _))
          clear HS_8
          have HT_12 := hide (HT_8.out.below hqc (Nat.le_refl _))
          clear HT_8
          clear hqc
          clear HS_12
          clear HT_12
          clear Ha_12
          clear Hp_12
          clear Hq hq60 Hr Hv ha hp
          go_wp2_with fail
          refine (draw_fewest A n c C _ (HC.out.on (by go_grown))).mono ?_
          rintro e w13 ⟨Vb, lb, hb, rfl, hb13, Ob⟩
          have hs13 : Below w12.heap.size w12 w13 := below_call (by go_grown) hb13
          have hq13 : Below w.heap.size w w13 := below_call hq12 hs13
          have hz13 := hs13.size
          clear hb13 hs13
          obtain ⟨mb, hmb⟩ : ∃ m, m = lb.length := ⟨_, rfl⟩
          rw [← hmb] at Ob hb
          obtain ⟨Xb, hXb⟩ : ∃ X, X = qX lb := ⟨_, rfl⟩
          rw [← hXb] at Ob
          clear hmb hXb
          obtain ⟨Ab, cb, rfl, hcb, _⟩ := Ob.arr
          have Hb_13 := hide Ob; clear Ob
          obtain ⟨u, Hu⟩ : ∃ u, Hid (errsB mb Xb = u) := ⟨_, rfl⟩
          obtain ⟨q, Hq⟩ : ∃ q, Hid (q = onlyN u (fwN mb Xb).length) := ⟨_, rfl⟩
          have hq40 : q ≤ 40 := by rw [Hq.out]; exact onlyN_le (Nat.le_trans (fwN_len _ _) hb)
          obtain ⟨p2, Hp2⟩ : ∃ q, Hid (q = onlyN u mb) := ⟨_, rfl⟩
          have hp40 : p2 ≤ 40 := by rw [Hp2.out]; exact onlyN_le hb
          go_wp2_with fail
          refine (impl_fewest Ab mb cb Xb u Hu.out q Hq.out _ (by omega) (Hb_13.out.arr1.on (by go_grown))).mono ?_
          rintro e w14 ⟨vS, rfl, hb14, OS⟩
          have hs14 : Below w13.heap.size w13 w14 := below_call (by go_grown) hb14
          have hq14 : Below w.heap.size w w14 := below_call hq13 hs14
          have hz14 := hs14.size
          have Hb_14 := hide (Hb_13.out.below hs14 (Nat.le_refl _))
          clear Hb_13
          obtain ⟨AS, cS, rfl, hcS, _⟩ := OS.arr
          have HS_14 := hide OS; clear OS
          clear hb14 hs14
          go_wp2_with fail
          refine (spec_fewest Ab mb cb Xb u Hu.out q Hq.out _ (by omega) (Hb_14.out.arr1.on (by go_grown))).mono ?_
          rintro e w15 ⟨vT, rfl, hb15, OT⟩
          have hs15 : Below w14.heap.size w14 w15 := below_call (by go_grown) hb15
          have hq15 : Below w.heap.size w w15 := below_call hq14 hs15
          have hz15 := hs15.size
          have Hb_15 := hide (Hb_14.out.below hs15 (Nat.le_refl _))
          have HS_15 := hide (HS_14.out.below hs15 (Nat.le_refl _))
          clear Hb_14
          clear HS_14
          obtain ⟨AT, cT, rfl, hcT, _⟩ := OT.arr
          have HT_15 := hide OT; clear OT
          clear hb15 hs15
          go_wp2_with fail
          refine (r_ints AS AT q cS q cT _ _ true (eqX_self 1 q _) _ (by omega) (by omega) (HS_15.out.arr1.on (by go_grown)) (HT_15.out.arr1.on (by go_grown))).mono ?_
          rintro e w16 ⟨rfl, hb16⟩
          have hs16 : Below w15.heap.size w15 w16 := below_call (by go_grown) hb16
          have hq16 : Below w.heap.size w w16 := below_call hq15 hs16
          have hz16 := hs16.size
          have Hb_16 := hide (Hb_15.out.below hs16 (Nat.le_refl _))
          have HS_16 := hide (HS_15.out.below hs16 (Nat.le_refl _))
          have HT_16 := hide (HT_15.out.below hs16 (Nat.le_refl _))
          clear Hb_15
          clear HS_15
          clear HT_15
          clear hb16 hs16
          clear HT_16
          go_wp2_with fail
          refine (impl_byDead Ab mb cb Xb u Hu.out p2 Hp2.out _ (by omega) (Hb_16.out.arr1.on (by go_grown))).mono ?_
          rintro e w17 ⟨vP, rfl, hb17, OP⟩
          have hs17 : Below w16.heap.size w16 w17 := below_call (by go_grown) hb17
          have hq17 : Below w.heap.size w w17 := below_call hq16 hs17
          have hz17 := hs17.size
          have Hb_17 := hide (Hb_16.out.below hs17 (Nat.le_refl _))
          have HS_17 := hide (HS_16.out.below hs17 (Nat.le_refl _))
          clear Hb_16
          clear HS_16
          obtain ⟨AP, cP, rfl, hcP, _⟩ := OP.arr
          have HP_17 := hide OP; clear OP
          clear hb17 hs17
          go_wp2_with fail
          refine (spec_byDead Ab mb cb Xb u Hu.out p2 Hp2.out _ (by omega) (Hb_17.out.arr1.on (by go_grown))).mono ?_
          rintro e w18 ⟨vR, rfl, hb18, OR⟩
          have hs18 : Below w17.heap.size w17 w18 := below_call (by go_grown) hb18
          have hq18 : Below w.heap.size w w18 := below_call hq17 hs18
          have hz18 := hs18.size
          have Hb_18 := hide (Hb_17.out.below hs18 (Nat.le_refl _))
          have HS_18 := hide (HS_17.out.below hs18 (Nat.le_refl _))
          have HP_18 := hide (HP_17.out.below hs18 (Nat.le_refl _))
          clear Hb_17
          clear HS_17
          clear HP_17
          obtain ⟨AR, cR, rfl, hcR, _⟩ := OR.arr
          have HR_18 := hide OR; clear OR
          clear hb18 hs18
          go_wp2_with fail
          refine (r_ints AP AR p2 cP p2 cR _ _ true (eqX_self 1 p2 _) _ (by omega) (by omega) (HP_18.out.arr1.on (by go_grown)) (HR_18.out.arr1.on (by go_grown))).mono ?_
          rintro e w19 ⟨rfl, hb19⟩
          have hs19 : Below w18.heap.size w18 w19 := below_call (by go_grown) hb19
          have hq19 : Below w.heap.size w w19 := below_call hq18 hs19
          have hz19 := hs19.size
          have Hb_19 := hide (Hb_18.out.below hs19 (Nat.le_refl _))
          have HS_19 := hide (HS_18.out.below hs19 (Nat.le_refl _))
          have HP_19 := hide (HP_18.out.below hs19 (Nat.le_refl _))
          have HR_19 := hide (HR_18.out.below hs19 (Nat.le_refl _))
          clear Hb_18
          clear HS_18
          clear HP_18
          clear HR_18
          clear hb19 hs19
          clear HR_19
          obtain ⟨i0, hi0, hy0, hy1, hy2⟩ := info_parts info_int
          have HPA : Hid (Arr w19 w19.heap.size AP p2 1 (iv (keptY (fwO mb Xb)))) := hide HP_19.out.arr1
          have HSA := hide HS_19.out.arr1
          have HOL := hide (fwO_len mb Xb)
          have hr0 : (w19.alloc (.cells #[] 3)).ownsRow w19.heap.size 3 1 (.slice (some ⟨w19.heap.size, 0, none⟩) 0 0) 0 (nl []) := row_new_at w19 w19.heap.size w19.heap.size 1 3 rfl (Nat.le_refl _)
          have HR0 := hide hr0
          clear hr0
          go_wp2
          go_loopw [26, 27] (fun vk i wr => ∃ (k j : Nat) (kl : List Nat), k ≤ p2 ∧ i = .int .i64 k ∧ kl = kfL mb Xb k ∧ kl.length = j ∧ Below w19.heap.size w19 wr ∧ wr.ownsRow w19.heap.size 3 1 vk j (nl kl)) (fun _ i _ => p2 - (intOf i).toNat)
          case atStart => exact ⟨0, 0, [], Nat.zero_le _, rfl, by simp [kfL], rfl, below_al (Below.refl _ _), HR0.out⟩
          case round =>
            obtain ⟨k, j, kl, hk, rfl, hkl, hj, hbw, hown⟩ := hrel
            have HKL := hide hkl; have HJ := hide hj; have HOW := hide hown
            have hszw := hbw.size
            clear hkl hj hown
            by_cases hlt : k < p2
            · obtain ⟨hun, hpm⟩ : u = true ∧ p2 = mb := by
                have h := Hp2.out
                cases u
                · exact absurd (show p2 = 0 from h) (by omega)
                · exact ⟨rfl, h⟩
              have hqo : q = (fwN mb Xb).length := by have h := Hq.out; rw [hun] at h; exact h
              have hjk : j ≤ k := by rw [← HJ.out, HKL.out]; exact Nat.le_trans (List.length_filter_le _ _) (by simp; omega)
              obtain ⟨b, off, rfl, hbb, hc⟩ := (HPA.out.on hbw) (by omega)
              obtain ⟨x, hx⟩ : ∃ x, x = (fwO mb Xb).getD k 0 := ⟨_, rfl⟩
              have hkO : k < (fwO mb Xb).length := by rw [HOL.out]; omega
              have hxm : x < mb := by rw [hx]; exact fwO_lt (by omega)
              have c0 := hc k 0 hlt (by omega)
              simp only [Nat.add_zero, Nat.mul_one, iv, keptY] at c0
              rw [← hx] at c0
              obtain ⟨t, ht⟩ : ∃ t, decide (x ∈ fwN mb Xb) = t := ⟨_, rfl⟩
              have hhas : hasI (fun i _ => ((putAll (fwN mb Xb) (fwN mb Xb).length).getD i 0 : Nat)) q (x : Int) = t := by rw [has_put hqo, ht]
              have HT := hide ht; have HH := hide hhas; have HX := hide hx; have HKO := hide hkO
              clear hc hx ht hhas hun hpm hqo hkO
              have hxb := BW.cell (w := wr)
              cases t
              · go_wp2_with fail
                refine (r_has AS q cS (fun i _ => ((putAll (fwN mb Xb) (fwN mb Xb).length).getD i 0 : Nat)) (x : Int) false HH.out _ (by omega) (HSA.out.on (by go_grown))).mono ?_
                rintro e w9 ⟨rfl, rfl⟩
                go_wp2_with (at_builtin; refine wpList_append_far _ rfl _ _ 34 rfl (w19.heap.size) 3 i0 (.int .i64 0) 1 8 Try.underlying34 hi0 hy0 hy1 hy2 rfl (by decide) _ _ _ rfl (HOW.out.alloc _) ⟨wr.heap.size, 0, none⟩ 1 1 [.int .i64 ((x : Int))] rfl rfl ?c1 ?c2 ?c3 ?c4 ?c5 ?_)
                case c1 => exact cell_one_at _ _ _ _ (by first | rfl | (simp only [World.size_alloc, World.size_setCell, World.size_drew]; done) | (simp only [World.size_alloc, World.size_setCell, World.size_drew]; omega))
                case c2 => intro u hu; simp only [List.mem_singleton] at hu; subst hu; rfl
                case c3 => unfold maxLen; omega
                case c4 => omega
                case c5 => first | (simp only [World.size_alloc]; omega) | (simp only [World.size_alloc, World.size_setCell, World.size_drew]; omega)
                intro v1 w4 hown1 hgrow1 hfar1
                rw [nl_snoc] at hown1
                have hlt1 := HOW.out.lt
                have hne : x ∉ fwN mb Xb := of_decide_eq_false HT.out
                have hkl2 : kl ++ [x] = kfL mb Xb (k + 1) := by
                  rw [HKL.out, HX.out]; rw [HX.out] at hne; exact (kfL_yes HKO.out hne).symm
                have hj2 : (kl ++ [x]).length = j + 1 := by simp [HJ.out]
                have hbw2 := (below_al (o := .cells #[.int .i64 (x : Int)] 3) hbw).grown hgrow1 (by simp only [World.size_alloc]; omega) (fun g hg => by have := (hlt1 g hg).1; omega)
                have H1 := hide hown1; have H2 := hide hkl2; have H3 := hide hj2; have H4 := hide hbw2
                clear hown1 hgrow1 hfar1 hlt1 hne hkl2 hj2 hbw2
                go_wp2
                go_roundw
                case rel => exact ⟨k + 1, j + 1, kl ++ [x], by omega, by go_num, H2.out, H3.out, H4.out, H1.out⟩
                case measure => simp [intOf]; omega
              · go_wp2_with fail
                refine (r_has AS q cS (fun i _ => ((putAll (fwN mb Xb) (fwN mb Xb).length).getD i 0 : Nat)) (x : Int) true HH.out _ (by omega) (HSA.out.on (by go_grown))).mono ?_
                rintro e w9 ⟨rfl, rfl⟩
                have he : x ∈ fwN mb Xb := of_decide_eq_true HT.out
                have hkl2 : kl = kfL mb Xb (k + 1) := by
                  rw [HKL.out]; rw [HX.out] at he; exact (kfL_no HKO.out he).symm
                have H2 := hide hkl2
                clear he hkl2
                go_wp2
                go_roundw
                case rel => exact ⟨k + 1, j, kl, by omega, by go_num, H2.out, HJ.out, hbw, HOW.out⟩
                case measure => simp [intOf]; omega
            · obtain rfl : k = p2 := by omega
              obtain ⟨w20, rfl⟩ : ∃ x, x = wr := ⟨_, rfl⟩
              have hq20 : Below w.heap.size w w20 := below_call hq19 hbw
              have Hb_20 := hide (Hb_19.out.below hbw (Nat.le_refl _))
              clear Hb_19
              have HS_20 := hide (HS_19.out.below hbw (Nat.le_refl _))
              clear HS_19
              have HP_20 := hide (HP_19.out.below hbw (Nat.le_refl _))
              clear HP_19
              have OK := own_of_nl HJ.out.symm HOW.out
              obtain ⟨AK, cK, rfl, hcK, _⟩ := OK.arr
              have HK_20 : Hid (Arr w20 w20.heap.size AK j 1 (iv (keptY kl))) := hide OK.arr1
              obtain ⟨a1, a2⟩ := kept_law Hu.out Hp2.out
              obtain ⟨b1, b2⟩ := order_law Hu.out Hp2.out
              rw [← HKL.out, HJ.out] at a1 a2
              rw [← Hq.out] at b2
              have hjk : j ≤ k := by rw [← HJ.out, HKL.out]; exact Nat.le_trans (List.length_filter_le _ _) (by simp; omega)
              obtain ⟨q3, hq3⟩ : ∃ q3, q3 = onlyN u (lateL Xb (keptY (fwO mb Xb)) k).length := ⟨_, rfl⟩
              rw [← hq3] at b2
              have d1 : decide (q ≤ q3) = true := decide_eq_true b2
              have d2 : decide ((q : Int) ≤ (q3 : Int)) = true := decide_eq_true (by omega)
              have H1 := hide a1; have H2 := hide a2; have H3 := hide b1; have H4 := hide hq3
              clear OK HOW a1 a2 b1 b2 hq3 hbw HPA HSA
              go_wp2_with fail
              refine (impl_late Ab AK mb cb j cK Xb (keptY kl) u 0 H2.out H1.out _ (by omega) (by omega) (Hb_20.out.arr1.on (by go_grown)) (HK_20.out.on (by go_grown))).mono ?_
              rintro e w21 ⟨vN, rfl, hb21, ON⟩
              have hs21 : Below w20.heap.size w20 w21 := below_call (by go_grown) hb21
              have hq21 : Below w.heap.size w w21 := below_call hq20 hs21
              have hz21 := hs21.size
              have Hb_21 := hide (Hb_20.out.below hs21 (Nat.le_refl _))
              have HS_21 := hide (HS_20.out.below hs21 (Nat.le_refl _))
              have HP_21 := hide (HP_20.out.below hs21 (Nat.le_refl _))
              clear Hb_20
              clear HS_20
              clear HP_20
              obtain ⟨AN, cN, rfl, hcN, _⟩ := ON.arr
              have HN_21 := hide ON; clear ON
              clear hb21 hs21
              have HPB : Hid (Arr w21 w21.heap.size AP k 1 (iv (keptY (fwO mb Xb)))) := hide HP_21.out.arr1
              go_wp2_with fail
              refine (impl_late Ab AP mb cb k cP Xb (keptY (fwO mb Xb)) u q3 H4.out H3.out _ (by omega) (by omega) (Hb_21.out.arr1.on (by go_grown)) (HPB.out.on (by go_grown))).mono ?_
              rintro e w22 ⟨vQ, rfl, hb22, OQ⟩
              have hs22 : Below w21.heap.size w21 w22 := below_call (by go_grown) hb22
              have hq22 : Below w.heap.size w w22 := below_call hq21 hs22
              have hz22 := hs22.size
              have Hb_22 := hide (Hb_21.out.below hs22 (Nat.le_refl _))
              have HS_22 := hide (HS_21.out.below hs22 (Nat.le_refl _))
              have HP_22 := hide (HP_21.out.below hs22 (Nat.le_refl _))
              have HN_22 := hide (HN_21.out.below hs22 (Nat.le_refl _))
              clear Hb_21
              clear HS_21
              clear HP_21
              clear HN_21
              obtain ⟨AQ, cQ, rfl, hcQ, _⟩ := OQ.arr
              have HQ_22 := hide OQ; clear OQ
              clear hb22 hs22
              go_wp2
              go_returns
              exact ⟨rfl, by go_grown⟩
  · have HB := hide hB; have HM := hide hm
    clear ha hC hB hm
    go_enter Try.func7, Try.ntmps7
    go_wp2_with fail
    refine (r_big A n c true HB.out HM.out _).mono ?_
    rintro e w0 ⟨rfl, rfl⟩
    go_wp2
    go_returns
    exact ⟨rfl, by go_grown⟩
end Go.Proofs.Ytfdgnjnnbhelgaa
