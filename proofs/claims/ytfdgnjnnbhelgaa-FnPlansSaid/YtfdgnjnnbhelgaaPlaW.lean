/- Chapter 23: the law on plans: the walk. -/
import Derived.Test.YtfdgnjnnbhelgaaErrP
import Derived.Test.YtfdgnjnnbhelgaaDrvD
import Derived.Test.YtfdgnjnnbhelgaaVisI
import Derived.Test.YtfdgnjnnbhelgaaVisH
import Derived.Test.YtfdgnjnnbhelgaaRv2
import Derived.Test.YtfdgnjnnbhelgaaRow3
import Derived.Deep.DeepCutAuto
import Derived.Deep.CutBlock
namespace Go.Proofs.Ytfdgnjnnbhelgaa
open Go.RowKit
set_option linter.unusedVariables false
set_option linter.unusedSimpArgs false

set_option maxRecDepth 100000 in
set_option maxHeartbeats 8000000 in
theorem walk_FnPlans (A : Option Addr) (n c : Nat) (C : Nat → Int) (w : World) (hm : n ≤ maxLen) (ha : Arr w w.heap.size A n 1 (bv C)) (hC : ∀ i, i < n → 0 ≤ C i ∧ C i ≤ 255) :
    Calls Try.prog 6 #[.slice A n c] w fun e w' => e = .returned (.bool true) ∧ Below w.heap.size w w' := by
  have hfa := frozen_al; have hfo := frozen_out
  cases hB : decide (65536 < (n : Int))
  · have HC := hide (show CodeOk w A n C from ⟨by rw [decide_eq_false_iff_not] at hB; omega, ha, hC⟩)
    have HM := hide hm; have HB := hide hB
    clear ha hC hm hB
    go_enter Try.func6, Try.ntmps6
    go_wp2_with fail
    refine (r_big A n c false HB.out HM.out _).mono ?_
    rintro e w0 ⟨rfl, rfl⟩
    go_wp2_with fail
    refine (draw_ends A n c C _ (HC.out.on (by go_grown))).mono ?_
    rintro e w1 ⟨Va, la, Vp, lp, ha, hp, rfl, hb1, Oa, Op⟩
    have hs1 : Below w.heap.size w w1 := below_call (by go_grown) hb1
    have hq1 : Below w.heap.size w w1 := hs1
    have hz1 := hs1.size
    clear hb1 hs1
    obtain ⟨ma, hma⟩ : ∃ m, m = la.length := ⟨_, rfl⟩
    rw [← hma] at Oa ha
    obtain ⟨Xa, hXa⟩ : ∃ X, X = qX la := ⟨_, rfl⟩
    rw [← hXa] at Oa
    clear hma hXa
    obtain ⟨Aa, ca, rfl, hca, _⟩ := Oa.arr
    have Ha_1 := hide Oa; clear Oa
    obtain ⟨mp, hmp⟩ : ∃ m, m = lp.length := ⟨_, rfl⟩
    rw [← hmp] at Op hp
    obtain ⟨Xp, hXp⟩ : ∃ X, X = lf lp := ⟨_, rfl⟩
    rw [← hXp] at Op
    clear hmp hXp
    obtain ⟨Ap, cp, rfl, hcp, _⟩ := Op.arr
    have Hp_1 := hide Op; clear Op
    obtain ⟨v, Hv⟩ : ∃ v, Hid ((planB ma mp Xp && errsB ma Xa) = v) := ⟨_, rfl⟩
    obtain ⟨q, Hq⟩ : ∃ q, Hid (q = endLen v mp) := ⟨_, rfl⟩
    have hq60 : q ≤ 60 := by have h := Hq.out; unfold endLen at h; split at h <;> omega
    go_wp2_with fail
    refine (impl_endsOf Aa Ap ma ca mp cp Xa Xp v q Hq.out Hv.out _ (by omega) (by omega) (Ha_1.out.arr1.on (by go_grown)) (Hp_1.out.arr1.on (by go_grown))).mono ?_
    rintro e w2 ⟨vS, rfl, hb2, OS⟩
    have hs2 : Below w1.heap.size w1 w2 := below_call (by go_grown) hb2
    have hq2 : Below w.heap.size w w2 := below_call hq1 hs2
    have hz2 := hs2.size
    have Ha_2 := hide (Ha_1.out.below hs2 (Nat.le_refl _))
    have Hp_2 := hide (Hp_1.out.below hs2 (Nat.le_refl _))
    clear Ha_1
    clear Hp_1
    obtain ⟨AS, cS, rfl, hcS, _⟩ := OS.arr
    have HS_2 := hide OS; clear OS
    clear hb2 hs2
    go_wp2_with fail
    refine (spec_endsOf Aa Ap ma ca mp cp Xa Xp v q Hq.out Hv.out _ (by omega) (by omega) hcp (Ha_2.out.arr1.on (by go_grown)) (Hp_2.out.arr1.on (by go_grown))).mono ?_
    rintro e w3 ⟨vT, rfl, hb3, OT⟩
    have hs3 : Below w2.heap.size w2 w3 := below_call (by go_grown) hb3
    have hq3 : Below w.heap.size w w3 := below_call hq2 hs3
    have hz3 := hs3.size
    have Ha_3 := hide (Ha_2.out.below hs3 (Nat.le_refl _))
    have Hp_3 := hide (Hp_2.out.below hs3 (Nat.le_refl _))
    have HS_3 := hide (HS_2.out.below hs3 (Nat.le_refl _))
    clear Ha_2
    clear Hp_2
    clear HS_2
    obtain ⟨AT, cT, rfl, hcT, _⟩ := OT.arr
    have HT_3 := hide OT; clear OT
    clear hb3 hs3
    go_wp2_with fail
    refine (r_ints AS AT q cS q cT _ _ true (eqX_self 1 q _) _ (by omega) (by omega) (HS_3.out.arr1.on (by go_grown)) (HT_3.out.arr1.on (by go_grown))).mono ?_
    rintro e w4 ⟨rfl, hb4⟩
    have hs4 : Below w3.heap.size w3 w4 := below_call (by go_grown) hb4
    have hq4 : Below w.heap.size w w4 := below_call hq3 hs4
    have hz4 := hs4.size
    have Ha_4 := hide (Ha_3.out.below hs4 (Nat.le_refl _))
    have Hp_4 := hide (Hp_3.out.below hs4 (Nat.le_refl _))
    have HS_4 := hide (HS_3.out.below hs4 (Nat.le_refl _))
    have HT_4 := hide (HT_3.out.below hs4 (Nat.le_refl _))
    clear Ha_3
    clear Hp_3
    clear HS_3
    clear HT_3
    clear hb4 hs4
    clear HT_4
    go_upto_block 0 with fail
    go_cut [2] (fun s2 wx => s2 = .bool false ∧ wx = w4)
    case first =>
      have hAB : q = 0 ∨ (q = mp ∧ planIn ma mp Xp ∧ ∀ i, i < ma → errOk Xa i) := by
        have h1 := Hq.out; have h2 := Hv.out
        cases v
        · exact .inl h1
        · obtain ⟨a1, _, a3⟩ := plan_of h2
          exact .inr ⟨h1, a1, a3⟩
      have HAB := hide hAB
      clear hAB
      go_wp2_with fail
      go_loop [2, 9, 10] (fun s2 u i => ∃ k : Nat, k ≤ q ∧ s2 = .bool false ∧ i = .int .i64 k ∧ u = .int .i64 (endH Xa Xp k)) (fun _ _ i => q - (intOf i).toNat)
      case atStart => exact ⟨0, Nat.zero_le _, rfl, rfl, rfl⟩
      case round =>
        obtain ⟨k, hk, rfl, rfl, rfl⟩ := hrel
        by_cases hlt : k < q
        · obtain ⟨hqm, hP, hX⟩ : q = mp ∧ planIn ma mp Xp ∧ ∀ i, i < ma → errOk Xa i := by
            rcases HAB.out with h | h
            · omega
            · exact h
          have b0 := endH_bd hX hP k (by omega)
          have b1 := endH_bd hX hP (k + 1) (by omega)
          obtain ⟨p0, p1⟩ := hP k (by omega)
          obtain ⟨y, hy⟩ : ∃ y : Nat, Xp k 0 = y := ⟨(Xp k 0).toNat, by omega⟩
          have hyn : y < ma := by omega
          have hex := err_of (hX y hyn)
          have hst : endH Xa Xp (k + 1) = endH Xa Xp k + 1 + Xa y 1 := by rw [endH, hy]; rfl
          obtain ⟨b, off, rfl, hbb, hc⟩ := HS_4.out.arr1 (by omega)
          obtain ⟨b2, off2, rfl, hbb2, hc2⟩ := Hp_4.out.arr1 (by omega)
          obtain ⟨b3, off3, rfl, hbb3, hc3⟩ := Ha_4.out.arr1 (by omega)
          have c0 := hc k 0 hlt (by omega); have d0 := hc2 k 0 (by omega) (by omega); have e1 := hc3 y 1 hyn (by omega)
          simp only [Nat.add_zero, Nat.mul_one, iv] at c0 d0 e1
          rw [hy] at d0
          obtain ⟨z, hz⟩ : ∃ z, endH Xa Xp k = z := ⟨_, rfl⟩
          obtain ⟨z2, hz2⟩ : ∃ z, endH Xa Xp (k + 1) = z := ⟨_, rfl⟩
          rw [hz] at b0 hst; rw [hz2] at b1 hst c0
          have HZ2 := hide hz2
          have he : ((z2 : Int) != z + 1 + Xa y 1) = false := by simp [hst]
          have HST := hide hst
          have hyi : (y : Int) < (ma : Int) := by omega
          have hkp : k < mp := by omega
          rw [hz]
          clear hc hc2 hc3 hy hX hP hst hz hz2 p0 p1 hqm
          go_wp2
          go_round
          case rel => exact ⟨k + 1, by omega, rfl, by go_num, by rw [HZ2.out, HST.out]⟩
          case measure => simp [intOf]; omega
        · obtain rfl : k = q := by omega
          go_wp2_with fail
          go_meet
          exact ⟨rfl, rfl⟩
    case rest =>
      obtain ⟨rfl, hw⟩ := hcut
      obtain rfl : w4 = wc := hw.symm
      clear HS_4
      obtain ⟨f, Hf⟩ : ∃ f, Hid (errsB ma Xa = f) := ⟨_, rfl⟩
      go_wp2_with fail
      refine (impl_isPlan Aa Ap ma ca mp cp Xa Xp v f Hv.out Hf.out _ (by omega) (by omega) (Ha_4.out.arr1.on (by go_grown)) (Hp_4.out.arr1.on (by go_grown))).mono ?_
      rintro e w5 ⟨rfl, hb5⟩
      have hs5 : Below w4.heap.size w4 w5 := below_call (by go_grown) hb5
      have hq5 : Below w.heap.size w w5 := below_call hq4 hs5
      have hz5 := hs5.size
      have Ha_5 := hide (Ha_4.out.below hs5 (Nat.le_refl _))
      have Hp_5 := hide (Hp_4.out.below hs5 (Nat.le_refl _))
      clear Ha_4
      clear Hp_4
      clear hb5 hs5
      go_wp2_with fail
      refine (spec_isPlan Aa Ap ma ca mp cp Xa Xp v f Hv.out Hf.out _ (by omega) (by omega) hcp (Ha_5.out.arr1.on (by go_grown)) (Hp_5.out.arr1.on (by go_grown))).mono ?_
      rintro e w6 ⟨rfl, hb6⟩
      have hs6 : Below w5.heap.size w5 w6 := below_call (by go_grown) hb6
      have hq6 : Below w.heap.size w w6 := below_call hq5 hs6
      have hz6 := hs6.size
      have Ha_6 := hide (Ha_5.out.below hs6 (Nat.le_refl _))
      have Hp_6 := hide (Hp_5.out.below hs6 (Nat.le_refl _))
      clear Ha_5
      clear Hp_5
      clear hb6 hs6
      have HVF := hide (show (planB ma mp Xp && f) = v by rw [← Hf.out]; exact Hv.out)
      go_upto_region 17 with fail
      go_cut [109] (fun s2 wx => s2 = .bool false ∧ wx = w6)
      case first =>
        cases f
        · obtain rfl : false = v := by simpa using HVF.out
          go_wp2_with fail
          go_meet
          exact ⟨rfl, rfl⟩
        · cases v
          · go_wp2_with fail
            go_meet
            exact ⟨rfl, rfl⟩
          · go_wp2_with fail
            go_meet
            exact ⟨rfl, rfl⟩
      case rest =>
        obtain ⟨rfl, hw⟩ := hcut
        obtain rfl : w6 = wc := hw.symm
        clear Ha_6
        clear Hp_6
        clear HVF Hf Hv Hq ha hp hq60
        go_wp2_with fail
        refine (draw_urgent A n c C _ (HC.out.on (by go_grown))).mono ?_
        rintro e w7 ⟨Vb, lb, x, hb, rfl, hb7, Ob⟩
        have hs7 : Below w6.heap.size w6 w7 := below_call (by go_grown) hb7
        have hq7 : Below w.heap.size w w7 := below_call hq6 hs7
        have hz7 := hs7.size
        clear hb7 hs7
        obtain ⟨mb, hmb⟩ : ∃ m, m = lb.length := ⟨_, rfl⟩
        rw [← hmb] at Ob hb
        obtain ⟨Xb, hXb⟩ : ∃ X, X = qX lb := ⟨_, rfl⟩
        rw [← hXb] at Ob
        clear hmb hXb
        obtain ⟨Ab, cb, rfl, hcb, _⟩ := Ob.arr
        have Hb_7 := hide Ob; clear Ob
        obtain ⟨u, Hu⟩ : ∃ u, Hid ((errsB mb Xb && inB x 0 200) = u) := ⟨_, rfl⟩
        obtain ⟨q, Hq⟩ : ∃ q, Hid (q = onlyN u (urgL mb Xb x).length) := ⟨_, rfl⟩
        have hq40 : q ≤ 40 := by rw [Hq.out]; exact onlyN_le (Nat.le_trans (urgL_le _ _ _) hb)
        go_wp2_with fail
        refine (impl_urg Ab mb cb Xb x u Hu.out q Hq.out _ (by omega) (Hb_7.out.arr1.on (by go_grown))).mono ?_
        rintro e w8 ⟨vS, rfl, hb8, OS⟩
        have hs8 : Below w7.heap.size w7 w8 := below_call (by go_grown) hb8
        have hq8 : Below w.heap.size w w8 := below_call hq7 hs8
        have hz8 := hs8.size
        have Hb_8 := hide (Hb_7.out.below hs8 (Nat.le_refl _))
        clear Hb_7
        obtain ⟨AS, cS, rfl, hcS, _⟩ := OS.arr
        have HS_8 := hide OS; clear OS
        clear hb8 hs8
        go_wp2_with fail
        refine (spec_urg Ab mb cb Xb x u Hu.out q Hq.out _ (by omega) (Hb_8.out.arr1.on (by go_grown))).mono ?_
        rintro e w9 ⟨vT, rfl, hb9, OT⟩
        have hs9 : Below w8.heap.size w8 w9 := below_call (by go_grown) hb9
        have hq9 : Below w.heap.size w w9 := below_call hq8 hs9
        have hz9 := hs9.size
        have Hb_9 := hide (Hb_8.out.below hs9 (Nat.le_refl _))
        have HS_9 := hide (HS_8.out.below hs9 (Nat.le_refl _))
        clear Hb_8
        clear HS_8
        obtain ⟨AT, cT, rfl, hcT, _⟩ := OT.arr
        have HT_9 := hide OT; clear OT
        clear hb9 hs9
        go_wp2_with fail
        refine (r_ints AS AT q cS q cT _ _ true (eqX_self 1 q _) _ (by omega) (by omega) (HS_9.out.arr1.on (by go_grown)) (HT_9.out.arr1.on (by go_grown))).mono ?_
        rintro e w10 ⟨rfl, hb10⟩
        have hs10 : Below w9.heap.size w9 w10 := below_call (by go_grown) hb10
        have hq10 : Below w.heap.size w w10 := below_call hq9 hs10
        have hz10 := hs10.size
        have Hb_10 := hide (Hb_9.out.below hs10 (Nat.le_refl _))
        have HS_10 := hide (HS_9.out.below hs10 (Nat.le_refl _))
        have HT_10 := hide (HT_9.out.below hs10 (Nat.le_refl _))
        clear Hb_9
        clear HS_9
        clear HT_9
        clear hb10 hs10
        clear HT_10
        go_upto_if 136 with fail
        go_cut [2] (fun s2 wx => s2 = .bool false ∧ Below w10.heap.size w10 wx)
        case first =>
          as_aux_lemma =>
            cases u
            · skip
              go_wp2_with fail
              go_meet
              exact ⟨rfl, by go_grown⟩
            · skip
              have hV := Hu.out
              rw [Bool.and_eq_true] at hV
              have hx := inB_of hV.2
              have hE := (errs_of hV.1).2
              obtain ⟨L, hL⟩ : ∃ L, L = urgL mb Xb x := ⟨_, rfl⟩
              have hq : q = L.length := by have := Hq.out; simp only [onlyN, if_true] at this; rw [this, hL]
              have hend : endH Xb (keptY L) q ≤ x := by rw [hq, hL]; exact urg_end hx.1 hE
              have hpl : (planB mb q (keptY L) && errsB mb Xb) = true := by rw [hq, hL, urg_plan, hV.1]; rfl
              have hbd := (endH_bd hE (plan_of hpl).1 q (Nat.le_refl _)).1
              have HPL := hide hpl
              have hS : Own w10 w.heap.size 3 1 (.slice AS q cS) q (iv (keptY L)) ∨ True := .inr trivial
              clear hS hV hE hq hpl Hq
              have HS2 : Hid (Arr w10 w10.heap.size AS q 1 (iv (keptY L))) := hide (by rw [hL]; exact HS_10.out.arr1)
              clear hL
              go_wp2_with fail
              refine (impl_endsOf Ab AS mb cb q cS Xb (keptY L) true q rfl HPL.out _ (by omega) (by omega) (Hb_10.out.arr1.on (by go_grown)) (HS2.out.on (by go_grown))).mono ?_
              rintro e w11 ⟨vP, rfl, hb11, OP⟩
              have hs11 : Below w10.heap.size w10 w11 := below_call (by go_grown) hb11
              have hq11 : Below w.heap.size w w11 := below_call hq10 hs11
              have hk11 : Below w10.heap.size w10 w11 := hs11
              have hz11 := hs11.size
              have Hb_11 := hide (Hb_10.out.below hs11 (Nat.le_refl _))
              have HS_11 := hide (HS_10.out.below hs11 (Nat.le_refl _))
              clear Hb_10
              clear HS_10
              obtain ⟨AP, cP, rfl, hcP, _⟩ := OP.arr
              have HP_11 := hide OP; clear OP
              clear hb11 hs11
              rcases q with _ | r
              · go_wp2_with fail
                go_meet
                exact ⟨rfl, by go_grown⟩
              · obtain ⟨b, off, rfl, hbb, hc⟩ := HP_11.out.arr1 (by omega)
                have c0 := hc r 0 (by omega) (by omega)
                simp only [Nat.add_zero, Nat.mul_one, iv] at c0
                obtain ⟨z, hz⟩ : ∃ z, endH Xb (keptY L) (r + 1) = z := ⟨_, rfl⟩
                rw [hz] at c0 hend hbd
                have dz : decide (x < z) = false := decide_eq_false (by omega)
                clear hc hz
                go_wp2_with fail
                go_meet
                exact ⟨rfl, by go_grown⟩
        case rest =>
          obtain ⟨rfl, hqc⟩ := hcut
          obtain ⟨w12, rfl⟩ : ∃ x, x = wc := ⟨_, rfl⟩
          have hq12 : Below w.heap.size w w12 := below_call hq10 hqc
          have hz12 := hqc.size
          have Hb_12 := hide (Hb_10.out.below hqc (Nat.le_refl _))
          clear Hb_10
          have HS_12 := hide (HS_10.out.below hqc (Nat.le_refl _))
          clear HS_10
          clear hqc
          clear HS_12
          clear Hb_12
          clear Hu Hq hb hq40
          go_wp2_with fail
          refine (draw_hours A n c C _ (HC.out.on (by go_grown))).mono ?_
          rintro e w13 ⟨Vd, ld, hd, rfl, hb13, Od⟩
          have hs13 : Below w12.heap.size w12 w13 := below_call (by go_grown) hb13
          have hq13 : Below w.heap.size w w13 := below_call hq12 hs13
          have hz13 := hs13.size
          clear hb13 hs13
          obtain ⟨md, hmd⟩ : ∃ m, m = ld.length := ⟨_, rfl⟩
          rw [← hmd] at Od hd
          obtain ⟨Xd, hXd⟩ : ∃ X, X = qX ld := ⟨_, rfl⟩
          rw [← hXd] at Od
          clear hmd hXd
          obtain ⟨Ad, cd, rfl, hcd, _⟩ := Od.arr
          have Hd_13 := hide Od; clear Od
          obtain ⟨u, Hu⟩ : ∃ u, Hid (errsB md Xd = u) := ⟨_, rfl⟩
          obtain ⟨m5, Hm5⟩ : ∃ q, Hid (q = hrLen u) := ⟨_, rfl⟩
          have hm5 : m5 ≤ 5 := by have h := Hm5.out; unfold hrLen at h; split at h <;> omega
          obtain ⟨zz, Hzz⟩ : ∃ zz, Hid (onlyI u (hrT Xd md) = zz) := ⟨_, rfl⟩
          go_wp2_with fail
          refine (impl_hrL Ad md cd Xd u m5 Hm5.out Hu.out _ (by omega) (Hd_13.out.arr1.on (by go_grown))).mono ?_
          rintro e w14 ⟨vS, rfl, hb14, OS⟩
          have hs14 : Below w13.heap.size w13 w14 := below_call (by go_grown) hb14
          have hq14 : Below w.heap.size w w14 := below_call hq13 hs14
          have hz14 := hs14.size
          have Hd_14 := hide (Hd_13.out.below hs14 (Nat.le_refl _))
          clear Hd_13
          obtain ⟨AS, cS, rfl, hcS, _⟩ := OS.arr
          have HS_14 := hide OS; clear OS
          clear hb14 hs14
          go_wp2_with fail
          refine (spec_hrL Ad md cd Xd u m5 Hm5.out Hu.out _ (by omega) (Hd_14.out.arr1.on (by go_grown))).mono ?_
          rintro e w15 ⟨vT, rfl, hb15, OT⟩
          have hs15 : Below w14.heap.size w14 w15 := below_call (by go_grown) hb15
          have hq15 : Below w.heap.size w w15 := below_call hq14 hs15
          have hz15 := hs15.size
          have Hd_15 := hide (Hd_14.out.below hs15 (Nat.le_refl _))
          have HS_15 := hide (HS_14.out.below hs15 (Nat.le_refl _))
          clear Hd_14
          clear HS_14
          obtain ⟨AT, cT, rfl, hcT, _⟩ := OT.arr
          have HT_15 := hide OT; clear OT
          clear hb15 hs15
          go_wp2_with fail
          refine (r_ints AS AT m5 cS m5 cT _ _ true (eqX_self 1 m5 _) _ (by omega) (by omega) (HS_15.out.arr1.on (by go_grown)) (HT_15.out.arr1.on (by go_grown))).mono ?_
          rintro e w16 ⟨rfl, hb16⟩
          have hs16 : Below w15.heap.size w15 w16 := below_call (by go_grown) hb16
          have hq16 : Below w.heap.size w w16 := below_call hq15 hs16
          have hz16 := hs16.size
          have Hd_16 := hide (Hd_15.out.below hs16 (Nat.le_refl _))
          have HS_16 := hide (HS_15.out.below hs16 (Nat.le_refl _))
          have HT_16 := hide (HT_15.out.below hs16 (Nat.le_refl _))
          clear Hd_15
          clear HS_15
          clear HT_15
          clear hb16 hs16
          clear HT_16
          go_wp2_with fail
          refine (impl_errs Ad md cd Xd u Hu.out _ (by omega) (Hd_16.out.arr1.on (by go_grown))).mono ?_
          rintro e w17 ⟨rfl, hb17⟩
          have hs17 : Below w16.heap.size w16 w17 := below_call (by go_grown) hb17
          have hq17 : Below w.heap.size w w17 := below_call hq16 hs17
          have hz17 := hs17.size
          have Hd_17 := hide (Hd_16.out.below hs17 (Nat.le_refl _))
          have HS_17 := hide (HS_16.out.below hs17 (Nat.le_refl _))
          clear Hd_16
          clear HS_16
          clear hb17 hs17
          go_upto_block 2 with fail
          go_cut [28] (fun s2 wx => s2 = .int .i64 zz ∧ wx = w17)
          case first =>
            cases u
            · obtain rfl : 0 = zz := Hzz.out
              go_wp2_with fail
              go_loop [28, 29] (fun s i => s = .int .i64 0 ∧ i = .int .i64 0) (fun _ _ => 0)
              case atStart => exact ⟨rfl, rfl⟩
              case round =>
                obtain ⟨rfl, rfl⟩ := hrel
                by_cases h0 : 0 < md
                · have d0 : decide (0 < md) = true := decide_eq_true h0
                  go_wp2_with fail
                  go_meet
                  exact ⟨rfl, rfl⟩
                · have d0 : decide (0 < md) = false := decide_eq_false h0
                  go_wp2_with fail
                  go_meet
                  exact ⟨rfl, rfl⟩
            · have hzz := Hzz.out
              simp only [onlyI, if_true] at hzz
              have hE := (errs_of Hu.out).2
              have HZZ := hide hzz
              clear hzz Hzz
              go_wp2_with fail
              go_loop [28, 29] (fun s i => ∃ k : Nat, k ≤ md ∧ i = .int .i64 k ∧ s = .int .i64 (hrT Xd k)) (fun _ i => md - (intOf i).toNat)
              case atStart => exact ⟨0, Nat.zero_le _, rfl, rfl⟩
              case round =>
                obtain ⟨k, hk, rfl, rfl⟩ := hrel
                have hb0 := hrT_bd (X := Xd) (k := k) (fun i hi => hE i (by omega))
                obtain ⟨z, hz⟩ : ∃ z, hrT Xd k = z := ⟨_, rfl⟩
                rw [hz] at hb0
                by_cases hlt : k < md
                · obtain ⟨b, off, rfl, hbb, hc⟩ := Hd_17.out.arr1 (by omega)
                  have c1 := hc k 1 hlt (by omega)
                  simp only [iv] at c1
                  have hex := err_of (hE k hlt)
                  have hst : hrT Xd (k + 1) = z + Xd k 1 := by rw [hrT, hz]
                  have HST := hide hst
                  have dk : decide (k < md) = true := decide_eq_true hlt
                  rw [hz]
                  clear hc hst hz hE
                  go_wp2
                  go_round
                  case rel => exact ⟨k + 1, by omega, by go_num, by rw [HST.out]⟩
                  case measure => simp [intOf]; omega
                · obtain rfl : k = md := by omega
                  have hzz2 : z = zz := by rw [← hz]; exact HZZ.out
                  subst hzz2
                  have dk : decide (k < k) = false := decide_eq_false (by omega)
                  rw [hz]
                  clear hz hE
                  go_wp2_with fail
                  go_meet
                  exact ⟨rfl, rfl⟩
          case rest =>
            obtain ⟨rfl, hw⟩ := hcut
            obtain rfl : w17 = wc := hw.symm
            have hsum : smV (fun i => (fun r _ => hrs Xd md r : Nat → Nat → Int) i 0) m5 = zz := by
              have h1 := Hm5.out; have h2 := Hzz.out; have h3 := Hu.out
              cases u
              · rw [h1, ← h2]; rfl
              · rw [h1, ← h2]
                have h4 := hrs_sum (X := Xd) (k := md) (errs_of h3).2
                simp only [smE] at h4
                simp only [onlyI, if_true, hrLen, smV]
                exact h4
            have hbd : ∀ k, k ≤ m5 → 0 ≤ smV (fun i => (fun r _ => hrs Xd md r : Nat → Nat → Int) i 0) k ∧ smV (fun i => (fun r _ => hrs Xd md r : Nat → Nat → Int) i 0) k ≤ 1099511627776 := by
              have h1 := Hm5.out; have h3 := Hu.out
              intro k hk
              cases u
              · obtain rfl : k = 0 := by simp only [hrLen] at h1; simp at h1; omega
                simp [smV]
              · have hE := (errs_of h3).2
                have hh : ∀ k, 0 ≤ smV (fun r => hrs Xd md r) k ∧ smV (fun r => hrs Xd md r) k ≤ 480 * k := by
                  intro k
                  induction k with
                  | zero => simp [smV]
                  | succ k ih =>
                    have := hrs_bd (X := Xd) (k := md) (r := k) hE
                    rw [smV]; push_cast; omega
                have := hh k
                show 0 ≤ smV (fun r => hrs Xd md r) k ∧ smV (fun r => hrs Xd md r) k ≤ 1099511627776
                omega
            have HSM := hide hsum; have HBD := hide hbd
            clear hsum hbd
            clear Hd_17
            go_wp2_with fail
            refine (draw_errand A n c C _ (HC.out.on (by go_grown))).mono ?_
            rintro e w18 ⟨ea, eb, ec, ed, rfl, hb18⟩
            have hs18 : Below w17.heap.size w17 w18 := below_call (by go_grown) hb18
            have hq18 : Below w.heap.size w w18 := below_call hq17 hs18
            have hz18 := hs18.size
            have HS_18 := hide (HS_17.out.below hs18 (Nat.le_refl _))
            clear HS_17
            clear hb18 hs18
            obtain ⟨ev, Hev⟩ : ∃ ev, Hid (errB ea eb ec ed = ev) := ⟨_, rfl⟩
            have hx := fun (o : Obj) => BW.cell (w := w18.alloc o)
            have HAR := hide HS_18.out.arr1
            clear HS_18 Hm5 Hu Hzz
            go_wp2
            refine wp_region_bw (by kernel_rfl) (by kernel_rfl) ?_
            repeat (go_big_quiet_step ((first | (go_at_call 60; with_reducible exact BW.call0 (r_sum AS m5 cS (fun r _ => hrs Xd md r) zz HSM.out _ (by omega) (HAR.out.on (below_call (below_al (Below.refl _ _)) (BW.prop _))) HBD.out)) | (go_at_call 61; exact BW.call (impl_err _ _ _ _ _ Hev.out _)) | (go_at_call 62; exact BW.call (spec_isErr _ _ _ _ _ Hev.out _)))))
            refine wpQuiet_end fun w1 hb1 => ?_
            have hfin := below_call (below_al hq18) hb1
            go_wp2
            go_returns
            exact ⟨rfl, hfin⟩
  · have HB := hide hB; have HM := hide hm
    clear ha hC hB hm
    go_enter Try.func6, Try.ntmps6
    go_wp2_with fail
    refine (r_big A n c true HB.out HM.out _).mono ?_
    rintro e w0 ⟨rfl, rfl⟩
    go_wp2
    go_returns
    exact ⟨rfl, by go_grown⟩
end Go.Proofs.Ytfdgnjnnbhelgaa
