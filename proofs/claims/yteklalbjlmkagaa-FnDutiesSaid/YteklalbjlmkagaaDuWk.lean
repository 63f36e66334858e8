/- Chapter 17: the law on duties: the walk. -/
import Derived.Test.YteklalbjlmkagaaDuY
import Derived.Test.YteklalbjlmkagaaDuZ
namespace Go.Proofs.Yteklalbjlmkagaa
open Go.RowKit
set_option linter.unusedVariables false
set_option linter.unusedSimpArgs false

theorem Lst.le {b : Nat} {w : World} {g cap m : Nat} {L : List Du} (h : Lst b w g cap m L) : m ≤ 13 := by rw [← h.len]; exact h.drw.1
theorem Lst.who {b : Nat} {w : World} {g cap m : Nat} {L : List Du} (h : Lst b w g cap m L) : ∀ i, i < m → WhoOk (dg L i) := fun i hi => h.drw.2 i (by rw [h.len]; exact hi)
theorem Lst.arr {b : Nat} {w : World} {g cap m : Nat} {L : List Du} (h : Lst b w g cap m L) : Arr w w.heap.size (some ⟨g, 0, none⟩) m 4 (dv (dg L)) := arr_row h.row h.len
theorem Lst.lt {b : Nat} {w : World} {g cap m : Nat} {L : List Du} (h : Lst b w g cap m L) : g < w.heap.size := (h.row.lt g rfl).2
theorem in_list {α : Type} {l : List α} {k : Nat} {d : α} (h : k < l.length) : l.getD k d ∈ l := by simp [List.getD, h]
theorem onL_len (n : Nat) (D : Nat → Du) (h : Int) : (onL n D h).length ≤ 51 := by
  have := List.length_filter_le (fun x => decide (∃ i, i < n ∧ hasB h (D i) = true ∧ whoN D i = x)) (List.range 51)
  rw [List.length_range] at this
  unfold onL; exact this
theorem freeL_len (n : Nat) (D : Nat → Du) (b e : Int) : (freeL n D b e).length ≤ 51 := by
  rw [← frS_all]; exact frS_len n D b e 51
set_option maxRecDepth 100000 in
set_option maxHeartbeats 16000000 in
theorem walk_FnDuties (A : Option Addr) (n c : Nat) (C : Nat → Int) (w : World) (hm : n ≤ maxLen) (ha : Arr w w.heap.size A n 1 (bv C)) (hC : ∀ i, i < n → 0 ≤ C i ∧ C i ≤ 255) :
    Calls Try.prog 3 #[.slice A n c] w fun e w' => e = .returned (.bool true) ∧ Below w.heap.size w w' := by
  cases hB : decide (65536 < (n : Int))
  · have HC := hide (show CodeOk w A n C from ⟨by rw [decide_eq_false_iff_not] at hB; omega, ha, hC⟩)
    have HM := hide hm; have HB := hide hB
    clear ha hC hm hB
    go_enter Try.func3, Try.ntmps3
    go_wp2_with fail
    refine (r_big A n c false HB.out HM.out _).mono ?_
    rintro e w0 ⟨rfl, rfl⟩
    go_wp2_with fail
    refine (draw_gaps A n c C _ HC.out).mono ?_
    rintro e w1 ⟨g, cap, m, L, f, t, rfl, hls, hb1⟩
    have hq1 : Below w.heap.size w w1 := hb1
    have HLS := hide hls
    obtain ⟨hmc, hcm⟩ := row_capsD hls.row
    have hm13 := hls.le
    obtain ⟨ok, Hok⟩ : ∃ ok, Hid (gapOk m (dg L) f t = ok) := ⟨_, rfl⟩
    obtain ⟨ps, HPS⟩ : ∃ ps, Hid ((if ok = true then gI m (dg L) f (t - f).toNat else []) = ps) := ⟨_, rfl⟩
    have hlen : ps.length ≤ 10000 := by
      rw [← HPS.out]
      split
      · next h0 =>
        have := gI_len m (dg L) f (t - f).toNat
        have h1 := Hok.out
        rw [h0] at h1
        unfold gapOk at h1
        rw [Bool.and_eq_true, decide_eq_true_eq] at h1
        omega
      · simp
    clear hls hb1
    go_wp2_with fail
    refine (impl_gaps (some ⟨g, 0, none⟩) m cap (dg L) f t ok Hok.out ps HPS.out _ (by omega) hmc hcm HLS.out.arr).mono ?_
    rintro e w2 ⟨v0, gs0, rfl, hb2, hm0⟩
    have hq2 := below_call hq1 hb2
    have HL2 := hide (HLS.out.below hb2); have HM2 := hide hm0
    clear hb2 hm0 HLS
    go_wp2_with fail
    refine (spec_gaps (some ⟨g, 0, none⟩) m cap (dg L) f t ok Hok.out ps HPS.out _ (by omega) HL2.out.arr).mono ?_
    rintro e w3 ⟨v1, gs1, rfl, hb3, hm1⟩
    have hq3 := below_call hq2 hb3
    have HL3 := hide (HL2.out.below hb3); have HM3 := hide (HM2.out.below hb3); have HN3 := hide hm1
    clear hb3 hm1 HL2 HM2
    go_wp2_with fail
    refine (r_table v0 v1 _ _ ps gs0 gs1 _ (by omega) HM3.out HN3.out).mono ?_
    rintro e w4 ⟨rfl, hb4⟩
    have hq4 := below_call hq3 hb4
    have HL4 := hide (HL3.out.below hb4)
    have hm4 := HM3.out.below hb4
    obtain ⟨A1, c1, rfl, _, a1⟩ := hm4.form
    have HM4 := hide hm4; have HA1 := hide a1
    clear hb4 hm4 a1 HL3 HM3 HN3
    go_wp2
    go_loopw [10] (fun i wr => ∃ k : Nat, k ≤ ps.length ∧ i = .int .i64 k ∧ Below w4.heap.size w4 wr) (fun i _ => ps.length - (intOf i).toNat)
    case atStart => exact ⟨0, Nat.zero_le _, rfl, Below.refl _ _⟩
    case round =>
      obtain ⟨k, hk, rfl, hbw⟩ := hrel
      by_cases hlt : k < ps.length
      · have hok : ok = true := by
          cases h : ok
          · have := HPS.out
            rw [h] at this
            have e : ps = [] := this.symm
            rw [e] at hlt
            exact absurd hlt (by simp)
          · rfl
        have hg := Hok.out
        rw [hok] at hg
        have hin : ps.getD k (0, 0) ∈ gI m (dg L) f (t - f).toNat := by
          have := HPS.out
          rw [hok, if_pos rfl] at this
          rw [this]; exact in_list hlt
        obtain ⟨o1, o2, o3, o4, o5, o6, o7⟩ := gap_law hg hin
        obtain ⟨p, hp⟩ : ∃ p, ps.getD k (0, 0) = p := ⟨_, rfl⟩
        rw [hp] at o1 o2 o3 o4 o5 o6 o7
        obtain ⟨x, y⟩ := p
        dsimp only at o1 o2 o3 o4 o5 o6 o7
        have HP := hide hp; have O1 := hide o1; have O2 := hide o2; have O3 := hide o3; have O4 := hide o4
        obtain ⟨b, off, hA, hbb, hc⟩ := (HA1.out.on hbw) (by omega)
        subst hA
        have d0 := hc k 0 hlt (by omega)
        simp only [Nat.add_zero, Nat.mul_one] at d0
        obtain ⟨gp, hgp⟩ : ∃ gp, gs0.getD k 0 = gp := ⟨_, rfl⟩
        rw [hgp] at d0
        have hbp := (HM4.out.below hbw).blk k hlt
        rw [hgp, hp] at hbp
        have HBP := hide hbp
        have x0 := hbp.cell 0
        simp only [List.getElem?_toArray, List.getElem?_cons_zero] at x0
        have x3 := hbp.lt
        have HLW := hide (HL4.out.below hbw)
        clear hc hgp hbp hp hin hg hok o1 o2 o3 o4
        go_wp2_with fail
        refine (impl_onDuty (some ⟨g, 0, none⟩) m cap (dg L) x true O1.out [] (by rw [if_pos rfl]; exact O2.out) _ (by omega) hmc hcm HLW.out.arr).mono ?_
        rintro e w5 ⟨V5, rfl, hb5, hrow5⟩
        have hq5 := below_call hbw hb5
        obtain ⟨A5, c5, rfl, _⟩ := row_arrN hrow5
        have d0' := (hb5.cell (p := ⟨b, off + k, none⟩) hbb).trans d0
        have hbb' : b < w5.heap.size := by have := hb5.size; omega
        have HB5 := hide (HBP.out.below hb5 x3)
        have x1 := HB5.out.cell 1
        simp only [List.getElem?_toArray, List.getElem?_cons_zero, List.getElem?_cons_succ] at x1
        have x4 := HB5.out.lt
        have HL5 := hide (HLW.out.below hb5)
        have hwy : IntKind.i64.wrap (y - 1) = y - 1 := IntWalk.i64_in _ (by omega)
        clear hb5 hrow5 d0 x0 x3 HBP HLW hbb hbw
        go_wp2_with fail
        refine (impl_onDuty (some ⟨g, 0, none⟩) m cap (dg L) (y - 1) true O3.out [] (by rw [if_pos rfl]; exact O4.out) _ (by omega) hmc hcm HL5.out.arr).mono ?_
        rintro e w6 ⟨V6, rfl, hb6, hrow6⟩
        have hq6 := below_call hq5 hb6
        obtain ⟨A6, c6, rfl, _⟩ := row_arrN hrow6
        clear hb6 hrow6 d0' x1 x4 HB5 HL5 hwy
        go_wp2
        go_roundw
        case rel => exact ⟨k + 1, by omega, by go_num, hq6⟩
        case measure => simp [intOf]; omega
      · have hq5 := below_call hq4 hbw
        clear HM4 HA1 HL4 HPS Hok hlen hmc hcm hm13 hq1 hq2 hq3 hq4 hbw
        go_wp2_with fail
        refine (draw_freeFor A n c C _ (HC.out.on hq5)).mono ?_
        rintro e w5 ⟨g, cap, m, L, f, t, rfl, hls, hb1⟩
        have hq6 := below_call hq5 hb1
        have HLS := hide hls
        obtain ⟨hmc, hcm⟩ := row_capsD hls.row
        have hm13 := hls.le
        obtain ⟨ok, Hok⟩ : ∃ ok, Hid (freeOk m (dg L) f t = ok) := ⟨_, rfl⟩
        obtain ⟨R, HR⟩ : ∃ R, Hid ((if ok = true then freeL m (dg L) f t else []) = R) := ⟨_, rfl⟩
        have hlen : R.length ≤ 51 := by
          rw [← HR.out]
          split
          · exact freeL_len _ _ _ _
          · simp
        clear hls hb1
        go_wp2_with fail
        refine (impl_free g m cap (dg L) f t ok Hok.out R HR.out _ (by omega) hmc hcm HLS.out.lt HLS.out.arr).mono ?_
        rintro e w7 ⟨V7, rfl, hb7, hrow7⟩
        have hq7 := below_call hq6 hb7
        have HL7 := hide (HLS.out.below hb7)
        obtain ⟨A7, c7, rfl, ha7⟩ := row_arrN hrow7
        have HA7 := hide ha7
        clear hb7 hrow7 ha7 HLS
        go_wp2_with fail
        refine (spec_free g m cap (dg L) f t ok Hok.out R HR.out _ (by omega) hmc HL7.out.arr).mono ?_
        rintro e w8 ⟨V8, rfl, hb8, hrow8⟩
        have hq8 := below_call hq7 hb8
        have HL8 := hide (HL7.out.below hb8); have HA8 := hide (HA7.out.on hb8)
        obtain ⟨A8, c8, rfl, ha8⟩ := row_arrN hrow8
        have HB8 := hide ha8
        clear hb8 hrow8 ha8 HL7 HA7
        go_wp2_with fail
        refine (r_ints _ _ _ _ _ _ _ _ true (eqX_self _ _ _) _ (by omega) (by omega) HA8.out HB8.out).mono ?_
        rintro e w9 ⟨rfl, hb9⟩
        have hq9 := below_call hq8 hb9
        have HL9 := hide (HL8.out.below hb9); have HA9 := hide (HA8.out.on hb9)
        clear hb9 HL8 HA8 HB8
        obtain ⟨wo, rfl⟩ : ∃ x, x = wr := ⟨_, rfl⟩
        go_wp2
        go_loopw [22] (fun i wr => ∃ k : Nat, k ≤ R.length ∧ i = .int .i64 k ∧ Below w9.heap.size w9 wr) (fun i _ => R.length - (intOf i).toNat)
        case atStart => exact ⟨0, Nat.zero_le _, rfl, Below.refl _ _⟩
        case round =>
          obtain ⟨k, hk, rfl, hbw⟩ := hrel
          by_cases hlt : k < R.length
          · have hok : ok = true := by
              cases h : ok
              · have := HR.out
                rw [h] at this
                have e : R = [] := this.symm
                rw [e] at hlt
                exact absurd hlt (by simp)
              · rfl
            have hg := Hok.out
            rw [hok] at hg
            have hin : R.getD k 0 ∈ freeL m (dg L) f t := by
              have := HR.out
              rw [hok, if_pos rfl] at this
              rw [this]; exact in_list hlt
            obtain ⟨o1, o2, o3, o4, o5, o6, o7⟩ := free_law hg hin
            obtain ⟨x, hx⟩ : ∃ x, R.getD k 0 = x := ⟨_, rfl⟩
            rw [hx] at o1 o2 o3 o4 o5 o7
            have hll : Ln (dg L) m = L := by rw [← HL9.out.len]; exact Ln_self L
            rw [hll] at o3 o4
            obtain ⟨r1, hr1⟩ : ∃ r, hrsD (dg L) x m = r := ⟨_, rfl⟩
            obtain ⟨r2, hr2⟩ : ∃ r, hrsD (dg (putD ⟨x, f, t, false⟩ L)) x (m + 1) = r := ⟨_, rfl⟩
            rw [hr1] at o4 o7; rw [hr2] at o4
            obtain ⟨z, hz⟩ : ∃ z, t - f = z := ⟨_, rfl⟩
            have hw1 : IntKind.i64.wrap (t - f) = z := by rw [IntWalk.i64_in _ (by omega)]; exact hz
            have hw2 : IntKind.i64.wrap (r2 - r1) = z := by rw [IntWalk.i64_in _ (by omega)]; omega
            have O1 := hide o1; have O2 := hide o2; have O3 := hide o3; have HLL := hide hll
            have H1 := hide hr1; have H2 := hide hr2
            obtain ⟨b, off, hA, hbb, hc⟩ := (HA9.out.on hbw) (by omega)
            subst hA
            have d0 := hc k 0 hlt (by omega)
            simp only [Nat.add_zero, Nat.mul_one, iv, hx] at d0
            have HLW := hide (HL9.out.below hbw)
            have hwho : WhoOk ⟨x, f, t, false⟩ := ⟨by show (0 : Int) ≤ ((x : Nat) : Int); omega, by show ((x : Nat) : Int) ≤ 100; omega⟩
            have HWH := hide hwho
            clear hc hx hin hg hok o1 o2 o3 o4 o5 o6 o7 hr1 hr2 hz hll hwho
            go_wp2_with fail
            refine (impl_add g m cap (dg L) ⟨x, f, t, false⟩ true O1.out _ rfl _ hm13 hmc hcm HLW.out.who HWH.out HLW.out.arr).mono ?_
            rintro e w10 ⟨V10, rfl, hb10, hrow10⟩
            have hq10 := below_call hbw hb10
            rw [if_pos rfl] at hrow10
            obtain ⟨A10, c10, hv10, hc10, hm10, ha10⟩ := row_arrD hrow10
            rw [put_row] at hv10 hc10 ha10
            rw [HLL.out] at ha10
            subst hv10
            have HA10 := hide ha10
            have d0' := (hb10.cell (p := ⟨b, off + k, none⟩) hbb).trans d0
            have hbb' : b < w10.heap.size := by have := hb10.size; omega
            have HL10 := hide (HLW.out.below hb10)
            clear hb10 hrow10 ha10 d0 hbb HLW hbw
            go_wp2_with fail
            refine (impl_hours (some ⟨g, 0, none⟩) m cap (dg L) x true O2.out r1 (by rw [if_pos rfl]; exact H1.out) _ (by omega) hmc hcm HL10.out.arr).mono ?_
            rintro e w11 ⟨rfl, hb11⟩
            have hq11 := below_call hq10 hb11
            have HA11 := hide (HA10.out.on hb11)
            have d0 := (hb11.cell (p := ⟨b, off + k, none⟩) hbb').trans d0'
            have hbb : b < w11.heap.size := by have := hb11.size; omega
            clear hb11 d0' hbb' HL10 HA10 hq10
            go_wp2_with fail
            refine (impl_hours A10 (m + 1) c10 (dg (putD ⟨x, f, t, false⟩ L)) x true O3.out r2 (by rw [if_pos rfl]; exact H2.out) _ (by omega) hc10 hm10 HA11.out).mono ?_
            rintro e w12 ⟨rfl, hb12⟩
            have hq12 := below_call hq11 hb12
            clear hb12 d0 hbb HA11 hq11 O1 O2 O3 H1 H2 HLL HWH
            go_wp2
            go_roundw
            case rel => exact ⟨k + 1, by omega, by go_num, hq12⟩
            case measure => simp [intOf]; omega
          · have hq10 := below_call hq9 hbw
            clear HL9 HA9 HR Hok hlen hmc hcm hm13 hq5 hq6 hq7 hq8 hq9 hbw
            go_wp2_with fail
            refine (draw_on A n c C _ (HC.out.on hq10)).mono ?_
            rintro e w10 ⟨g, cap, m, L, h, rfl, hls, hb1⟩
            have hq11 := below_call hq10 hb1
            have HLS := hide hls
            obtain ⟨hmc, hcm⟩ := row_capsD hls.row
            have hm13 := hls.le
            obtain ⟨ok, Hok⟩ : ∃ ok, Hid (onOk m (dg L) h = ok) := ⟨_, rfl⟩
            obtain ⟨R, HR⟩ : ∃ R, Hid ((if ok = true then onL m (dg L) h else []) = R) := ⟨_, rfl⟩
            have hlen : R.length ≤ 51 := by
              rw [← HR.out]
              split
              · exact onL_len _ _ _
              · simp
            clear hls hb1
            go_wp2_with fail
            refine (impl_onDuty (some ⟨g, 0, none⟩) m cap (dg L) h ok Hok.out R HR.out _ (by omega) hmc hcm HLS.out.arr).mono ?_
            rintro e w11 ⟨V7, rfl, hb7, hrow7⟩
            have hq12 := below_call hq11 hb7
            have HL7 := hide (HLS.out.below hb7)
            obtain ⟨A7, c7, rfl, ha7⟩ := row_arrN hrow7
            have HA7 := hide ha7
            clear hb7 hrow7 ha7 HLS
            go_wp2_with fail
            refine (spec_onDuty (some ⟨g, 0, none⟩) m cap (dg L) h ok Hok.out R HR.out _ (by omega) HL7.out.arr).mono ?_
            rintro e w12 ⟨V8, rfl, hb8, hrow8⟩
            have hq13 := below_call hq12 hb8
            have HL8 := hide (HL7.out.below hb8); have HA8 := hide (HA7.out.on hb8)
            obtain ⟨A8, c8, rfl, ha8⟩ := row_arrN hrow8
            have HB8 := hide ha8
            clear hb8 hrow8 ha8 HL7 HA7
            go_wp2_with fail
            refine (r_ints _ _ _ _ _ _ _ _ true (eqX_self _ _ _) _ (by omega) (by omega) HA8.out HB8.out).mono ?_
            rintro e w13 ⟨rfl, hb9⟩
            have hq14 := below_call hq13 hb9
            have HL9 := hide (HL8.out.below hb9); have HA9 := hide (HA8.out.on hb9)
            clear hb9 HL8 HA8 HB8 hq11 hq12 hq13
            obtain ⟨kn, HK⟩ : ∃ b, Hid ((ok && decide (0 < (leadL m (dg L) h).length)) = b) := ⟨_, rfl⟩
            obtain ⟨r, HRR⟩ : ∃ r, Hid (leadR (leadL m (dg L) h) kn = r) := ⟨_, rfl⟩
            go_wp2_with fail
            refine (impl_lead (some ⟨g, 0, none⟩) m cap (dg L) h ok Hok.out kn HK.out r HRR.out _ (by omega) hmc hcm HL9.out.arr).mono ?_
            rintro e w14 ⟨rfl, hb10⟩
            have hq15 := below_call hq14 hb10
            have HL10 := hide (HL9.out.below hb10); have HA10 := hide (HA9.out.on hb10)
            clear hb10 HL9 HA9 hq14
            go_wp2_with fail
            refine (spec_lead (some ⟨g, 0, none⟩) m cap (dg L) h ok Hok.out kn HK.out r HRR.out _ (by omega) HL10.out.arr).mono ?_
            rintro e w15 ⟨rfl, hb11⟩
            have hq16 := below_call hq15 hb11
            have HA11 := hide (HA10.out.on hb11)
            clear hb11 HL10 HA10 hq15
            cases kn
            · clear HA11
              clear HR HRR HK Hok hlen hmc hcm hm13
              go_wp2_with fail
              refine (draw_add A n c C _ (HC.out.on hq16)).mono ?_
              rintro e x1 ⟨g, cap, m, L, d, rfl, hwd, hls, hb1⟩
              have hp0 := below_call hq16 hb1
              have hp1 := below_al (o := .cells #[.int .i64 d.who, .int .i64 d.beg, .int .i64 d.fin, .bool d.chief] 39) hp0
              have HLS := hide (hls.below (below_al (o := .cells #[.int .i64 d.who, .int .i64 d.beg, .int .i64 d.fin, .bool d.chief] 39) (Below.refl _ _))); have HWD := hide hwd
              have HCD := hide (Cells.new x1 x1.heap.size [.int .i64 d.who, .int .i64 d.beg, .int .i64 d.fin, .bool d.chief] 39 rfl)
              have l0 := HCD.out.2 0 _ rfl; have l1 := HCD.out.2 1 _ rfl; have l2 := HCD.out.2 2 _ rfl; have l3 := HCD.out.2 3 _ rfl; have l4 := HCD.out.1
              obtain ⟨hmc, hcm⟩ := row_capsD hls.row
              have hm13 := hls.le
              obtain ⟨ok, Hok⟩ : ∃ ok, Hid (addOk m (dg L) d = ok) := ⟨_, rfl⟩
              obtain ⟨R, HR⟩ : ∃ R, Hid ((if ok = true then putD d (Ln (dg L) m) else []) = R) := ⟨_, rfl⟩
              have hlen : R.length ≤ 14 := by
                rw [← HR.out]
                split
                · rw [put_row]; omega
                · simp
              clear hls hb1 hwd hp0 hq16
              go_wp2_with fail
              refine (impl_add g m cap (dg L) d ok Hok.out R HR.out _ hm13 hmc hcm HLS.out.who HWD.out HLS.out.arr).mono ?_
              rintro e x2 ⟨V1, rfl, hb2, hrow2⟩
              have hp2 := below_call hp1 hb2
              have HL2 := hide (HLS.out.below hb2); have HCE := hide (HCD.out.on hb2)
              clear l0 l1 l2 l3 l4
              have l0 := HCE.out.2 0 _ rfl; have l1 := HCE.out.2 1 _ rfl; have l2 := HCE.out.2 2 _ rfl; have l3 := HCE.out.2 3 _ rfl; have l4 := HCE.out.1
              obtain ⟨A1, c1, rfl, hc1, hm1, ha2⟩ := row_arrD hrow2
              have HA2 := hide ha2
              clear hb2 hrow2 ha2 HLS hp1 HCD
              go_wp2_with fail
              refine (spec_add g m cap (dg L) d ok Hok.out R HR.out _ (by omega) hmc HL2.out.arr).mono ?_
              rintro e x3 ⟨V2, rfl, hb3, hrow3⟩
              have hp3 := below_call hp2 hb3
              have HA3 := hide (HA2.out.on hb3); have HCF := hide (HCE.out.on hb3)
              clear l0 l1 l2 l3 l4
              obtain ⟨A2, c2, rfl, _, _, ha3⟩ := row_arrD hrow3
              have HB3 := hide ha3
              clear hb3 hrow3 ha3 HL2 HA2 hp2 HCE
              go_wp2_with fail
              refine (r_duties A1 A2 R.length c1 c2 (dg R) _ (by omega) HA3.out HB3.out).mono ?_
              rintro e x4 ⟨rfl, hb4⟩
              have hp4 := below_call hp3 hb4
              have HA4 := hide (HA3.out.on hb4); have HCG := hide (HCF.out.on hb4)
              have l0 := HCG.out.2 0 _ rfl; have l1 := HCG.out.2 1 _ rfl; have l2 := HCG.out.2 2 _ rfl; have l3 := HCG.out.2 3 _ rfl; have l4 := HCG.out.1
              clear hb4 HA3 HB3 hp3 HCF
              cases ok
              · go_wp2
                go_returns
                exact ⟨rfl, hp4⟩
              · have hk := Hok.out
                unfold addOk at hk
                rw [Bool.and_eq_true] at hk
                have HD1 := hide (put_one hk.2)
                have hgr : goodB R.length (dg R) = true := by
                  have e : putD d (Ln (dg L) m) = R := by rw [← HR.out, if_pos rfl]
                  rw [← e, put_row]; exact hk.2
                have HGR := hide hgr
                clear hk hgr
                go_wp2_with fail
                refine (impl_duty d true HD1.out _).mono ?_
                rintro e x5 ⟨rfl, hb5⟩
                have hp5 := below_call hp4 hb5
                have HA5 := hide (HA4.out.on hb5)
                clear hb5 HA4 hp4 HCG l0 l1 l2 l3 l4
                go_wp2_with fail
                refine (impl_good17 A1 R.length c1 (dg R) true HGR.out _ (by omega) hc1 hm1 HA5.out).mono ?_
                rintro e x6 ⟨rfl, hb6⟩
                have hp6 := below_call hp5 hb6
                clear hb6 HA5 hp5
                go_wp2
                go_returns
                exact ⟨rfl, hp6⟩
            · have hrh : hasI (fun p _ => (R.getD p 0 : Nat)) R.length r = true := by
                have hk := HK.out
                have hr := HRR.out
                have e : ok = true := by
                  cases h : ok
                  · rw [h] at hk; cases hk
                  · rfl
                have eR : onL m (dg L) h = R := by rw [← HR.out, if_pos e]
                rw [← Hok.out] at hk
                obtain ⟨i, hi, hi2⟩ := lead_law hk
                rw [eR] at hi hi2
                exact hasI_yes hi (by rw [← hr]; exact hi2)
              have HRH := hide hrh
              clear hrh
              go_wp2_with fail
              refine (r_has A7 R.length c7 _ r true HRH.out _ (by omega) HA11.out).mono ?_
              rintro e w16 ⟨rfl, rfl⟩
              clear HA11 HRH
              clear HR HRR HK Hok hlen hmc hcm hm13
              go_wp2_with fail
              refine (draw_add A n c C _ (HC.out.on hq16)).mono ?_
              rintro e x1 ⟨g, cap, m, L, d, rfl, hwd, hls, hb1⟩
              have hp0 := below_call hq16 hb1
              have hp1 := below_al (o := .cells #[.int .i64 d.who, .int .i64 d.beg, .int .i64 d.fin, .bool d.chief] 39) hp0
              have HLS := hide (hls.below (below_al (o := .cells #[.int .i64 d.who, .int .i64 d.beg, .int .i64 d.fin, .bool d.chief] 39) (Below.refl _ _))); have HWD := hide hwd
              have HCD := hide (Cells.new x1 x1.heap.size [.int .i64 d.who, .int .i64 d.beg, .int .i64 d.fin, .bool d.chief] 39 rfl)
              have l0 := HCD.out.2 0 _ rfl; have l1 := HCD.out.2 1 _ rfl; have l2 := HCD.out.2 2 _ rfl; have l3 := HCD.out.2 3 _ rfl; have l4 := HCD.out.1
              obtain ⟨hmc, hcm⟩ := row_capsD hls.row
              have hm13 := hls.le
              obtain ⟨ok, Hok⟩ : ∃ ok, Hid (addOk m (dg L) d = ok) := ⟨_, rfl⟩
              obtain ⟨R, HR⟩ : ∃ R, Hid ((if ok = true then putD d (Ln (dg L) m) else []) = R) := ⟨_, rfl⟩
              have hlen : R.length ≤ 14 := by
                rw [← HR.out]
                split
                · rw [put_row]; omega
                · simp
              clear hls hb1 hwd hp0 hq16
              go_wp2_with fail
              refine (impl_add g m cap (dg L) d ok Hok.out R HR.out _ hm13 hmc hcm HLS.out.who HWD.out HLS.out.arr).mono ?_
              rintro e x2 ⟨V1, rfl, hb2, hrow2⟩
              have hp2 := below_call hp1 hb2
              have HL2 := hide (HLS.out.below hb2); have HCE := hide (HCD.out.on hb2)
              clear l0 l1 l2 l3 l4
              have l0 := HCE.out.2 0 _ rfl; have l1 := HCE.out.2 1 _ rfl; have l2 := HCE.out.2 2 _ rfl; have l3 := HCE.out.2 3 _ rfl; have l4 := HCE.out.1
              obtain ⟨A1, c1, rfl, hc1, hm1, ha2⟩ := row_arrD hrow2
              have HA2 := hide ha2
              clear hb2 hrow2 ha2 HLS hp1 HCD
              go_wp2_with fail
              refine (spec_add g m cap (dg L) d ok Hok.out R HR.out _ (by omega) hmc HL2.out.arr).mono ?_
              rintro e x3 ⟨V2, rfl, hb3, hrow3⟩
              have hp3 := below_call hp2 hb3
              have HA3 := hide (HA2.out.on hb3); have HCF := hide (HCE.out.on hb3)
              clear l0 l1 l2 l3 l4
              obtain ⟨A2, c2, rfl, _, _, ha3⟩ := row_arrD hrow3
              have HB3 := hide ha3
              clear hb3 hrow3 ha3 HL2 HA2 hp2 HCE
              go_wp2_with fail
              refine (r_duties A1 A2 R.length c1 c2 (dg R) _ (by omega) HA3.out HB3.out).mono ?_
              rintro e x4 ⟨rfl, hb4⟩
              have hp4 := below_call hp3 hb4
              have HA4 := hide (HA3.out.on hb4); have HCG := hide (HCF.out.on hb4)
              have l0 := HCG.out.2 0 _ rfl; have l1 := HCG.out.2 1 _ rfl; have l2 := HCG.out.2 2 _ rfl; have l3 := HCG.out.2 3 _ rfl; have l4 := HCG.out.1
              clear hb4 HA3 HB3 hp3 HCF
              cases ok
              · go_wp2
                go_returns
                exact ⟨rfl, hp4⟩
              · have hk := Hok.out
                unfold addOk at hk
                rw [Bool.and_eq_true] at hk
                have HD1 := hide (put_one hk.2)
                have hgr : goodB R.length (dg R) = true := by
                  have e : putD d (Ln (dg L) m) = R := by rw [← HR.out, if_pos rfl]
                  rw [← e, put_row]; exact hk.2
                have HGR := hide hgr
                clear hk hgr
                go_wp2_with fail
                refine (impl_duty d true HD1.out _).mono ?_
                rintro e x5 ⟨rfl, hb5⟩
                have hp5 := below_call hp4 hb5
                have HA5 := hide (HA4.out.on hb5)
                clear hb5 HA4 hp4 HCG l0 l1 l2 l3 l4
                go_wp2_with fail
                refine (impl_good17 A1 R.length c1 (dg R) true HGR.out _ (by omega) hc1 hm1 HA5.out).mono ?_
                rintro e x6 ⟨rfl, hb6⟩
                have hp6 := below_call hp5 hb6
                clear hb6 HA5 hp5
                go_wp2
                go_returns
                exact ⟨rfl, hp6⟩
  · have HB := hide hB; have HM := hide hm
    clear ha hC hB hm
    go_enter Try.func3, Try.ntmps3
    go_wp2_with fail
    refine (r_big A n c true HB.out HM.out _).mono ?_
    rintro e w0 ⟨rfl, rfl⟩
    go_wp2
    go_returns
    exact ⟨rfl, by go_grown⟩
end Go.Proofs.Yteklalbjlmkagaa
