/- Chapter 18: the law on crossings: the walk. Made by gcrogen.py. -/
import Derived.Test.YtbpeamjgddikjaaCrP
import Derived.Test.YtbpeamjgddikjaaFdD
import Derived.Test.YtbpeamjgddikjaaPrsS
import Derived.Test.YtbpeamjgddikjaaPrsI
import Derived.Test.YtbpeamjgddikjaaSsH
import Derived.Test.YtbpeamjgddikjaaRv
import Derived.Deep.DeepCutAuto
import Derived.Deep.CutBlock
namespace Go.Proofs.Ytbpeamjgddikjaa
open Go.RowKit
set_option linter.unusedVariables false
set_option linter.unusedSimpArgs false

set_option maxHeartbeats 1000000 in
theorem r_table (v1 v2 : Value) (b1 b2 : Nat) (ps : List (Int × Int)) (gs1 gs2 : List Nat) (w : World) (hn : ps.length ≤ 1000000) (h1 : MPs w b1 v1 ps gs1) (h2 : MPs w b2 v2 ps gs2) :
    Calls Try.prog 35 #[v1, v2] w fun e w' => e = .returned (.bool true) ∧ Below w.heap.size w w' := by
  obtain ⟨A1, c1, rfl, _, a1⟩ := h1.form
  obtain ⟨A2, c2, rfl, _, a2⟩ := h2.form
  have H1 := hide h1; have H2 := hide h2; have A1' := hide a1; have A2' := hide a2
  clear h1 h2 a1 a2
  obtain ⟨n, hnn⟩ : ∃ n, ps.length = n := ⟨_, rfl⟩
  rw [hnn] at hn A1' A2' ⊢
  go_enter Try.func35, Try.ntmps35
  go_wp2
  go_loopw [5] (fun i wr => ∃ k : Nat, k ≤ n ∧ i = .int .i64 k ∧ Below w.heap.size w wr) (fun i _ => n - (intOf i).toNat)
  case atStart => exact ⟨0, Nat.zero_le _, rfl, by go_grown⟩
  case round =>
    obtain ⟨k, hk, rfl, hbw⟩ := hrel
    by_cases hlt : k < n
    · obtain ⟨b, off, rfl, hbb, hc⟩ := (A1'.out.on hbw) (by omega)
      obtain ⟨b', off', rfl, hbb', hc'⟩ := (A2'.out.on hbw) (by omega)
      have c0 := hc k 0 hlt (by omega); have d0 := hc' k 0 hlt (by omega)
      simp only [Nat.add_zero, Nat.mul_one] at c0 d0
      have x1 := hide ((H1.out.inner (by omega : k < ps.length)).arr1.on hbw); have x2 := hide ((H2.out.inner (by omega : k < ps.length)).arr1.on hbw)
      have hx := BW.cell (w := wr)
      clear hc hc'
      go_wp2
      refine wp_region_bw (by kernel_rfl) (by kernel_rfl) ?_
      repeat (go_big_quiet_step ((first | (go_at_call 69; exact BW.call (r_ints _ _ _ _ _ _ (pcel ps k) (pcel ps k) true (eqX_self _ _ _) _ (by omega) (by omega) (x1.out.on (BW.prop _)) (x2.out.on (BW.prop _)))))))
      refine wpQuiet_end fun w1 hb1 => ?_
      go_wp2
      go_roundw
      case rel => exact ⟨k + 1, by omega, by go_num, hbw.trans (hb1.mono hbw.size)⟩
      case measure => simp [intOf]; omega
    · go_wp2
      go_ret
      exact ⟨rfl, hbw⟩
set_option maxRecDepth 100000 in
set_option maxHeartbeats 8000000 in
theorem walk_FnCrossings (A : Option Addr) (n c : Nat) (C : Nat → Int) (w : World) (hm : n ≤ maxLen) (ha : Arr w w.heap.size A n 1 (bv C)) (hC : ∀ i, i < n → 0 ≤ C i ∧ C i ≤ 255) :
    Calls Try.prog 9 #[.slice A n c] w fun e w' => e = .returned (.bool true) ∧ Below w.heap.size w w' := by
  have hfa := frozen_al; have hfo := frozen_out
  cases hB : decide (65536 < (n : Int))
  · have HC := hide (show CodeOk w A n C from ⟨by rw [decide_eq_false_iff_not] at hB; omega, ha, hC⟩)
    have HM := hide hm; have HB := hide hB
    clear ha hC hm hB
    go_enter Try.func9, Try.ntmps9
    go_wp2_with fail
    refine (r_big A n c false HB.out HM.out _).mono ?_
    rintro e w0 ⟨rfl, rfl⟩
    go_wp2_with fail
    refine (draw_segs A n c C _ (HC.out.on (by go_grown))).mono ?_
    rintro e w1 ⟨a0, a1, b0, b1, c0, c1, d0, d1, rfl, hb1⟩
    have hq1 : Below w.heap.size w w1 := hb1
    obtain ⟨W1, hW1⟩ : ∃ W, W = (((w1.alloc (.cells #[.int .i64 a0, .int .i64 a1] 26)).alloc (.cells #[.int .i64 b0, .int .i64 b1] 26)).alloc (.cells #[.int .i64 c0, .int .i64 c1] 26)).alloc (.cells #[.int .i64 d0, .int .i64 d1] 26) := ⟨_, rfl⟩
    have hz1 : W1.heap.size = w1.heap.size + 1 + 1 + 1 + 1 := by rw [hW1]; simp
    have pa : Blk W1 w1.heap.size 26 #[.int .i64 a0, .int .i64 a1] := by rw [hW1]; exact (((blk_new_atC w1 _ _ _ rfl).alloc _).alloc _).alloc _
    have pb : Blk W1 (w1.heap.size + 1) 26 #[.int .i64 b0, .int .i64 b1] := by rw [hW1]; exact ((blk_new_atC (w1.alloc _) _ _ _ (by simp)).alloc _).alloc _
    have pc : Blk W1 (w1.heap.size + 1 + 1) 26 #[.int .i64 c0, .int .i64 c1] := by rw [hW1]; exact (blk_new_atC ((w1.alloc _).alloc _) _ _ _ (by simp)).alloc _
    have pd : Blk W1 (w1.heap.size + 1 + 1 + 1) 26 #[.int .i64 d0, .int .i64 d1] := by rw [hW1]; exact blk_new_atC (((w1.alloc _).alloc _).alloc _) _ _ _ (by simp)
    have Pa_1 := hide pa; have Pb_1 := hide pb; have Pc_1 := hide pc; have Pd_1 := hide pd
    have HQ1 := hide (show Below w.heap.size w W1 from by rw [hW1]; exact below_al (below_al (below_al (below_al hq1))))
    clear pa pb pc pd hz1
    subst hW1
    have bz2 : Blk ((((w1.alloc (.cells #[.int .i64 a0, .int .i64 a1] 26)).alloc (.cells #[.int .i64 b0, .int .i64 b1] 26)).alloc (.cells #[.int .i64 0, .int .i64 0] 26)).alloc (.cells #[.int .i64 0, .int .i64 0] 26)) (w1.heap.size + 1 + 1) 26 #[.int .i64 0, .int .i64 0] := (blk_new_atC ((w1.alloc _).alloc _) _ _ _ (by simp)).alloc _
    have zf20 : ((((w1.alloc (.cells #[.int .i64 a0, .int .i64 a1] 26)).alloc (.cells #[.int .i64 b0, .int .i64 b1] 26)).alloc (.cells #[.int .i64 0, .int .i64 0] 26)).alloc (.cells #[.int .i64 0, .int .i64 0] 26)).frozen? ⟨w1.heap.size + 1 + 1, 0, none⟩ = false := bz2.frozen 0
    have zc20 : ((((w1.alloc (.cells #[.int .i64 a0, .int .i64 a1] 26)).alloc (.cells #[.int .i64 b0, .int .i64 b1] 26)).alloc (.cells #[.int .i64 0, .int .i64 0] 26)).alloc (.cells #[.int .i64 0, .int .i64 0] 26)).cell? ⟨w1.heap.size + 1 + 1, 0, none⟩ = some (.int .i64 0) := by rw [bz2.cell]; rfl
    have zf21 : ((((w1.alloc (.cells #[.int .i64 a0, .int .i64 a1] 26)).alloc (.cells #[.int .i64 b0, .int .i64 b1] 26)).alloc (.cells #[.int .i64 0, .int .i64 0] 26)).alloc (.cells #[.int .i64 0, .int .i64 0] 26)).frozen? ⟨w1.heap.size + 1 + 1, 1, none⟩ = false := bz2.frozen 1
    have zc21 : ((((w1.alloc (.cells #[.int .i64 a0, .int .i64 a1] 26)).alloc (.cells #[.int .i64 b0, .int .i64 b1] 26)).alloc (.cells #[.int .i64 0, .int .i64 0] 26)).alloc (.cells #[.int .i64 0, .int .i64 0] 26)).cell? ⟨w1.heap.size + 1 + 1, 1, none⟩ = some (.int .i64 0) := by rw [bz2.cell]; rfl
    clear bz2
    have bz3 : Blk ((((w1.alloc (.cells #[.int .i64 a0, .int .i64 a1] 26)).alloc (.cells #[.int .i64 b0, .int .i64 b1] 26)).alloc (.cells #[.int .i64 c0, .int .i64 c1] 26)).alloc (.cells #[.int .i64 0, .int .i64 0] 26)) (w1.heap.size + 1 + 1 + 1) 26 #[.int .i64 0, .int .i64 0] := blk_new_atC (((w1.alloc _).alloc _).alloc _) _ _ _ (by simp)
    have zf30 : ((((w1.alloc (.cells #[.int .i64 a0, .int .i64 a1] 26)).alloc (.cells #[.int .i64 b0, .int .i64 b1] 26)).alloc (.cells #[.int .i64 c0, .int .i64 c1] 26)).alloc (.cells #[.int .i64 0, .int .i64 0] 26)).frozen? ⟨w1.heap.size + 1 + 1 + 1, 0, none⟩ = false := bz3.frozen 0
    have zc30 : ((((w1.alloc (.cells #[.int .i64 a0, .int .i64 a1] 26)).alloc (.cells #[.int .i64 b0, .int .i64 b1] 26)).alloc (.cells #[.int .i64 c0, .int .i64 c1] 26)).alloc (.cells #[.int .i64 0, .int .i64 0] 26)).cell? ⟨w1.heap.size + 1 + 1 + 1, 0, none⟩ = some (.int .i64 0) := by rw [bz3.cell]; rfl
    have zf31 : ((((w1.alloc (.cells #[.int .i64 a0, .int .i64 a1] 26)).alloc (.cells #[.int .i64 b0, .int .i64 b1] 26)).alloc (.cells #[.int .i64 c0, .int .i64 c1] 26)).alloc (.cells #[.int .i64 0, .int .i64 0] 26)).frozen? ⟨w1.heap.size + 1 + 1 + 1, 1, none⟩ = false := bz3.frozen 1
    have zc31 : ((((w1.alloc (.cells #[.int .i64 a0, .int .i64 a1] 26)).alloc (.cells #[.int .i64 b0, .int .i64 b1] 26)).alloc (.cells #[.int .i64 c0, .int .i64 c1] 26)).alloc (.cells #[.int .i64 0, .int .i64 0] 26)).cell? ⟨w1.heap.size + 1 + 1 + 1, 1, none⟩ = some (.int .i64 0) := by rw [bz3.cell]; rfl
    clear bz3
    clear hfa hfo
    obtain ⟨ok, Hok⟩ : ∃ ok, Hid ((segB a0 a1 b0 b1 && segB c0 c1 d0 d1) = ok) := ⟨_, rfl⟩
    obtain ⟨v, Hv⟩ : ∃ v, Hid ((ok && meetB a0 a1 b0 b1 c0 c1 d0 d1) = v) := ⟨_, rfl⟩
    go_wp2_with fail
    refine (impl_segs a0 a1 b0 b1 c0 c1 d0 d1 ok Hok.out v Hv.out _).mono ?_
    rintro e w2 ⟨rfl, hb2⟩
    have hq2 : Below w.heap.size w w2 := below_call HQ1.out hb2
    have hfa := frozen_al; have hfo := frozen_out
    clear zf20 zf21 zc20 zc21 zf30 zf31 zc30 zc31
    have Pa_2 := hide (Pa_1.out.below hb2 Pa_1.out.lt)
    have Pb_2 := hide (Pb_1.out.below hb2 Pb_1.out.lt)
    have Pc_2 := hide (Pc_1.out.below hb2 Pc_1.out.lt)
    have Pd_2 := hide (Pd_1.out.below hb2 Pd_1.out.lt)
    clear Pa_1 Pb_1 Pc_1 Pd_1 hb2 HQ1
    have qa0 := Pa_2.out.cell 0; have qa1 := Pa_2.out.cell 1
    have qb0 := Pb_2.out.cell 0; have qb1 := Pb_2.out.cell 1
    have qc0 := Pc_2.out.cell 0; have qc1 := Pc_2.out.cell 1
    have qd0 := Pd_2.out.cell 0; have qd1 := Pd_2.out.cell 1
    simp at qa0 qa1 qb0 qb1 qc0 qc1 qd0 qd1
    have la := Pa_2.out.lt; have lb := Pb_2.out.lt; have lc := Pc_2.out.lt; have ld := Pd_2.out.lt
    go_wp2_with fail
    refine (spec_segs a0 a1 b0 b1 c0 c1 d0 d1 ok Hok.out v Hv.out _).mono ?_
    rintro e w3 ⟨rfl, hb3⟩
    have hq3 : Below w.heap.size w w3 := below_call (by go_grown) hb3
    have Pa_3 := hide (Pa_2.out.below hb3 Pa_2.out.lt)
    have Pb_3 := hide (Pb_2.out.below hb3 Pb_2.out.lt)
    have Pc_3 := hide (Pc_2.out.below hb3 Pc_2.out.lt)
    have Pd_3 := hide (Pd_2.out.below hb3 Pd_2.out.lt)
    clear Pa_2 Pb_2 Pc_2 Pd_2 hb3
    clear qa0 qa1 qb0 qb1 qc0 qc1 qd0 qd1 la lb lc ld
    have qa0 := Pa_3.out.cell 0; have qa1 := Pa_3.out.cell 1
    have qb0 := Pb_3.out.cell 0; have qb1 := Pb_3.out.cell 1
    have qc0 := Pc_3.out.cell 0; have qc1 := Pc_3.out.cell 1
    have qd0 := Pd_3.out.cell 0; have qd1 := Pd_3.out.cell 1
    simp at qa0 qa1 qb0 qb1 qc0 qc1 qd0 qd1
    have la := Pa_3.out.lt; have lb := Pb_3.out.lt; have lc := Pc_3.out.lt; have ld := Pd_3.out.lt
    go_upto_if 69 with fail
    go_cut [2] (fun s2 wx => s2 = .bool false ∧ Below w3.heap.size w3 wx)
    case first =>
      as_aux_lemma =>
        cases ok
        · go_wp2_with fail
          go_meet
          exact ⟨rfl, by go_grown⟩
        · have hok := Hok.out
          have hv := Hv.out
          rw [Bool.and_eq_true] at hok
          rw [Bool.true_and] at hv
          have H4 := hide (show (segB d0 d1 c0 c1 && segB a0 a1 b0 b1) = true by rw [seg_swap c0 c1 d0 d1, hok.1, hok.2]; rfl)
          have H5 := hide (show (true && meetB d0 d1 c0 c1 a0 a1 b0 b1) = v by rw [Bool.true_and, meet_turn]; exact hv)
          have H6 := hide (show (segB b0 b1 a0 a1 && segB c0 c1 d0 d1) = true by rw [seg_swap a0 a1 b0 b1, hok.1, hok.2]; rfl)
          have H7 := hide (show (true && meetB b0 b1 a0 a1 c0 c1 d0 d1) = v by rw [Bool.true_and, meet_flip]; exact hv)
          obtain ⟨t, Ht⟩ : ∃ t, Hid ((segB a0 a1 b0 b1 && segB b0 b1 c0 c1) = t) := ⟨_, rfl⟩
          have H8 := hide (show (t && meetB a0 a1 b0 b1 b0 b1 c0 c1) = t by rw [meet_common, Bool.and_true])
          clear hok hv
          go_wp2_with fail
          refine (impl_segs d0 d1 c0 c1 a0 a1 b0 b1 true H4.out v H5.out _).mono ?_
          rintro e w4 ⟨rfl, hb4⟩
          have hr4 : Below w3.heap.size w3 w4 := hb4
          have Pa_4 := hide (Pa_3.out.below hb4 Pa_3.out.lt)
          have Pb_4 := hide (Pb_3.out.below hb4 Pb_3.out.lt)
          have Pc_4 := hide (Pc_3.out.below hb4 Pc_3.out.lt)
          have Pd_4 := hide (Pd_3.out.below hb4 Pd_3.out.lt)
          clear Pa_3 Pb_3 Pc_3 Pd_3
          clear qa0 qa1 qb0 qb1 qc0 qc1 qd0 qd1 la lb lc ld
          have qa0 := Pa_4.out.cell 0; have qa1 := Pa_4.out.cell 1
          have qb0 := Pb_4.out.cell 0; have qb1 := Pb_4.out.cell 1
          have qc0 := Pc_4.out.cell 0; have qc1 := Pc_4.out.cell 1
          have qd0 := Pd_4.out.cell 0; have qd1 := Pd_4.out.cell 1
          simp at qa0 qa1 qb0 qb1 qc0 qc1 qd0 qd1
          have la := Pa_4.out.lt; have lb := Pb_4.out.lt; have lc := Pc_4.out.lt; have ld := Pd_4.out.lt
          go_wp2_with fail
          refine (impl_segs b0 b1 a0 a1 c0 c1 d0 d1 true H6.out v H7.out _).mono ?_
          rintro e w5 ⟨rfl, hb5⟩
          have hr5 : Below w3.heap.size w3 w5 := below_call hr4 hb5
          have Pa_5 := hide (Pa_4.out.below hb5 Pa_4.out.lt)
          have Pb_5 := hide (Pb_4.out.below hb5 Pb_4.out.lt)
          have Pc_5 := hide (Pc_4.out.below hb5 Pc_4.out.lt)
          have Pd_5 := hide (Pd_4.out.below hb5 Pd_4.out.lt)
          clear Pa_4 Pb_4 Pc_4 Pd_4
          clear qa0 qa1 qb0 qb1 qc0 qc1 qd0 qd1 la lb lc ld
          have qa0 := Pa_5.out.cell 0; have qa1 := Pa_5.out.cell 1
          have qb0 := Pb_5.out.cell 0; have qb1 := Pb_5.out.cell 1
          have qc0 := Pc_5.out.cell 0; have qc1 := Pc_5.out.cell 1
          have qd0 := Pd_5.out.cell 0; have qd1 := Pd_5.out.cell 1
          simp at qa0 qa1 qb0 qb1 qc0 qc1 qd0 qd1
          have la := Pa_5.out.lt; have lb := Pb_5.out.lt; have lc := Pc_5.out.lt; have ld := Pd_5.out.lt
          go_wp2_with fail
          refine (impl_segs a0 a1 b0 b1 b0 b1 c0 c1 t Ht.out t H8.out _).mono ?_
          rintro e w6 ⟨rfl, hb6⟩
          have hr6 : Below w3.heap.size w3 w6 := below_call hr5 hb6
          cases t
          · go_wp2_with fail
            go_meet
            exact ⟨rfl, hr6⟩
          · go_wp2_with fail
            go_meet
            exact ⟨rfl, hr6⟩
    case rest =>
      obtain ⟨rfl, hqc⟩ := hcut
      obtain ⟨w7, rfl⟩ : ∃ x, x = wc := ⟨_, rfl⟩
      have hq7 : Below w.heap.size w w7 := below_call hq3 hqc
      clear hqc Hok Hv Pa_3 Pb_3 Pc_3 Pd_3 qa0 qa1 qb0 qb1 qc0 qc1 qd0 qd1 la lb lc ld
      go_wp2_with fail
      refine (draw_pairs A n c C _ (HC.out.on (by go_grown))).mono ?_
      rintro e w8 ⟨g, cap, q, top, L, rfl, hq8l, hb8, hfs⟩
      have hq8 : Below w.heap.size w w8 := below_call hq7 hb8
      have hcap := hfs.caps
      have HFS := hide hfs
      clear hfs hb8
      obtain ⟨u, Hu⟩ : ∃ u, Hid (fausB q (fE L) = u) := ⟨_, rfl⟩
      obtain ⟨ps, HPS⟩ : ∃ ps, Hid ((if u = true then allP (fE L) q q else []) = ps) := ⟨_, rfl⟩
      have hlen : ps.length ≤ 1000000 := by
        rw [← HPS.out]
        split
        · have a1 := allP_len (fE L) q q
          have a3 : q * q ≤ 8 * 8 := Nat.mul_le_mul hq8l hq8l
          omega
        · simp
      go_wp2_with fail
      refine (impl_pairs _ q cap (fE L) (fQ L) u Hu.out ps HPS.out _ (by omega) hcap.1 hcap.2 HFS.out.bd HFS.out.list).mono ?_
      rintro e w9 ⟨v0, gs0, rfl, hb9, hm0⟩
      have hq9 : Below w.heap.size w w9 := below_call hq8 hb9
      have HF9 := hide (HFS.out.below hb9)
      have HM9 := hide hm0
      clear hm0 hb9 HFS
      go_wp2_with fail
      refine (spec_pairs _ q cap (fE L) (fQ L) u Hu.out ps HPS.out _ (by omega) HF9.out.bd HF9.out.list).mono ?_
      rintro e w10 ⟨v1, gs1, rfl, hb10, hm1⟩
      have hq10 : Below w.heap.size w w10 := below_call hq9 hb10
      have HF10 := hide (HF9.out.below hb10)
      have HM10 := hide (HM9.out.below hb10)
      have HN10 := hide hm1
      clear hm1 hb10 HF9 HM9
      go_wp2_with fail
      refine (r_table v0 v1 _ _ ps gs0 gs1 _ hlen HM10.out HN10.out).mono ?_
      rintro e w11 ⟨rfl, hb11⟩
      have hq11 : Below w.heap.size w w11 := below_call hq10 hb11
      have HF11 := hide (HF10.out.below hb11)
      clear hb11 HF10 HM10 HN10
      go_wp2_with fail
      refine (impl_faus _ q cap (fE L) (fQ L) u Hu.out _ (by omega) HF11.out.bd HF11.out.list).mono ?_
      rintro e w12 ⟨rfl, hb12⟩
      have hq12 : Below w.heap.size w w12 := below_call hq11 hb12
      clear hb12 HF11 HPS Hu hlen hcap hq8l
      go_wp2_with fail
      refine (draw_near A n c C _ (HC.out.on (by go_grown))).mono ?_
      rintro e w13 ⟨g, cap, q, top, L, x, y, rfl, hq8l, hb13, hfs⟩
      have hq13 : Below w.heap.size w w13 := below_call (by go_grown) hb13
      have HFS := hide hfs
      clear hfs hb13
      obtain ⟨v, Hv⟩ : ∃ v, Hid (nbOk q (fE L) x y = v) := ⟨_, rfl⟩
      obtain ⟨a, Ha⟩ : ∃ a, Hid (onlyI v (nbF (fE L) x y q).1 = a) := ⟨_, rfl⟩
      obtain ⟨b, Hb⟩ : ∃ a, Hid (onlyI v (nbF (fE L) x y q).2.1 = a) := ⟨_, rfl⟩
      go_wp2_with fail
      refine (impl_near _ q cap (fE L) (fQ L) x y v Hv.out a b Ha.out Hb.out _ (by omega) HFS.out.bd HFS.out.list).mono ?_
      rintro e w14 ⟨rfl, hb14⟩
      have hq14 : Below w.heap.size w w14 := below_call hq13 hb14
      have HF14 := hide (HFS.out.below hb14)
      clear hb14 HFS
      go_wp2_with fail
      refine (spec_near _ q cap (fE L) (fQ L) x y v Hv.out a b Ha.out Hb.out _ (by omega) HF14.out.bd HF14.out.list).mono ?_
      rintro e w15 ⟨rfl, hb15⟩
      have hq15 : Below w.heap.size w w15 := below_call hq14 hb15
      have HF15 := hide (HF14.out.below hb15)
      clear hb15 HF14
      cases v
      · go_wp2
        go_loopw [31] (fun i wr => i = .int .i64 0 ∧ wr = w15) (fun _ _ => 0)
        case atStart => exact ⟨rfl, rfl⟩
        case round =>
          obtain ⟨rfl, rfl⟩ := hrel
          by_cases h0 : q = 0
          · subst h0
            go_wp2
            go_returns
            exact ⟨rfl, hq15⟩
          · have h1 : decide ((0 : Int) < (q : Int)) = true := decide_eq_true (by omega)
            have h2 : decide (0 < q) = true := decide_eq_true (by omega)
            go_wp2
            go_returns
            exact ⟨rfl, hq15⟩
      · have hvv := Hv.out
        have haa := Ha.out; have hbb := Hb.out
        simp only [onlyI, if_true] at haa hbb
        have HNL := hide (fun (i : Nat) (hi : i < q) (hid : (fE L i).id = a) => near_law hvv hi (hid.trans haa.symm))
        obtain ⟨hfb, hpl⟩ : fausB q (fE L) = true ∧ plB x y = true := by
          have h := hvv
          simp only [nbOk, Bool.and_eq_true] at h
          exact ⟨h.1, h.2.2⟩
        obtain ⟨_, hok, _⟩ := fausB_of hfb
        have HOK := hide hok
        have hpx := pl_of hpl
        have HPX := hide hpx
        have HBB := hide hbb
        have HLS := hide HF15.out.list
        have HBD := hide HF15.out.bd
        clear hvv haa hbb hfb hpl hok hpx Ha Hb Hv HF15
        go_wp2
        go_loopw [31] (fun i wr => ∃ k : Nat, k ≤ q ∧ i = .int .i64 k ∧ Below w15.heap.size w15 wr) (fun i _ => q - (intOf i).toNat)
        case atStart => exact ⟨0, Nat.zero_le _, rfl, Below.refl _ _⟩
        case round =>
          obtain ⟨k, hk, rfl, hbw⟩ := hrel
          by_cases hlt : k < q
          · obtain ⟨b0, off, hA, hbl, hc⟩ := (HLS.out.on hbw).arr (by omega)
            injection hA with hA
            injection hA with hA1 hA2
            subst hA1 hA2
            obtain ⟨c0, c1, c2, c3⟩ := loads4 (A := none) hlt hc
            rw [fcv0] at c0; rw [fcv1] at c1; rw [fcv2] at c2; rw [fcv3] at c3
            simp only [Nat.zero_add] at c0 c1 c2 c3
            by_cases hid : (fE L k).id = a
            · obtain ⟨j, hj, hbj, hnr⟩ := HNL.out k hlt hid
              rw [HBB.out] at hbj
              subst hbj
              have HNR := hide hnr
              have hm1 := (HBD.out k hlt).2
              obtain ⟨b2, off2, hA2, hbb2, hc2⟩ := ((HLS.out.on hbw).deep k hlt) (by omega)
              have d0 := hc2 j 0 hj (by omega); have d1 := hc2 j 1 hj (by omega)
              simp only [Nat.add_zero, iv] at d0 d1
              rw [hA2] at c2
              obtain ⟨px, hpx⟩ : ∃ p, (fE L k).Y j 0 = p := ⟨_, rfl⟩
              obtain ⟨py, hpy⟩ : ∃ p, (fE L k).Y j 1 = p := ⟨_, rfl⟩
              have hpp := fau_pl (HOK.out k hlt).1 j hj
              rw [hpx, hpy] at hpp
              rw [hpx] at d0; rw [hpy] at d1
              have HPP := hide hpp
              have HNR2 := hide (show ∀ a b, a < q → b < (fE L a).m → sqI px py x y ≤ sqI ((fE L a).Y b 0) ((fE L a).Y b 1) x y from fun a b h1 h2 => by rw [← hpx, ← hpy]; exact HNR.out a b h1 h2)
              have HBW := hide hbw
              have HP := hide (Blk.new wr 26 #[.int .i64 px, .int .i64 py])
              have hjm : (0 : Int) ≤ (j : Int) := by omega
              have hjm2 : (j : Int) < ((fE L k).m : Int) := by omega
              rw [hid] at c0
              obtain ⟨wo, rfl⟩ : ∃ x, x = wr := ⟨_, rfl⟩
              clear hc hc2 hnr HNR hpx hpy hpp hid
              go_wp2
              go_loopw [33] (fun i wx => ∃ k2 : Nat, k2 ≤ q ∧ i = .int .i64 k2 ∧ Below wo.heap.size wo wx ∧ wo.heap.size < wx.heap.size ∧ Blk wx wo.heap.size 26 #[.int .i64 px, .int .i64 py]) (fun i _ => q - (intOf i).toNat)
              case atStart => exact ⟨0, Nat.zero_le _, rfl, below_al (Below.refl _ _), by simp, HP.out⟩
              case round =>
                clear c0 c1 c2 c3 d0 d1 HP hbw
                obtain ⟨k2, hk2, rfl, hbx, hzx, hpb⟩ := hrel
                have HPB := hide hpb
                by_cases hlt2 : k2 < q
                · obtain ⟨wp, rfl⟩ : ∃ x, x = wr := ⟨_, rfl⟩
                  have HBX := hide hbx
                  have hm2 := (HBD.out k2 hlt2).2
                  clear hpb hbx
                  go_wp2
                  go_loopw [34] (fun i wx => ∃ k3 : Nat, k3 ≤ (fE L k2).m ∧ i = .int .i64 k3 ∧ Below wo.heap.size wo wx ∧ wo.heap.size < wx.heap.size ∧ Blk wx wo.heap.size 26 #[.int .i64 px, .int .i64 py]) (fun i _ => (fE L k2).m - (intOf i).toNat)
                  case atStart => exact ⟨0, Nat.zero_le _, rfl, HBX.out, hzx, HPB.out⟩
                  case round =>
                    clear HBX HPB hzx
                    obtain ⟨k3, hk3, rfl, hbx, hzx, hpb⟩ := hrel
                    have hbz := below_call HBW.out hbx
                    obtain ⟨b0, off, hA, hbl2, hc⟩ := (HLS.out.on hbz).arr (by omega)
                    injection hA with hA
                    injection hA with hA1 hA2
                    subst hA1 hA2
                    obtain ⟨c0, c1, c2, c3⟩ := loads4 (A := none) hlt2 hc
                    rw [fcv0] at c0; rw [fcv1] at c1; rw [fcv2] at c2; rw [fcv3] at c3
                    simp only [Nat.zero_add] at c0 c1 c2 c3
                    have HBX := hide hbx; have HPB := hide hpb
                    clear hc
                    by_cases hlt3 : k3 < (fE L k2).m
                    · obtain ⟨b2, off2, hA2, hbb2, hc2⟩ := ((HLS.out.on hbz).deep k2 hlt2) (by omega)
                      have d0 := hc2 k3 0 hlt3 (by omega); have d1 := hc2 k3 1 hlt3 (by omega)
                      simp only [Nat.add_zero, iv] at d0 d1
                      rw [hA2] at c2
                      have hnr := HNR2.out k2 k3 hlt2 hlt3
                      have hqq := fau_pl (HOK.out k2 hlt2).1 k3 hlt3
                      obtain ⟨qx, hqx⟩ : ∃ p, (fE L k2).Y k3 0 = p := ⟨_, rfl⟩
                      obtain ⟨qy, hqy⟩ : ∃ p, (fE L k2).Y k3 1 = p := ⟨_, rfl⟩
                      rw [hqx] at d0 hqq hnr; rw [hqy] at d1 hqq hnr
                      unfold sqI at hnr
                      obtain ⟨u1, u2, u3, u4⟩ := hqq
                      obtain ⟨t1, t2, t3, t4⟩ := HPP.out
                      obtain ⟨s1, s2, s3, s4⟩ := HPX.out
                      have m1 := mul_bd (a := qx - x) (b := qx - x) (by omega) (by omega) (by omega) (by omega)
                      have m2 := mul_bd (a := qy - y) (b := qy - y) (by omega) (by omega) (by omega) (by omega)
                      have m3 := mul_bd (a := px - x) (b := px - x) (by omega) (by omega) (by omega) (by omega)
                      have m4 := mul_bd (a := py - y) (b := py - y) (by omega) (by omega) (by omega) (by omega)
                      have hcmp : decide ((qx - x) * (qx - x) + (qy - y) * (qy - y) < (px - x) * (px - x) + (py - y) * (py - y)) = false := decide_eq_false (by omega)
                      have hcm2 : ¬ (qx - x) * (qx - x) + (qy - y) * (qy - y) < (px - x) * (px - x) + (py - y) * (py - y) := by omega
                      have HB1 := hide (Blk.alloc hpb (.cells #[.int .i64 qx, .int .i64 qy] 26))
                      have g0 := HB1.out.cell 0; have g1 := HB1.out.cell 1
                      have e0 : (wr.alloc (.cells #[.int .i64 qx, .int .i64 qy] 26)).cell? ⟨wr.heap.size, 0, none⟩ = some (.int .i64 qx) := by rw [(Blk.new wr 26 #[.int .i64 qx, .int .i64 qy]).cell]; rfl
                      have e1 : (wr.alloc (.cells #[.int .i64 qx, .int .i64 qy] 26)).cell? ⟨wr.heap.size, 1, none⟩ = some (.int .i64 qy) := by rw [(Blk.new wr 26 #[.int .i64 qx, .int .i64 qy]).cell]; rfl
                      simp only [List.getElem?_toArray, List.getElem?_cons_zero, List.getElem?_cons_succ] at g0 g1
                      have hk30 : (0 : Int) ≤ (k3 : Int) := by omega
                      have hk31 : (k3 : Int) < ((fE L k2).m : Int) := by omega
                      clear hc2 hnr hpb hqx hqy
                      go_wp2
                      go_roundw
                      case rel => exact ⟨k3 + 1, by omega, by go_num, below_al HBX.out, by simp only [World.size_alloc]; omega, HB1.out⟩
                      case measure => simp [intOf]; omega
                    · obtain rfl : k3 = (fE L k2).m := by omega
                      go_wp2
                      go_roundw
                      case rel => exact ⟨k2 + 1, by omega, by go_num, HBX.out, hzx, HPB.out⟩
                      case measure => simp [intOf]; omega
                · obtain rfl : k2 = q := by omega
                  go_wp2
                  go_roundw
                  case rel => exact ⟨k + 1, by omega, by go_num, below_call HBW.out hbx⟩
                  case measure => simp [intOf]; omega
            · have hid2 : ((fE L k).id == a) = false := by simp [hid]
              clear hc
              go_wp2
              go_roundw
              case rel => exact ⟨k + 1, by omega, by go_num, hbw⟩
              case measure => simp [intOf]; omega
          · obtain rfl : k = q := by omega
            go_wp2
            go_returns
            exact ⟨rfl, below_call hq15 hbw⟩
  · have HB := hide hB; have HM := hide hm
    clear ha hC hB hm
    go_enter Try.func9, Try.ntmps9
    go_wp2_with fail
    refine (r_big A n c true HB.out HM.out _).mono ?_
    rintro e w0 ⟨rfl, rfl⟩
    go_wp2
    go_returns
    exact ⟨rfl, by go_grown⟩
end Go.Proofs.Ytbpeamjgddikjaa
