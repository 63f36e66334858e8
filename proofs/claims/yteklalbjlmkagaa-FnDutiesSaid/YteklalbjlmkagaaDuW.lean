/- Chapter 17: the draw of duties. -/
import Derived.Test.YteklalbjlmkagaaDuV
import Derived.Test.YteklalbjlmkagaaApp
namespace Go.Proofs.Yteklalbjlmkagaa
open Go.RowKit
set_option linter.unusedVariables false
set_option linter.unusedSimpArgs false

set_option maxHeartbeats 8000000 in
set_option maxRecDepth 100000 in
theorem spec_duties (cb : Nat) (K : Code) (M : Nat) (w : World) (hM : M ≤ 800000000000) (h : Cur w cb K M) :
    Calls Try.prog 32 #[.pointer (some ⟨cb, 0, none⟩)] w fun e w' => ∃ (g cap m : Nat) (L : List Du), e = .returned (.slice (some ⟨g, 0, none⟩) m cap) ∧ L.length = m ∧ DrwL L ∧ w'.ownsRow w.heap.size 39 4 (.slice (some ⟨g, 0, none⟩) m cap) m (L.flatMap dC) ∧ Drawn w cb K (M + 240) w' := by
  have hcb := h.lt
  obtain ⟨i0, hi0, hy0, hy1, hy2⟩ := info_parts info_duty
  have HR0 := hide (row_new_at w w.heap.size w.heap.size 4 39 rfl (Nat.le_refl _))
  go_enter Try.func32, Try.ntmps32
  go_wp2_with fail
  refine (spec_pick cb K M 14 _ (by omega) (by omega) (h.alloc _)).mono ?_
  rintro e w1 ⟨x, rfl, x0, x1, _, hd1⟩
  have hx14 := x1 (by omega)
  have hd1c := hd1.2
  have HG1 := hide (show w.grownBy w1 (some cb) from World.grownBy.trans (by (repeat (first | with_reducible assumption | (with_reducible refine World.grownBy.trans ?_ (World.grownBy_alloc _ _ _)) | (with_reducible refine grown_setNew ?_ (by (first | with_reducible assumption | omega | (simp; done) | (simp; omega))) _) | with_reducible exact grown_refl _ _))) hd1.1)
  have HC1 := hide hd1c
  have HR1 := hide (row_drawnD HR0.out hd1.1 hcb)
  clear hd1 HR0 h hd1c
  go_wp2
  go_loopw [3, 4] (fun v y wr => ∃ (k : Int) (g cap m : Nat) (L : List Du), 0 ≤ k ∧ k ≤ x ∧ y = .int .i64 k ∧ v = .slice (some ⟨g, 0, none⟩) m cap ∧ L.length = m ∧ goodB m (dg L) = true ∧ wr.ownsRow w.heap.size 39 4 (.slice (some ⟨g, 0, none⟩) m cap) m (L.flatMap dC) ∧ w.grownBy wr (some cb) ∧ Cur wr cb K (M + 2 + 14 * (x - k).toNat)) (fun _ y _ => (intOf y).toNat)
  case atStart => exact ⟨x, w.heap.size, 0, 0, [], x0, Int.le_refl _, rfl, rfl, rfl, by decide, HR1.out, HG1.out, HC1.out.more (by omega)⟩
  case round =>
    clear HR1 HG1 HC1
    obtain ⟨k, g, cap, m, L, k0, kx, rfl, rfl, hl, hg, hrow, hgr, hcu⟩ := hrel
    have HL := hide hl; have HGD := hide hg; have HRW := hide hrow; have HG := hide hgr; have HC := hide hcu
    have hm12 := (good_of hg).1
    clear hl hg hrow hgr hcu
    by_cases hk : 0 < k
    · go_wp2_with fail
      refine (spec_dutyD cb K (M + 2 + 14 * (x - k).toNat) _ (by omega) HC.out).mono ?_
      rintro e w2 ⟨d, rfl, hwd, hd2⟩
      have hd2c := hd2.2
      have HG2 := hide (HG.out.trans hd2.1); have HC2 := hide hd2c
      have HR2 := hide (row_drawnD HRW.out hd2.1 hcb)
      have HWD := hide hwd
      clear hd2 hd2c HRW HG HC hwd
      obtain ⟨hmc, hcm⟩ := row_capsD HR2.out
      have HA2 := hide (arr_row HR2.out HL.out)
      obtain ⟨ok, hok⟩ : ∃ ok, addOk m (dg L) d = ok := ⟨_, rfl⟩
      have HOK := hide hok
      clear hok
      go_wp2_with fail
      refine (spec_add g m cap (dg L) d ok HOK.out _ rfl _ (by omega) hmc HA2.out).mono ?_
      rintro e w3 ⟨V, rfl, hb3, hr3⟩
      have HG3 := hide (grown_belowD HG2.out hb3)
      have HC3 := hide (HC2.out.on hb3)
      have HR3 := hide (row_below HR2.out hb3)
      have HV3 := hide (row_base hr3 HG2.out.size)
      clear hb3 hr3 HG2 HC2 HR2 HA2
      cases ok
      · go_wp2
        go_roundw
        case rel => exact ⟨k - 1, g, cap, m, L, by omega, by omega, by first | rfl | go_num, rfl, HL.out, HGD.out, HR3.out, HG3.out, HC3.out.more (by omega)⟩
        case measure => simp [intOf]; omega
      · have hv3 := HV3.out
        rw [if_pos rfl, put_row] at hv3
        obtain ⟨g3, cap3, rfl⟩ := row_formD hv3 (Nat.succ_pos _)
        have hll : Ln (dg L) m = L := by rw [← HL.out]; exact Ln_dg L
        rw [hll] at hv3
        have H3 := hide hv3
        have HG4 := hide (show goodB (m + 1) (dg (putD d L)) = true by
          have := HOK.out
          rw [addOk, hll] at this
          exact (Bool.and_eq_true_iff.1 this).2)
        clear hv3 hll HV3
        go_wp2
        go_roundw
        case rel => exact ⟨k - 1, g3, cap3, m + 1, putD d L, by omega, by omega, by first | rfl | go_num, by first | rfl | simp, by rw [putD_len, HL.out], HG4.out, H3.out, HG3.out, HC3.out.more (by omega)⟩
        case measure => simp [intOf]; omega
    · obtain rfl : k = 0 := by omega
      have hdl := hide ((drw_good (L := L) (by rw [HL.out]; exact HGD.out)).2)
      go_wp2_with fail
      refine (spec_pick cb K (M + 2 + 14 * (x - 0).toNat) 24 _ (by omega) (by omega) HC.out).mono ?_
      rintro e w2 ⟨y, rfl, y0, _, _, hd2⟩
      have hd2c := hd2.2
      have HG2 := hide (HG.out.trans hd2.1); have HC2 := hide hd2c
      have HR2 := hide (row_drawnD HRW.out hd2.1 hcb)
      clear hd2 hd2c HRW HG HC
      by_cases e0 : y = 0
      · subst e0
        go_wp2_with fail
        refine (spec_dutyD cb K (M + 2 + 14 * (x - 0).toNat + 2) _ (by omega) HC2.out).mono ?_
        rintro e w3 ⟨d, rfl, hwd, hd3⟩
        have hd3c := hd3.2
        have HG3 := hide (HG2.out.trans hd3.1); have HC3 := hide hd3c
        have HR3 := hide (row_drawnD HR2.out hd3.1 hcb)
        have HWD := hide hwd
        have hz3 := HG3.out.size
        clear hd3 hd3c HG2 HC2 HR2 hwd
        go_wp2_with (at_builtin; refine wpList_append_far _ rfl _ _ 24 rfl w.heap.size 39 i0 (.agg #[.int .i64 0, .int .i64 0, .int .i64 0, .bool false]) 4 32 Try.underlying24 hi0 hy0 hy1 hy2 rfl (by decide) _ _ _ (by rfl) (HR3.out.alloc _) ⟨w3.heap.size, 0, none⟩ 1 1 (dC d) (by rfl) rfl (cells_at _ _ _ _ rfl) (dC_one _) (by unfold maxLen; omega) (by omega) (by simp only [World.size_alloc]; omega) ?_; intro v6 w6 hown6 hgrow6 _; obtain ⟨g6, cap6, rfl⟩ := row_formD hown6 (Nat.succ_pos _))
        rw [flat_snoc] at hown6
        have hlt3 := HR3.out.lt
        have hfar : ∀ gg, some g = some gg → w.heap.size ≤ gg := fun gg e => by injection e with e; subst e; exact (hlt3 g rfl).1
        have H6 := hide hown6
        have HG6 := hide (grown_newD (HG3.out.trans (World.grownBy_alloc _ _ _)) hgrow6 hfar)
        have HC6 := hide ((HC3.out.alloc _).apartD hgrow6 (fun gg e => by have := hfar gg e; omega))
        clear hown6 hgrow6 hlt3 hfar HG3 HC3 HR3
        go_wp2
        go_returns
        exact ⟨g6, cap6, m + 1, L ++ [d], rfl, by simp [HL.out], drw_snoc hdl.out (by rw [HL.out]; exact hm12) HWD.out, H6.out, HG6.out, HC6.out.more (by omega)⟩
      · have b0 : (y == 0) = false := by simp [e0]
        by_cases e1 : y = 1
        · subst e1
          have HN0 := hide (row_base (row_new_at w2 w2.heap.size w2.heap.size 4 39 rfl (Nat.le_refl _)) HG2.out.size)
          have HGN := hide (show w.grownBy (w2.alloc (.cells #[] 39)) (some cb) from HG2.out.trans (World.grownBy_alloc _ _ _))
          have HCN := hide (HC2.out.alloc (.cells #[] 39))
          clear HR2 HG2 HC2 HL HGD hdl
          go_wp2
          go_loopw [3, 7] (fun v z wr => ∃ (k g cap : Nat), k ≤ 13 ∧ z = .int .i64 k ∧ v = .slice (some ⟨g, 0, none⟩) k cap ∧ wr.ownsRow w.heap.size 39 4 (.slice (some ⟨g, 0, none⟩) k cap) k ((fixD k).flatMap dC) ∧ w.grownBy wr (some cb) ∧ Cur wr cb K (M + 200 + 2 * k)) (fun _ z _ => 13 - (intOf z).toNat)
          case atStart => exact ⟨0, _, _, by omega, rfl, rfl, HN0.out, HGN.out, HCN.out.more (by omega)⟩
          case round =>
            clear HN0 HGN HCN
            obtain ⟨k, g, cap, hk, rfl, rfl, hrow, hgr, hcu⟩ := hrel
            have HRW := hide hrow; have HG := hide hgr; have HC := hide hcu
            clear hrow hgr hcu
            go_wp2_with fail
            refine (spec_pick cb K (M + 200 + 2 * k) 2 _ (by omega) (by omega) HC.out).mono ?_
            rintro e w3 ⟨p, rfl, p0, p1, _, hd3⟩
            have hp2 := p1 (by omega)
            have hd3c := hd3.2
            have HG3 := hide (HG.out.trans hd3.1); have HC3 := hide hd3c
            have HR3 := hide (row_drawnD HRW.out hd3.1 hcb)
            have hz3 := HG3.out.size
            have hwp : IntKind.i64.wrap (12 + p) = 12 + p := IntWalk.i64_in _ (by omega)
            clear hd3 hd3c HG HC HRW
            by_cases hlt : (k : Int) < 12 + p
            · have hwk : IntKind.i64.wrap ((k : Int) + 1) = (k : Int) + 1 := IntWalk.i64_in _ (by omega)
              go_wp2_with (at_builtin; refine wpList_append_far _ rfl _ _ 24 rfl w.heap.size 39 i0 (.agg #[.int .i64 0, .int .i64 0, .int .i64 0, .bool false]) 4 32 Try.underlying24 hi0 hy0 hy1 hy2 rfl (by decide) _ _ _ (by rfl) (HR3.out.alloc _) ⟨w3.heap.size, 0, none⟩ 1 1 (dC ⟨(k : Int) + 1, 5, 9, false⟩) (by rfl) rfl (cells_at _ _ _ _ rfl) (dC_one _) (by unfold maxLen; omega) (by omega) (by simp only [World.size_alloc]; omega) ?_; intro v6 w6 hown6 hgrow6 _; obtain ⟨g6, cap6, rfl⟩ := row_formD hown6 (Nat.succ_pos _))
              rw [flat_snoc, ← fixD_succ] at hown6
              have hlt3 := HR3.out.lt
              have hfar : ∀ gg, some g = some gg → w.heap.size ≤ gg := fun gg e => by injection e with e; subst e; exact (hlt3 g rfl).1
              have H6 := hide hown6
              have HG6 := hide (grown_newD (HG3.out.trans (World.grownBy_alloc _ _ _)) hgrow6 hfar)
              have HC6 := hide ((HC3.out.alloc _).apartD hgrow6 (fun gg e => by have := hfar gg e; omega))
              clear hown6 hgrow6 hlt3 hfar HG3 HC3 HR3
              go_wp2
              go_roundw
              case rel => exact ⟨k + 1, g6, cap6, by omega, by first | rfl | go_num, rfl, H6.out, HG6.out, HC6.out.more (by omega)⟩
              case measure => simp [intOf]; omega
            · go_wp2
              go_returns
              exact ⟨g, cap, k, fixD k, rfl, fixD_len k, fixD_drw hk, HR3.out, HG3.out, HC3.out.more (by omega)⟩
        · have b1 : (y == 1) = false := by simp [e1]
          go_wp2
          go_returns
          exact ⟨g, cap, m, L, rfl, HL.out, hdl.out, HR2.out, HG2.out, HC2.out.more (by omega)⟩
end Go.Proofs.Yteklalbjlmkagaa
