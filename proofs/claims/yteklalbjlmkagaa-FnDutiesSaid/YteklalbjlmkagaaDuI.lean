/- Chapter 17: GapsBetween: the program's side. -/
import Derived.Test.YteklalbjlmkagaaDuH
namespace Go.Proofs.Yteklalbjlmkagaa
open Go.RowKit
set_option linter.unusedVariables false
set_option linter.unusedSimpArgs false

theorem cov_len {D : Nat → Du} {n : Nat} {h : Int} : covB D h n = decide (0 < ((Ln D n).filter (hasB h)).length) := by
  unfold covB
  refine decide_eq_decide.2 ?_
  rw [List.length_pos_iff_exists_mem]
  constructor
  · rintro ⟨i, hi, e⟩
    exact ⟨D i, List.mem_filter.2 ⟨mem_Ln.2 ⟨i, hi, rfl⟩, e⟩⟩
  · rintro ⟨d, hd⟩
    rw [List.mem_filter] at hd
    obtain ⟨i, hi, e⟩ := mem_Ln.1 hd.1
    exact ⟨i, hi, by rw [e]; exact hd.2⟩
theorem gI_cov {n : Nat} {D : Nat → Du} {f : Int} {k : Nat} (h : covB D (f + k) n = true) : gI n D f (k + 1) = gI n D f k := by
  unfold gI
  rw [gS, if_pos h]
  split
  · next h0 => rfl
  · next h0 => rfl
theorem gI_ext {n : Nat} {D : Nat → Du} {f : Int} {k : Nat} (h : covB D (f + k) n = false) (h0 : 0 ≤ (gS n D f k).2) (hf : 0 ≤ f) :
    gI n D f k = (gS n D f k).1 ++ [((gS n D f k).2, f + k)] ∧ gI n D f (k + 1) = (gS n D f k).1 ++ [((gS n D f k).2, f + k + 1)] := by
  have e : gS n D f (k + 1) = gS n D f k := by rw [gS, h, if_neg Bool.false_ne_true, if_neg (by omega)]
  unfold gI
  rw [e, if_pos h0, if_pos h0]
  refine ⟨rfl, ?_⟩
  rw [show f + ((k + 1 : Nat) : Int) = f + k + 1 by omega]
theorem gI_new {n : Nat} {D : Nat → Du} {f : Int} {k : Nat} (h : covB D (f + k) n = false) (h0 : (gS n D f k).2 < 0) (hf : 0 ≤ f) :
    gI n D f k = (gS n D f k).1 ∧ gI n D f (k + 1) = gI n D f k ++ [(f + k, f + k + 1)] := by
  have e : gS n D f (k + 1) = ((gS n D f k).1, f + k) := by rw [gS, h, if_neg Bool.false_ne_true, if_pos h0]
  have e1 : gI n D f k = (gS n D f k).1 := by unfold gI; rw [if_neg (by omega)]
  refine ⟨e1, ?_⟩
  rw [e1]
  unfold gI
  rw [e, if_pos (by show 0 ≤ f + (k : Int); omega)]
  show _ ++ [(f + (k : Int), f + ((k + 1 : Nat) : Int))] = _
  rw [show f + ((k + 1 : Nat) : Int) = f + k + 1 by omega]
theorem set_last {l : List (Int × Int)} {a b : Int × Int} : (l ++ [a]).set l.length b = l ++ [b] := by
  rw [List.set_append_right _ _ (Nat.le_refl _), Nat.sub_self]; rfl
set_option maxHeartbeats 8000000 in
set_option maxRecDepth 100000 in
theorem impl_gaps (A : Option Addr) (n c : Nat) (D : Nat → Du) (f t : Int) (ok : Bool) (hk : gapOk n D f t = ok) (ps : List (Int × Int)) (hps : (if ok = true then gI n D f (t - f).toNat else []) = ps) (w : World) (hn : n ≤ 1048576) (hnc : n ≤ c) (hcm : c ≤ maxLen) (ha : Arr w w.heap.size A n 4 (dv D)) :
    Calls Try.prog 7 #[.slice A n c, .int .i64 f, .int .i64 t] w (PrsPost w ok ps) := by
  have hfa := frozen_al; have hfo := frozen_out
  have HA := hide ha; have HK := hide hk; have HPS := hide hps
  clear ha hk hps
  cases hg : goodB n D
  · obtain rfl : false = ok := by rw [← HK.out, gapOk, hg]; rfl
    obtain rfl : [] = ps := HPS.out
    have HG := hide hg
    clear hg
    go_enter Try.func7, Try.ntmps7
    go_wp2_with fail
    refine (impl_good17 A n c D _ HG.out _ hn hnc hcm (HA.out.on (by go_grown))).mono ?_
    rintro e w1 ⟨rfl, hb1⟩
    obtain ⟨qc1, qf1⟩ := bcell hb1
    have hz1 := hb1.size
    try simp only [World.size_alloc, World.size_setCell, World.size_drew] at hz1
    have hq1 : Below w.heap.size w w1 := below_call (by go_grown) hb1
    try have hl0_1 : w.heap.size < w1.heap.size := by omega
    try have hl1_1 : w.heap.size + 1 < w1.heap.size := by omega
    try have hl2_1 : w.heap.size + 2 < w1.heap.size := by omega
    try have hl3_1 : w.heap.size + 3 < w1.heap.size := by omega
    go_wp2
    go_returns
    exact prs_post rfl hq1 (MPs.none _ _)
  · have HG := hide hg
    by_cases h1 : 0 ≤ f ∧ f < t ∧ t ≤ 9999
    · obtain ⟨f0, f1, f2⟩ := h1
      obtain rfl : true = ok := by rw [← HK.out, gapOk, hg, Bool.true_and]; exact (decide_eq_true (by omega)).symm
      obtain ⟨T, hT⟩ : ∃ T : Nat, t = f + T := ⟨(t - f).toNat, by omega⟩
      obtain rfl : gI n D f T = ps := by rw [← HPS.out, if_pos rfl, hT]; congr 1; omega
      subst hT
      have hT1 : T ≤ 9999 := by omega
      obtain ⟨hn12, hok⟩ := good_of hg
      have HD := hide (fun i hi => (hok i hi).1)
      clear hg hok
      go_enter Try.func7, Try.ntmps7
      go_wp2_with fail
      refine (impl_good17 A n c D _ HG.out _ hn hnc hcm (HA.out.on (by go_grown))).mono ?_
      rintro e w1 ⟨rfl, hb1⟩
      obtain ⟨qc1, qf1⟩ := bcell hb1
      have hz1 := hb1.size
      try simp only [World.size_alloc, World.size_setCell, World.size_drew] at hz1
      have hq1 : Below w.heap.size w w1 := below_call (by go_grown) hb1
      try have hl0_1 : w.heap.size < w1.heap.size := by omega
      try have hl1_1 : w.heap.size + 1 < w1.heap.size := by omega
      try have hl2_1 : w.heap.size + 2 < w1.heap.size := by omega
      try have hl3_1 : w.heap.size + 3 < w1.heap.size := by omega
      have HM1 := hide ((MPs.nil w1).at_ hq1.size)
      have hba1 : Below w.heap.size w (w1.alloc (.cells #[] 31)) := below_al hq1
      go_wp2
      go_loopw [8, 9] (fun v y wr => ∃ (k : Nat) (gs : List Nat), k ≤ T ∧ y = .int .i64 (f + k) ∧ Below w.heap.size w wr ∧ MPs wr w.heap.size v (gI n D f k) gs) (fun _ y _ => T - (intOf y - f).toNat)
      case atStart => exact ⟨0, [], Nat.zero_le _, by first | rfl | simp, hba1, HM1.out⟩
      case round =>
        clear HM1 hq1 hba1 hz1 hb1 qc1 qf1
        obtain ⟨k, gs, hkT, rfl, hbw, hmp⟩ := hrel
        have HMP := hide hmp
        clear hmp
        have hln := gI_len n D f k
        by_cases hlt : k < T
        · have hlti : f + (k : Int) < f + (T : Int) := by omega
          have hf1 : 0 ≤ f + (k : Int) := by omega
          have hf2 : f + (k : Int) ≤ 9999 := by omega
          go_wp2_with fail
          refine (impl_on A n c D (f + k) _ (by omega) (HA.out.on hbw) HD.out).mono ?_
          rintro e w2 ⟨g, cap, m, rfl, hm, hb2, hrow⟩
          have hq2 := below_call hbw hb2
          have HM2 := hide (HMP.out.below hb2)
          have hcv : covB D (f + k) n = decide (0 < m) := by rw [cov_len, hm]
          have HCV := hide hcv
          clear hm hrow hb2 hcv HMP
          by_cases hm0 : 0 < m
          · have hm1 : (0 : Int) < (m : Int) := by omega
            have HE := hide (gI_cov (HCV.out.trans (decide_eq_true hm0)))
            go_wp2
            go_roundw
            case rel => exact ⟨k + 1, gs, by omega, by first | (congr 1; omega) | go_num, hq2, by rw [HE.out]; exact HM2.out⟩
            case measure => simp [intOf]; omega
          · have hm1 : ¬ (0 : Int) < (m : Int) := by omega
            have HC := hide (HCV.out.trans (decide_eq_false hm0))
            by_cases hq0 : 0 ≤ (gS n D f k).2
            · obtain ⟨e1, e2⟩ := gI_ext HC.out hq0 f0
              obtain ⟨p, hp⟩ : ∃ p, (gS n D f k).1.length = p := ⟨_, rfl⟩
              obtain ⟨q, hq⟩ : ∃ q, (gS n D f k).2 = q := ⟨_, rfl⟩
              have hm2 := HM2.out
              rw [e1, hq] at hm2
              have HE2 := hide e2
              have hpl : ((gS n D f k).1 ++ [(q, f + (k : Int))]).length = p + 1 := by rw [List.length_append, hp]; rfl
              have hbp := hm2.blk p (by rw [hpl]; exact Nat.lt_succ_self _)
              have hgd : ((gS n D f k).1 ++ [(q, f + (k : Int))]).getD p (0, 0) = (q, f + (k : Int)) := by rw [← hp]; simp [List.getD]
              rw [hgd] at hbp
              have hmp2 := (hm2.put (q := p) (x := q) (y := f + (k : Int) + 1) (w' := w2.setCell ⟨gs.getD p 0, 1, none⟩ (.int .i64 (f + (k : Int) + 1))) (by rw [hpl]; exact Nat.lt_succ_self _) (grown_setCell (grown_refl _ _) 1 _) (by
                have := hbp.set_ 1 (.int .i64 (f + (k : Int) + 1))
                exact this))
              obtain ⟨A2, c2, rfl, _, a2⟩ := hm2.form
              rw [hpl] at a2 hmp2
              rw [hpl]
              obtain ⟨b2, off2, rfl, hbb2, hc2⟩ := a2 (Nat.succ_pos _)
              have d0 := hc2 p 0 (Nat.lt_succ_self _) (by omega)
              simp only [Nat.add_zero, Nat.mul_one] at d0
              obtain ⟨gp, hgp⟩ : ∃ gp, gs.getD p 0 = gp := ⟨_, rfl⟩
              rw [hgp] at d0 hbp hmp2
              have HMP2 := hide hmp2
              clear hmp2
              have hglo := (hm2.lo _ (gs_in (i := p) (by have := hm2.len; omega)))
              rw [hgp] at hglo
              have x1 := hbp.cell 1
              simp only [List.getElem?_toArray, List.getElem?_cons_succ, List.getElem?_cons_zero] at x1
              have x2 := hbp.frozen 1
              have x3 := hbp.lt
              have hj1 : (0 : Int) ≤ (p : Int) := by omega
              have H1 := hide (hq2.setCell (p := ⟨gp, 1, none⟩) hglo.1 (.int .i64 (f + (k : Int) + 1)))
              have hpl2 : p + 1 ≤ 100000 := by have := gS_len n D f k; omega
              have HPQ := hide (show ((gS n D f k).1 ++ [(q, f + (k : Int))]).set p (q, f + (k : Int) + 1) = gI n D f (k + 1) by rw [HE2.out, ← hp, set_last, hq])
              clear hc2 a2 hbp hgd hglo hm2 e1 e2 hpl hp hq hgp
              go_wp2
              go_roundw
              case rel => exact ⟨k + 1, gs, by omega, by first | (congr 1; omega) | go_num, H1.out, by rw [← HPQ.out]; exact HMP2.out⟩
              case measure => simp [intOf]; omega
            · obtain ⟨e1, e2⟩ := gI_new HC.out (by omega : (gS n D f k).2 < 0) f0
              have HE1 := hide e1; have HE2 := hide e2
              have hbd := (gS_bd (n := n) (D := D) f0 k).2
              have hm2 := HM2.out
              have hl := hln
              rcases hL : (gI n D f k).length with _ | p
              · obtain ⟨A2, c2, rfl, _, _⟩ := hm2.form
                have HL := hide hL
                have HMM := HM2
                rw [hL]
                rw [hL] at HMM
                clear e1 e2 hbd hm2 hL
                go_wp2_with (at_builtin; (refine list_pair w w2 rfl _ _ (by rfl) rfl _ _ gs (by rfl) hq2 HMM.out (by omega) (f + k) (f + k + 1) (by rfl) ?_); intro v5 w5 hb5 hm5 _ _)
                have H1 := hide hb5; have H2 := hide hm5
                clear hb5 hm5
                go_wp2
                go_roundw
                case rel => exact ⟨k + 1, _, by omega, by first | (congr 1; omega) | go_num, H1.out, by rw [HE2.out]; exact H2.out⟩
                case measure => simp [intOf]; omega
              · have hbp := hm2.blk p (by omega)
                have hgx : (gI n D f k).getD p (0, 0) ∈ (gS n D f k).1 := by
                  rw [← e1]; simp [List.getD, show p < (gI n D f k).length by omega]
                have hlast := hbd _ hgx
                obtain ⟨A2, c2, rfl, _, a2⟩ := hm2.form
                obtain ⟨b2, off2, rfl, hbb2, hc2⟩ := a2 (by omega)
                have d0 := hc2 p 0 (by omega) (by omega)
                simp only [Nat.add_zero, Nat.mul_one] at d0
                have x1 := hbp.cell 1
                simp only [List.getElem?_toArray, List.getElem?_cons_succ, List.getElem?_cons_zero] at x1
                obtain ⟨z, hz⟩ : ∃ z, ((gI n D f k).getD p (0, 0)).2 = z := ⟨_, rfl⟩
                rw [hz] at x1 hlast
                have x3 := hbp.lt
                obtain ⟨gp, hgp⟩ : ∃ gp, gs.getD p 0 = gp := ⟨_, rfl⟩
                rw [hgp] at d0 x1 x3
                have HMM := HM2
                rw [hL] at HMM ⊢
                have hzb : (z == f + (k : Int)) = false := by simp; omega
                have hj1 : (0 : Int) ≤ (p : Int) := by omega
                have hpl2 : p + 1 ≤ 100000 := by omega
                have HLN := hide hL
                clear hc2 a2 hbp hgx hbd hm2 e1 e2 hL hz hgp
                go_wp2_with (at_builtin; (refine list_pair w w2 rfl _ _ (by rfl) rfl _ _ gs (by rfl) hq2 HMM.out (by have := HLN.out; omega) (f + k) (f + k + 1) (by rfl) ?_); intro v5 w5 hb5 hm5 _ _)
                have H1 := hide hb5; have H2 := hide hm5
                clear hb5 hm5
                go_wp2
                go_roundw
                case rel => exact ⟨k + 1, _, by omega, by first | (congr 1; omega) | go_num, H1.out, by rw [HE2.out]; exact H2.out⟩
                case measure => simp [intOf]; omega
        · obtain rfl : k = T := by omega
          have hlti : ¬ f + (k : Int) < f + (k : Int) := by omega
          go_wp2
          go_returns
          exact prs_post rfl hbw HMP.out
    · obtain rfl : false = ok := by rw [← HK.out, gapOk, hg, Bool.true_and]; exact (decide_eq_false h1).symm
      obtain rfl : [] = ps := HPS.out
      clear hg
      by_cases g1 : f < 0
      · go_enter Try.func7, Try.ntmps7
        go_wp2_with fail
        refine (impl_good17 A n c D _ HG.out _ hn hnc hcm (HA.out.on (by go_grown))).mono ?_
        rintro e w1 ⟨rfl, hb1⟩
        obtain ⟨qc1, qf1⟩ := bcell hb1
        have hz1 := hb1.size
        try simp only [World.size_alloc, World.size_setCell, World.size_drew] at hz1
        have hq1 : Below w.heap.size w w1 := below_call (by go_grown) hb1
        try have hl0_1 : w.heap.size < w1.heap.size := by omega
        try have hl1_1 : w.heap.size + 1 < w1.heap.size := by omega
        try have hl2_1 : w.heap.size + 2 < w1.heap.size := by omega
        try have hl3_1 : w.heap.size + 3 < w1.heap.size := by omega
        go_wp2
        go_returns
        exact prs_post rfl hq1 (MPs.none _ _)
      · by_cases g2 : t ≤ f
        · clear h1
          go_enter Try.func7, Try.ntmps7
          go_wp2_with fail
          refine (impl_good17 A n c D _ HG.out _ hn hnc hcm (HA.out.on (by go_grown))).mono ?_
          rintro e w1 ⟨rfl, hb1⟩
          obtain ⟨qc1, qf1⟩ := bcell hb1
          have hz1 := hb1.size
          try simp only [World.size_alloc, World.size_setCell, World.size_drew] at hz1
          have hq1 : Below w.heap.size w w1 := below_call (by go_grown) hb1
          try have hl0_1 : w.heap.size < w1.heap.size := by omega
          try have hl1_1 : w.heap.size + 1 < w1.heap.size := by omega
          try have hl2_1 : w.heap.size + 2 < w1.heap.size := by omega
          try have hl3_1 : w.heap.size + 3 < w1.heap.size := by omega
          go_wp2
          go_returns
          exact prs_post rfl hq1 (MPs.none _ _)
        · have g3 : 9999 < t := by omega
          clear h1
          go_enter Try.func7, Try.ntmps7
          go_wp2_with fail
          refine (impl_good17 A n c D _ HG.out _ hn hnc hcm (HA.out.on (by go_grown))).mono ?_
          rintro e w1 ⟨rfl, hb1⟩
          obtain ⟨qc1, qf1⟩ := bcell hb1
          have hz1 := hb1.size
          try simp only [World.size_alloc, World.size_setCell, World.size_drew] at hz1
          have hq1 : Below w.heap.size w w1 := below_call (by go_grown) hb1
          try have hl0_1 : w.heap.size < w1.heap.size := by omega
          try have hl1_1 : w.heap.size + 1 < w1.heap.size := by omega
          try have hl2_1 : w.heap.size + 2 < w1.heap.size := by omega
          try have hl3_1 : w.heap.size + 3 < w1.heap.size := by omega
          go_wp2
          go_returns
          exact prs_post rfl hq1 (MPs.none _ _)
end Go.Proofs.Yteklalbjlmkagaa
