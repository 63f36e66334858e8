/- Chapter 17: the reference's test of a list of duties: made by dubgen.py. -/
import Derived.Test.YteklalbjlmkagaaDuA
import Derived.IntWalk
namespace Go.Proofs.Yteklalbjlmkagaa
open Go.RowKit
set_option linter.unusedVariables false
set_option linter.unusedSimpArgs false

def bef (a b : Du) : Prop := a.beg < b.beg ∨ a.beg = b.beg ∧ a.who < b.who
instance (a b : Du) : Decidable (bef a b) := by unfold bef; infer_instance
theorem oneD_iff {d : Du} : OneD d ↔ oneB d = true := ⟨fun h => by
  obtain ⟨h1, h2, h3, h4, h5, h6⟩ := h
  simp only [oneB, inB, Bool.and_eq_true, decide_eq_true_eq]
  omega, one_of⟩
instance (d : Du) : Decidable (OneD d) := decidable_of_iff _ oneD_iff.symm
def okAt (D : Nat → Du) (i : Nat) : Prop := OneD (D i) ∧ (0 < i → bef (D (i - 1)) (D i)) ∧ ∀ k, k < i → clashB (D k) (D i) = false
instance (D : Nat → Du) (i : Nat) : Decidable (okAt D i) := by unfold okAt; infer_instance
def goodB (n : Nat) (D : Nat → Du) : Bool := decide (∀ i, i < n → okAt D i) && decide (n ≤ 12)
theorem good_no {n k : Nat} {D : Nat → Du} (hk : k < n) (h : ¬ okAt D k) : goodB n D = false := by
  unfold goodB
  rw [decide_eq_false (fun H => h (H k hk))]; rfl
theorem good_yes {n : Nat} {D : Nat → Du} (h : ∀ i, i < n → okAt D i) : goodB n D = decide (n ≤ 12) := by
  unfold goodB
  rw [decide_eq_true h, Bool.true_and]
theorem good_of {n : Nat} {D : Nat → Du} (h : goodB n D = true) : n ≤ 12 ∧ ∀ i, i < n → okAt D i := by
  simp only [goodB, Bool.and_eq_true, decide_eq_true_eq] at h
  exact ⟨h.2, h.1⟩
set_option maxHeartbeats 8000000 in
set_option maxRecDepth 100000 in
theorem spec_good17 (A : Option Addr) (n c : Nat) (D : Nat → Du) (v : Bool) (hv : goodB n D = v) (w : World) (hn : n ≤ 1048576) (ha : Arr w w.heap.size A n 4 (dv D)) :
    Calls Try.prog 37 #[.slice A n c] w fun e w' => e = .returned (.bool v) ∧ Below w.heap.size w w' := by
  have HV := hide hv; have HA := hide ha
  clear hv ha
  go_enter Try.func37, Try.ntmps37
  go_wp2
  go_loopw [3] (fun i wr => ∃ k : Nat, k ≤ n ∧ i = .int .i64 k ∧ Below w.heap.size w wr ∧ ∀ i, i < k → okAt D i) (fun i _ => n - (intOf i).toNat)
  case atStart => exact ⟨0, Nat.zero_le _, rfl, by go_grown, all_zero⟩
  case round =>
    obtain ⟨k, hk, rfl, hb, hall⟩ := hrel
    have HALL := hide hall
    clear hall
    by_cases hlt : k < n
    · obtain ⟨b, off, hA, hbb, hc⟩ := (HA.out.on hb) (by omega)
      subst hA
      obtain ⟨c0, c1, c2, c3⟩ := load4 hlt hc
      rw [dv0] at c0; rw [dv1] at c1; rw [dv2] at c2; rw [dv3] at c3
      have HAL := hide (show Below wr.heap.size wr (wr.alloc (.cells #[.int .i64 (D k).who, .int .i64 (D k).beg, .int .i64 (D k).fin, .bool (D k).chief] 39)) from below_al (Below.refl _ _))
      have HCX := hide (Blk.new wr 39 #[.int .i64 (D k).who, .int .i64 (D k).beg, .int .i64 (D k).fin, .bool (D k).chief])
      have l0 := HCX.out.cell 0; have l1 := HCX.out.cell 1; have l2 := HCX.out.cell 2; have l3 := HCX.out.cell 3; have l4 := HCX.out.lt
      have l5 : wr.heap.size < wr.heap.size + 1 := Nat.lt_succ_self _
      simp only [List.getElem?_toArray, List.getElem?_cons_zero, List.getElem?_cons_succ] at l0 l1 l2 l3
      have hbb3 : b < wr.heap.size + 1 := by omega
      cases h0 : oneB (D k)
      · have HE := hide h0
        clear hc
        have hx := BW.cell (w := wr.alloc (.cells #[.int .i64 (D k).who, .int .i64 (D k).beg, .int .i64 (D k).fin, .bool (D k).chief] 39))
        go_wp2
        refine wp_region_bw (by kernel_rfl) (by kernel_rfl) ?_
        repeat (go_big_quiet_step ((first | (go_at_call 45; exact BW.call (spec_one17 _ _ (by assumption) _)))))
        refine wpQuiet_end fun w1 hb1 => ?_
        clear hx
        go_wp2
        go_ret
        exact ⟨ret_bool (by rw [← HV.out, good_no hlt (fun h => by have := oneD_iff.1 h.1; rw [HE.out] at this; cases this)]; try rfl), hb.trans ((HAL.out.trans (hb1.mono (by simp only [World.size_alloc]; omega))).mono hb.size)⟩
      · have HE := hide h0
        rcases k with _ | p
        · simp only [Nat.zero_mul, Nat.add_zero] at c0 c1 c2 c3
          clear hc
          have hx := BW.cell (w := wr.alloc (.cells #[.int .i64 (D 0).who, .int .i64 (D 0).beg, .int .i64 (D 0).fin, .bool (D 0).chief] 39))
          go_wp2
          refine wp_region_bw (by kernel_rfl) (by kernel_rfl) ?_
          repeat (go_big_quiet_step ((first | (go_at_call 45; exact BW.call (spec_one17 _ _ (by assumption) _)))))
          refine wpQuiet_end fun w1 hb1 => ?_
          clear hx
          have HC1 := hide (HCX.out.below hb1 (by simp))
          have HB1 := hide (show Below wr.heap.size wr w1 from below_call HAL.out hb1)
          clear hb1 l0 l1 l2 l3 l4 c0 c1 c2 c3 
          obtain ⟨wo, rfl⟩ : ∃ x, x = wr := ⟨_, rfl⟩
          go_wp2
          go_loopw [5] (fun j wx => ∃ q : Nat, q ≤ 0 ∧ j = .int .i64 q ∧ Below wo.heap.size wo wx ∧ wo.heap.size < wx.heap.size ∧ Blk wx wo.heap.size 39 #[.int .i64 (D (0)).who, .int .i64 (D (0)).beg, .int .i64 (D (0)).fin, .bool (D (0)).chief] ∧ ∀ j, j < q → clashB (D j) (D (0)) = false) (fun j _ => 0 - (intOf j).toNat)
          case atStart => exact ⟨0, Nat.zero_le _, rfl, HB1.out, HC1.out.lt, HC1.out, all_zero⟩
          case round =>
            clear HB1 HC1
            obtain ⟨q, hq, rfl, hbx, hzx, hblk, hcl⟩ := hrel
            have HCL := hide hcl
            clear hcl
            by_cases hql : q < 0
            · omega
            · obtain rfl : q = 0 := by omega
              go_wp2
              go_roundw
              case rel => exact ⟨0 + 1, by omega, by go_num, below_call hb hbx, fun i hi => by
                by_cases e : i = 0
                · rw [e]; exact ⟨one_of HE.out, fun h => absurd h (by omega), HCL.out⟩
                · exact HALL.out i (by omega)⟩
              case measure => simp [intOf]; omega
        · skip
          have hp : p < n := by omega
          obtain ⟨e0, e1, e2, e3⟩ := load4 hp hc
          rw [dv0] at e0; rw [dv1] at e1; rw [dv2] at e2; rw [dv3] at e3
          have p0 := (World.cell?_alloc_lt wr (.cells #[.int .i64 (D (p + 1)).who, .int .i64 (D (p + 1)).beg, .int .i64 (D (p + 1)).fin, .bool (D (p + 1)).chief] 39) ⟨b, off + p * 4, none⟩ hbb).trans e0
          have p1 := (World.cell?_alloc_lt wr (.cells #[.int .i64 (D (p + 1)).who, .int .i64 (D (p + 1)).beg, .int .i64 (D (p + 1)).fin, .bool (D (p + 1)).chief] 39) ⟨b, off + p * 4 + 1, none⟩ hbb).trans e1
          have hj1 : (0 : Int) ≤ (p : Int) := by omega
          clear hc e0 e1 e2 e3
          by_cases h1 : (D (p + 1)).beg < (D p).beg
          · have g1 : decide ((D (p + 1)).beg < (D p).beg) = true := decide_eq_true h1
            have hx := BW.cell (w := wr.alloc (.cells #[.int .i64 (D (p + 1)).who, .int .i64 (D (p + 1)).beg, .int .i64 (D (p + 1)).fin, .bool (D (p + 1)).chief] 39))
            go_wp2
            refine wp_region_bw (by kernel_rfl) (by kernel_rfl) ?_
            repeat (go_big_quiet_step ((first | (go_at_call 45; exact BW.call (spec_one17 _ _ (by assumption) _)))))
            refine wpQuiet_end fun w1 hb1 => ?_
            clear hx
            go_wp2
            go_ret
            exact ⟨ret_bool (by rw [← HV.out, good_no hlt (fun h => by have := h.2.1 (Nat.succ_pos _); rw [Nat.add_sub_cancel] at this; unfold bef at this; omega)]; try rfl), hb.trans ((HAL.out.trans (hb1.mono (by simp only [World.size_alloc]; omega))).mono hb.size)⟩
          · have g1 : decide ((D (p + 1)).beg < (D p).beg) = false := decide_eq_false h1
            by_cases h2 : (D p).beg = (D (p + 1)).beg
            · have g2 : ((D p).beg == (D (p + 1)).beg) = true := by simp [h2]
              by_cases h3 : (D (p + 1)).who ≤ (D p).who
              · have g3 : decide ((D (p + 1)).who ≤ (D p).who) = true := decide_eq_true h3
                have hx := BW.cell (w := wr.alloc (.cells #[.int .i64 (D (p + 1)).who, .int .i64 (D (p + 1)).beg, .int .i64 (D (p + 1)).fin, .bool (D (p + 1)).chief] 39))
                go_wp2
                refine wp_region_bw (by kernel_rfl) (by kernel_rfl) ?_
                repeat (go_big_quiet_step ((first | (go_at_call 45; exact BW.call (spec_one17 _ _ (by assumption) _)))))
                refine wpQuiet_end fun w1 hb1 => ?_
                clear hx
                go_wp2
                go_ret
                exact ⟨ret_bool (by rw [← HV.out, good_no hlt (fun h => by have := h.2.1 (Nat.succ_pos _); rw [Nat.add_sub_cancel] at this; unfold bef at this; omega)]; try rfl), hb.trans ((HAL.out.trans (hb1.mono (by simp only [World.size_alloc]; omega))).mono hb.size)⟩
              · have g3 : decide ((D (p + 1)).who ≤ (D p).who) = false := decide_eq_false h3
                have HUP := hide (show bef (D p) (D (p + 1)) from .inr ⟨h2, by omega⟩)
                have hx := BW.cell (w := wr.alloc (.cells #[.int .i64 (D (p + 1)).who, .int .i64 (D (p + 1)).beg, .int .i64 (D (p + 1)).fin, .bool (D (p + 1)).chief] 39))
                go_wp2
                refine wp_region_bw (by kernel_rfl) (by kernel_rfl) ?_
                repeat (go_big_quiet_step ((first | (go_at_call 45; exact BW.call (spec_one17 _ _ (by assumption) _)))))
                refine wpQuiet_end fun w1 hb1 => ?_
                clear hx
                have HC1 := hide (HCX.out.below hb1 (by simp))
                have HB1 := hide (show Below wr.heap.size wr w1 from below_call HAL.out hb1)
                clear hb1 l0 l1 l2 l3 l4 c0 c1 c2 c3 p0 p1 g1 g2 g3 h1 h2 h3
                obtain ⟨wo, rfl⟩ : ∃ x, x = wr := ⟨_, rfl⟩
                go_wp2
                go_loopw [5] (fun j wx => ∃ q : Nat, q ≤ p + 1 ∧ j = .int .i64 q ∧ Below wo.heap.size wo wx ∧ wo.heap.size < wx.heap.size ∧ Blk wx wo.heap.size 39 #[.int .i64 (D (p + 1)).who, .int .i64 (D (p + 1)).beg, .int .i64 (D (p + 1)).fin, .bool (D (p + 1)).chief] ∧ ∀ j, j < q → clashB (D j) (D (p + 1)) = false) (fun j _ => p + 1 - (intOf j).toNat)
                case atStart => exact ⟨0, Nat.zero_le _, rfl, HB1.out, HC1.out.lt, HC1.out, all_zero⟩
                case round =>
                  clear HB1 HC1
                  obtain ⟨q, hq, rfl, hbx, hzx, hblk, hcl⟩ := hrel
                  have HCL := hide hcl
                  clear hcl
                  by_cases hql : q < p + 1
                  · obtain ⟨b2, off2, hA2, hbb2, hc2⟩ := (HA.out.on (below_call hb hbx)) (by omega)
                    injection hA2 with hA2
                    injection hA2 with e1 e2
                    subst e1 e2
                    obtain ⟨d0, d1, d2, d3⟩ := load4 (show q < n by omega) hc2
                    rw [dv0] at d0; rw [dv1] at d1; rw [dv2] at d2; rw [dv3] at d3
                    have m0 := hblk.cell 0; have m1 := hblk.cell 1; have m2 := hblk.cell 2; have m3 := hblk.cell 3
                    simp at m0 m1 m2 m3
                    have HBK := hide hblk
                    have hx := BW.cell (w := wr)
                    obtain ⟨u, hu⟩ : ∃ u, clashB (D q) (D (p + 1)) = u := ⟨_, rfl⟩
                    have HU := hide hu
                    have HT := hide (fun W => (spec_clash (D q) (D (p + 1)) u hu (HALL.out q (by omega)).1 (one_of HE.out) W : Calls Try.prog 69 _ _ _))
                    clear hc2 hblk hu
                    go_wp2
                    refine wp_region_bw (by kernel_rfl) (by kernel_rfl) ?_
                    repeat (go_big_quiet_step ((first | (go_at_call 69; exact BW.call (HT.out _)))))
                    refine wpQuiet_end fun w1 hb1 => ?_
                    clear hx HT
                    cases u
                    · go_wp2
                      go_roundw
                      case rel => exact ⟨q + 1, by omega, by go_num, below_call hbx hb1, Nat.lt_of_lt_of_le hzx hb1.size, HBK.out.below hb1 hzx, all_snoc HCL.out HU.out⟩
                      case measure => simp [intOf]; omega
                    · go_wp2
                      go_ret
                      exact ⟨ret_bool (by rw [← HV.out, good_no hlt (fun h => by have := h.2.2 q hql; rw [HU.out] at this; cases this)]; try rfl), below_call hb (below_call hbx hb1)⟩
                  · obtain rfl : q = p + 1 := by omega
                    go_wp2
                    go_roundw
                    case rel => exact ⟨p + 1 + 1, by omega, by go_num, below_call hb hbx, fun i hi => by
                      by_cases e : i = p + 1
                      · rw [e]; exact ⟨one_of HE.out, fun _ => HUP.out, HCL.out⟩
                      · exact HALL.out i (by omega)⟩
                    case measure => simp [intOf]; omega
            · have g2 : ((D p).beg == (D (p + 1)).beg) = false := by simp [h2]
              have HUP := hide (show bef (D p) (D (p + 1)) from .inl (by omega))
              have hx := BW.cell (w := wr.alloc (.cells #[.int .i64 (D (p + 1)).who, .int .i64 (D (p + 1)).beg, .int .i64 (D (p + 1)).fin, .bool (D (p + 1)).chief] 39))
              go_wp2
              refine wp_region_bw (by kernel_rfl) (by kernel_rfl) ?_
              repeat (go_big_quiet_step ((first | (go_at_call 45; exact BW.call (spec_one17 _ _ (by assumption) _)))))
              refine wpQuiet_end fun w1 hb1 => ?_
              clear hx
              have HC1 := hide (HCX.out.below hb1 (by simp))
              have HB1 := hide (show Below wr.heap.size wr w1 from below_call HAL.out hb1)
              clear hb1 l0 l1 l2 l3 l4 c0 c1 c2 c3 p0 p1 g1 g2 h1 h2
              obtain ⟨wo, rfl⟩ : ∃ x, x = wr := ⟨_, rfl⟩
              go_wp2
              go_loopw [5] (fun j wx => ∃ q : Nat, q ≤ p + 1 ∧ j = .int .i64 q ∧ Below wo.heap.size wo wx ∧ wo.heap.size < wx.heap.size ∧ Blk wx wo.heap.size 39 #[.int .i64 (D (p + 1)).who, .int .i64 (D (p + 1)).beg, .int .i64 (D (p + 1)).fin, .bool (D (p + 1)).chief] ∧ ∀ j, j < q → clashB (D j) (D (p + 1)) = false) (fun j _ => p + 1 - (intOf j).toNat)
              case atStart => exact ⟨0, Nat.zero_le _, rfl, HB1.out, HC1.out.lt, HC1.out, all_zero⟩
              case round =>
                clear HB1 HC1
                obtain ⟨q, hq, rfl, hbx, hzx, hblk, hcl⟩ := hrel
                have HCL := hide hcl
                clear hcl
                by_cases hql : q < p + 1
                · obtain ⟨b2, off2, hA2, hbb2, hc2⟩ := (HA.out.on (below_call hb hbx)) (by omega)
                  injection hA2 with hA2
                  injection hA2 with e1 e2
                  subst e1 e2
                  obtain ⟨d0, d1, d2, d3⟩ := load4 (show q < n by omega) hc2
                  rw [dv0] at d0; rw [dv1] at d1; rw [dv2] at d2; rw [dv3] at d3
                  have m0 := hblk.cell 0; have m1 := hblk.cell 1; have m2 := hblk.cell 2; have m3 := hblk.cell 3
                  simp at m0 m1 m2 m3
                  have HBK := hide hblk
                  have hx := BW.cell (w := wr)
                  obtain ⟨u, hu⟩ : ∃ u, clashB (D q) (D (p + 1)) = u := ⟨_, rfl⟩
                  have HU := hide hu
                  have HT := hide (fun W => (spec_clash (D q) (D (p + 1)) u hu (HALL.out q (by omega)).1 (one_of HE.out) W : Calls Try.prog 69 _ _ _))
                  clear hc2 hblk hu
                  go_wp2
                  refine wp_region_bw (by kernel_rfl) (by kernel_rfl) ?_
                  repeat (go_big_quiet_step ((first | (go_at_call 69; exact BW.call (HT.out _)))))
                  refine wpQuiet_end fun w1 hb1 => ?_
                  clear hx HT
                  cases u
                  · go_wp2
                    go_roundw
                    case rel => exact ⟨q + 1, by omega, by go_num, below_call hbx hb1, Nat.lt_of_lt_of_le hzx hb1.size, HBK.out.below hb1 hzx, all_snoc HCL.out HU.out⟩
                    case measure => simp [intOf]; omega
                  · go_wp2
                    go_ret
                    exact ⟨ret_bool (by rw [← HV.out, good_no hlt (fun h => by have := h.2.2 q hql; rw [HU.out] at this; cases this)]; try rfl), below_call hb (below_call hbx hb1)⟩
                · obtain rfl : q = p + 1 := by omega
                  go_wp2
                  go_roundw
                  case rel => exact ⟨p + 1 + 1, by omega, by go_num, below_call hb hbx, fun i hi => by
                    by_cases e : i = p + 1
                    · rw [e]; exact ⟨one_of HE.out, fun _ => HUP.out, HCL.out⟩
                    · exact HALL.out i (by omega)⟩
                  case measure => simp [intOf]; omega
    · obtain rfl : k = n := by omega
      go_wp2
      go_ret
      exact ⟨ret_bool (by rw [← HV.out, good_yes HALL.out]; simp; omega), hb⟩
end Go.Proofs.Yteklalbjlmkagaa
