/- Chapter 18: spec.MeetingPairs. -/
import Derived.Test.YtbpeamjgddikjaaPrsL
namespace Go.Proofs.Ytbpeamjgddikjaa
open Go.RowKit
set_option linter.unusedVariables false
set_option linter.unusedSimpArgs false

set_option maxHeartbeats 4000000 in
set_option maxRecDepth 100000 in
theorem spec_pairs (A : Option Addr) (n c : Nat) (E : Nat → FauE) (Q : Nat → Option Addr × Nat) (u : Bool) (hu : fausB n E = u) (ps : List (Int × Int)) (hps : (if u = true then allP E n n else []) = ps) (w : World) (hn : n ≤ 1048576) (hm : ∀ i, i < n → (E i).nm.size ≤ 1048576 ∧ (E i).m ≤ 1048576) (hL : FauL w A n E Q) :
    Calls Try.prog 34 #[.slice A n c] w (PrsPost w u ps) := by
  have hfa := frozen_al; have hfo := frozen_out
  have HM := hide hm; have HL := hide hL; have HU := hide hu; have HPS := hide hps
  clear hu hm hL hps
  have HM0 := hide (MPs.nil w)
  have hba : Below w.heap.size w (w.alloc (.cells #[] 90)) := below_al (Below.refl _ _)
  go_enter Try.func34, Try.ntmps34
  go_wp2_with fail
  refine (spec_good18 A n c E Q u HU.out _ hn HM.out (HL.out.on hba)).mono ?_
  rintro e w1 ⟨rfl, hb1⟩
  have hq1 : Below w.heap.size w w1 := below_call hba hb1
  have hz1 := hb1.size
  have HM1 := hide (HM0.out.below hb1)
  clear HM0
  cases u
  · obtain rfl : ps = [] := by rw [← HPS.out]; rfl
    go_wp2
    go_returns
    exact prs_post rfl hq1 HM1.out
  · obtain ⟨hn6, hok, _⟩ := fausB_of HU.out
    have HOK := hide hok
    clear hok
    go_wp2
    go_loopw [4, 5] (fun v i wr => ∃ (k : Nat) (gs : List Nat), k ≤ n ∧ i = .int .i64 k ∧ MPs wr w.heap.size v (allP E n k) gs ∧ Below w.heap.size w wr) (fun _ i _ => n - (intOf i).toNat)
    case atStart => exact ⟨0, [], Nat.zero_le _, rfl, HM1.out, hq1⟩
    case round =>
      obtain ⟨k, gs, hk, rfl, hmp, hbw⟩ := hrel
      have HMP := hide hmp; have HBW := hide hbw
      clear hmp HM1 hq1 hz1 hb1 hba hbw
      by_cases hlt : k < n
      · obtain ⟨wo, rfl⟩ : ∃ x, x = wr := ⟨_, rfl⟩
        go_wp2
        go_loopw [4, 6] (fun v j wx => ∃ (q : Nat) (gs : List Nat), k + 1 + q ≤ n ∧ j = .int .i64 ((k : Int) + 1 + q) ∧ MPs wx w.heap.size v (allP E n k ++ rowP E k q) gs ∧ Below w.heap.size w wx) (fun _ j _ => n - (intOf j).toNat)
        case atStart => exact ⟨0, gs, by omega, by go_num, by rw [rowP, List.append_nil]; exact HMP.out, HBW.out⟩
        case round =>
          clear HMP HBW
          obtain ⟨q, gs, hq, rfl, hmp, hbw⟩ := hrel
          have HMP := hide hmp; have HBW := hide hbw
          clear hmp
          by_cases hql : k + 1 + q < n
          · obtain ⟨b0, off, hA, hbl, hc⟩ := HL.out.arr (by omega)
            have hsw := hbw.size
            have hbl2 : b0 < wr.heap.size := by omega
            have hi1 : (0 : Int) ≤ (k : Int) + 1 + (q : Int) := by omega
            have hi2 : (k : Int) + 1 + (q : Int) < (n : Int) := by omega
            have hi3 : ((k : Int) + 1 + (q : Int)).toNat = k + 1 + q := by omega
            have hi4 : (0 : Int) ≤ (k : Int) := by omega
            have hi5 : (k : Int) < (n : Int) := by omega
            have hap : ∀ (x : Int), allP E n k ++ rowP E k q ++ [((E k).id, x)] = allP E n k ++ (rowP E k q ++ [((E k).id, x)]) := fun x => List.append_assoc _ _ _
            have HAP := hide hap
            have hln : (allP E n k ++ rowP E k q).length ≤ 1000000 := by
              have a1 := allP_len E n k; have a2 := rowP_len E k q
              have a3 : n * k ≤ 6 * 6 := Nat.mul_le_mul hn6 (by omega)
              rw [List.length_append]; omega
            clear hap
            have hc' : ∀ i j, i < n → j < 4 → wr.cell? ⟨b0, off + i * 4 + j, none⟩ = some (fcv E Q i j) := fun i j hi hj => (hbw.cell (p := ⟨b0, _, none⟩) hbl).trans (hc i j hi hj)
            obtain ⟨c0, c1, c2, c3⟩ := loads4 (A := none) hlt hc'
            obtain ⟨d0, d1, d2, d3⟩ := loads4 (A := none) hql hc'
            rw [fcv0] at c0 d0; rw [fcv1] at c1 d1; rw [fcv2] at c2 d2; rw [fcv3] at c3 d3
            have hdp := hide ((HL.out.on hbw).deep k hlt)
            have hdq := hide ((HL.out.on hbw).deep (k + 1 + q) hql)
            subst hA
            have hm1 := (HM.out k hlt).2; have hm2 := (HM.out (k + 1 + q) hql).2
            obtain ⟨r, hr⟩ : ∃ r, tchE E k (k + 1 + q) = r := ⟨_, rfl⟩
            have HR := hide hr
            have t1 := fau_two (HOK.out k hlt).1; have t2 := fau_two (HOK.out (k + 1 + q) hql).1
            have HT := hide (fun W (hW : Below wr.heap.size wr W) => (spec_touch (E k).id (E k).nm (Q k).1 (E k).m (Q k).2 (E k).Y (E k).sl (E (k + 1 + q)).id (E (k + 1 + q)).nm (Q (k + 1 + q)).1 (E (k + 1 + q)).m (Q (k + 1 + q)).2 (E (k + 1 + q)).Y (E (k + 1 + q)).sl r hr W ⟨t1, hm1⟩ ⟨t2, hm2⟩ (fau_pl (HOK.out k hlt).1) (fau_pl (HOK.out (k + 1 + q) hql).1) (hdp.out.on hW) (hdq.out.on hW) : Calls Try.prog 68 _ _ _))
            clear hc hc' hr
            have hx := BW.cell (w := wr)
            go_wp2
            refine wp_region_bw (by kernel_rfl) (by kernel_rfl) ?_
            repeat (go_big_quiet_step ((first | (go_at_call 68; exact BW.call (HT.out _ (BW.prop _))))))
            refine wpQuiet_end fun w1 hb1 => ?_
            clear hx HT
            have hbw2 := below_call hbw hb1
            have HM2 := hide (HMP.out.below hb1)
            have q0 : b0 < w.heap.size ∧ w.cell? ⟨b0, off + k * 4, none⟩ = some (.int .i64 (E k).id) ∧ w.cell? ⟨b0, off + (k + 1 + q) * 4, none⟩ = some (.int .i64 (E (k + 1 + q)).id) :=
              ⟨hbl, (hbw.cell (p := ⟨b0, _, none⟩) hbl).symm.trans c0, (hbw.cell (p := ⟨b0, _, none⟩) hbl).symm.trans d0⟩
            have q1 := sc2_below q0 hbw2
            obtain ⟨q1a, q1b, q1c⟩ := id q1
            clear HMP c0 c1 c2 c3 d0 d1 d2 d3 hb1 HBW
            cases r
            · have hr0 := rowP_no HR.out
              have HR0 := hide hr0
              clear hr0
              go_wp2
              go_roundw
              case rel => exact ⟨q + 1, gs, by omega, by go_num, by rw [HR0.out]; exact HM2.out, hbw2⟩
              case measure => simp [intOf]; omega
            · have hr0 := rowP_yes HR.out
              have HR0 := hide hr0
              clear hr0
              go_wp2
              go_region_held3 (fun w' => b0 < w'.heap.size ∧ w'.cell? ⟨b0, off + k * 4, none⟩ = some (.int .i64 (E k).id) ∧ w'.cell? ⟨b0, off + (k + 1 + q) * 4, none⟩ = some (.int .i64 (E (k + 1 + q)).id)) (first | assumption | exact sc2_alloc _ (by assumption) | exact sc2_below q0 (by assumption)) (first | (refine step_pair w w1 (by rfl) _ _ (by rfl) (by rfl) _ _ gs (by rfl) hbw2 HM2.out hln (E k).id (E (k + 1 + q)).id (by rfl) ?_; intro v5 w5 hb5 hm5))
              all_goals
                have hm6 := hm5
                rw [HAP.out, ← HR0.out] at hm6
                have HM6 := hide hm6; have HB5 := hide hb5
                clear hm5 hm6 hb5 HM2
                go_wp2
                go_roundw
                case rel => exact ⟨q + 1, _, by omega, by go_num, HM6.out, HB5.out⟩
                case measure => simp [intOf]; omega
          · obtain rfl : q = n - 1 - k := by omega
            go_wp2
            go_roundw
            case rel => exact ⟨k + 1, gs, by omega, by go_num, by rw [allP]; exact HMP.out, hbw⟩
            case measure => simp [intOf]; omega
      · obtain rfl : k = n := by omega
        obtain rfl : allP E k k = ps := by rw [← HPS.out]; rfl
        go_wp2
        go_returns
        exact prs_post rfl HBW.out HMP.out
end Go.Proofs.Ytbpeamjgddikjaa
