/- Chapter 18: impl.MeetingPairs. -/
import Derived.Test.YtbpeamjgddikjaaPrsL
namespace Go.Proofs.Ytbpeamjgddikjaa
open Go.RowKit
set_option linter.unusedVariables false
set_option linter.unusedSimpArgs false

set_option maxHeartbeats 4000000 in
set_option maxRecDepth 100000 in
theorem impl_pairs (A : Option Addr) (n c : Nat) (E : Nat → FauE) (Q : Nat → Option Addr × Nat) (u : Bool) (hu : fausB n E = u) (ps : List (Int × Int)) (hps : (if u = true then allP E n n else []) = ps) (w : World) (hn : n ≤ 1048576) (hc1 : n ≤ c) (hc2 : c ≤ maxLen) (hm : ∀ i, i < n → (E i).nm.size ≤ 1048576 ∧ (E i).m ≤ 1048576) (hL : FauL w A n E Q) :
    Calls Try.prog 33 #[.slice A n c] w (PrsPost w u ps) := by
  have hfa := frozen_al; have hfo := frozen_out
  have hcx : c ≤ 9223372036854775807 := hc2
  have HM := hide hm; have HL := hide hL; have HU := hide hu; have HPS := hide hps
  clear hu hm hL hps
  go_enter Try.func33, Try.ntmps33
  go_wp2_with fail
  refine (impl_faus A n c E Q u HU.out _ hn HM.out (HL.out.on (by go_grown))).mono ?_
  rintro e w1 ⟨rfl, hb1⟩
  obtain ⟨qc1, qf1⟩ := bcell hb1
  have hz1 := hb1.size
  try simp only [World.size_alloc, World.size_setCell, World.size_drew] at hz1
  have hq1 : Below w.heap.size w w1 := below_call (by go_grown) hb1
  try have hl0_1 : w.heap.size < w1.heap.size := by omega
  try have hl1_1 : w.heap.size + 1 < w1.heap.size := by omega
  try have hl2_1 : w.heap.size + 2 < w1.heap.size := by omega
  try have hl3_1 : w.heap.size + 3 < w1.heap.size := by omega
  cases u
  · obtain rfl : ps = [] := by rw [← HPS.out]; rfl
    go_wp2
    go_returns
    exact prs_post rfl hq1 (MPs.none _ _)
  · obtain ⟨hn6, hok, _⟩ := fausB_of HU.out
    have HOK := hide hok
    clear hok
    have HM1 := hide ((MPs.nil w1).at_ hq1.size)
    have hba1 : Below w.heap.size w (w1.alloc (.cells #[] 90)) := below_al hq1
    go_wp2
    go_loopw [4, 15] (fun v i wr => ∃ (k : Nat) (gs : List Nat), k ≤ n ∧ i = .int .i64 k ∧ MPs wr w.heap.size v (allP E n k) gs ∧ Below w.heap.size w wr) (fun _ i _ => n - (intOf i).toNat)
    case atStart => exact ⟨0, [], Nat.zero_le _, rfl, HM1.out, hba1⟩
    case round =>
      obtain ⟨k, gs, hk, rfl, hmp, hbw⟩ := hrel
      have HMP := hide hmp; have HBW := hide hbw
      clear hmp HM1 hq1 hz1 hb1 qc1 qf1 hba1
      by_cases hlt : k < n
      · obtain ⟨wo, rfl⟩ : ∃ x, x = wr := ⟨_, rfl⟩
        obtain ⟨b0, off, hA, hbl, hc⟩ := HL.out.arr (by omega)
        have hsw := hbw.size
        have hblo : b0 < wo.heap.size := by omega
        have HC := hide hc
        have hc' : ∀ i j, i < n → j < 4 → wo.cell? ⟨b0, off + i * 4 + j, none⟩ = some (fcv E Q i j) := fun i j hi hj => (hbw.cell (p := ⟨b0, _, none⟩) hbl).trans (hc i j hi hj)
        obtain ⟨c0, c1, c2, c3⟩ := loads4 (A := none) hlt hc'
        rw [fcv0] at c0; rw [fcv1] at c1; rw [fcv2] at c2; rw [fcv3] at c3
        have HBX := hide (Blk.new wo 36 #[.int .i64 (E k).id, .string (E k).nm, .slice (Q k).1 (E k).m (Q k).2, .int .i64 (E k).sl])
        have HAL := hide (show Below wo.heap.size wo (wo.alloc (.cells #[.int .i64 (E k).id, .string (E k).nm, .slice (Q k).1 (E k).m (Q k).2, .int .i64 (E k).sl] 36)) from below_al (Below.refl _ _))
        subst hA
        have hi1 : (0 : Int) ≤ (k : Int) + 1 := by omega
        have hi2 : (k : Int) + 1 ≤ (n : Int) := by omega
        have hi3 : ((k : Int) + 1).toNat = k + 1 := by omega
        have hi4 : ((n : Int) - ((k : Int) + 1)).toNat = n - (k + 1) := by omega
        clear hc hc' hbw
        have hng : ¬ (n : Int) < (k : Int) + 1 := by omega
        by_cases hcc : c = k + 1
        · have hnk : n = k + 1 := by omega
          subst hcc
          have HNK := hide hnk
          have hz0 : n - (k + 1) = 0 := by omega
          have hz2 : n - 1 - k = 0 := by omega
          have HZ2 := hide hz2
          clear hnk hz2
          go_wp2
          go_loopw [4, 25] (fun v j wr => ∃ gs : List Nat, j = .int .i64 0 ∧ MPs wr w.heap.size v (allP E n k) gs ∧ Below w.heap.size w wr) (fun _ _ _ => 0)
          case atStart => exact ⟨gs, rfl, HMP.out.below HAL.out, below_call HBW.out HAL.out⟩
          case round =>
            clear HMP HBW HAL HBX c0 c1 c2 c3
            obtain ⟨gs, rfl, hmp, hbw⟩ := hrel
            have HMP := hide hmp
            clear hmp
            go_wp2
            go_roundw
            case rel => exact ⟨k + 1, gs, by omega, by go_num, by rw [allP, HZ2.out, rowP, List.append_nil]; exact HMP.out, hbw⟩
            case measure => simp [intOf]; omega
        · go_wp2
          go_loopw [4, 25] (fun v j wr => ∃ (q : Nat) (gs : List Nat), k + 1 + q ≤ n ∧ j = .int .i64 (q : Int) ∧ MPs wr w.heap.size v (allP E n k ++ rowP E k q) gs ∧ Below w.heap.size w wr ∧ wo.heap.size < wr.heap.size ∧ v.ownBlock ≠ some wo.heap.size ∧ Blk wr wo.heap.size 36 #[.int .i64 (E k).id, .string (E k).nm, .slice (Q k).1 (E k).m (Q k).2, .int .i64 (E k).sl]) (fun _ j _ => n - (intOf j).toNat)
          case atStart => exact ⟨0, gs, by omega, rfl, by rw [rowP, List.append_nil]; exact HMP.out.below HAL.out, below_call HBW.out HAL.out, by simp, fun e => Nat.lt_irrefl _ (HMP.out.row.lt _ e).2, HBX.out⟩
          case round =>
            clear HMP HBW HAL HBX c0 c1 c2 c3
            obtain ⟨q, gs, hq, rfl, hmp, hbw, hzo, hvo, hblk⟩ := hrel
            have HMP := hide hmp; have HBW := hide hbw
            have hsw := hbw.size
            clear hmp
            by_cases hql : k + 1 + q < n
            · have hlq : (q : Int) < ((n - (k + 1) : Nat) : Int) := by omega
              have hlq1 : q < n - (k + 1) := by omega
              have hbl2 : b0 < wr.heap.size := by omega
              have hap : ∀ (x : Int), allP E n k ++ rowP E k q ++ [((E k).id, x)] = allP E n k ++ (rowP E k q ++ [((E k).id, x)]) := fun x => List.append_assoc _ _ _
              have HAP := hide hap
              have hln : (allP E n k ++ rowP E k q).length ≤ 1000000 := by
                have a1 := allP_len E n k; have a2 := rowP_len E k q
                have a3 : n * k ≤ 6 * 6 := Nat.mul_le_mul hn6 (by omega)
                rw [List.length_append]; omega
              have hc' : ∀ i j, i < n → j < 4 → wr.cell? ⟨b0, off + i * 4 + j, none⟩ = some (fcv E Q i j) := fun i j hi hj => (hbw.cell (p := ⟨b0, _, none⟩) hbl).trans (HC.out i j hi hj)
              obtain ⟨d0, d1, d2, d3⟩ := loads4 (A := none) hql hc'
              rw [fcv0] at d0; rw [fcv1] at d1; rw [fcv2] at d2; rw [fcv3] at d3
              rw [show off + (k + 1 + q) * 4 = off + (k + 1) * 4 + q * 4 from by omega] at d0 d1 d2 d3
              have hdp := hide ((HL.out.on hbw).deep k hlt)
              have hdq := hide ((HL.out.on hbw).deep (k + 1 + q) hql)
              have hm1 := (HM.out k hlt).2; have hm2 := (HM.out (k + 1 + q) hql).2
              obtain ⟨r, hr⟩ : ∃ r, tchE E k (k + 1 + q) = r := ⟨_, rfl⟩
              have HR := hide hr
              have t1 := fau_two (HOK.out k hlt).1; have t2 := fau_two (HOK.out (k + 1 + q) hql).1
              have HB1 := hide (Blk.alloc hblk (.cells #[.int .i64 (E (k + 1 + q)).id, .string (E (k + 1 + q)).nm, .slice (Q (k + 1 + q)).1 (E (k + 1 + q)).m (Q (k + 1 + q)).2, .int .i64 (E (k + 1 + q)).sl] 36))
              have HB2 := hide (Blk.new wr 36 #[.int .i64 (E (k + 1 + q)).id, .string (E (k + 1 + q)).nm, .slice (Q (k + 1 + q)).1 (E (k + 1 + q)).m (Q (k + 1 + q)).2, .int .i64 (E (k + 1 + q)).sl])
              have hal : Below wr.heap.size wr (wr.alloc (.cells #[.int .i64 (E (k + 1 + q)).id, .string (E (k + 1 + q)).nm, .slice (Q (k + 1 + q)).1 (E (k + 1 + q)).m (Q (k + 1 + q)).2, .int .i64 (E (k + 1 + q)).sl] 36)) := below_al (Below.refl _ _)
              have hx0 := HB1.out.cell 0; have hx1 := HB1.out.cell 1; have hx2 := HB1.out.cell 2; have hx3 := HB1.out.cell 3
              have hy0 := HB2.out.cell 0; have hy1 := HB2.out.cell 1; have hy2 := HB2.out.cell 2; have hy3 := HB2.out.cell 3
              have HM3 := hide (HMP.out.below hal)
              have hbw3 := below_call hbw hal
              clear hc' hap
              go_wp2_with fail
              refine (impl_touch (E k).id (E k).nm (Q k).1 (E k).m (Q k).2 (E k).Y (E k).sl (E (k + 1 + q)).id (E (k + 1 + q)).nm (Q (k + 1 + q)).1 (E (k + 1 + q)).m (Q (k + 1 + q)).2 (E (k + 1 + q)).Y (E (k + 1 + q)).sl r hr _ ⟨t1, hm1⟩ ⟨t2, hm2⟩ (fau_pl (HOK.out k hlt).1) (fau_pl (HOK.out (k + 1 + q) hql).1) (hdp.out.on hal) (hdq.out.on hal)).mono ?_
              rintro e w1 ⟨rfl, hb1⟩
              have hcx1 := HB1.out.below hb1 (by simp; omega)
              have hcy1 := HB2.out.below hb1 (by simp)
              have g0 := hcx1.cell 0; have g1 := hcy1.cell 0
              have HBX2 := hide hcx1
              have HM4 := hide (HM3.out.below hb1)
              have hbw4 := below_call hbw3 hb1
              have hsz4 := hb1.size
              have hzo4 : wo.heap.size < w1.heap.size := by simp only [World.size_alloc] at hsz4; omega
              clear hx0 hx1 hx2 hx3 hy0 hy1 hy2 hy3 HB1 HB2 HM3 HMP d0 d1 d2 d3 hblk hcx1 hcy1 hal hb1
              simp only [List.getElem?_toArray, List.getElem?_cons_zero] at g0 g1
              cases r
              · have hr0 := rowP_no HR.out
                have HR0 := hide hr0
                clear hr0
                go_wp2
                go_roundw
                case rel => exact ⟨q + 1, gs, by omega, by go_num, by rw [HR0.out]; exact HM4.out, hbw4, hzo4, hvo, HBX2.out⟩
                case measure => simp [intOf]; omega
              · have hr0 := rowP_yes HR.out
                have HR0 := hide hr0
                clear hr0
                go_wp2_with (at_builtin; refine list_pair w w1 rfl _ _ (by rfl) rfl _ _ gs (by rfl) hbw4 HM4.out hln (E k).id (E (k + 1 + q)).id (by rfl) ?_)
                intro v5 w5 hb5 hm5 hk5 hf5
                have hm6 : MPs w5 w.heap.size v5 (allP E n k ++ rowP E k (q + 1)) (gs ++ [w1.heap.size]) := by
                  rw [HR0.out]
                  first | exact hm5 | (rw [← HAP.out]; exact hm5)
                have HM6 := hide hm6; have HB5 := hide hb5
                have HBX5 := hide (show Blk w5 wo.heap.size _ _ from (hk5 _ hzo4 hvo).trans HBX2.out)
                have HV5 := hide (show v5.ownBlock ≠ some wo.heap.size from fun e => by
                  rcases hf5 _ e with e | e
                  · exact hvo e
                  · omega)
                have hz5 : w1.heap.size ≤ w5.heap.size := by have := (HM6.out.lo w1.heap.size (by simp)).2.1; omega
                have hzo5 : wo.heap.size < w5.heap.size := by omega
                clear hm5 hm6 hb5 HM4 hk5 hf5
                go_wp2
                go_roundw
                case rel => exact ⟨q + 1, _, by omega, by go_num, HM6.out, HB5.out, hzo5, HV5.out, HBX5.out⟩
                case measure => simp [intOf]; omega
            · obtain rfl : q = n - 1 - k := by omega
              have hlq : ¬ ((n - 1 - k : Nat) : Int) < ((n - (k + 1) : Nat) : Int) := by omega
              go_wp2
              go_roundw
              case rel => exact ⟨k + 1, gs, by omega, by go_num, by rw [allP]; exact HMP.out, hbw⟩
              case measure => simp [intOf]; omega
      · obtain rfl : k = n := by omega
        obtain rfl : allP E k k = ps := by rw [← HPS.out]; rfl
        go_wp2
        go_returns
        exact prs_post rfl HBW.out HMP.out
end Go.Proofs.Ytbpeamjgddikjaa
