/- The bend that is the nearest to a place: the walks of both sides. -/
import Derived.Test.YtbpeamjgddikjaaFltQ
namespace Go.Proofs.Ytbpeamjgddikjaa
open Go.RowKit
set_option linter.unusedVariables false
set_option linter.unusedSimpArgs false

def nbOk (n : Nat) (E : Nat → FauE) (x y : Int) : Bool := fausB n E && (decide (0 < n) && plB x y)
theorem nb_no {n : Nat} {E : Nat → FauE} {x y a b : Int} {v : Bool} (hv : nbOk n E x y = v) (h : nbOk n E x y = false) (ha : onlyI v (nbF E x y n).1 = a) (hb : onlyI v (nbF E x y n).2.1 = b) : false = v ∧ 0 = a ∧ 0 = b := by
  rw [h] at hv
  subst hv
  exact ⟨rfl, by simpa [onlyI] using ha, by simpa [onlyI] using hb⟩
theorem nb_yes {n : Nat} {E : Nat → FauE} {x y a b : Int} {v : Bool} (hv : nbOk n E x y = v) (h : nbOk n E x y = true) (ha : onlyI v (nbF E x y n).1 = a) (hb : onlyI v (nbF E x y n).2.1 = b) : true = v ∧ (nbF E x y n).1 = a ∧ (nbF E x y n).2.1 = b := by
  rw [h] at hv
  subst hv
  exact ⟨rfl, by simpa [onlyI] using ha, by simpa [onlyI] using hb⟩
theorem nbB_take {e : FauE} {x y : Int} {r : Int × Int × Int} {k : Nat} {a b l d : Int} (h : nbB e x y r k = (a, b, l)) (hd : sqI (e.Y k 0) (e.Y k 1) x y = d) (hl : l < 0 ∨ d < l) : nbB e x y r (k + 1) = (e.id, (k : Int), d) := by
  rw [nbB, h, hd, nbS_take hl]
theorem nbB_keep {e : FauE} {x y : Int} {r : Int × Int × Int} {k : Nat} {a b l d : Int} (h : nbB e x y r k = (a, b, l)) (hd : sqI (e.Y k 0) (e.Y k 1) x y = d) (h1 : ¬ l < 0) (h2 : ¬ d < l) : nbB e x y r (k + 1) = (a, b, l) := by
  rw [nbB, h, hd, nbS_keep h1 h2]

set_option maxHeartbeats 2000000 in
set_option maxRecDepth 100000 in
theorem spec_near (A : Option Addr) (n c : Nat) (E : Nat → FauE) (Q : Nat → Option Addr × Nat) (x y : Int) (v : Bool) (hv : nbOk n E x y = v) (a b : Int) (ha : onlyI v (nbF E x y n).1 = a) (hb : onlyI v (nbF E x y n).2.1 = b) (w : World) (hn : n ≤ 1048576) (hm : ∀ i, i < n → (E i).nm.size ≤ 1048576 ∧ (E i).m ≤ 1048576) (hL : FauL w A n E Q) :
    Calls Try.prog 28 #[.slice A n c, .int .i64 x, .int .i64 y] w fun e w' => e = .returned (.tuple #[.int .i64 a, .int .i64 b, .bool v]) ∧ Below w.heap.size w w' := by
  have hfa := frozen_al; have hfo := frozen_out
  have HM := hide hm; have HL := hide hL; have HA := hide ha; have HBB := hide hb; have HV := hide hv
  clear hv ha hb hm hL
  obtain ⟨u, HU⟩ : ∃ u, Hid (fausB n E = u) := ⟨_, rfl⟩
  go_enter Try.func28, Try.ntmps28
  go_wp2_with fail
  refine (spec_good18 A n c E Q u HU.out _ hn HM.out (HL.out.on (by go_grown))).mono ?_
  rintro e w1 ⟨rfl, hb1⟩
  obtain ⟨qc1, qf1⟩ := bcell hb1
  have hz1 := hb1.size
  try simp only [World.size_alloc, World.size_setCell, World.size_drew] at hz1
  have hq1 : Below w.heap.size w w1 := below_call (by go_grown) hb1
  try have hl0_1 : w.heap.size < w1.heap.size := by omega
  try have hl1_1 : w.heap.size + 1 < w1.heap.size := by omega
  try have hl2_1 : w.heap.size + 2 < w1.heap.size := by omega
  try have hl3_1 : w.heap.size + 3 < w1.heap.size := by omega
  cases u
  · obtain ⟨rfl, rfl, rfl⟩ := nb_no HV.out (by simp [nbOk, HU.out]) HA.out HBB.out
    go_wp2
    go_returns
    exact ⟨rfl, hq1⟩
  · by_cases h0 : n = 0
    · obtain ⟨rfl, rfl, rfl⟩ := nb_no HV.out (by simp [nbOk, h0]) HA.out HBB.out
      go_wp2
      go_returns
      exact ⟨rfl, hq1⟩
    · have hn0 : 0 < n := by omega
      have hnz : ((n : Int) == 0) = false := by simp; omega
      obtain ⟨p, HP⟩ : ∃ p, Hid (plB x y = p) := ⟨_, rfl⟩
      go_wp2_with fail
      refine (spec_place x y p HP.out _).mono ?_
      rintro e w2 ⟨rfl, rfl⟩
      cases p
      · obtain ⟨rfl, rfl, rfl⟩ := nb_no HV.out (by simp [nbOk, HP.out]) HA.out HBB.out
        go_wp2
        go_returns
        exact ⟨rfl, hq1⟩
      · obtain ⟨rfl, h1, h2⟩ := nb_yes HV.out (by simp [nbOk, HP.out, HU.out, hn0]) HA.out HBB.out
        have H1 := hide h1; have H2 := hide h2
        obtain ⟨hn6, hok, _⟩ := fausB_of HU.out
        have HOK := hide hok
        have hpl := pl_of HP.out
        have HPL := hide hpl
        clear h1 h2 hok hpl HA HBB HV
        go_wp2
        go_loopw [9, 10, 11, 12] (fun s9 s10 s11 i wr => ∃ (k : Nat) (r1 r2 r3 : Int), k ≤ n ∧ i = .int .i64 k ∧ s9 = .int .i64 r1 ∧ s10 = .int .i64 r2 ∧ s11 = .int .i64 r3 ∧ nbF E x y k = (r1, r2, r3) ∧ Below w.heap.size w wr) (fun _ _ _ i _ => n - (intOf i).toNat)
        case atStart => exact ⟨0, 0, 0, -1, Nat.zero_le _, rfl, rfl, rfl, rfl, rfl, by go_grown⟩
        case round =>
          obtain ⟨k, r1, r2, r3, hk, rfl, rfl, rfl, rfl, hr, hbw⟩ := hrel
          have HR := hide hr
          clear hr
          by_cases hlt : k < n
          · have hF := hide (HL.out.on hbw)
            go_wp2
            go_loopw [9, 10, 11, 13] (fun s9 s10 s11 j wx => ∃ (q : Nat) (t1 t2 t3 : Int), q ≤ (E k).m ∧ j = .int .i64 q ∧ s9 = .int .i64 t1 ∧ s10 = .int .i64 t2 ∧ s11 = .int .i64 t3 ∧ nbB (E k) x y (nbF E x y k) q = (t1, t2, t3) ∧ Below wr.heap.size wr wx) (fun _ _ _ j _ => (E k).m - (intOf j).toNat)
            case atStart => exact ⟨0, r1, r2, r3, Nat.zero_le _, rfl, rfl, rfl, rfl, HR.out, by go_grown⟩
            case round =>
              obtain ⟨q, t1, t2, t3, hq, rfl, rfl, rfl, rfl, ht, hbx⟩ := hrel
              have HT := hide ht
              clear ht
              obtain ⟨b0, off, hA, hbl, hc⟩ := (hF.out.on hbx).arr (by omega)
              obtain ⟨c0, c1, c2, c3⟩ := loads4 (A := none) hlt hc
              rw [fcv0] at c0; rw [fcv1] at c1; rw [fcv2] at c2; rw [fcv3] at c3
              have hdp := hide ((hF.out.on hbx).deep k hlt)
              have hbz := below_call hbw hbx
              subst hA
              have hm1 := (HM.out k hlt).2
              have hmx : (E k).m ≤ 9223372036854775807 := by omega
              clear hc
              by_cases hql : q < (E k).m
              · obtain ⟨b2, off2, hA2, hbb2, hc2⟩ := hdp.out (by omega)
                have d0 := hc2 q 0 hql (by omega); have d1 := hc2 q 1 hql (by omega)
                simp only [Nat.add_zero, iv] at d0 d1
                rw [hA2] at c2
                obtain ⟨d, hd⟩ : ∃ d, sqI ((E k).Y q 0) ((E k).Y q 1) x y = d := ⟨_, rfl⟩
                have hq2 := fau_pl (HOK.out k hlt).1 q hql
                have hdb := sqI_bd hq2 HPL.out
                rw [hd] at hdb
                have HD := hide hd
                clear hc2 hd hA2
                go_wp2_with fail
                refine (spec_sq _ _ _ _ hq2 HPL.out _).mono ?_
                rintro e w3 ⟨rfl, hb3⟩
                obtain ⟨qc3, qf3⟩ := bcell hb3
                rw [HD.out]
                have hb4 := below_call hbx hb3
                by_cases h1 : t3 < 0
                · have HN := hide (nbB_take HT.out HD.out (.inl h1))
                  go_wp2
                  go_roundw
                  case rel => exact ⟨q + 1, _, _, _, by omega, by go_num, rfl, rfl, rfl, HN.out, hb4⟩
                  case measure => simp [intOf]; omega
                · by_cases h2 : d < t3
                  · have HN := hide (nbB_take HT.out HD.out (.inr h2))
                    go_wp2
                    go_roundw
                    case rel => exact ⟨q + 1, _, _, _, by omega, by go_num, rfl, rfl, rfl, HN.out, hb4⟩
                    case measure => simp [intOf]; omega
                  · have HN := hide (nbB_keep HT.out HD.out h1 h2)
                    go_wp2
                    go_roundw
                    case rel => exact ⟨q + 1, _, _, _, by omega, by go_num, rfl, rfl, rfl, HN.out, hb4⟩
                    case measure => simp [intOf]; omega
              · obtain rfl : q = (E k).m := by omega
                go_wp2
                go_roundw
                case rel => exact ⟨k + 1, _, _, _, by omega, by go_num, rfl, rfl, rfl, HT.out, hbz⟩
                case measure => simp [intOf]; omega
          · obtain rfl : k = n := by omega
            obtain rfl : r1 = a := by rw [← H1.out, HR.out]
            obtain rfl : r2 = b := by rw [← H2.out, HR.out]
            go_wp2
            go_returns
            exact ⟨rfl, hbw⟩
set_option maxHeartbeats 2000000 in
set_option maxRecDepth 100000 in
theorem impl_near (A : Option Addr) (n c : Nat) (E : Nat → FauE) (Q : Nat → Option Addr × Nat) (x y : Int) (v : Bool) (hv : nbOk n E x y = v) (a b : Int) (ha : onlyI v (nbF E x y n).1 = a) (hb : onlyI v (nbF E x y n).2.1 = b) (w : World) (hn : n ≤ 1048576) (hm : ∀ i, i < n → (E i).nm.size ≤ 1048576 ∧ (E i).m ≤ 1048576) (hL : FauL w A n E Q) :
    Calls Try.prog 29 #[.slice A n c, .int .i64 x, .int .i64 y] w fun e w' => e = .returned (.tuple #[.int .i64 a, .int .i64 b, .bool v]) ∧ Below w.heap.size w w' := by
  have hfa := frozen_al; have hfo := frozen_out
  have HM := hide hm; have HL := hide hL; have HA := hide ha; have HBB := hide hb; have HV := hide hv
  clear hv ha hb hm hL
  obtain ⟨u, HU⟩ : ∃ u, Hid (fausB n E = u) := ⟨_, rfl⟩
  go_enter Try.func29, Try.ntmps29
  go_wp2_with fail
  refine (impl_faus A n c E Q u HU.out _ hn HM.out (HL.out.on (by go_grown))).mono ?_
  rintro e w1 ⟨rfl, hb1⟩
  obtain ⟨qc1, qf1⟩ := bcell hb1
  have hz1 := hb1.size
  try simp only [World.size_alloc, World.size_setCell, World.size_drew] at hz1
  have hq1 : Below w.heap.size w w1 := below_call (by go_grown) hb1
  try have hl0_1 : w.heap.size < w1.heap.size := by omega
  try have hl1_1 : w.heap.size + 1 < w1.heap.size := by omega
  try have hl2_1 : w.heap.size + 2 < w1.heap.size := by omega
  try have hl3_1 : w.heap.size + 3 < w1.heap.size := by omega
  cases u
  · obtain ⟨rfl, rfl, rfl⟩ := nb_no HV.out (by simp [nbOk, HU.out]) HA.out HBB.out
    go_wp2
    go_returns
    exact ⟨rfl, hq1⟩
  · obtain ⟨p, HP⟩ : ∃ p, Hid (plB x y = p) := ⟨_, rfl⟩
    go_wp2_with fail
    refine (impl_place x y p HP.out _).mono ?_
    rintro e w2 ⟨rfl, rfl⟩
    cases p
    · obtain ⟨rfl, rfl, rfl⟩ := nb_no HV.out (by simp [nbOk, HP.out]) HA.out HBB.out
      go_wp2
      go_returns
      exact ⟨rfl, hq1⟩
    · by_cases h0 : n = 0
      · obtain ⟨rfl, rfl, rfl⟩ := nb_no HV.out (by simp [nbOk, h0]) HA.out HBB.out
        go_wp2
        go_returns
        exact ⟨rfl, hq1⟩
      · have hn0 : 0 < n := by omega
        have hnz : ((n : Int) == 0) = false := by simp; omega
        obtain ⟨rfl, h1, h2⟩ := nb_yes HV.out (by simp [nbOk, HP.out, HU.out, hn0]) HA.out HBB.out
        have H1 := hide h1; have H2 := hide h2
        obtain ⟨hn6, hok, _⟩ := fausB_of HU.out
        have HOK := hide hok
        have hpl := pl_of HP.out
        have HPL := hide hpl
        clear h1 h2 hok hpl HA HBB HV
        go_wp2
        go_loopw [9, 10, 11, 33] (fun s9 s10 s11 i wr => ∃ (k : Nat) (r1 r2 r3 : Int), k ≤ n ∧ i = .int .i64 k ∧ s9 = .int .i64 r1 ∧ s10 = .int .i64 r2 ∧ s11 = .int .i64 r3 ∧ nbF E x y k = (r1, r2, r3) ∧ Below w.heap.size w wr) (fun _ _ _ i _ => n - (intOf i).toNat)
        case atStart => exact ⟨0, 0, 0, -1, Nat.zero_le _, rfl, rfl, rfl, rfl, rfl, by go_grown⟩
        case round =>
          obtain ⟨k, r1, r2, r3, hk, rfl, rfl, rfl, rfl, hr, hbw⟩ := hrel
          have HR := hide hr
          clear hr
          by_cases hlt : k < n
          · obtain ⟨b0, off, hA, hbl, hc⟩ := (HL.out.on hbw).arr (by omega)
            obtain ⟨c0, c1, c2, c3⟩ := loads4 (A := none) hlt hc
            rw [fcv0] at c0; rw [fcv1] at c1; rw [fcv2] at c2; rw [fcv3] at c3
            have hdp := hide ((HL.out.on hbw).deep k hlt)
            have hm1 := (HM.out k hlt).2
            have hmx : (E k).m ≤ 9223372036854775807 := by omega
            have HBX := hide (Blk.new wr 36 #[.int .i64 (E k).id, .string (E k).nm, .slice (Q k).1 (E k).m (Q k).2, .int .i64 (E k).sl])
            have hal : Below wr.heap.size wr (wr.alloc (.cells #[.int .i64 (E k).id, .string (E k).nm, .slice (Q k).1 (E k).m (Q k).2, .int .i64 (E k).sl] 36)) := below_al (Below.refl _ _)
            subst hA
            clear hc
            go_wp2
            go_loopw [9, 10, 11, 40] (fun s9 s10 s11 j wx => ∃ (q : Nat) (t1 t2 t3 : Int), q ≤ (E k).m ∧ j = .int .i64 q ∧ s9 = .int .i64 t1 ∧ s10 = .int .i64 t2 ∧ s11 = .int .i64 t3 ∧ nbB (E k) x y (nbF E x y k) q = (t1, t2, t3) ∧ Below wr.heap.size wr wx ∧ Blk wx wr.heap.size 36 #[.int .i64 (E k).id, .string (E k).nm, .slice (Q k).1 (E k).m (Q k).2, .int .i64 (E k).sl]) (fun _ _ _ j _ => (E k).m - (intOf j).toNat)
            case atStart => exact ⟨0, r1, r2, r3, Nat.zero_le _, rfl, rfl, rfl, rfl, HR.out, hal, HBX.out⟩
            case round =>
              obtain ⟨q, t1, t2, t3, hq, rfl, rfl, rfl, rfl, ht, hbx, hblk⟩ := hrel
              have HT := hide ht
              clear ht
              have hbz := below_call hbw hbx
              by_cases hql : q < (E k).m
              · obtain ⟨b2, off2, hA2, hbb2, hc2⟩ := (hdp.out.on hbx) (by omega)
                have d0 := hc2 q 0 hql (by omega); have d1 := hc2 q 1 hql (by omega)
                simp only [Nat.add_zero, iv] at d0 d1
                obtain ⟨d, hd⟩ : ∃ d, sqI ((E k).Y q 0) ((E k).Y q 1) x y = d := ⟨_, rfl⟩
                have hq2 := fau_pl (HOK.out k hlt).1 q hql
                have hdb := sqI_bd hq2 HPL.out
                rw [hd] at hdb
                have HD := hide hd
                have hqb : -999 ≤ (E k).Y q 0 - x ∧ (E k).Y q 0 - x ≤ 999 := by
                  have := HPL.out; obtain ⟨p1, p2, p3, p4⟩ := this; obtain ⟨s1, s2, s3, s4⟩ := hq2; omega
                have hqc : -999 ≤ (E k).Y q 1 - y ∧ (E k).Y q 1 - y ≤ 999 := by
                  have := HPL.out; obtain ⟨p1, p2, p3, p4⟩ := this; obtain ⟨s1, s2, s3, s4⟩ := hq2; omega
                have e0 := hblk.cell 0
                simp at e0
                have f0 := hblk.lt
                have HB := hide (Blk.alloc hblk (.cells #[.int .i64 ((E k).Y q 0), .int .i64 ((E k).Y q 1)] 26))
                clear hc2 hd hblk
                rw [hA2] at HB
                rw [hA2]
                clear hA2
                go_wp2_with fail
                refine (impl_sq _ _ hqb hqc _).mono ?_
                rintro e w3 ⟨rfl, rfl⟩
                rw [show ((E k).Y q 0 - x) * ((E k).Y q 0 - x) + ((E k).Y q 1 - y) * ((E k).Y q 1 - y) = d from HD.out]
                by_cases h1 : t3 < 0
                · have HN := hide (nbB_take HT.out HD.out (.inl h1))
                  go_wp2
                  go_roundw
                  case rel => exact ⟨q + 1, _, _, _, by omega, by go_num, rfl, rfl, rfl, HN.out, below_al hbx, HB.out⟩
                  case measure => simp [intOf]; omega
                · by_cases h2 : d < t3
                  · have HN := hide (nbB_take HT.out HD.out (.inr h2))
                    go_wp2
                    go_roundw
                    case rel => exact ⟨q + 1, _, _, _, by omega, by go_num, rfl, rfl, rfl, HN.out, below_al hbx, HB.out⟩
                    case measure => simp [intOf]; omega
                  · have HN := hide (nbB_keep HT.out HD.out h1 h2)
                    go_wp2
                    go_roundw
                    case rel => exact ⟨q + 1, _, _, _, by omega, by go_num, rfl, rfl, rfl, HN.out, below_al hbx, HB.out⟩
                    case measure => simp [intOf]; omega
              · obtain rfl : q = (E k).m := by omega
                go_wp2
                go_roundw
                case rel => exact ⟨k + 1, _, _, _, by omega, by go_num, rfl, rfl, rfl, HT.out, hbz⟩
                case measure => simp [intOf]; omega
          · obtain rfl : k = n := by omega
            obtain rfl : r1 = a := by rw [← H1.out, HR.out]
            obtain rfl : r2 = b := by rw [← H2.out, HR.out]
            go_wp2
            go_returns
            exact ⟨rfl, hbw⟩
end Go.Proofs.Ytbpeamjgddikjaa
