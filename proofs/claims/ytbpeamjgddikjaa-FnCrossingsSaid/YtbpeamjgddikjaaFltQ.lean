/- A list of faults: the walks of both sides. -/
import Derived.Test.YtbpeamjgddikjaaFltP
import Derived.Test.YtbpeamjgddikjaaFltH
import Derived.Test.YtbpeamjgddikjaaFauI
namespace Go.Proofs.Ytbpeamjgddikjaa
open Go.RowKit Go.Maps
set_option linter.unusedVariables false
set_option linter.unusedSimpArgs false

set_option maxHeartbeats 1000000 in
theorem spec_good18 (A : Option Addr) (n c : Nat) (E : Nat → FauE) (Q : Nat → Option Addr × Nat) (v : Bool) (hv : fausB n E = v) (w : World) (hn : n ≤ 1048576) (hm : ∀ i, i < n → (E i).nm.size ≤ 1048576 ∧ (E i).m ≤ 1048576) (hL : FauL w A n E Q) :
    Calls Try.prog 58 #[.slice A n c] w fun e w' => e = .returned (.bool v) ∧ Below w.heap.size w w' := by
  have HV := hide hv; have HM := hide hm; have HL := hide hL
  clear hv hm hL
  go_enter Try.func58, Try.ntmps58
  go_wp2
  go_loopw [3] (fun i wr => ∃ k : Nat, k ≤ n ∧ k ≤ 7 ∧ i = .int .i64 k ∧ Below w.heap.size w wr ∧ (∀ i, i < k → faOk E i) ∧ ∀ i, i < k → ∀ j, j < i → (E j).nm ≠ (E i).nm) (fun i _ => n - (intOf i).toNat)
  case atStart => exact ⟨0, Nat.zero_le _, by omega, rfl, by go_grown, all_zero, all_zero⟩
  case round =>
    obtain ⟨k, hk, hk7, rfl, hb, hall, hnm⟩ := hrel
    by_cases hlt : k < n
    · by_cases h6 : k ≤ 6
      · have hF := HL.out.on hb
        obtain ⟨b, off, hA, hbb, hc⟩ := hF.arr (by omega)
        have hdp := hide (hF.deep k hlt)
        have HF := hide hF
        subst hA
        obtain ⟨c0, c1, c2, c3⟩ := loads4 (A := none) hlt hc
        rw [fcv0] at c0; rw [fcv1] at c1; rw [fcv2] at c2; rw [fcv3] at c3
        obtain ⟨hs1, hm1⟩ := HM.out k hlt
        have hx := BW.cell (w := wr)
        have HC := hide hc; have HA := hide hall; have HN := hide hnm
        clear hall hc hnm hF
        cases h0 : faOne E k
        · have h1 : fauB (E k).id (E k).nm (E k).m (E k).Y (E k).sl = false := h0
          have HE := hide h0
          clear h0
          go_wp2
          refine wp_region_bw (by kernel_rfl) (by kernel_rfl) ?_
          repeat (go_big_quiet_step ((first | (go_at_call 46; exact BW.call (spec_fau _ _ _ _ _ _ _ _ h1 _ hs1 hm1 (hdp.out.on (BW.prop _)))))))
          refine wpQuiet_end fun w1 hb1 => ?_
          go_wp2
          go_ret
          exact ⟨ret_bool (by rw [← HV.out, fausB_no hlt (fun h => by have := h.1; rw [HE.out] at this; cases this)]; try rfl), hb.trans (hb1.mono hb.size)⟩
        · have h1 : fauB (E k).id (E k).nm (E k).m (E k).Y (E k).sl = true := h0
          have HE := hide h0
          clear h0
          by_cases hup : 0 < k → (E (k - 1)).id < (E k).id
          · have HU := hide hup
            have hg : ∀ (w1 : World), Below wr.heap.size wr w1 → Hid (FauL w1 (some ⟨b, off, none⟩) n E Q) := fun w1 h => hide (HF.out.on h)
            rcases k with _ | p
            · simp only [Nat.zero_mul, Nat.add_zero] at c0 c1 c2 c3
              clear hg hup
              go_wp2
              refine wp_region_bw (by kernel_rfl) (by kernel_rfl) ?_
              repeat (go_big_quiet_step ((first | (go_at_call 46; exact BW.call (spec_fau _ _ _ _ _ _ _ _ h1 _ hs1 hm1 (hdp.out.on (BW.prop _)))))))
              refine wpQuiet_end fun w1 hb1 => ?_
              go_wp2
              go_loopw [4] (fun j wx => j = .int .i64 0 ∧ wx = w1) (fun _ _ => 0)
              case atStart => exact ⟨rfl, rfl⟩
              case round =>
                obtain ⟨rfl, rfl⟩ := hrel
                go_wp2
                go_roundw
                case rel => exact ⟨1, by omega, by omega, by go_num, hb.trans (hb1.mono hb.size), all_snoc all_zero ⟨HE.out, fun h => absurd h (by omega)⟩, fun i hi j hj => by omega⟩
                case measure => simp [intOf]; omega
            · have d0 := HC.out p 0 (by omega) (by omega)
              simp only [Nat.add_zero] at d0
              rw [fcv0] at d0
              have hup2 : (E p).id < (E (p + 1)).id := hup (by omega)
              clear hup
              go_wp2
              refine wp_region_bw (by kernel_rfl) (by kernel_rfl) ?_
              repeat (go_big_quiet_step ((first | (go_at_call 46; exact BW.call (spec_fau _ _ _ _ _ _ _ _ h1 _ hs1 hm1 (hdp.out.on (BW.prop _)))))))
              refine wpQuiet_end fun w1 hb1 => ?_
              have HG := hg _ hb1
              clear hg
              go_wp2
              go_loopw [4] (fun j wx => ∃ q : Nat, q ≤ p + 1 ∧ j = .int .i64 q ∧ Below w1.heap.size w1 wx ∧ ∀ i, i < q → (E i).nm ≠ (E (p + 1)).nm) (fun j _ => p + 1 - (intOf j).toNat)
              case atStart => exact ⟨0, Nat.zero_le _, rfl, Below.refl _ _, all_zero⟩
              case round =>
                obtain ⟨q, hq, rfl, hbx, hne⟩ := hrel
                have hbz := below_call (hb.trans (hb1.mono hb.size)) hbx
                have HNE := hide hne
                clear hne
                by_cases hql : q < p + 1
                · obtain ⟨b2, off2, hA2, hbb2, hc2⟩ := (HG.out.on hbx).arr (by omega)
                  cases hA2
                  have e1 := hc2 q 1 (by omega) (by omega); have f1 := hc2 (p + 1) 1 (by omega) (by omega)
                  rw [fcv1] at e1 f1
                  clear hc2
                  have hx2 := BW.cell (w := wr)
                  by_cases hs : (E q).nm = (E (p + 1)).nm
                  · go_wp2
                    refine wp_region_bw (by kernel_rfl) (by kernel_rfl) ?_
                    repeat (go_big_quiet_step ((first | fail)))
                    refine wpQuiet_end fun w1 hb1 => ?_
                    go_wp2
                    go_ret
                    exact ⟨ret_bool (by rw [← HV.out, fausB_same hlt hql hs]; try rfl), below_call hbz hb1⟩
                  · have hsb : ((E q).nm.toList == (E (p + 1)).nm.toList) = false := by rw [← beq_toListBytes, ← Bool.not_eq_true, Go.MapKept.bytes_beq]; exact hs
                    have HSN := hide hs
                    go_wp2
                    refine wp_region_bw (by kernel_rfl) (by kernel_rfl) ?_
                    repeat (go_big_quiet_step ((first | fail)))
                    refine wpQuiet_end fun w1 hb1 => ?_
                    go_wp2
                    go_roundw
                    case rel => exact ⟨q + 1, by omega, by go_num, below_call hbx hb1, all_snoc HNE.out HSN.out⟩
                    case measure => simp [intOf]; omega
                · obtain rfl : q = p + 1 := by omega
                  go_wp2
                  go_roundw
                  case rel => exact ⟨p + 2, by omega, by omega, by go_num, hbz, all_snoc HA.out ⟨HE.out, HU.out⟩, all_snoc HN.out HNE.out⟩
                  case measure => simp [intOf]; omega
          · rcases k with _ | p
            · exact absurd (fun h => absurd h (by omega)) hup
            · have d0 := HC.out p 0 (by omega) (by omega)
              simp only [Nat.add_zero] at d0
              rw [fcv0] at d0
              have HU := hide hup
              have hup2 : (E (p + 1)).id ≤ (E p).id := by
                by_cases h : (E p).id < (E (p + 1)).id
                · exact absurd (fun _ => h) hup
                · omega
              clear hup
              go_wp2
              refine wp_region_bw (by kernel_rfl) (by kernel_rfl) ?_
              repeat (go_big_quiet_step ((first | (go_at_call 46; exact BW.call (spec_fau _ _ _ _ _ _ _ _ h1 _ hs1 hm1 (hdp.out.on (BW.prop _)))))))
              refine wpQuiet_end fun w1 hb1 => ?_
              go_wp2
              go_ret
              exact ⟨ret_bool (by rw [← HV.out, fausB_no hlt (fun h => HU.out h.2)]; try rfl), hb.trans (hb1.mono hb.size)⟩
      · obtain rfl : k = 7 := by omega
        clear hall hnm
        go_wp2
        go_ret
        exact ⟨ret_bool (by rw [← HV.out, fausB_many (by omega)]; simp; omega), hb⟩
    · obtain rfl : k = n := by omega
      have HA := hide hall; have HN := hide hnm
      clear hall hnm
      by_cases h6 : k ≤ 6
      · go_wp2
        go_ret
        exact ⟨ret_bool (by rw [← HV.out, fausB_yes HA.out HN.out]; simp; omega), hb⟩
      · go_wp2
        go_ret
        exact ⟨ret_bool (by rw [← HV.out, fausB_yes HA.out HN.out]; simp; omega), hb⟩
theorem spec_faus (A : Option Addr) (n c : Nat) (E : Nat → FauE) (Q : Nat → Option Addr × Nat) (v : Bool) (hv : fausB n E = v) (w : World) (hn : n ≤ 1048576) (hm : ∀ i, i < n → (E i).nm.size ≤ 1048576 ∧ (E i).m ≤ 1048576) (hL : FauL w A n E Q) :
    Calls Try.prog 24 #[.slice A n c] w fun e w' => e = .returned (.bool v) ∧ Below w.heap.size w w' := by
  go_enter Try.func24, Try.ntmps24
  go_wp2_with fail
  refine (spec_good18 _ _ _ _ _ _ hv _ hn hm hL).mono ?_
  rintro e w1 ⟨rfl, hb1⟩
  obtain ⟨qc1, qf1⟩ := bcell hb1
  have hz1 := hb1.size
  try simp only [World.size_alloc, World.size_setCell, World.size_drew] at hz1
  have hq1 : Below w.heap.size w w1 := below_call (by go_grown) hb1
  try have hl0_1 : w.heap.size < w1.heap.size := by omega
  try have hl1_1 : w.heap.size + 1 < w1.heap.size := by omega
  try have hl2_1 : w.heap.size + 2 < w1.heap.size := by omega
  try have hl3_1 : w.heap.size + 3 < w1.heap.size := by omega
  go_wp2
  go_returns
  exact ⟨rfl, hq1⟩

theorem fau_id (x0 : Int) (s : ByteArray) (A : Option Addr) (m c : Nat) (x3 : Int) (w : World) :
    Calls Try.prog 60 #[.agg #[.int .i64 x0, .string s, .slice A m c, .int .i64 x3]] w fun e w' => e = .returned (.int .i64 x0) ∧ Below w.heap.size w w' := by
  go_enter Try.func60, Try.ntmps60
  go_wp2
  go_returns
  exact ⟨rfl, by go_grown⟩
theorem fau_nm (x0 : Int) (s : ByteArray) (A : Option Addr) (m c : Nat) (x3 : Int) (w : World) :
    Calls Try.prog 62 #[.agg #[.int .i64 x0, .string s, .slice A m c, .int .i64 x3]] w fun e w' => e = .returned (.string s) ∧ Below w.heap.size w w' := by
  go_enter Try.func62, Try.ntmps62
  go_wp2
  go_returns
  exact ⟨rfl, by go_grown⟩
theorem below_box {w wr w1 : World} {o : Obj} (hb : Below w.heap.size w wr) (hb1 : Below (wr.alloc o).heap.size (wr.alloc o) w1) : Below w.heap.size w w1 := below_call (below_al hb) hb1

set_option maxHeartbeats 1000000 in
theorem impl_listed18 (A : Option Addr) (n c : Nat) (E : Nat → FauE) (Q : Nat → Option Addr × Nat) (v : Bool) (hv : listB n E = v) (w : World) (hn : n ≤ 1048576) (hm : ∀ i, i < n → (E i).nm.size ≤ 1048576 ∧ (E i).m ≤ 1048576) (hL : FauL w A n E Q) :
    Calls Try.prog 59 #[.slice A n c, .int .i64 6, .func (.func 17) #[] #[], .func (.func 60) #[] #[]] w fun e w' => e = .returned (.bool v) ∧ Below w.heap.size w w' := by
  have HV := hide hv; have HM := hide hm; have HL := hide hL
  clear hv hm hL
  go_enter Try.func59, Try.ntmps59
  go_wp2
  go_loopw [13] (fun i wr => ∃ k : Nat, k ≤ n ∧ i = .int .i64 k ∧ Below w.heap.size w wr ∧ ∀ i, i < k → faOk E i) (fun i _ => n - (intOf i).toNat)
  case atStart => exact ⟨0, Nat.zero_le _, rfl, by go_grown, all_zero⟩
  case round =>
    obtain ⟨k, hk, rfl, hb, hall⟩ := hrel
    by_cases hlt : k < n
    · have hF := HL.out.on hb
      obtain ⟨b, off, hA, hbl, hc⟩ := hF.arr (by omega)
      have hdp := hide ((hF.deep k hlt).on (below_al (o := .cells #[.int .i64 (E k).id, .string (E k).nm, .slice (Q k).1 (E k).m (Q k).2, .int .i64 (E k).sl] 36) (Below.refl _ _)))
      subst hA
      obtain ⟨c0, c1, c2, c3⟩ := loads4 (A := none) hlt hc
      rw [fcv0] at c0; rw [fcv1] at c1; rw [fcv2] at c2; rw [fcv3] at c3
      obtain ⟨hs1, hm1⟩ := HM.out k hlt
      have hx := fun (o : Obj) => BW.cell (w := wr.alloc o)
      have HC := hide hc; have HA := hide hall
      clear hall hc hF
      cases h0 : faOne E k
      · have h1 : fauB (E k).id (E k).nm (E k).m (E k).Y (E k).sl = false := h0
        have HE := hide h0
        clear h0
        go_wp2
        refine wp_region_bw (by kernel_rfl) (by kernel_rfl) ?_
        repeat (go_big_quiet_step ((first | (go_at_call 17; exact BW.call (impl_isFau _ _ _ _ _ _ _ _ h1 _ hs1 hm1 (hdp.out.on (BW.prop _)))) | (go_at_call 60; exact BW.call (fau_id _ _ _ _ _ _ _)))))
        refine wpQuiet_end fun w1 hb1 => ?_
        go_wp2
        go_ret
        exact ⟨ret_bool (by rw [← HV.out, listB_no hlt (fun h => by have := h.1; rw [HE.out] at this; cases this)]; try rfl), below_box hb hb1⟩
      · have h1 : fauB (E k).id (E k).nm (E k).m (E k).Y (E k).sl = true := h0
        have HE := hide h0
        clear h0
        rcases k with _ | p
        · simp only [Nat.zero_mul, Nat.add_zero] at c0 c1 c2 c3
          go_wp2
          refine wp_region_bw (by kernel_rfl) (by kernel_rfl) ?_
          repeat (go_big_quiet_step ((first | (go_at_call 17; exact BW.call (impl_isFau _ _ _ _ _ _ _ _ h1 _ hs1 hm1 (hdp.out.on (BW.prop _)))) | (go_at_call 60; exact BW.call (fau_id _ _ _ _ _ _ _)))))
          refine wpQuiet_end fun w1 hb1 => ?_
          go_wp2
          go_roundw
          case rel => exact ⟨1, by omega, by go_num, below_box hb hb1, all_snoc all_zero ⟨HE.out, fun h => absurd h (by omega)⟩⟩
          case measure => simp [intOf]; omega
        · obtain ⟨d0, d1, d2, d3⟩ := loads4 (A := none) (show p < n by omega) HC.out
          rw [fcv0] at d0; rw [fcv1] at d1; rw [fcv2] at d2; rw [fcv3] at d3
          by_cases h3 : (E p).id < (E (p + 1)).id
          · go_wp2
            refine wp_region_bw (by kernel_rfl) (by kernel_rfl) ?_
            repeat (go_big_quiet_step ((first | (go_at_call 17; exact BW.call (impl_isFau _ _ _ _ _ _ _ _ h1 _ hs1 hm1 (hdp.out.on (BW.prop _)))) | (go_at_call 60; exact BW.call (fau_id _ _ _ _ _ _ _)))))
            refine wpQuiet_end fun w1 hb1 => ?_
            go_wp2
            go_roundw
            case rel => exact ⟨p + 2, by omega, by go_num, below_box hb hb1, all_snoc HA.out ⟨HE.out, fun _ => h3⟩⟩
            case measure => simp [intOf]; omega
          · have h4 : (E (p + 1)).id ≤ (E p).id := by omega
            go_wp2
            refine wp_region_bw (by kernel_rfl) (by kernel_rfl) ?_
            repeat (go_big_quiet_step ((first | (go_at_call 17; exact BW.call (impl_isFau _ _ _ _ _ _ _ _ h1 _ hs1 hm1 (hdp.out.on (BW.prop _)))) | (go_at_call 60; exact BW.call (fau_id _ _ _ _ _ _ _)))))
            refine wpQuiet_end fun w1 hb1 => ?_
            go_wp2
            go_ret
            exact ⟨ret_bool (by rw [← HV.out, listB_no hlt (fun h => Int.not_lt.2 h4 (h.2 (by omega)))]; try rfl), below_box hb hb1⟩
    · obtain rfl : k = n := by omega
      have HA := hide hall
      clear hall
      go_wp2
      go_ret
      exact ⟨ret_bool (by rw [← HV.out, listB_yes HA.out]; simp; omega), hb⟩
set_option maxHeartbeats 2000000 in
set_option maxRecDepth 100000 in
theorem differ_fault (A : Option Addr) (n c : Nat) (E : Nat → FauE) (Q : Nat → Option Addr × Nat) (v : Bool) (hv : diffS n (fnm E) = v) (w : World) (hn : n ≤ 1048576) (hm : ∀ i, i < n → (E i).nm.size ≤ 1048576 ∧ (E i).m ≤ 1048576) (hL : FauL w A n E Q) :
    Calls Try.prog 61 #[.slice A n c, .func (.func 62) #[] #[]] w fun e w' => e = .returned (.bool v) ∧ Below w.heap.size w w' := by
  have HV := hide hv; have HM := hide hm; have HL := hide hL
  clear hv hm hL
  have hmm := @run_makeMap Try.prog
  go_enter Try.func61, Try.ntmps61
  go_wp2
  clear hmm
  go_loopw [11] (fun i wr => ∃ k : Nat, k ≤ n ∧ i = .int .i64 k ∧ Below w.heap.size w wr ∧ Seen Try.prog 9 4 wr w.heap.size k (seenS (fnm E) k) ∧ ∀ i, i < k → ∀ j, j < i → fnm E j ≠ fnm E i) (fun i _ => n - (intOf i).toNat)
  case atStart => exact ⟨0, Nat.zero_le _, rfl, by go_grown, by rw [← seenS_zero]; exact Seen.made _ _ _ _, all_zero⟩
  case round =>
    obtain ⟨k, hk, rfl, hbw, hs, hall⟩ := hrel
    by_cases hlt : k < n
    · obtain ⟨b2, off2, hA, hbb2, hc2⟩ := HL.out.arr (by omega)
      obtain ⟨q1, q2⟩ := bcell hbw
      have hsw := hbw.size
      subst hA
      obtain ⟨e0, e1, e2, e3⟩ := loads4 (A := none) hlt hc2
      rw [fcv0] at e0; rw [fcv1] at e1; rw [fcv2] at e2; rw [fcv3] at e3
      obtain ⟨hs1, hm1⟩ := HM.out k hlt
      have hkey : keyOf Try.prog 9 (.string (E k).nm) = some (.string (E k).nm.data.toList) := Go.WideMaps.keyOf_string_mk Try.underlying9 (by simp only [maxLen]; omega)
      have HA := hide hall; have HK := hide hkey; have HS := hide hs
      clear hall hc2 hkey hs
      have hW : Below wr.heap.size wr (wr.alloc (.cells #[.int .i64 (E k).id, .string (E k).nm, .slice (Q k).1 (E k).m (Q k).2, .int .i64 (E k).sl] 36)) := below_al (Below.refl _ _)
      obtain ⟨sb, hsb⟩ : ∃ sb, seenS (fnm E) k (.string (E k).nm.data.toList) = sb := ⟨_, rfl⟩
      have hse := hide hsb
      clear hsb
      go_wp2_with fail
      refine (fau_nm _ _ _ _ _ _ _).mono ?_
      rintro e w2 ⟨rfl, hb2⟩
      have hz2 := hb2.size
      simp only [World.size_alloc] at hz2
      have hl2 : wr.heap.size < w2.heap.size := by omega
      have hq2 : Below wr.heap.size wr w2 := below_call hW hb2
      have HS2 := hide (HS.out.kept hq2)
      obtain ⟨qc2, qf2⟩ := bcell hb2
      clear hW
      cases sb
      · go_wp2_with (at_lookup; refine wpList_ask _ rfl _ _ _ rfl HS2.out law_strS Try.underlying98 Try.underlying4 (zero_boolS _) rfl (.string (E k).nm) (.string (E k).nm.data.toList) rfl trivial HK.out ?_; rw [hse.out])
        refine (fau_nm _ _ _ _ _ _ _).mono ?_
        rintro e w3 ⟨rfl, hb3⟩
        have HS3 := hide (HS2.out.kept hb3)
        have hq3 : Below wr.heap.size wr w3 := below_call hq2 hb3
        go_wp2_with (at_mapUpdate; refine wpList_see _ rfl _ _ _ _ rfl HS3.out law_strS Try.underlying98 Try.underlying4 (by unfold maxLen; omega) rfl (.string (E k).nm) (.string (E k).nm.data.toList) rfl rfl trivial HK.out (S' := seenS (fnm E) (k + 1)) (seenS_self (fnm E) k) (fun x hx => seenS_other (fnm E) k x hx) ?_; intro w4 hs4 hg4)
        go_roundw
        case rel => exact ⟨k + 1, by omega, by go_num, (hbw.trans (hq3.mono hbw.size)).grown hg4 (Nat.le_trans hbw.size hq3.size) (fun g hg => by injection hg with hg; omega), hs4, all_snoc HA.out (diffS_step hse.out)⟩
        case measure => simp [intOf]; omega
      · go_wp2_with (at_lookup; refine wpList_ask _ rfl _ _ _ rfl HS2.out law_strS Try.underlying98 Try.underlying4 (zero_boolS _) rfl (.string (E k).nm) (.string (E k).nm.data.toList) rfl trivial HK.out ?_; rw [hse.out])
        go_ret
        exact ⟨ret_bool (by rw [← HV.out, diffS_no hlt hse.out]; try rfl), hbw.trans (hq2.mono hbw.size)⟩
    · obtain rfl : k = n := by omega
      have HA := hide hall
      clear hall
      go_wp2
      go_ret
      exact ⟨ret_bool (by rw [← HV.out]; unfold diffS; rw [decide_eq_true HA.out]; try rfl), hbw⟩
theorem impl_faus (A : Option Addr) (n c : Nat) (E : Nat → FauE) (Q : Nat → Option Addr × Nat) (v : Bool) (hv : fausB n E = v) (w : World) (hn : n ≤ 1048576) (hm : ∀ i, i < n → (E i).nm.size ≤ 1048576 ∧ (E i).m ≤ 1048576) (hL : FauL w A n E Q) :
    Calls Try.prog 26 #[.slice A n c] w fun e w' => e = .returned (.bool v) ∧ Below w.heap.size w w' := by
  have HV := hide hv; have HM := hide hm; have HL := hide hL
  clear hv hm hL
  obtain ⟨x, HX⟩ : ∃ x, Hid (listB n E = x) := ⟨_, rfl⟩
  obtain ⟨y, HY⟩ : ∃ y, Hid (diffS n (fnm E) = y) := ⟨_, rfl⟩
  have HZ := hide (show v = (x && y) by rw [← HV.out, ← HX.out, ← HY.out]; rfl)
  go_enter Try.func26, Try.ntmps26
  go_wp2_with fail
  refine (impl_listed18 A n c E Q x HX.out _ hn HM.out (HL.out.on (by go_grown))).mono ?_
  rintro e w1 ⟨rfl, hb1⟩
  obtain ⟨qc1, qf1⟩ := bcell hb1
  have hz1 := hb1.size
  try simp only [World.size_alloc, World.size_setCell, World.size_drew] at hz1
  have hq1 : Below w.heap.size w w1 := below_call (by go_grown) hb1
  try have hl0_1 : w.heap.size < w1.heap.size := by omega
  try have hl1_1 : w.heap.size + 1 < w1.heap.size := by omega
  try have hl2_1 : w.heap.size + 2 < w1.heap.size := by omega
  try have hl3_1 : w.heap.size + 3 < w1.heap.size := by omega
  cases x
  · go_wp2
    go_returns
    exact ⟨ret_bool (by rw [HZ.out]; rfl), hq1⟩
  · skip
    go_wp2_with fail
    refine (differ_fault A n c E Q y HY.out _ hn HM.out (HL.out.on (by go_grown))).mono ?_
    rintro e w2 ⟨rfl, hb2⟩
    obtain ⟨qc2, qf2⟩ := bcell hb2
    have hz2 := hb2.size
    try simp only [World.size_alloc, World.size_setCell, World.size_drew] at hz2
    have hq2 : Below w.heap.size w w2 := below_call (by go_grown) hb2
    try have hl0_2 : w.heap.size < w2.heap.size := by omega
    try have hl1_2 : w.heap.size + 1 < w2.heap.size := by omega
    try have hl2_2 : w.heap.size + 2 < w2.heap.size := by omega
    try have hl3_2 : w.heap.size + 3 < w2.heap.size := by omega
    try have hn1_2 : w1.heap.size < w2.heap.size := by omega
    go_wp2
    go_returns
    exact ⟨ret_bool (by rw [HZ.out]; rfl), hq2⟩
end Go.Proofs.Ytbpeamjgddikjaa
