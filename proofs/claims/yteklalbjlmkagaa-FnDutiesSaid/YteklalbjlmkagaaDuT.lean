/- Chapter 17: who could have another duty: the reference's FreeFor. -/
import Derived.Test.YteklalbjlmkagaaDuS
namespace Go.Proofs.Yteklalbjlmkagaa
open Go.RowKit
set_option linter.unusedVariables false
set_option linter.unusedSimpArgs false

def hasD (n : Nat) (D : Nat → Du) (x : Nat) : Bool := decide (∃ i, i < n ∧ whoN D i = x)
def frS (n : Nat) (D : Nat → Du) (b e : Int) (k : Nat) : List Nat := (List.range k).filter fun x => hasD n D x && freeB n D b e x
theorem frS_all (n : Nat) (D : Nat → Du) (b e : Int) : frS n D b e 51 = freeL n D b e := by
  unfold frS freeL whoL hasD
  rw [List.filter_filter]
  congr 1
  funext x
  rw [Bool.and_comm]
theorem frS_len (n : Nat) (D : Nat → Du) (b e : Int) (k : Nat) : (frS n D b e k).length ≤ k := by
  have := List.length_filter_le (fun x => hasD n D x && freeB n D b e x) (List.range k)
  rw [List.length_range] at this
  exact this
theorem frS_yes {n : Nat} {D : Nat → Du} {b e : Int} {k : Nat} (h1 : hasD n D k = true) (h2 : freeB n D b e k = true) : frS n D b e (k + 1) = frS n D b e k ++ [k] := by
  unfold frS
  rw [List.range_succ, List.filter_append]
  simp [List.filter_cons, h1, h2]
theorem frS_no {n : Nat} {D : Nat → Du} {b e : Int} {k : Nat} (h : (hasD n D k && freeB n D b e k) = false) : frS n D b e (k + 1) = frS n D b e k := by
  unfold frS
  rw [List.range_succ, List.filter_append]
  simp [List.filter_cons, h]
theorem hrs_has {n : Nat} {D : Nat → Du} (hD : ∀ i, i < n → OneD (D i)) (x : Nat) : hasD n D x = !(hrsD D x n == 0) := by
  have h := hrsD_zero (x := (x : Int)) (k := n) hD
  unfold hasD
  by_cases e : hrsD D x n = 0
  · rw [e]
    refine decide_eq_false (fun ⟨i, hi, ei⟩ => ?_)
    have h1 := h.1 e i hi
    have h2 := (hD i hi).w1
    unfold whoN at ei
    omega
  · rw [show (hrsD D x n == 0) = false by simp [e]]
    refine decide_eq_true ?_
    refine Classical.byContradiction fun hno => e (h.2 fun i hi he => hno ⟨i, hi, ?_⟩)
    unfold whoN
    omega
set_option maxHeartbeats 4000000 in
set_option maxRecDepth 100000 in
theorem spec_free (g n c : Nat) (D : Nat → Du) (b t : Int) (ok : Bool) (hk : freeOk n D b t = ok) (R : List Nat) (hR : (if ok = true then freeL n D b t else []) = R) (w : World) (hn : n ≤ 1048576) (hnc : n ≤ c) (ha : Arr w w.heap.size (some ⟨g, 0, none⟩) n 4 (dv D)) :
    Calls Try.prog 13 #[.slice (some ⟨g, 0, none⟩) n c, .int .i64 b, .int .i64 t] w (OnPost w ok R) := by
  have hfa := frozen_al; have hfo := frozen_out
  obtain ⟨i0, hi0, hy0, hy1, hy2⟩ := info_parts info_int
  have HA := hide ha; have HK := hide hk; have HR := hide hR
  have hba : Below w.heap.size w (w.alloc (.cells #[] 3)) := below_al (Below.refl _ _)
  have HR0 := hide (row_new_at w w.heap.size w.heap.size 1 3 rfl (Nat.le_refl _))
  clear ha hk hR
  cases hg : goodB n D
  · obtain rfl : false = ok := by rw [← HK.out, freeOk, hg]; rfl
    obtain rfl : [] = R := HR.out
    have HG := hide hg
    clear hg
    go_enter Try.func13, Try.ntmps13
    go_wp2_with fail
    refine (spec_good17 (some ⟨g, 0, none⟩) n c D _ HG.out _ hn (HA.out.on (by go_grown))).mono ?_
    rintro e w1 ⟨rfl, hb1⟩
    obtain ⟨qc1, qf1⟩ := bcell hb1
    have hz1 := hb1.size
    try simp only [World.size_alloc, World.size_setCell, World.size_drew] at hz1
    have hq1 : Below w.heap.size w w1 := below_call (by go_grown) hb1
    try have hl0_1 : w.heap.size < w1.heap.size := by omega
    try have hl1_1 : w.heap.size + 1 < w1.heap.size := by omega
    try have hl2_1 : w.heap.size + 2 < w1.heap.size := by omega
    try have hl3_1 : w.heap.size + 3 < w1.heap.size := by omega
    have HR1 := hide (row_below HR0.out hb1)
    go_wp2
    go_returns
    exact on_post rfl hq1 rfl HR1.out
  · have HG := hide hg
    obtain ⟨hn12, hok⟩ := good_of hg
    have HD := hide (fun i hi => (hok i hi).1)
    have HV := hide (show oneB ⟨1, b, t, false⟩ = ok by rw [← HK.out, freeOk, hg, Bool.true_and])
    clear hg hok
    go_enter Try.func13, Try.ntmps13
    go_wp2_with fail
    refine (spec_good17 (some ⟨g, 0, none⟩) n c D _ HG.out _ hn (HA.out.on (by go_grown))).mono ?_
    rintro e w1 ⟨rfl, hb1⟩
    obtain ⟨qc1, qf1⟩ := bcell hb1
    have hz1 := hb1.size
    try simp only [World.size_alloc, World.size_setCell, World.size_drew] at hz1
    have hq1 : Below w.heap.size w w1 := below_call (by go_grown) hb1
    try have hl0_1 : w.heap.size < w1.heap.size := by omega
    try have hl1_1 : w.heap.size + 1 < w1.heap.size := by omega
    try have hl2_1 : w.heap.size + 2 < w1.heap.size := by omega
    try have hl3_1 : w.heap.size + 3 < w1.heap.size := by omega
    have HR1 := hide (row_below HR0.out hb1)
    clear hb1 hz1 qc1 qf1
    go_wp2_with fail
    refine (spec_one17 ⟨1, b, t, false⟩ _ HV.out _).mono ?_
    rintro e w2 ⟨rfl, hb2⟩
    have hq2 := below_call hq1 hb2
    have HR2 := hide (row_below HR1.out hb2)
    clear hb2 HR0 HR1
    cases ok
    · obtain rfl : [] = R := HR.out
      go_wp2
      go_returns
      exact on_post rfl hq2 rfl HR2.out
    · obtain rfl : freeL n D b t = R := HR.out
      clear hba hq1
      go_wp2
      go_loopw [8, 9] (fun v y wr => ∃ (k g2 cap m : Nat), 1 ≤ k ∧ k ≤ 51 ∧ y = .int .i64 k ∧ v = .slice (some ⟨g2, 0, none⟩) m cap ∧ m = (frS n D b t k).length ∧ Below w.heap.size w wr ∧ wr.ownsRow w.heap.size 3 1 (.slice (some ⟨g2, 0, none⟩) m cap) m (nl (frS n D b t k))) (fun _ y _ => 51 - (intOf y).toNat)
      case atStart =>
        have e0 : frS n D b t 1 = [] := by
          rw [frS_no (k := 0)]
          · rfl
          · rw [hrs_has HD.out, (hrsD_zero (x := ((0 : Nat) : Int)) HD.out).2 (fun i hi e => by have := (HD.out i hi).w1; omega)]; rfl
        exact ⟨1, _, _, 0, Nat.le_refl _, by omega, rfl, rfl, by rw [e0]; rfl, hq2, by rw [e0]; exact HR2.out⟩
      case round =>
        clear HR2 hq2
        obtain ⟨k, g2, cap, m, hk1, hk, rfl, rfl, hm, hbw, hown⟩ := hrel
        have HO := hide hown; have HM := hide hm
        have hmk : m ≤ 60 := by rw [hm]; have := frS_len n D b t k; omega
        clear hown hm
        by_cases hlt : k ≤ 50
        · obtain ⟨r, hr⟩ : ∃ r, hrsD D (k : Int) n = r := ⟨_, rfl⟩
          have HH := hide (hrs_has HD.out k)
          have HRR := hide hr
          clear hr
          go_wp2_with fail
          refine (spec_hrs (some ⟨g, 0, none⟩) n c D k r HRR.out _ (by omega) (HA.out.on hbw) HD.out).mono ?_
          rintro e w3 ⟨rfl, hb3⟩
          have hq3 := below_call hbw hb3
          have HO3 := hide (row_below HO.out hb3)
          clear hb3 HO
          by_cases hr0 : r = 0
          · subst hr0
            have HS := hide (frS_no (b := b) (e := t) (show (hasD n D k && freeB n D b t k) = false by rw [HH.out, HRR.out]; rfl))
            go_wp2
            go_roundw
            case rel => exact ⟨k + 1, g2, cap, m, by omega, by omega, by go_num, rfl, by rw [HS.out]; exact HM.out, hq3, by rw [HS.out]; exact HO3.out⟩
            case measure => simp [intOf]; omega
          · have hrb : (r == 0) = false := by simp [hr0]
            have HHT := hide (show hasD n D k = true by rw [HH.out, HRR.out, hrb]; rfl)
            obtain ⟨u, hu⟩ : ∃ u, freeB n D b t k = u := ⟨_, rfl⟩
            have HU := hide hu
            clear hu
            go_wp2_with fail
            refine (spec_put17 g n c D ⟨k, b, t, false⟩ _ (by omega) hnc (HA.out.on hq3)).mono ?_
            rintro e w4 ⟨g4, cap4, rfl, hb4, hrow4⟩
            have hq4 := below_call hq3 hb4
            have HO4 := hide (row_below HO3.out hb4)
            have HA4 := hide (arr_row hrow4 (put_row D _ n))
            clear hb4 hrow4 HO3
            go_wp2_with fail
            refine (spec_good17 (some ⟨g4, 0, none⟩) (n + 1) cap4 _ u HU.out _ (by omega) HA4.out).mono ?_
            rintro e w5 ⟨rfl, hb5⟩
            have hq5 := below_call hq4 hb5
            have HO5 := hide (row_below HO4.out hb5)
            clear hb5 HO4 HA4
            cases u
            · have HS := hide (frS_no (b := b) (e := t) (show (hasD n D k && freeB n D b t k) = false by rw [HU.out, Bool.and_false]))
              go_wp2
              go_roundw
              case rel => exact ⟨k + 1, g2, cap, m, by omega, by omega, by go_num, rfl, by rw [HS.out]; exact HM.out, hq5, by rw [HS.out]; exact HO5.out⟩
              case measure => simp [intOf]; omega
            · have HS := hide (frS_yes HHT.out HU.out)
              have hlt1 := HO5.out.lt
              have hs1 := hq5.size
              go_wp2_with (at_builtin; refine wpList_append_far _ rfl _ _ 31 rfl w.heap.size 3 i0 (.int .i64 0) 1 8 Try.underlying31 hi0 hy0 hy1 hy2 rfl (by decide) _ _ _ (by rfl) (HO5.out.alloc _) ⟨w5.heap.size, 0, none⟩ 1 1 [.int .i64 (k : Int)] (by rfl) rfl (cell_one_at _ _ _ _ rfl) (by intro u hu; simp only [List.mem_singleton] at hu; subst hu; rfl) (by unfold maxLen; omega) (by omega) (by simp only [World.size_alloc]; omega) ?_; intro v6 w6 hown6 hgrow6 _; obtain ⟨g6, cap6, rfl⟩ := row_formD hown6 (Nat.succ_pos _))
              have hrow : w6.ownsRow w.heap.size 3 1 (.slice (some ⟨g6, 0, none⟩) (m + 1) cap6) (m + 1) (nl (frS n D b t (k + 1))) := by
                rw [HS.out, ← nl_app]; exact hown6
              have hbw6 := (below_al (o := .cells #[.int .i64 (k : Int)] 3) hq5).grown hgrow6 (by simp only [World.size_alloc]; omega) (fun gg hg => (hlt1 gg hg).1)
              have H1 := hide hrow; have H2 := hide hbw6
              clear hown6 hgrow6 hrow hbw6 hlt1
              go_wp2
              go_roundw
              case rel => exact ⟨k + 1, g6, cap6, m + 1, by omega, by omega, by go_num, rfl, by rw [HS.out, List.length_append, ← HM.out]; rfl, H2.out, H1.out⟩
              case measure => simp [intOf]; omega
        · obtain rfl : k = 51 := by omega
          have h1 := HM.out; have h2 := HO.out
          rw [frS_all] at h1 h2
          have H1 := hide h1; have H2 := hide h2
          clear h1 h2
          go_wp2
          go_returns
          exact on_post rfl hbw H1.out H2.out
end Go.Proofs.Yteklalbjlmkagaa
