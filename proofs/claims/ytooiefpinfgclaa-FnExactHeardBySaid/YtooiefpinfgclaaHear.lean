/- Chapter 21: all stations that are heard: made by heargen.py. -/
import Derived.Test.YtooiefpinfgclaaAlaQ
import Derived.Test.YtooiefpinfgclaaPut
import Derived.Test.YtooiefpinfgclaaSort
import Derived.Test.YtooiefpinfgclaaCells2
namespace Go.Proofs.Ytooiefpinfgclaa
open Go.RowKit
set_option linter.unusedVariables false
set_option linter.unusedSimpArgs false

theorem own_new_at2 (X : World) (g base k : Nat) (E : TypeId) (F : Nat → Nat → Value) (h : g = X.heap.size) (hb : base ≤ X.heap.size) : Own (X.alloc (.cells #[] E)) base E k (.slice (some ⟨g, 0, none⟩) 0 0) 0 F := by
  subst h
  exact own_new hb
def hrdL (X : Nat → Nat → Int) (n : Nat) : List Nat := (List.range n).map fun i => (X i 0).toNat
theorem hrdL_len (X : Nat → Nat → Int) (n : Nat) : (hrdL X n).length = n := by simp [hrdL]
theorem hrdL_get {X : Nat → Nat → Int} {n k : Nat} (hk : k < n) : (hrdL X n).getD k 0 = (X k 0).toNat := by
  unfold hrdL
  simp [List.getD, hk]
theorem hrdL_take {X : Nat → Nat → Int} {n k : Nat} (hk : k ≤ n) : (hrdL X n).take k = hrdL X k := by
  unfold hrdL
  rw [← List.map_take, List.take_range, Nat.min_eq_left hk]
theorem hrdL_snoc (X : Nat → Nat → Int) (k : Nat) : hrdL X (k + 1) = hrdL X k ++ [(X k 0).toNat] := by
  unfold hrdL; rw [List.range_succ, List.map_append]; rfl
theorem hrdL_nodup {x0 : Int} {X : Nat → Nat → Int} {n : Nat} (h : ∀ i, i < n → hrdOk x0 X i ∧ hrdNew X i) : ∀ k, k ≤ n → (hrdL X k).Nodup
  | 0, _ => by simp [hrdL]
  | k + 1, hk => by
    rw [hrdL_snoc, List.nodup_append]
    refine ⟨hrdL_nodup h k (by omega), by simp, ?_⟩
    intro a ha b hb e
    subst e
    simp only [List.mem_singleton] at hb
    unfold hrdL at ha
    simp only [List.mem_map, List.mem_range] at ha
    obtain ⟨i, hi, he⟩ := ha
    have h1 := (h k (by omega)).2 i hi
    have h2 := (h k (by omega)).1.1
    have h3 := (h i (by omega)).1.1
    omega

set_option maxHeartbeats 4000000 in
set_option maxRecDepth 100000 in
theorem spec_heard (x0 x1 : Int) (A : Option Addr) (n c : Nat) (X : Nat → Nat → Int) (x3 x4 : Int) (v : Bool) (hv : alaB x0 x1 n X x3 x4 = v) (q : Nat) (hq : q = onlyN v n) (w : World) (hn : n ≤ 1048576) (hnc : n ≤ c) (ha : Arr w w.heap.size A n 2 (iv X)) :
    Calls Try.prog 21 #[.agg #[.int .i64 x0, .int .i64 x1, .slice A n c, .int .i64 x3, .int .i64 x4]] w fun e w' => ∃ s, e = .returned (.tuple #[s, .bool v]) ∧ Below w.heap.size w w' ∧ Own w' w.heap.size 3 1 s q (iv fun p _ => ((putAll (hrdL X n) n).getD p 0 : Nat)) := by
  obtain ⟨i0, hi0, hy0, hy1, hy2⟩ := info_parts info_int
  have HG := hide hv; have HQ := hide hq
  clear hq
  have hba : Below w.heap.size w ((w.alloc (.cells #[.int .i64 x0, .int .i64 x1, .slice A n c, .int .i64 x3, .int .i64 x4] 24)).alloc (.cells #[] 3)) := below_al (below_al (Below.refl _ _))
  have hcx0 : Cells ((w.alloc (.cells #[.int .i64 x0, .int .i64 x1, .slice A n c, .int .i64 x3, .int .i64 x4] 24)).alloc (.cells #[] 3)) w.heap.size [.int .i64 x0, .int .i64 x1, .slice A n c, .int .i64 x3, .int .i64 x4] := (Cells.new w _ _ _ rfl).alloc _
  cases v
  · obtain rfl : q = 0 := HQ.out
    clear hv
    go_enter Try.func21, Try.ntmps21
    go_wp2_with fail
    refine (spec_ala _ _ _ _ _ X _ _ _ HG.out _ hn hnc (ha.on hba)).mono ?_
    rintro e w1 ⟨rfl, hb1⟩
    obtain ⟨qc1, qf1⟩ := bcell hb1
    have hz1 := hb1.size
    try simp only [World.size_alloc, World.size_setCell, World.size_drew] at hz1
    have hq1 : Below w.heap.size w w1 := below_call (by go_grown) hb1
    try have hl0_1 : w.heap.size < w1.heap.size := by omega
    try have hl1_1 : w.heap.size + 1 < w1.heap.size := by omega
    try have hl2_1 : w.heap.size + 2 < w1.heap.size := by omega
    try have hl3_1 : w.heap.size + 3 < w1.heap.size := by omega
    go_wp2
    go_returns
    exact ⟨_, rfl, hq1, Own.base ((own_new_at2 _ _ _ _ _ _ (by simp) (Nat.le_refl _)).below hb1 (Nat.le_refl _)) (by simp)⟩
  · obtain ⟨⟨t0, t1⟩, ⟨s0, s1⟩, hcn, h8, hall⟩ := ala_of hv
    obtain rfl : q = n := HQ.out
    have hnd := hrdL_nodup hall q (Nat.le_refl _)
    have hst : ∀ i, i < q → 1 ≤ X i 0 ∧ X i 0 ≤ 99 := fun i hi => ⟨(hall i hi).1.1, (hall i hi).1.2.1⟩
    obtain ⟨l, hl⟩ : ∃ l, hrdL X q = l := ⟨_, rfl⟩
    have hll : l.length = q := by rw [← hl]; exact hrdL_len X q
    have hlg : ∀ k, k < q → l.getD k 0 = (X k 0).toNat := fun k hk => by rw [← hl]; exact hrdL_get hk
    rw [hl] at hnd ⊢
    have HND := hide hnd; have HST := hide hst; have HLG := hide hlg; have HLL := hide hll
    clear hv hall hnd hst hlg hll hl hcn
    go_enter Try.func21, Try.ntmps21
    go_wp2_with fail
    refine (spec_ala _ _ _ _ _ X _ _ _ HG.out _ hn hnc (ha.on hba)).mono ?_
    rintro e w1 ⟨rfl, hb1⟩
    obtain ⟨qc1, qf1⟩ := bcell hb1
    have hz1 := hb1.size
    try simp only [World.size_alloc, World.size_setCell, World.size_drew] at hz1
    have hq1 : Below w.heap.size w w1 := below_call (by go_grown) hb1
    try have hl0_1 : w.heap.size < w1.heap.size := by omega
    try have hl1_1 : w.heap.size + 1 < w1.heap.size := by omega
    try have hl2_1 : w.heap.size + 2 < w1.heap.size := by omega
    try have hl3_1 : w.heap.size + 3 < w1.heap.size := by omega
    have hcx1 := hcx0.on hb1
    have l0 := hcx1.2 0 _ rfl; have l1 := hcx1.2 1 _ rfl; have l2 := hcx1.2 2 _ rfl; have l3 := hcx1.2 3 _ rfl; have l4 := hcx1.2 4 _ rfl; have l5 := hcx1.1
    have hrow := row_below (row_new_at (w.alloc (.cells #[.int .i64 x0, .int .i64 x1, .slice A q c, .int .i64 x3, .int .i64 x4] 24)) (w.heap.size + 1) (w.heap.size + 1) 1 3 (by simp) (by simp)) (hb1 : Below ((w.alloc (.cells #[.int .i64 x0, .int .i64 x1, .slice A q c, .int .i64 x3, .int .i64 x4] 24)).alloc (.cells #[] 3)).heap.size _ _)
    have hw1 : w.heap.size + 1 < w1.heap.size := by have := hb1.size; simp only [World.size_alloc] at this; omega
    have HRW := hide hrow
    clear qc1 qf1 hcx0 hba hrow
    have haw := ha.on hq1
    clear ha l0 l1 l2 l3 l4
    go_wp2
    go_loopw [4, 5] (fun s y wr => ∃ (k g cap : Nat), k ≤ q ∧ y = .int .i64 k ∧ s = .slice (some ⟨g, 0, none⟩) k cap ∧ Below w1.heap.size w1 wr ∧ Cells wr w.heap.size [.int .i64 x0, .int .i64 x1, .slice A q c, .int .i64 x3, .int .i64 x4] ∧ wr.ownsRow (w.heap.size + 1) 3 1 s k (nl (putAll l k))) (fun _ y _ => q - (intOf y).toNat)
    case atStart => exact ⟨0, w.heap.size + 1, 0, Nat.zero_le _, rfl, rfl, Below.refl _ _, hcx1, HRW.out⟩
    case round =>
      clear hcx1 l5
      obtain ⟨k, g, cap, hk, rfl, rfl, hbw, hcx, hown⟩ := hrel
      have HO := hide hown
      clear hown
      have l0 := hcx.2 0 _ rfl; have l1 := hcx.2 1 _ rfl; have l2 := hcx.2 2 _ rfl; have l3 := hcx.2 3 _ rfl; have l4 := hcx.2 4 _ rfl; have l5 := hcx.1
      have hsw := hbw.size
      by_cases hlt : k < q
      · obtain ⟨b, off, rfl, hbb, hc⟩ := haw (by omega)
        have c0 := (hbw.cell (p := ⟨b, _, none⟩) hbb).trans (hc k 0 hlt (by omega))
        simp only [Nat.add_zero, iv] at c0
        obtain ⟨s2, s3⟩ := HST.out k hlt
        obtain ⟨z, hz⟩ : ∃ z : Nat, X k 0 = (z : Int) := ⟨_, (Int.toNat_of_nonneg (by omega)).symm⟩
        have hzl : l.getD k 0 = z := by rw [HLG.out k hlt, hz]; simp
        rw [hz] at c0
        have hnot : z ∉ putAll l k := by rw [← hzl]; exact putAll_not HND.out (by rw [HLL.out]; exact hlt)
        have hput : putAll l (k + 1) = putL z (putAll l k) := by rw [putAll, hzl]
        have HP := hide hput
        clear hc hz hput haw
        go_wp2_with fail
        refine (spec_put g cap k _ (putAll l k) z _ putAll_len (by omega) hnot HO.out).mono ?_
        rintro e w2 ⟨g2, cap2, rfl, hb2, hg2, ho2⟩
        have hcx2 := hcx.on hb2
        have hbw2 := below_call hbw hb2
        have HO2 := hide (row_base ho2 (by omega : w.heap.size + 1 ≤ wr.heap.size))
        clear ho2 l0 l1 l2 l3 l4 l5
        go_wp2
        go_roundw
        case rel => exact ⟨k + 1, g2, cap2, by omega, by go_num, by first | rfl | (congr 1; omega), hbw2, hcx2, by rw [HP.out]; exact HO2.out⟩
        case measure => simp [intOf]; omega
      · obtain rfl : k = q := by omega
        have HW := hide (own_of_nl (putAll_len (l := l) (k := k)).symm HO.out)
        clear haw
        go_wp2
        go_returns
        exact ⟨_, rfl, hq1.trans (hbw.mono hq1.size), HW.out.base (by omega)⟩
set_option maxHeartbeats 4000000 in
set_option maxRecDepth 100000 in
theorem impl_heard (x0 x1 : Int) (A : Option Addr) (n c : Nat) (X : Nat → Nat → Int) (x3 x4 : Int) (v : Bool) (hv : alaB x0 x1 n X x3 x4 = v) (q : Nat) (hq : q = onlyN v n) (w : World) (hn : n ≤ 1048576) (hnc : n ≤ c) (ha : Arr w w.heap.size A n 2 (iv X)) :
    Calls Try.prog 22 #[.agg #[.int .i64 x0, .int .i64 x1, .slice A n c, .int .i64 x3, .int .i64 x4]] w fun e w' => ∃ s, e = .returned (.tuple #[s, .bool v]) ∧ Below w.heap.size w w' ∧ Own w' w.heap.size 3 1 s q (iv fun p _ => ((putAll (hrdL X n) n).getD p 0 : Nat)) := by
  obtain ⟨i0, hi0, hy0, hy1, hy2⟩ := info_parts info_int
  have HG := hide hv; have HQ := hide hq
  clear hq
  have hb0 : Below w.heap.size w (w.alloc (.cells #[.int .i64 x0, .int .i64 x1, .slice A n c, .int .i64 x3, .int .i64 x4] 24)) := below_al (Below.refl _ _)
  have hcx0 : Cells (w.alloc (.cells #[.int .i64 x0, .int .i64 x1, .slice A n c, .int .i64 x3, .int .i64 x4] 24)) w.heap.size [.int .i64 x0, .int .i64 x1, .slice A n c, .int .i64 x3, .int .i64 x4] := Cells.new w _ _ _ rfl
  cases v
  · obtain rfl : q = 0 := HQ.out
    clear hv
    go_enter Try.func22, Try.ntmps22
    go_wp2_with fail
    refine (impl_isAla _ _ _ _ _ X _ _ _ HG.out _ hn hnc (ha.on hb0)).mono ?_
    rintro e w1 ⟨rfl, hb1⟩
    obtain ⟨qc1, qf1⟩ := bcell hb1
    have hz1 := hb1.size
    try simp only [World.size_alloc, World.size_setCell, World.size_drew] at hz1
    have hq1 : Below w.heap.size w w1 := below_call (by go_grown) hb1
    try have hl0_1 : w.heap.size < w1.heap.size := by omega
    try have hl1_1 : w.heap.size + 1 < w1.heap.size := by omega
    try have hl2_1 : w.heap.size + 2 < w1.heap.size := by omega
    try have hl3_1 : w.heap.size + 3 < w1.heap.size := by omega
    go_wp2
    go_returns
    exact ⟨_, rfl, hq1, own_nil _ _ _ _ _⟩
  · obtain ⟨⟨t0, t1⟩, ⟨s0, s1⟩, hcn, h8, hall⟩ := ala_of hv
    obtain rfl : q = n := HQ.out
    have hnd := hrdL_nodup hall q (Nat.le_refl _)
    have hst : ∀ i, i < q → 1 ≤ X i 0 ∧ X i 0 ≤ 99 := fun i hi => ⟨(hall i hi).1.1, (hall i hi).1.2.1⟩
    have HND := hide hnd; have HST := hide hst
    clear hv hall hnd hst hcn
    go_enter Try.func22, Try.ntmps22
    go_wp2_with fail
    refine (impl_isAla _ _ _ _ _ X _ _ _ HG.out _ hn hnc (ha.on hb0)).mono ?_
    rintro e w1 ⟨rfl, hb1⟩
    obtain ⟨qc1, qf1⟩ := bcell hb1
    have hz1 := hb1.size
    try simp only [World.size_alloc, World.size_setCell, World.size_drew] at hz1
    have hq1 : Below w.heap.size w w1 := below_call (by go_grown) hb1
    try have hl0_1 : w.heap.size < w1.heap.size := by omega
    try have hl1_1 : w.heap.size + 1 < w1.heap.size := by omega
    try have hl2_1 : w.heap.size + 2 < w1.heap.size := by omega
    try have hl3_1 : w.heap.size + 3 < w1.heap.size := by omega
    have hcx1 := hcx0.on hb1
    have l0 := hcx1.2 0 _ rfl; have l1 := hcx1.2 1 _ rfl; have l2 := hcx1.2 2 _ rfl; have l3 := hcx1.2 3 _ rfl; have l4 := hcx1.2 4 _ rfl; have l5 := hcx1.1
    clear qc1 qf1 hcx0 hb0
    have haw := ha.on hq1
    clear ha
    go_wp2
    go_loopw [4, 14] (fun s y wr => ∃ (k g cap : Nat), k ≤ q ∧ y = .int .i64 k ∧ s = .slice (some ⟨g, 0, none⟩) k cap ∧ w1.heap.size ≤ g ∧ Below w1.heap.size w1 wr ∧ wr.ownsRow w1.heap.size 3 1 s k (nl (hrdL X k))) (fun _ y _ => q - (intOf y).toNat)
    case atStart => exact ⟨0, w1.heap.size, 0, Nat.zero_le _, rfl, rfl, Nat.le_refl _, by go_grown, row_new_at _ _ _ _ _ rfl (Nat.le_refl _)⟩
    case round =>
      clear hcx1 l0 l1 l2 l3 l4 l5
      obtain ⟨k, g, cap, hk, rfl, rfl, hgb, hbw, hown⟩ := hrel
      have hsw := hbw.size
      by_cases hlt : k < q
      · obtain ⟨b, off, rfl, hbb, hc⟩ := haw (by omega)
        have c0 := (hbw.cell (p := ⟨b, _, none⟩) hbb).trans (hc k 0 hlt (by omega)); have c1 := (hbw.cell (p := ⟨b, _, none⟩) hbb).trans (hc k 1 hlt (by omega))
        simp only [Nat.add_zero, iv] at c0 c1
        obtain ⟨s2, s3⟩ := HST.out k hlt
        obtain ⟨z, hz⟩ : ∃ z : Nat, X k 0 = (z : Int) := ⟨_, (Int.toNat_of_nonneg (by omega)).symm⟩
        have hsn : hrdL X (k + 1) = hrdL X k ++ [z] := by rw [hrdL_snoc, hz]; simp
        have HS := hide hsn
        rw [hz] at c0
        have hown2 := row_below hown (below_al (Below.refl _ _) : Below wr.heap.size wr (wr.alloc (.cells #[.int .i64 (z : Int), .int .i64 (X k 1)] 50)))
        have hlt2 := hown2.lt
        clear hc hz hsn hown
        go_wp2_with (at_builtin; refine wpList_append_far _ rfl _ _ 39 rfl w1.heap.size 3 i0 (.int .i64 0) 1 8 Try.underlying39 hi0 hy0 hy1 hy2 rfl (by decide) _ _ _ rfl (hown2.alloc _) ⟨wr.heap.size + 1, 0, none⟩ 1 1 [.int .i64 (z : Int)] rfl rfl ?c1 ?c2 ?c3 ?c4 ?c5 ?_)
        case c1 => exact cell_one_at _ _ _ _ (by simp)
        case c2 => intro u hu; simp only [List.mem_singleton] at hu; subst hu; rfl
        case c3 => unfold maxLen; omega
        case c4 => omega
        case c5 => simp only [World.size_alloc]; omega
        intro v3 w3 hown3 hgrow3 _
        have hb3 := (below_al (o := .cells #[.int .i64 (z : Int)] 3) (below_al (o := .cells #[.int .i64 (z : Int), .int .i64 (X k 1)] 50) hbw)).grown hgrow3 (by simp only [World.size_alloc]; omega) (fun gg hg => (hlt2 gg hg).1)
        have hrow3 : w3.ownsRow w1.heap.size 3 1 v3 (k + 1) (nl (hrdL X (k + 1))) := by rw [HS.out, ← nl_app]; exact hown3
        obtain ⟨g4, cap4, rfl, hg4, _⟩ := hrow3.form (by omega)
        have hgb4 := (hrow3.lt g4 rfl).1
        have R1 := hide hrow3; have R2 := hide hb3
        clear hown2 hown3 hgrow3 hlt2 hb3 hrow3 hg4
        go_wp2
        go_roundw
        case rel => exact ⟨k + 1, g4, cap4, by omega, by go_num, rfl, hgb4, R2.out, R1.out⟩
        case measure => simp [intOf]; omega
      · obtain rfl : k = q := by omega
        have HO := hide hown
        clear hown haw
        go_wp2_with fail
        refine (sort_short g cap k _ (hrdL X k) _ (hrdL_len X k) (by omega) HND.out HO.out).mono ?_
        rintro e w2 ⟨rfl, hg2, ho2⟩
        have hb2 := hbw.grown hg2 hbw.size (fun gg hg => by injection hg with hg; omega)
        have HW := hide (own_of_nl (putAll_len (l := hrdL X k) (k := k)).symm ho2)
        clear ho2
        go_wp2
        go_returns
        exact ⟨_, rfl, hq1.trans (hb2.mono hq1.size), HW.out.base (by omega)⟩
end Go.Proofs.Ytooiefpinfgclaa
