/- Chapter 17: who could have another duty: the program's FreeFor. -/
import Derived.Test.YteklalbjlmkagaaDuR
namespace Go.Proofs.Yteklalbjlmkagaa
open Go.RowKit
set_option linter.unusedVariables false
set_option linter.unusedSimpArgs false

def freeOk (n : Nat) (D : Nat → Du) (b e : Int) : Bool := goodB n D && oneB ⟨1, b, e, false⟩
def freeB (n : Nat) (D : Nat → Du) (b e : Int) (x : Nat) : Bool := goodB (n + 1) (dg (putD ⟨x, b, e, false⟩ (Ln D n)))
def freeL (n : Nat) (D : Nat → Du) (b e : Int) : List Nat := (whoL D n).filter (freeB n D b e)
theorem whoL_get {D : Nat → Du} {n k : Nat} (hk : k < (whoL D n).length) : (whoL D n).getD k 0 ≤ 50 := by
  have hm : (whoL D n).getD k 0 ∈ whoL D n := by simp [List.getD, hk]
  unfold whoL at hm
  rw [List.mem_filter, List.mem_range] at hm
  unfold whoL
  omega
theorem good_who {n : Nat} {D : Nat → Du} (hok : ∀ i, i < n → okAt D i) : ∀ i, i < n → WhoOk (D i) := fun i hi => by
  have := (hok i hi).1.w1; have := (hok i hi).1.w2
  exact ⟨by omega, by omega⟩
set_option maxHeartbeats 2000000 in
theorem impl_free (g n c : Nat) (D : Nat → Du) (b t : Int) (ok : Bool) (hk : freeOk n D b t = ok) (R : List Nat) (hR : (if ok = true then freeL n D b t else []) = R) (w : World) (hn : n ≤ 1048576) (hnc : n ≤ c) (hcm : c ≤ maxLen) (hgl : g < w.heap.size) (ha : Arr w w.heap.size (some ⟨g, 0, none⟩) n 4 (dv D)) :
    Calls Try.prog 12 #[.slice (some ⟨g, 0, none⟩) n c, .int .i64 b, .int .i64 t] w (OnPost w ok R) := by
  have hfa := frozen_al; have hfo := frozen_out
  have HA := hide ha; have HK := hide hk; have HR := hide hR
  obtain ⟨wa, hwa⟩ : ∃ x, w.alloc (.cells #[.slice (some ⟨g, 0, none⟩) n c] 24) = x := ⟨_, rfl⟩
  obtain ⟨wb, hwb⟩ : ∃ x, wa.alloc (.cells #[.int .i64 b] 3) = x := ⟨_, rfl⟩
  obtain ⟨wc, hwc⟩ : ∃ x, wb.alloc (.cells #[.int .i64 t] 3) = x := ⟨_, rfl⟩
  have ba : Below w.heap.size w wa := by rw [← hwa]; exact below_al (Below.refl _ _)
  have bb : Below w.heap.size w wb := by rw [← hwb]; exact below_al ba
  have bc : Below w.heap.size w wc := by rw [← hwc]; exact below_al bb
  have sa : wa.heap.size = w.heap.size + 1 := by rw [← hwa]; simp
  have sb : wb.heap.size = w.heap.size + 2 := by rw [← hwb]; simp [sa]
  have ka : Cells wa w.heap.size [.slice (some ⟨g, 0, none⟩) n c] := by rw [← hwa]; exact Cells.new w _ _ _ rfl
  have kb : Cells wb (w.heap.size + 1) [.int .i64 b] := by rw [← hwb]; exact Cells.new wa _ _ _ sa.symm
  have kc : Cells wc (w.heap.size + 2) [.int .i64 t] := by rw [← hwc]; exact Cells.new wb _ _ _ sb.symm
  have ka2 : Cells wc w.heap.size [.slice (some ⟨g, 0, none⟩) n c] := by rw [← hwc, ← hwb]; exact (ka.alloc _).alloc _
  have kb2 : Cells wc (w.heap.size + 1) [.int .i64 b] := by rw [← hwc]; exact kb.alloc _
  have HB := hide bc; have H1 := hide ka2; have H2 := hide kb2; have H3 := hide kc
  have l1 := ka2.2 0 _ rfl; have l2 := kb2.2 0 _ rfl; have l3 := kc.2 0 _ rfl
  have m1 := ka2.1; have m2 := kb2.1; have m3 := kc.1
  have HE := hide (show ((w.alloc (.cells #[.slice (some ⟨g, 0, none⟩) n c] 24)).alloc (.cells #[.int .i64 b] 3)).alloc (.cells #[.int .i64 t] 3) = wc by rw [hwa, hwb, hwc])
  clear ha hk hR ka kb kc ka2 kb2 ba bb bc sa sb hwa hwb hwc
  cases hg : goodB n D
  · obtain rfl : false = ok := by rw [← HK.out, freeOk, hg]; rfl
    obtain rfl : [] = R := HR.out
    have HG := hide hg
    clear hg
    go_enter Try.func12, Try.ntmps12
    have he := HE.out
    go_wp2_with fail
    refine (impl_good17 (some ⟨g, 0, none⟩) n c D _ HG.out _ hn hnc hcm (HA.out.on HB.out)).mono ?_
    rintro e w1 ⟨rfl, hb1⟩
    have hq1 := below_call HB.out hb1
    clear hb1 he
    go_wp2
    go_returns
    exact on_post rfl hq1 rfl (row_none _ _ _ _)
  · have HG := hide hg
    obtain ⟨hn12, hok⟩ := good_of hg
    have HD := hide (fun i hi => (hok i hi).1); have HW := hide (good_who hok)
    have HV := hide (show oneB ⟨1, b, t, false⟩ = ok by rw [← HK.out, freeOk, hg, Bool.true_and])
    clear hg hok
    go_enter Try.func12, Try.ntmps12
    have he := HE.out
    go_wp2_with fail
    refine (impl_good17 (some ⟨g, 0, none⟩) n c D _ HG.out _ hn hnc hcm (HA.out.on HB.out)).mono ?_
    rintro e w1 ⟨rfl, hb1⟩
    have hq1 := below_call HB.out hb1
    have K1 := hide (H1.out.on hb1); have K2 := hide (H2.out.on hb1); have K3 := hide (H3.out.on hb1)
    clear hb1 he l1 l2 l3 m1 m2 m3
    have l1 := K1.out.2 0 _ rfl; have l2 := K2.out.2 0 _ rfl; have l3 := K3.out.2 0 _ rfl
    have m1 := K1.out.1; have m2 := K2.out.1; have m3 := K3.out.1
    go_wp2_with fail
    refine (impl_duty ⟨1, b, t, false⟩ _ HV.out _).mono ?_
    rintro e w2 ⟨rfl, hb2⟩
    have hq2 := below_call hq1 hb2
    have J1 := hide (K1.out.on hb2); have J2 := hide (K2.out.on hb2); have J3 := hide (K3.out.on hb2)
    clear hb2 l1 l2 l3 m1 m2 m3 K1 K2 K3
    cases ok
    · obtain rfl : [] = R := HR.out
      go_wp2
      go_returns
      exact on_post rfl hq2 rfl (row_none _ _ _ _)
    · obtain rfl : freeL n D b t = R := HR.out
      have l1 := J1.out.2 0 _ rfl; have m1 := J1.out.1
      go_wp2_with fail
      refine (impl_whos (some ⟨g, 0, none⟩) n c D _ hn12 (HA.out.on hq2) HD.out).mono ?_
      rintro e w3 ⟨g3, cap3, k3, rfl, hk3, hb3, hrow3⟩
      have hq3 := below_call hq2 hb3
      have I1 := hide (J1.out.on hb3); have I2 := hide (J2.out.on hb3); have I3 := hide (J3.out.on hb3)
      have HA3 := hide (HA.out.on hq3)
      have h51 : k3 ≤ 60 := by rw [hk3]; have := List.length_filter_le (fun x => decide (∃ i, i < n ∧ whoN D i = x)) (List.range 51); rw [List.length_range] at this; unfold whoL; omega
      have HAR := hide (arr_rowN hrow3 hk3.symm); have HK3 := hide hk3
      clear hb3 hrow3 hk3 l1 m1 J1 J2 J3
      go_wp2_with fail
      refine (filter_free w.heap.size (w.heap.size + 1) (w.heap.size + 1 + 1) (some ⟨g3, 0, none⟩) k3 cap3 (whoL D n) (freeB n D b t) _ h51 HK3.out.symm HAR.out (fun W k hk hW => free_one g n c D _ b t _ (by rw [addOk, HG.out, Bool.true_and]; rfl) _ _ _ W (by omega) hnc hcm HW.out ⟨by show (0 : Int) ≤ ((_ : Nat) : Int); omega, by have := whoL_get (D := D) (n := n) (k := k) (by rw [← HK3.out]; exact hk); show (((whoL D n).getD k 0 : Nat) : Int) ≤ 100; omega⟩ (HA3.out.on hW) (I1.out.on hW) (I2.out.on hW) (I3.out.on hW))).mono ?_
      rintro e w4 ⟨g4, cap4, k4, rfl, hk4, hb4, hrow4⟩
      have hq4 := below_call hq3 hb4
      have H4 := hide (row_base hrow4 hq3.size); have HK4 := hide hk4
      clear hb4 hrow4 hk4
      go_wp2
      go_returns
      exact on_post rfl hq4 HK4.out H4.out
end Go.Proofs.Yteklalbjlmkagaa
