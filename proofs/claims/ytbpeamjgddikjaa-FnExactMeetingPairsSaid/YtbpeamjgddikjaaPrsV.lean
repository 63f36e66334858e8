/- The pairs of faults that meet: the law. -/
import Derived.Test.YtbpeamjgddikjaaPrsS
import Derived.Test.YtbpeamjgddikjaaPrsI
import Derived.Test.YtbpeamjgddikjaaSsH
import Derived.Test.YtbpeamjgddikjaaMkF
import Derived.Test.YtbpeamjgddikjaaFltW
namespace Go.Proofs.Ytbpeamjgddikjaa
open Go.RowKit
set_option linter.unusedVariables false
set_option linter.unusedSimpArgs false

theorem MPs.keep {w w' : World} {base : Nat} {v : Value} {ps : List (Int × Int)} {gs : List Nat} (h : MPs w base v ps gs) (hs : w.heap.size ≤ w'.heap.size) (hk : ∀ b, base ≤ b → b < w.heap.size → w'.heap[b]? = w.heap[b]?) : MPs w' base v ps gs := by
  obtain ⟨h1, ⟨r0, r2⟩, h3, h4, h5⟩ := h
  refine ⟨h1, ⟨r0, ?_⟩, fun g hg => ⟨(h3 g hg).1, Nat.lt_of_lt_of_le (h3 g hg).2.1 hs, (h3 g hg).2.2⟩, h4, fun i hi => ?_⟩
  · rcases r2 with h | ⟨b, cap, cur, e1, e2, e3, e4⟩
    · exact .inl h
    · exact .inr ⟨b, cap, cur, e1, e2, (hk b e2 (Blk.lt e3)).trans e3, e4⟩
  · have hg := h3 _ (gs_in (by omega : i < gs.length))
    exact (hk _ hg.1 hg.2.1).trans (h5 i hi)
theorem own_cap {w : World} {base k n c : Nat} {E : TypeId} {A : Option Addr} {F : Nat → Nat → Value} (h : Own w base E k (.slice A n c) n F) : n ≤ c ∧ c ≤ maxLen := by
  rcases h with ⟨hv, hn⟩ | ⟨g, cap, cur, hv, _, _, h1, h2, _⟩
  · injection hv with _ e1 e2; subst e2; unfold maxLen; omega
  · injection hv with _ _ e2; subst e2; exact ⟨h1, h2⟩
set_option maxHeartbeats 2000000 in
set_option maxRecDepth 100000 in
theorem walk_FnExactMeetingPairs (A : Option Addr) (n c : Nat) (E : Nat → FauE) (Q : Nat → Option Addr × Nat) (w : World) (hn : n ≤ maxLen) (hL : FauL w A n E Q) (hm : ∀ i, i < n → (E i).nm.size ≤ maxLen ∧ (E i).m ≤ maxLen) :
    Calls Try.prog 10 #[.slice A n c] w fun e w' => e = .returned (.bool true) ∧ Below w.heap.size w w' := by
  have hfa := frozen_al; have hfo := frozen_out
  have HL := hide hL; have HM := hide hm
  clear hL hm
  by_cases hov : (1048576 : Int) < n + fsz E n
  · have HS := hide (show (if (1048576 : Int) < n + fsz E n then -1 else (1048576 : Int) - (n + fsz E n)) = -1 from if_pos hov)
    clear hov
    go_enter Try.func10, Try.ntmps10
    go_wp2_with fail
    refine (sz_faultS A n c E Q 1048576 (-1) HS.out hn (by omega) (by omega) _ (HL.out.on (by go_grown)) HM.out).mono ?_
    rintro e w1 ⟨rfl, hb1⟩
    obtain ⟨qc1, qf1⟩ := bcell hb1
    have hz1 := hb1.size
    try simp only [World.size_alloc, World.size_setCell, World.size_drew] at hz1
    have hq1 : Below w.heap.size w w1 := below_call (by go_grown) hb1
    try have hl0_1 : w.heap.size < w1.heap.size := by omega
    try have hl1_1 : w.heap.size + 1 < w1.heap.size := by omega
    try have hl2_1 : w.heap.size + 2 < w1.heap.size := by omega
    try have hl3_1 : w.heap.size + 3 < w1.heap.size := by omega
    go_wp2
    go_returns
    exact ⟨rfl, hq1⟩
  · have hn1 : n ≤ 1048576 := by have := fsz_nn E n; omega
    have hfs : fsz E n ≤ 1048576 := by omega
    have HMM := hide (fun i (hi : i < n) => (show (E i).nm.size ≤ 1048576 ∧ (E i).m ≤ 1048576 by have := fsz_at E hi; omega))
    have HMs := hide (fun i (hi : i < n) => (HMM.out i hi).2)
    obtain ⟨l, hl⟩ : ∃ l : Int, l = 1048576 - (n + fsz E n) := ⟨_, rfl⟩
    have hl0 : 0 ≤ l := by omega
    have HS := hide (show (if (1048576 : Int) < n + fsz E n then -1 else (1048576 : Int) - (n + fsz E n)) = l by rw [if_neg hov, hl])
    obtain ⟨v, HV⟩ : ∃ v, Hid (fausB n E = v) := ⟨_, rfl⟩
    obtain ⟨ps, HPS⟩ : ∃ ps, Hid ((if v = true then allP E n n else []) = ps) := ⟨_, rfl⟩
    have hlen : ps.length ≤ 1000000 := by
      rw [← HPS.out]
      split
      · next h =>
        obtain ⟨hn6, _⟩ := fausB_of (n := n) (E := E) (by rw [HV.out, h])
        have a1 := allP_len E n n
        have a3 : n * n ≤ 6 * 6 := Nat.mul_le_mul hn6 hn6
        omega
      · simp
    clear hl hov
    go_enter Try.func10, Try.ntmps10
    go_wp2_with fail
    refine (sz_faultS A n c E Q 1048576 l HS.out hn (by omega) (by omega) _ (HL.out.on (by go_grown)) HM.out).mono ?_
    rintro e w1 ⟨rfl, hb1⟩
    obtain ⟨qc1, qf1⟩ := bcell hb1
    have hz1 := hb1.size
    try simp only [World.size_alloc, World.size_setCell, World.size_drew] at hz1
    have hq1 : Below w.heap.size w w1 := below_call (by go_grown) hb1
    try have hl0_1 : w.heap.size < w1.heap.size := by omega
    try have hl1_1 : w.heap.size + 1 < w1.heap.size := by omega
    try have hl2_1 : w.heap.size + 2 < w1.heap.size := by omega
    try have hl3_1 : w.heap.size + 3 < w1.heap.size := by omega
    go_wp2_with fail
    refine (to_faultS A n c E Q _ hn1 HMs.out (HL.out.on (by go_grown))).mono ?_
    rintro e w2 ⟨A1, c1, Q1, z1, rfl, hb2, HO1⟩
    obtain ⟨qc2, qf2⟩ := bcell hb2
    have hz2 := hb2.size
    try simp only [World.size_alloc, World.size_setCell, World.size_drew] at hz2
    have hq2 : Below w.heap.size w w2 := below_call (by go_grown) hb2
    try have hl0_2 : w.heap.size < w2.heap.size := by omega
    try have hl1_2 : w.heap.size + 1 < w2.heap.size := by omega
    try have hl2_2 : w.heap.size + 2 < w2.heap.size := by omega
    try have hl3_2 : w.heap.size + 3 < w2.heap.size := by omega
    try have hn1_2 : w1.heap.size < w2.heap.size := by omega
    have HT1 := hide HO1.list; clear HO1
    go_wp2_with fail
    refine (spec_pairs A1 n c1 E Q1 v HV.out ps HPS.out _ hn1 HMM.out (HT1.out.on (by go_grown))).mono ?_
    rintro e w3 ⟨v0, gs0, rfl, hb3, hm0⟩
    obtain ⟨qc3, qf3⟩ := bcell hb3
    have hz3 := hb3.size
    try simp only [World.size_alloc, World.size_setCell, World.size_drew] at hz3
    have hq3 : Below w.heap.size w w3 := below_call (by go_grown) hb3
    try have hl0_3 : w.heap.size < w3.heap.size := by omega
    try have hl1_3 : w.heap.size + 1 < w3.heap.size := by omega
    try have hl2_3 : w.heap.size + 2 < w3.heap.size := by omega
    try have hl3_3 : w.heap.size + 3 < w3.heap.size := by omega
    try have hn1_3 : w1.heap.size < w3.heap.size := by omega
    try have hn2_3 : w2.heap.size < w3.heap.size := by omega
    have HM0 := hide hm0; clear hm0 HT1
    go_wp2_with fail
    refine (to_faultS A n c E Q _ hn1 HMs.out (HL.out.on (by go_grown))).mono ?_
    rintro e w4 ⟨A2, c2, Q2, z2, rfl, hb4, HO2⟩
    obtain ⟨qc4, qf4⟩ := bcell hb4
    have hz4 := hb4.size
    try simp only [World.size_alloc, World.size_setCell, World.size_drew] at hz4
    have hq4 : Below w.heap.size w w4 := below_call (by go_grown) hb4
    try have hl0_4 : w.heap.size < w4.heap.size := by omega
    try have hl1_4 : w.heap.size + 1 < w4.heap.size := by omega
    try have hl2_4 : w.heap.size + 2 < w4.heap.size := by omega
    try have hl3_4 : w.heap.size + 3 < w4.heap.size := by omega
    try have hn1_4 : w1.heap.size < w4.heap.size := by omega
    try have hn2_4 : w2.heap.size < w4.heap.size := by omega
    try have hn3_4 : w3.heap.size < w4.heap.size := by omega
    have HO := hide HO2; clear HO2
    have hcap := own_cap HO.out.own
    go_wp2_with fail
    refine (impl_pairs A2 n c2 E Q2 v HV.out ps HPS.out _ hn1 hcap.1 hcap.2 HMM.out (HO.out.list.on (by go_grown))).mono ?_
    rintro e w5 ⟨v1, gs1, rfl, hb5, hm1⟩
    obtain ⟨qc5, qf5⟩ := bcell hb5
    have hz5 := hb5.size
    try simp only [World.size_alloc, World.size_setCell, World.size_drew] at hz5
    have hq5 : Below w.heap.size w w5 := below_call (by go_grown) hb5
    try have hl0_5 : w.heap.size < w5.heap.size := by omega
    try have hl1_5 : w.heap.size + 1 < w5.heap.size := by omega
    try have hl2_5 : w.heap.size + 2 < w5.heap.size := by omega
    try have hl3_5 : w.heap.size + 3 < w5.heap.size := by omega
    try have hn1_5 : w1.heap.size < w5.heap.size := by omega
    try have hn2_5 : w2.heap.size < w5.heap.size := by omega
    try have hn3_5 : w3.heap.size < w5.heap.size := by omega
    try have hn4_5 : w4.heap.size < w5.heap.size := by omega
    have HG := hide hm1; clear hm1
    have HW5 := hide (HM0.out.below (below_call hb4 hb5))
    cases v
    all_goals
      go_wp2_with fail
      refine (eq_pairs v1 v0 _ _ ps gs1 gs0 _ hlen (HG.out.below (by go_grown)) (HW5.out.below (by go_grown))).mono ?_
      rintro e w6 ⟨rfl, hb6⟩
      obtain ⟨qc6, qf6⟩ := bcell hb6
      have hz6 := hb6.size
      try simp only [World.size_alloc, World.size_setCell, World.size_drew] at hz6
      have hq6 : Below w.heap.size w w6 := below_call (by go_grown) hb6
      try have hl0_6 : w.heap.size < w6.heap.size := by omega
      try have hl1_6 : w.heap.size + 1 < w6.heap.size := by omega
      try have hl2_6 : w.heap.size + 2 < w6.heap.size := by omega
      try have hl3_6 : w.heap.size + 3 < w6.heap.size := by omega
      try have hn1_6 : w1.heap.size < w6.heap.size := by omega
      try have hn2_6 : w2.heap.size < w6.heap.size := by omega
      try have hn3_6 : w3.heap.size < w6.heap.size := by omega
      try have hn4_6 : w4.heap.size < w6.heap.size := by omega
      try have hn5_6 : w5.heap.size < w6.heap.size := by omega
      go_wp2_with fail
      refine (to_faultS A n c E Q _ hn1 HMs.out (HL.out.on (by go_grown))).mono ?_
      rintro e w7 ⟨A3, c3, Q3, z3, rfl, hb7, HO3⟩
      obtain ⟨qc7, qf7⟩ := bcell hb7
      have hz7 := hb7.size
      try simp only [World.size_alloc, World.size_setCell, World.size_drew] at hz7
      have hq7 : Below w.heap.size w w7 := below_call (by go_grown) hb7
      try have hl0_7 : w.heap.size < w7.heap.size := by omega
      try have hl1_7 : w.heap.size + 1 < w7.heap.size := by omega
      try have hl2_7 : w.heap.size + 2 < w7.heap.size := by omega
      try have hl3_7 : w.heap.size + 3 < w7.heap.size := by omega
      try have hn1_7 : w1.heap.size < w7.heap.size := by omega
      try have hn2_7 : w2.heap.size < w7.heap.size := by omega
      try have hn3_7 : w3.heap.size < w7.heap.size := by omega
      try have hn4_7 : w4.heap.size < w7.heap.size := by omega
      try have hn5_7 : w5.heap.size < w7.heap.size := by omega
      try have hn6_7 : w6.heap.size < w7.heap.size := by omega
      have HT3 := hide HO3.list; clear HO3
      have HB48 := hide (below_call (below_call hb5 hb6) hb7)
      go_wp2_with fail
      refine (eq_faultS A2 A3 n c2 c3 E Q2 Q3 _ hn1 HMs.out (HO.out.list.on (below_call (below_call hb5 hb6) (by go_grown))) (HT3.out.on (by go_grown))).mono ?_
      rintro e w8 ⟨rfl, hb8⟩
      obtain ⟨qc8, qf8⟩ := bcell hb8
      have hz8 := hb8.size
      try simp only [World.size_alloc, World.size_setCell, World.size_drew] at hz8
      have hq8 : Below w.heap.size w w8 := below_call (by go_grown) hb8
      try have hl0_8 : w.heap.size < w8.heap.size := by omega
      try have hl1_8 : w.heap.size + 1 < w8.heap.size := by omega
      try have hl2_8 : w.heap.size + 2 < w8.heap.size := by omega
      try have hl3_8 : w.heap.size + 3 < w8.heap.size := by omega
      try have hn1_8 : w1.heap.size < w8.heap.size := by omega
      try have hn2_8 : w2.heap.size < w8.heap.size := by omega
      try have hn3_8 : w3.heap.size < w8.heap.size := by omega
      try have hn4_8 : w4.heap.size < w8.heap.size := by omega
      try have hn5_8 : w5.heap.size < w8.heap.size := by omega
      try have hn6_8 : w6.heap.size < w8.heap.size := by omega
      try have hn7_8 : w7.heap.size < w8.heap.size := by omega
      have HB4 := hide (below_call HB48.out hb8)
      have HB5 := hide (below_call (below_call hb6 hb7) hb8)
      clear HB48 HT3
      go_wp2_with fail
      refine (mark_faultS A2 n c2 E Q2 w3.heap.size z2 _ hn1 HMs.out hfs (HO.out.below HB4.out) w4.heap.size (fun g hg => (HO.out.own.blk g hg).2) (fun i hi g hg => ((HO.out.deep i hi).blk g hg).2)).mono ?_
      rintro e w9 ⟨r, rfl, hr, hb9, ht9⟩
      have hrn : ¬ r < 0 := by omega
      have hz38 : w3.heap.size ≤ w8.heap.size := by have := HB4.out.size; omega
      have hz9 := hb9.size
      have hq9 : Below w.heap.size w w9 := (show Below w.heap.size w w8 from hq8).trans (hb9.mono hq3.size)
      have HG9 := hide ((HG.out.below HB5.out).keep hz9 (fun b h1 h2 => ht9 b h1 h2))
      have HB39 := hide (show Below w3.heap.size w3 w9 from (below_call hb4 HB4.out).trans hb9)
      have HW9 := hide (HM0.out.below HB39.out)
      clear hb9 ht9 HB4 HB5 HW5 HG HO hcap
      go_wp2_with fail
      refine (eq_pairs v1 v0 _ _ ps gs1 gs0 _ hlen (HG9.out.below (by go_grown)) (HW9.out.below (by go_grown))).mono ?_
      rintro e w10 ⟨rfl, hb10⟩
      obtain ⟨qc10, qf10⟩ := bcell hb10
      have hz10 := hb10.size
      try simp only [World.size_alloc, World.size_setCell, World.size_drew] at hz10
      have hq10 : Below w.heap.size w w10 := below_call (by go_grown) hb10
      try have hl0_10 : w.heap.size < w10.heap.size := by omega
      try have hl1_10 : w.heap.size + 1 < w10.heap.size := by omega
      try have hl2_10 : w.heap.size + 2 < w10.heap.size := by omega
      try have hl3_10 : w.heap.size + 3 < w10.heap.size := by omega
      try have hn1_10 : w1.heap.size < w10.heap.size := by omega
      try have hn2_10 : w2.heap.size < w10.heap.size := by omega
      try have hn3_10 : w3.heap.size < w10.heap.size := by omega
      try have hn4_10 : w4.heap.size < w10.heap.size := by omega
      try have hn5_10 : w5.heap.size < w10.heap.size := by omega
      try have hn6_10 : w6.heap.size < w10.heap.size := by omega
      try have hn7_10 : w7.heap.size < w10.heap.size := by omega
      try have hn8_10 : w8.heap.size < w10.heap.size := by omega
      try have hn9_10 : w9.heap.size < w10.heap.size := by omega
      have HG10 := hide (HG9.out.below hb10)
      have HB310 := hide (below_call HB39.out hb10)
      clear HG9 HW9 HB39
      go_wp2_with fail
      refine (mark_pairs v1 _ ps gs1 _ hlen HG10.out).mono ?_
      rintro e w11 ⟨rfl, hb11, pq, hpl, hpm, hpv⟩
      have hq11 : Below w.heap.size w w11 := hq10.trans (hb11.mono (by have := hq4.size; omega))
      have HB311 := hide (HB310.out.trans (hb11.mono hz4))
      have HP := hide hpm; have HPV := hide (show ∀ i, i < pq.length → pq.getD i (0, 0) = (1 + 2 * (i : Int), 2 + 2 * (i : Int)) from fun i hi => hpv i (by omega))
      have hlq : pq.length ≤ 1000000 := by omega
      have HPL := hide hpl
      clear hb11 hpm hpv HG10 HB310 hpl
      go_wp2_with fail
      refine (held_pairs v1 _ pq gs1 _ hlq (HP.out.below (by go_grown)) HPV.out).mono ?_
      rintro e w12 ⟨rfl, rfl⟩
      rw [HPL.out]
      have hhq : ¬ (1 + 2 * (ps.length : Int)) < 0 := by omega
      go_wp2_with fail
      refine (to_faultS A n c E Q _ hn1 HMs.out (HL.out.on (by go_grown))).mono ?_
      rintro e w13 ⟨A4, c4, Q4, z4, rfl, hb13, HO4⟩
      obtain ⟨qc13, qf13⟩ := bcell hb13
      have hz13 := hb13.size
      try simp only [World.size_alloc, World.size_setCell, World.size_drew] at hz13
      have hq13 : Below w.heap.size w w13 := below_call (by go_grown) hb13
      try have hl0_13 : w.heap.size < w13.heap.size := by omega
      try have hl1_13 : w.heap.size + 1 < w13.heap.size := by omega
      try have hl2_13 : w.heap.size + 2 < w13.heap.size := by omega
      try have hl3_13 : w.heap.size + 3 < w13.heap.size := by omega
      try have hn1_13 : w1.heap.size < w13.heap.size := by omega
      try have hn2_13 : w2.heap.size < w13.heap.size := by omega
      try have hn3_13 : w3.heap.size < w13.heap.size := by omega
      try have hn4_13 : w4.heap.size < w13.heap.size := by omega
      try have hn5_13 : w5.heap.size < w13.heap.size := by omega
      try have hn6_13 : w6.heap.size < w13.heap.size := by omega
      try have hn7_13 : w7.heap.size < w13.heap.size := by omega
      try have hn8_13 : w8.heap.size < w13.heap.size := by omega
      try have hn9_13 : w9.heap.size < w13.heap.size := by omega
      try have hn10_13 : w10.heap.size < w13.heap.size := by omega
      try have hn11_13 : w11.heap.size < w13.heap.size := by omega
      try have hn12_13 : w12.heap.size < w13.heap.size := by omega
      have HT4 := hide HO4; clear HO4
      have hcap4 := own_cap HT4.out.own
      have HP13 := hide (HP.out.below hb13)
      have HB313 := hide (below_call HB311.out hb13)
      go_wp2_with fail
      refine (impl_pairs A4 n c4 E Q4 _ HV.out ps HPS.out _ hn1 hcap4.1 hcap4.2 HMM.out (HT4.out.list.on (by go_grown))).mono ?_
      rintro e w14 ⟨v2, gs2, rfl, hb14, hm2⟩
      obtain ⟨qc14, qf14⟩ := bcell hb14
      have hz14 := hb14.size
      try simp only [World.size_alloc, World.size_setCell, World.size_drew] at hz14
      have hq14 : Below w.heap.size w w14 := below_call (by go_grown) hb14
      try have hl0_14 : w.heap.size < w14.heap.size := by omega
      try have hl1_14 : w.heap.size + 1 < w14.heap.size := by omega
      try have hl2_14 : w.heap.size + 2 < w14.heap.size := by omega
      try have hl3_14 : w.heap.size + 3 < w14.heap.size := by omega
      try have hn1_14 : w1.heap.size < w14.heap.size := by omega
      try have hn2_14 : w2.heap.size < w14.heap.size := by omega
      try have hn3_14 : w3.heap.size < w14.heap.size := by omega
      try have hn4_14 : w4.heap.size < w14.heap.size := by omega
      try have hn5_14 : w5.heap.size < w14.heap.size := by omega
      try have hn6_14 : w6.heap.size < w14.heap.size := by omega
      try have hn7_14 : w7.heap.size < w14.heap.size := by omega
      try have hn8_14 : w8.heap.size < w14.heap.size := by omega
      try have hn9_14 : w9.heap.size < w14.heap.size := by omega
      try have hn10_14 : w10.heap.size < w14.heap.size := by omega
      try have hn11_14 : w11.heap.size < w14.heap.size := by omega
      try have hn12_14 : w12.heap.size < w14.heap.size := by omega
      try have hn13_14 : w13.heap.size < w14.heap.size := by omega
      have HH := hide hm2; clear hm2
      have HP14 := hide (HP13.out.below hb14)
      have HW14 := hide (HM0.out.below (below_call HB313.out hb14))
      go_wp2_with fail
      refine (eq_pairs v2 v0 _ _ ps gs2 gs0 _ hlen (HH.out.below (by go_grown)) (HW14.out.below (by go_grown))).mono ?_
      rintro e w15 ⟨rfl, hb15⟩
      obtain ⟨qc15, qf15⟩ := bcell hb15
      have hz15 := hb15.size
      try simp only [World.size_alloc, World.size_setCell, World.size_drew] at hz15
      have hq15 : Below w.heap.size w w15 := below_call (by go_grown) hb15
      try have hl0_15 : w.heap.size < w15.heap.size := by omega
      try have hl1_15 : w.heap.size + 1 < w15.heap.size := by omega
      try have hl2_15 : w.heap.size + 2 < w15.heap.size := by omega
      try have hl3_15 : w.heap.size + 3 < w15.heap.size := by omega
      try have hn1_15 : w1.heap.size < w15.heap.size := by omega
      try have hn2_15 : w2.heap.size < w15.heap.size := by omega
      try have hn3_15 : w3.heap.size < w15.heap.size := by omega
      try have hn4_15 : w4.heap.size < w15.heap.size := by omega
      try have hn5_15 : w5.heap.size < w15.heap.size := by omega
      try have hn6_15 : w6.heap.size < w15.heap.size := by omega
      try have hn7_15 : w7.heap.size < w15.heap.size := by omega
      try have hn8_15 : w8.heap.size < w15.heap.size := by omega
      try have hn9_15 : w9.heap.size < w15.heap.size := by omega
      try have hn10_15 : w10.heap.size < w15.heap.size := by omega
      try have hn11_15 : w11.heap.size < w15.heap.size := by omega
      try have hn12_15 : w12.heap.size < w15.heap.size := by omega
      try have hn13_15 : w13.heap.size < w15.heap.size := by omega
      try have hn14_15 : w14.heap.size < w15.heap.size := by omega
      go_wp2_with fail
      refine (held_pairs v1 _ pq gs1 _ hlq ((HP14.out.below hb15).below (by go_grown)) HPV.out).mono ?_
      rintro e w16 ⟨rfl, rfl⟩
      rw [HPL.out]
      go_wp2
      go_returns
      exact ⟨rfl, hq15⟩
end Go.Proofs.Ytbpeamjgddikjaa
