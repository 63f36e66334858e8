/- A list of faults: the laws. -/
import Derived.Test.YtbpeamjgddikjaaFltQ
namespace Go.Proofs.Ytbpeamjgddikjaa
open Go.RowKit Go.ChangeShapes Go.WideShapes Go.ChangeAt Go.Deep Go.Joins
set_option linter.unusedVariables false
set_option linter.unusedSimpArgs false
set_option maxRecDepth 100000
section
variable {H : Type} {enc : TypeId × Value → H} {W : World}
theorem open_faultsV {r : Reach} {b0 : Nat} {v : Value} {d : DataW H} {p : List MemPlace} (hv : Value.okWide Try.prog W r b0 44 v) (h : DataW.Trod enc Try.prog W 0 (fun _ => true) true 44 v d p) :
    ∃ (A : Option Addr) (n c : Nat) (E : Nat → FauE) (Q : Nat → Option Addr × Nat), v = .slice A n c ∧ n ≤ maxLen ∧ FauL W A n E Q ∧ ∀ i, i < n → (E i).nm.size ≤ maxLen ∧ (E i).m ≤ maxLen := by
  obtain ⟨a0, len0, cap0, rfl⟩ := okWide_slice Try.underlying44 hv
  obtain ⟨fuel, hf⟩ := h
  exact open_faults hf
end

set_option maxHeartbeats 1000000 in
theorem walk_FnExactAreFaults (A : Option Addr) (n c : Nat) (E : Nat → FauE) (Q : Nat → Option Addr × Nat) (w : World) (hn : n ≤ maxLen) (hL : FauL w A n E Q) (hm : ∀ i, i < n → (E i).nm.size ≤ maxLen ∧ (E i).m ≤ maxLen) :
    Calls Try.prog 7 #[.slice A n c] w fun e w' => e = .returned (.bool true) ∧ Below w.heap.size w w' := by
  have hfa := frozen_al; have hfo := frozen_out
  have HL := hide hL; have HM := hide hm
  clear hL hm
  by_cases hov : (1048576 : Int) < n + fsz E n
  · have HS := hide (show (if (1048576 : Int) < n + fsz E n then -1 else (1048576 : Int) - (n + fsz E n)) = -1 from if_pos hov)
    clear hov
    go_enter Try.func7, Try.ntmps7
    go_wp2_with fail
    refine (sz_faultS A n c E Q 1048576 (-1) HS.out hn (by omega) (by omega) _ (HL.out.on (by go_grown)) HM.out).mono ?_
    rintro e w1 ⟨rfl, hb1⟩
    obtain ⟨qc1, qf1⟩ := bcell hb1
    have hz1 := hb1.size
    try simp only [World.size_alloc, World.size_setCell, World.size_drew] at hz1
    have hq1 : Below w.heap.size w w1 := below_call (by go_grown) hb1
    try have hl0_1 : w.heap.size < w1.heap.size := by omega
    try have hl1_1 : w.heap.size + 1 < w1.heap.size := by omega
    try have hl2_1 : w.heap.size + 2 < w1.heap.size := by omega
    try have hl3_1 : w.heap.size + 3 < w1.heap.size := by omega
    go_wp2
    go_returns
    exact ⟨rfl, hq1⟩
  · have hn1 : n ≤ 1048576 := by have := fsz_nn E n; omega
    have HMM := hide (fun i (hi : i < n) => (show (E i).nm.size ≤ 1048576 ∧ (E i).m ≤ 1048576 by have := fsz_at E hi; omega))
    have HMs := hide (fun i (hi : i < n) => (HMM.out i hi).2)
    obtain ⟨l, hl⟩ : ∃ l : Int, l = 1048576 - (n + fsz E n) := ⟨_, rfl⟩
    have hl0 : 0 ≤ l := by omega
    have HS := hide (show (if (1048576 : Int) < n + fsz E n then -1 else (1048576 : Int) - (n + fsz E n)) = l by rw [if_neg hov, hl])
    obtain ⟨v, HV⟩ : ∃ v, Hid (fausB n E = v) := ⟨_, rfl⟩
    clear hl hov
    go_enter Try.func7, Try.ntmps7
    go_wp2_with fail
    refine (sz_faultS A n c E Q 1048576 l HS.out hn (by omega) (by omega) _ (HL.out.on (by go_grown)) HM.out).mono ?_
    rintro e w1 ⟨rfl, hb1⟩
    obtain ⟨qc1, qf1⟩ := bcell hb1
    have hz1 := hb1.size
    try simp only [World.size_alloc, World.size_setCell, World.size_drew] at hz1
    have hq1 : Below w.heap.size w w1 := below_call (by go_grown) hb1
    try have hl0_1 : w.heap.size < w1.heap.size := by omega
    try have hl1_1 : w.heap.size + 1 < w1.heap.size := by omega
    try have hl2_1 : w.heap.size + 2 < w1.heap.size := by omega
    try have hl3_1 : w.heap.size + 3 < w1.heap.size := by omega
    go_wp2_with fail
    refine (to_faultS A n c E Q _ hn1 HMs.out (HL.out.on (by go_grown))).mono ?_
    rintro e w2 ⟨A1, c1, Q1, z1, rfl, hb2, HO1⟩
    obtain ⟨qc2, qf2⟩ := bcell hb2
    have hz2 := hb2.size
    try simp only [World.size_alloc, World.size_setCell, World.size_drew] at hz2
    have hq2 : Below w.heap.size w w2 := below_call (by go_grown) hb2
    try have hl0_2 : w.heap.size < w2.heap.size := by omega
    try have hl1_2 : w.heap.size + 1 < w2.heap.size := by omega
    try have hl2_2 : w.heap.size + 2 < w2.heap.size := by omega
    try have hl3_2 : w.heap.size + 3 < w2.heap.size := by omega
    try have hn1_2 : w1.heap.size < w2.heap.size := by omega
    have HT1 := hide HO1.list; clear HO1
    go_wp2_with fail
    refine (spec_faus A1 n c1 E Q1 v HV.out _ hn1 HMM.out (HT1.out.on (by go_grown))).mono ?_
    rintro e w3 ⟨rfl, hb3⟩
    obtain ⟨qc3, qf3⟩ := bcell hb3
    have hz3 := hb3.size
    try simp only [World.size_alloc, World.size_setCell, World.size_drew] at hz3
    have hq3 : Below w.heap.size w w3 := below_call (by go_grown) hb3
    try have hl0_3 : w.heap.size < w3.heap.size := by omega
    try have hl1_3 : w.heap.size + 1 < w3.heap.size := by omega
    try have hl2_3 : w.heap.size + 2 < w3.heap.size := by omega
    try have hl3_3 : w.heap.size + 3 < w3.heap.size := by omega
    try have hn1_3 : w1.heap.size < w3.heap.size := by omega
    try have hn2_3 : w2.heap.size < w3.heap.size := by omega
    go_wp2_with fail
    refine (to_faultS A n c E Q _ hn1 HMs.out (HL.out.on (by go_grown))).mono ?_
    rintro e w4 ⟨A2, c2, Q2, z2, rfl, hb4, HO2⟩
    obtain ⟨qc4, qf4⟩ := bcell hb4
    have hz4 := hb4.size
    try simp only [World.size_alloc, World.size_setCell, World.size_drew] at hz4
    have hq4 : Below w.heap.size w w4 := below_call (by go_grown) hb4
    try have hl0_4 : w.heap.size < w4.heap.size := by omega
    try have hl1_4 : w.heap.size + 1 < w4.heap.size := by omega
    try have hl2_4 : w.heap.size + 2 < w4.heap.size := by omega
    try have hl3_4 : w.heap.size + 3 < w4.heap.size := by omega
    try have hn1_4 : w1.heap.size < w4.heap.size := by omega
    try have hn2_4 : w2.heap.size < w4.heap.size := by omega
    try have hn3_4 : w3.heap.size < w4.heap.size := by omega
    have HT2 := hide HO2.list; clear HO2 HT1
    go_wp2_with fail
    refine (impl_faus A2 n c2 E Q2 v HV.out _ hn1 HMM.out (HT2.out.on (by go_grown))).mono ?_
    rintro e w5 ⟨rfl, hb5⟩
    obtain ⟨qc5, qf5⟩ := bcell hb5
    have hz5 := hb5.size
    try simp only [World.size_alloc, World.size_setCell, World.size_drew] at hz5
    have hq5 : Below w.heap.size w w5 := below_call (by go_grown) hb5
    try have hl0_5 : w.heap.size < w5.heap.size := by omega
    try have hl1_5 : w.heap.size + 1 < w5.heap.size := by omega
    try have hl2_5 : w.heap.size + 2 < w5.heap.size := by omega
    try have hl3_5 : w.heap.size + 3 < w5.heap.size := by omega
    try have hn1_5 : w1.heap.size < w5.heap.size := by omega
    try have hn2_5 : w2.heap.size < w5.heap.size := by omega
    try have hn3_5 : w3.heap.size < w5.heap.size := by omega
    try have hn4_5 : w4.heap.size < w5.heap.size := by omega
    have HT5 := hide (HT2.out.on hb5); clear HT2
    cases v
    all_goals
      go_wp2_with fail
      refine (to_faultS A n c E Q _ hn1 HMs.out (HL.out.on (by go_grown))).mono ?_
      rintro e w6 ⟨A3, c3, Q3, z3, rfl, hb6, HO3⟩
      obtain ⟨qc6, qf6⟩ := bcell hb6
      have hz6 := hb6.size
      try simp only [World.size_alloc, World.size_setCell, World.size_drew] at hz6
      have hq6 : Below w.heap.size w w6 := below_call (by go_grown) hb6
      try have hl0_6 : w.heap.size < w6.heap.size := by omega
      try have hl1_6 : w.heap.size + 1 < w6.heap.size := by omega
      try have hl2_6 : w.heap.size + 2 < w6.heap.size := by omega
      try have hl3_6 : w.heap.size + 3 < w6.heap.size := by omega
      try have hn1_6 : w1.heap.size < w6.heap.size := by omega
      try have hn2_6 : w2.heap.size < w6.heap.size := by omega
      try have hn3_6 : w3.heap.size < w6.heap.size := by omega
      try have hn4_6 : w4.heap.size < w6.heap.size := by omega
      try have hn5_6 : w5.heap.size < w6.heap.size := by omega
      have HT3 := hide HO3.list; clear HO3
      have HT6 := hide (HT5.out.on hb6); clear HT5
      go_wp2_with fail
      refine (eq_faultS A2 A3 n c2 c3 E Q2 Q3 _ hn1 HMs.out (HT6.out.on (by go_grown)) (HT3.out.on (by go_grown))).mono ?_
      rintro e w7 ⟨rfl, hb7⟩
      obtain ⟨qc7, qf7⟩ := bcell hb7
      have hz7 := hb7.size
      try simp only [World.size_alloc, World.size_setCell, World.size_drew] at hz7
      have hq7 : Below w.heap.size w w7 := below_call (by go_grown) hb7
      try have hl0_7 : w.heap.size < w7.heap.size := by omega
      try have hl1_7 : w.heap.size + 1 < w7.heap.size := by omega
      try have hl2_7 : w.heap.size + 2 < w7.heap.size := by omega
      try have hl3_7 : w.heap.size + 3 < w7.heap.size := by omega
      try have hn1_7 : w1.heap.size < w7.heap.size := by omega
      try have hn2_7 : w2.heap.size < w7.heap.size := by omega
      try have hn3_7 : w3.heap.size < w7.heap.size := by omega
      try have hn4_7 : w4.heap.size < w7.heap.size := by omega
      try have hn5_7 : w5.heap.size < w7.heap.size := by omega
      try have hn6_7 : w6.heap.size < w7.heap.size := by omega
      go_wp2
      go_returns
      exact ⟨rfl, hq7⟩
end Go.Proofs.Ytbpeamjgddikjaa
