/- A [][]int of pairs: the helpers of the laws (equal, marked, held). -/
import Derived.Test.YtbpeamjgddikjaaMps
import Derived.Test.YtbpeamjgddikjaaTyInt
namespace Go.Proofs.Ytbpeamjgddikjaa
open Go.RowKit
set_option linter.unusedVariables false
set_option linter.unusedSimpArgs false

def pcel (ps : List (Int × Int)) (i : Nat) (j k : Nat) : Int := if j = 0 then (ps.getD i (0, 0)).1 else (ps.getD i (0, 0)).2
theorem MPs.form {w : World} {base : Nat} {v : Value} {ps : List (Int × Int)} {gs : List Nat} (h : MPs w base v ps gs) : ∃ A c, v = .slice A ps.length c ∧ ps.length ≤ c ∧ Arr w w.heap.size A ps.length 1 (fun i _ => .slice (some ⟨gs.getD i 0, 0, none⟩) 2 2) := by
  rcases h.row.2 with ⟨rfl, hn⟩ | ⟨g, cap, cur, rfl, hg, hb, hc, _⟩
  · exact ⟨none, 0, by rw [hn], by omega, fun hlt => absurd hlt (by omega)⟩
  · refine ⟨_, cap, rfl, hc, fun hlt => ⟨g, 0, rfl, Blk.lt hb, fun i j hi hj => ?_⟩⟩
    obtain rfl : j = 0 := by omega
    have hl := h.len
    have := h.row.cells (g := g) rfl i (.slice (some ⟨gs.getD i 0, 0, none⟩) 2 2) (by simp [gl, List.getD, List.getElem?_eq_getElem (by omega : i < gs.length)])
    rw [← this]
    congr 1
    unfold Addr.add
    by_cases e : i = 0
    · simp [e]
    · simp [e]
theorem MPs.inner {w : World} {base : Nat} {v : Value} {ps : List (Int × Int)} {gs : List Nat} (h : MPs w base v ps gs) {i : Nat} (hi : i < ps.length) : Own w base 3 1 (.slice (some ⟨gs.getD i 0, 0, none⟩) 2 2) 2 (iv (pcel ps i)) := by
  have hl := h.len
  refine .inr ⟨gs.getD i 0, 2, _, rfl, (h.lo _ (gs_in (by omega))).1, h.blk i hi, Nat.le_refl _, by unfold maxLen; omega, by simp, fun a b ha hb => ?_⟩
  rcases (by omega : (a = 0 ∨ a = 1) ∧ b = 0) with ⟨rfl | rfl, rfl⟩ <;> simp [iv, pcel]
/-- One inner list marked. -/
theorem MPs.put {w w' : World} {base q : Nat} {v : Value} {ps : List (Int × Int)} {gs : List Nat} {x y : Int} (h : MPs w base v ps gs) (hq : q < ps.length) (hg : w.grownBy w' (some (gs.getD q 0))) (hb : Blk w' (gs.getD q 0) 3 #[.int .i64 x, .int .i64 y]) : MPs w' base v (ps.set q (x, y)) gs := by
  obtain ⟨h1, h2, h3, h4, h5⟩ := h
  have hs := hg.size
  have hqg : gs.getD q 0 ∈ gs := gs_in (by omega)
  refine ⟨by simp [h1], ?_, fun b hbm => ⟨(h3 b hbm).1, by have := (h3 b hbm).2.1; omega, (h3 b hbm).2.2⟩, h4, fun i hi => ?_⟩
  · rw [List.length_set]
    exact h2.kept hg (.inr (h3 _ hqg).2.2)
  · rw [List.length_set] at hi
    by_cases e : i = q
    · subst e
      simpa [List.getD, List.getElem?_set, hi] using hb
    · have e1 : (ps.set q (x, y)).getD i (0, 0) = ps.getD i (0, 0) := by simp [List.getD, List.getElem?_set, Ne.symm e]
      rw [e1]
      have hne : gs.getD i 0 ≠ gs.getD q 0 := by
        intro e2
        have i1 : i < gs.length := by omega
        have q1 : q < gs.length := by omega
        simp only [List.getD, List.getElem?_eq_getElem i1, List.getElem?_eq_getElem q1, Option.getD_some] at e2
        rcases Nat.lt_or_gt_of_ne e with hlt | hlt
        · exact List.pairwise_iff_getElem.1 h4 i q i1 q1 hlt e2
        · exact List.pairwise_iff_getElem.1 h4 q i q1 i1 hlt e2.symm
      exact (hg.block _ (h3 _ (gs_in (by omega))).2.1 (fun e2 => hne (by injection e2))).trans (h5 i hi)
set_option maxHeartbeats 1000000 in
theorem eq_pairs (v1 v2 : Value) (b1 b2 : Nat) (ps : List (Int × Int)) (gs1 gs2 : List Nat) (w : World) (hn : ps.length ≤ 1000000) (h1 : MPs w b1 v1 ps gs1) (h2 : MPs w b2 v2 ps gs2) :
    Calls Try.prog 37 #[v1, v2] w fun e w' => e = .returned (.bool true) ∧ Below w.heap.size w w' := by
  obtain ⟨A1, c1, rfl, _, a1⟩ := h1.form
  obtain ⟨A2, c2, rfl, _, a2⟩ := h2.form
  have H1 := hide h1; have H2 := hide h2; have A1' := hide a1; have A2' := hide a2
  clear h1 h2 a1 a2
  obtain ⟨n, hnn⟩ : ∃ n, ps.length = n := ⟨_, rfl⟩
  rw [hnn] at hn A1' A2' ⊢
  go_enter Try.func37, Try.ntmps37
  go_wp2
  go_loopw [5] (fun i wr => ∃ k : Nat, k ≤ n ∧ i = .int .i64 k ∧ Below w.heap.size w wr) (fun i _ => n - (intOf i).toNat)
  case atStart => exact ⟨0, Nat.zero_le _, rfl, by go_grown⟩
  case round =>
    obtain ⟨k, hk, rfl, hbw⟩ := hrel
    by_cases hlt : k < n
    · obtain ⟨b, off, rfl, hbb, hc⟩ := (A1'.out.on hbw) (by omega)
      obtain ⟨b', off', rfl, hbb', hc'⟩ := (A2'.out.on hbw) (by omega)
      have c0 := hc k 0 hlt (by omega); have d0 := hc' k 0 hlt (by omega)
      simp only [Nat.add_zero, Nat.mul_one] at c0 d0
      have x1 := hide ((H1.out.inner (by omega : k < ps.length)).arr1.on hbw); have x2 := hide ((H2.out.inner (by omega : k < ps.length)).arr1.on hbw)
      have hx := BW.cell (w := wr)
      clear hc hc'
      go_wp2
      refine wp_region_bw (by kernel_rfl) (by kernel_rfl) ?_
      repeat (go_big_quiet_step ((first | (go_at_call 71; exact BW.call (eq_intS _ _ _ _ _ _ (pcel ps k) (pcel ps k) true (eqX_self _ _ _) _ (by omega) (by omega) (x1.out.on (BW.prop _)) (x2.out.on (BW.prop _)))))))
      refine wpQuiet_end fun w1 hb1 => ?_
      go_wp2
      go_roundw
      case rel => exact ⟨k + 1, by omega, by go_num, hbw.trans (hb1.mono hbw.size)⟩
      case measure => simp [intOf]; omega
    · go_wp2
      go_ret
      exact ⟨rfl, hbw⟩
set_option maxHeartbeats 1000000 in
theorem mark_pairs (v : Value) (base : Nat) (ps : List (Int × Int)) (gs : List Nat) (w : World) (hn : ps.length ≤ 1000000) (h : MPs w base v ps gs) :
    Calls Try.prog 39 #[v, .int .i64 1] w fun e w' => e = .returned (.int .i64 (1 + 2 * ps.length)) ∧ Below base w w' ∧ ∃ pq : List (Int × Int), pq.length = ps.length ∧ MPs w' base v pq gs ∧ ∀ i, i < ps.length → pq.getD i (0, 0) = (1 + 2 * (i : Int), 2 + 2 * (i : Int)) := by
  obtain ⟨A, c, rfl, _, a⟩ := h.form
  have H := hide h
  clear h a
  obtain ⟨n, hnn⟩ : ∃ n, ps.length = n := ⟨_, rfl⟩
  have HN := hide hnn
  rw [hnn] at hn H ⊢
  clear hnn
  go_enter Try.func39, Try.ntmps39
  go_wp2
  go_loopw [1, 5] (fun r i wr => ∃ (k : Nat) (pq : List (Int × Int)), k ≤ n ∧ i = .int .i64 k ∧ r = .int .i64 (1 + 2 * (k : Int)) ∧ Below base w wr ∧ pq.length = n ∧ MPs wr base (.slice A n c) pq gs ∧ ∀ i, i < k → pq.getD i (0, 0) = (1 + 2 * (i : Int), 2 + 2 * (i : Int))) (fun _ i _ => n - (intOf i).toNat)
  case atStart => exact ⟨0, ps, Nat.zero_le _, rfl, rfl, Below.refl _ _, HN.out, H.out, fun i hi => absurd hi (by omega)⟩
  case round =>
    obtain ⟨k, pq, hk, rfl, rfl, hbw, hl, hmp, hall⟩ := hrel
    have HMP := hide hmp; have HALL := hide hall; have HL := hide hl
    by_cases hlt : k < n
    · obtain ⟨A', c', hv, _, a⟩ := hmp.form
      injection hv with hA hl2 hc
      subst hA hc
      obtain ⟨b, off, rfl, hbb, hcc⟩ := a (by omega)
      have c0 := hcc k 0 (by omega) (by omega)
      simp only [Nat.add_zero, Nat.mul_one] at c0
      have hin := hide (hmp.inner (i := k) (by omega))
      clear hcc a hmp hall hl hl2
      go_wp2_with fail
      refine (mark_intS _ _ _ _ _ _ _ (by omega) (by omega) (by omega) hin.out).mono ?_
      rintro e w1 ⟨rfl, hg1, ho1⟩
      have hm1 := HMP.out.put (q := k) (x := 1 + 2 * (k : Int)) (y := 2 + 2 * (k : Int)) (by rw [HL.out]; exact hlt) (by simpa [Value.ownBlock] using hg1) (by
        rcases ho1 with ⟨h, _⟩ | ⟨g, cap, cur, hv, hg, hb, h1, h2, h3, h4⟩
        · cases h
        · injection hv with e1 _ e3
          injection e1 with e1
          injection e1 with e1
          subst e1
          subst e3
          have s0 := h4 0 0 (by omega) (by omega); have s1 := h4 1 0 (by omega) (by omega)
          have : cur = #[.int .i64 (1 + 2 * (k : Int)), .int .i64 (2 + 2 * (k : Int))] := by
            have hsz : cur.size = 2 := by omega
            apply Array.ext
            · simp [hsz]
            · intro i h1 h2
              rcases (by omega : i = 0 ∨ i = 1) with rfl | rfl
              · rw [Array.getElem?_eq_getElem (by omega)] at s0
                simpa [mkint] using s0
              · rw [Array.getElem?_eq_getElem (by omega)] at s1
                have e5 : (1 : Int) + 2 * (k : Int) + 1 = 2 + 2 * (k : Int) := by omega
                simpa [mkint, e5] using s1
          rw [← this]; exact hb)
      have HM1 := hide hm1
      have hbw1 : Below base w w1 := hbw.grown hg1 (by have := (HMP.out.lo _ (gs_in (i := k) (by have := HMP.out.len; have := HL.out; omega))).1; have := (HMP.out.lo _ (gs_in (i := k) (by have := HMP.out.len; have := HL.out; omega))).2.1; omega) (fun b hb => by
        simp only [Value.ownBlock, Option.some.injEq] at hb
        rw [← hb]
        exact (HMP.out.lo _ (gs_in (i := k) (by have := HMP.out.len; have := HL.out; omega))).1)
      clear hm1 hg1 ho1
      go_wp2
      go_roundw
      case rel => exact ⟨k + 1, _, by omega, by go_num, by congr 1 <;> omega, hbw1, by rw [List.length_set]; exact HL.out, HM1.out, fun i hi => by
        by_cases e : i = k
        · subst e; simp [List.getD, List.getElem?_set, HL.out, hlt]
        · have e1 : (pq.set k (1 + 2 * (k : Int), 2 + 2 * (k : Int))).getD i (0, 0) = pq.getD i (0, 0) := by simp [List.getD, List.getElem?_set, Ne.symm e]
          rw [e1]; exact HALL.out i (by omega)⟩
      case measure => simp [intOf]; omega
    · obtain rfl : k = n := by omega
      go_wp2
      go_ret
      exact ⟨rfl, hbw, pq, HL.out, HMP.out, HALL.out⟩
set_option maxHeartbeats 1000000 in
theorem held_pairs (v : Value) (base : Nat) (ps : List (Int × Int)) (gs : List Nat) (w : World) (hn : ps.length ≤ 1000000) (h : MPs w base v ps gs) (hp : ∀ i, i < ps.length → ps.getD i (0, 0) = (1 + 2 * (i : Int), 2 + 2 * (i : Int))) :
    Calls Try.prog 40 #[v, .int .i64 1] w fun e w' => e = .returned (.int .i64 (1 + 2 * ps.length)) ∧ w = w' := by
  obtain ⟨A, c, rfl, _, a⟩ := h.form
  have H := hide h; have HP := hide hp
  clear h hp
  obtain ⟨n, hnn⟩ : ∃ n, ps.length = n := ⟨_, rfl⟩
  have HN := hide hnn
  rw [hnn] at hn H a ⊢
  clear hnn
  go_enter Try.func40, Try.ntmps40
  go_wp2
  go_loop [1, 5] (fun r i => ∃ k : Nat, k ≤ n ∧ i = .int .i64 k ∧ r = .int .i64 (1 + 2 * (k : Int))) (fun _ i => n - (intOf i).toNat)
  case atStart => exact ⟨0, Nat.zero_le _, rfl, rfl⟩
  case round =>
    obtain ⟨k, hk, rfl, rfl⟩ := hrel
    by_cases hlt : k < n
    · obtain ⟨b, off, rfl, hbb, hcc⟩ := a (by omega)
      have c0 := hcc k 0 (by omega) (by omega)
      simp only [Nat.add_zero, Nat.mul_one] at c0
      have hpk := HP.out k (by rw [HN.out]; exact hlt)
      have hin := hide ((H.out.inner (i := k) (by rw [HN.out]; exact hlt)).arr1)
      have hfk : ∀ i j, i < 2 → j < 1 → iv (pcel ps k) i j = mkint (1 + 2 * (k : Int)) i j := by
        intro i j hi hj
        rcases (by omega : (i = 0 ∨ i = 1) ∧ j = 0) with ⟨rfl | rfl, rfl⟩
        · unfold iv pcel mkint; rw [hpk]; simp
        · have e5 : (1 : Int) + 2 * (k : Int) + 1 = 2 + 2 * (k : Int) := by omega
          unfold iv pcel mkint; rw [hpk]; simp [e5]
      have HF := hide hfk
      clear hcc a hpk hfk
      go_wp2_with fail
      refine (held_intS _ _ _ _ _ _ (by omega) (by omega) (by omega) hin.out HF.out).mono ?_
      rintro e w1 ⟨rfl, rfl⟩
      go_wp2
      go_round
      case rel => exact ⟨k + 1, by omega, by go_num, by congr 1 <;> omega⟩
      case measure => simp [intOf]; omega
    · obtain rfl : k = n := by omega
      go_wp2
      go_ret
      exact ⟨rfl, rfl⟩
end Go.Proofs.Ytbpeamjgddikjaa
