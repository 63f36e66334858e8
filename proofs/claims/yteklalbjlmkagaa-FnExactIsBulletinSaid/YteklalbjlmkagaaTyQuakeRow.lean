/- The helpers of QuakeRow (7 numbers a value): made by gen.py. -/
import Derived.Test.YteklalbjlmkagaaLib
namespace Go.Proofs.Yteklalbjlmkagaa
open Go.RowKit
set_option linter.unusedVariables false
set_option linter.unusedSimpArgs false

theorem to_quakeRow (x0 x1 x2 x3 x4 x5 x6 : Int) (w : World) :
    Calls Try.prog 60 #[.agg #[.int .i64 x0, .int .i64 x1, .int .i64 x2, .int .i64 x3, .int .i64 x4, .int .i64 x5, .int .i64 x6]] w fun e w' => e = .returned (.agg #[.int .i64 x0, .int .i64 x1, .int .i64 x2, .int .i64 x3, .int .i64 x4, .int .i64 x5, .int .i64 x6]) ∧ Below w.heap.size w w' := by
  go_enter Try.func60, Try.ntmps60
  go_wp2
  go_returns
  exact ⟨rfl, by go_grown⟩
theorem eq_quakeRow (x0 x1 x2 x3 x4 x5 x6 y0 y1 y2 y3 y4 y5 y6 : Int) (v : Bool) (hv : (decide (x0 = y0) && decide (x1 = y1) && decide (x2 = y2) && decide (x3 = y3) && decide (x4 = y4) && decide (x5 = y5) && decide (x6 = y6)) = v) (w : World) :
    Calls Try.prog 66 #[.agg #[.int .i64 x0, .int .i64 x1, .int .i64 x2, .int .i64 x3, .int .i64 x4, .int .i64 x5, .int .i64 x6], .agg #[.int .i64 y0, .int .i64 y1, .int .i64 y2, .int .i64 y3, .int .i64 y4, .int .i64 y5, .int .i64 y6]] w fun e w' => e = .returned (.bool v) ∧ Below w.heap.size w w' := by
  by_cases h0 : x0 = y0
  · subst h0
    by_cases h1 : x1 = y1
    · subst h1
      by_cases h2 : x2 = y2
      · subst h2
        by_cases h3 : x3 = y3
        · subst h3
          by_cases h4 : x4 = y4
          · subst h4
            by_cases h5 : x5 = y5
            · subst h5
              by_cases h6 : x6 = y6
              · subst h6
                obtain rfl : true = v := by simpa using hv
                go_enter Try.func66, Try.ntmps66
                go_wp2
                go_returns
                exact ⟨rfl, by go_grown⟩
              · obtain rfl : false = v := by simpa [h6] using hv
                go_enter Try.func66, Try.ntmps66
                go_wp2
                go_returns
                exact ⟨rfl, by go_grown⟩
            · obtain rfl : false = v := by simpa [h5] using hv
              go_enter Try.func66, Try.ntmps66
              go_wp2
              go_returns
              exact ⟨rfl, by go_grown⟩
          · obtain rfl : false = v := by simpa [h4] using hv
            go_enter Try.func66, Try.ntmps66
            go_wp2
            go_returns
            exact ⟨rfl, by go_grown⟩
        · obtain rfl : false = v := by simpa [h3] using hv
          go_enter Try.func66, Try.ntmps66
          go_wp2
          go_returns
          exact ⟨rfl, by go_grown⟩
      · obtain rfl : false = v := by simpa [h2] using hv
        go_enter Try.func66, Try.ntmps66
        go_wp2
        go_returns
        exact ⟨rfl, by go_grown⟩
    · obtain rfl : false = v := by simpa [h1] using hv
      go_enter Try.func66, Try.ntmps66
      go_wp2
      go_returns
      exact ⟨rfl, by go_grown⟩
  · obtain rfl : false = v := by simpa [h0] using hv
    go_enter Try.func66, Try.ntmps66
    go_wp2
    go_returns
    exact ⟨rfl, by go_grown⟩
theorem sz_quakeRowS (A : Option Addr) (n c : Nat) (l : Int) (v : Int) (hv : (if l < n then -1 else l - n) = v) (hn : n ≤ maxLen) (h1 : 0 ≤ l) (h2 : l ≤ 1048576) (w : World) :
    Calls Try.prog 27 #[.slice A n c, .int .i64 l] w fun e w' => e = .returned (.int .i64 v) ∧ w = w' := by
  unfold maxLen at hn
  by_cases h : l < n
  · obtain rfl : -1 = v := by simpa [h] using hv
    go_enter Try.func27, Try.ntmps27
    go_wp2
    go_returns
    exact ⟨rfl, rfl⟩
  · obtain rfl : l - n = v := by simpa [h] using hv
    go_enter Try.func27, Try.ntmps27
    go_wp2
    go_returns
    exact ⟨rfl, rfl⟩
theorem sz_quakeRowS_ok (A : Option Addr) (n c : Nat) (l : Int) (h : (n : Int) ≤ l) (h2 : l ≤ 1048576) (w : World) :
    Calls Try.prog 27 #[.slice A n c, .int .i64 l] w fun e w' => e = .returned (.int .i64 (l - n)) ∧ w = w' :=
  sz_quakeRowS A n c l _ (by rw [if_neg (by omega)]) (by unfold maxLen; omega) (by omega) h2 w
theorem sz_quakeRowS_over (A : Option Addr) (n c : Nat) (l : Int) (h : l < (n : Int)) (hn : n ≤ maxLen) (h1 : 0 ≤ l) (h2 : l ≤ 1048576) (w : World) :
    Calls Try.prog 27 #[.slice A n c, .int .i64 l] w fun e w' => e = .returned (.int .i64 (-1)) ∧ w = w' :=
  sz_quakeRowS A n c l _ (by rw [if_pos h]) hn h1 h2 w
theorem info_quakeRow : (Try.prog.info? 82).map (fun i => (i.zero, i.size, i.bytes)) = some (some (.agg #[.int .i64 0, .int .i64 0, .int .i64 0, .int .i64 0, .int .i64 0, .int .i64 0, .int .i64 0]), 7, 56) := by kernel_rfl
theorem row_set_quakeRow {cur : Array Value} {k n : Nat} {F : Nat → Nat → Value} (hs : cur.size = n * 7) (hk : k < n) (h : ∀ i j, i < k → j < 7 → cur[i * 7 + j]? = some (F i j)) :
    ∀ i j, i < k + 1 → j < 7 → ((((((((cur.setIfInBounds (k * 7) (F k 0)).setIfInBounds (k * 7 + 1) (F k 1)).setIfInBounds (k * 7 + 2) (F k 2)).setIfInBounds (k * 7 + 3) (F k 3)).setIfInBounds (k * 7 + 4) (F k 4)).setIfInBounds (k * 7 + 5) (F k 5)).setIfInBounds (k * 7 + 6) (F k 6)))[i * 7 + j]? = some (F i j) := by
  intro i j hi hj
  simp only [Array.getElem?_setIfInBounds, Array.size_setIfInBounds]
  by_cases e : i = k
  · subst e
    rcases (by omega : j = 0 ∨ j = 1 ∨ j = 2 ∨ j = 3 ∨ j = 4 ∨ j = 5 ∨ j = 6) with rfl | rfl | rfl | rfl | rfl | rfl | rfl
    · rw [if_neg (by omega), if_neg (by omega), if_neg (by omega), if_neg (by omega), if_neg (by omega), if_neg (by omega), if_pos (by omega), if_pos (by omega)]
    · rw [if_neg (by omega), if_neg (by omega), if_neg (by omega), if_neg (by omega), if_neg (by omega), if_pos (by omega), if_pos (by omega)]
    · rw [if_neg (by omega), if_neg (by omega), if_neg (by omega), if_neg (by omega), if_pos (by omega), if_pos (by omega)]
    · rw [if_neg (by omega), if_neg (by omega), if_neg (by omega), if_pos (by omega), if_pos (by omega)]
    · rw [if_neg (by omega), if_neg (by omega), if_pos (by omega), if_pos (by omega)]
    · rw [if_neg (by omega), if_pos (by omega), if_pos (by omega)]
    · rw [if_pos (by omega), if_pos (by omega)]
  · rw [if_neg (by omega), if_neg (by omega), if_neg (by omega), if_neg (by omega), if_neg (by omega), if_neg (by omega), if_neg (by omega)]
    exact h i j (by omega) hj

set_option maxHeartbeats 1000000 in
theorem to_quakeRowS (A : Option Addr) (n c : Nat) (X : Nat → Nat → Int) (w : World) (hn : n ≤ 1048576) (ha : Arr w w.heap.size A n 7 (iv X)) :
    Calls Try.prog 29 #[.slice A n c] w fun e w' => ∃ v, e = .returned v ∧ Below w.heap.size w w' ∧ Own w' w.heap.size 82 7 v n (iv X) := by
  have hmk := fun W => mk_row (P := Try.prog) _ _ _ Try.underlying53 info_quakeRow n hn (by omega) W
  go_enter Try.func29, Try.ntmps29
  go_wp2
  clear hmk
  go_loopw [4] (fun i wr => ∃ k : Nat, k ≤ n ∧ i = .int .i64 k ∧ Below w.heap.size w wr ∧ ∃ cur : Array Value, Blk wr w.heap.size 82 cur ∧ cur.size = n * 7 ∧ ∀ i j, i < k → j < 7 → cur[i * 7 + j]? = some (iv X i j)) (fun i _ => n - (intOf i).toNat)
  case atStart => exact ⟨0, Nat.zero_le _, rfl, by go_grown, _, Blk.new _ _ _, by simp [madeCells], by omega⟩
  case round =>
    obtain ⟨k, hk, rfl, hb, cur, hblk, hsz, hcur⟩ := hrel
    by_cases hlt : k < n
    · obtain ⟨b, off, rfl, hbb, hc⟩ := ha (by omega)
      obtain ⟨q1, q2⟩ := bcell hb
      have c0 := hc k 0 hlt (by omega)
      have c1 := hc k 1 hlt (by omega)
      have c2 := hc k 2 hlt (by omega)
      have c3 := hc k 3 hlt (by omega)
      have c4 := hc k 4 hlt (by omega)
      have c5 := hc k 5 hlt (by omega)
      have c6 := hc k 6 hlt (by omega)
      simp only [Nat.add_zero, iv] at c0 c1 c2 c3 c4 c5 c6
      have HS := hide hsz; have HC := hide hcur
      have hw1 := hblk.lt
      clear hsz hcur hc ha
      go_wp2_with (go_at_call 60; refine (to_quakeRow _ _ _ _ _ _ _ _).mono ?_; rintro e w1 ⟨rfl, hb1⟩; have hblk1 := hblk.below hb1 hw1; have d0 := hblk1.cell (k * 7); have d1 := hblk1.cell (k * 7 + 1); have d2 := hblk1.cell (k * 7 + 2); have d3 := hblk1.cell (k * 7 + 3); have d4 := hblk1.cell (k * 7 + 4); have d5 := hblk1.cell (k * 7 + 5); have d6 := hblk1.cell (k * 7 + 6); have f0 := hblk1.frozen (k * 7); have f1 := hblk1.frozen (k * 7 + 1); have f2 := hblk1.frozen (k * 7 + 2); have f3 := hblk1.frozen (k * 7 + 3); have f4 := hblk1.frozen (k * 7 + 4); have f5 := hblk1.frozen (k * 7 + 5); have f6 := hblk1.frozen (k * 7 + 6); rw [Array.getElem?_eq_getElem (by rw [HS.out]; omega)] at d0 d1 d2 d3 d4 d5 d6; have HB1 := hide hblk1; clear hblk hblk1)
      go_roundw
      case rel =>
        have hsz' := HS.out
        have hrow := row_set_quakeRow (cur := cur) (F := iv X) hsz' hlt HC.out
        have hblk2 := (((((((HB1.out.set_ (k * 7) (.int .i64 (X k 0))).set_ (k * 7 + 1) (.int .i64 (X k 1))).set_ (k * 7 + 2) (.int .i64 (X k 2))).set_ (k * 7 + 3) (.int .i64 (X k 3))).set_ (k * 7 + 4) (.int .i64 (X k 4))).set_ (k * 7 + 5) (.int .i64 (X k 5))).set_ (k * 7 + 6) (.int .i64 (X k 6)))
        have hq : Below w.heap.size w _ := ((((((((hb.trans (hb1.mono (by omega))).setCell (p := ⟨w.heap.size, k * 7, none⟩) (Nat.le_refl _) (.int .i64 (X k 0))).setCell (p := ⟨w.heap.size, k * 7 + 1, none⟩) (Nat.le_refl _) (.int .i64 (X k 1))).setCell (p := ⟨w.heap.size, k * 7 + 2, none⟩) (Nat.le_refl _) (.int .i64 (X k 2))).setCell (p := ⟨w.heap.size, k * 7 + 3, none⟩) (Nat.le_refl _) (.int .i64 (X k 3))).setCell (p := ⟨w.heap.size, k * 7 + 4, none⟩) (Nat.le_refl _) (.int .i64 (X k 4))).setCell (p := ⟨w.heap.size, k * 7 + 5, none⟩) (Nat.le_refl _) (.int .i64 (X k 5))).setCell (p := ⟨w.heap.size, k * 7 + 6, none⟩) (Nat.le_refl _) (.int .i64 (X k 6)))
        exact ⟨k + 1, by omega, by go_num, hq, _, hblk2, by simpa only [Array.size_setIfInBounds] using hsz', hrow⟩
      case measure => simp [intOf]; omega
    · go_wp2
      go_ret
      obtain rfl : k = n := by omega
      exact ⟨_, rfl, hb, Own.made hn (Nat.le_refl _) hblk hsz hcur⟩

set_option maxHeartbeats 400000 in
theorem eq_quakeRowS (A A' : Option Addr) (n c m c' : Nat) (X Y : Nat → Nat → Int) (v : Bool) (hv : eqX 7 n m X Y = v) (w : World) (hn : n ≤ 1048576) (hm : m ≤ 1048576) (ha : Arr w w.heap.size A n 7 (iv X)) (ha' : Arr w w.heap.size A' m 7 (iv Y)) :
    Calls Try.prog 31 #[.slice A n c, .slice A' m c'] w fun e w' => e = .returned (.bool v) ∧ Below w.heap.size w w' := by
  by_cases hnm : n = m
  · subst hnm
    go_enter Try.func31, Try.ntmps31
    go_wp2
    go_loopw [5] (fun i wr => ∃ k : Nat, k ≤ n ∧ i = .int .i64 k ∧ Below w.heap.size w wr ∧ ∀ i, i < k → ∀ j, j < 7 → X i j = Y i j) (fun i _ => n - (intOf i).toNat)
    case atStart => exact ⟨0, Nat.zero_le _, rfl, by go_grown, by omega⟩
    case round =>
      obtain ⟨k, hk, rfl, hb, hall⟩ := hrel
      by_cases hlt : k < n
      · obtain ⟨b, off, rfl, hbb, hc⟩ := ha (by omega)
        obtain ⟨b', off', rfl, hbb', hc'⟩ := ha' (by omega)
        obtain ⟨q1, q2⟩ := bcell hb
        have hbl : b < wr.heap.size := by have := hb.size; omega
        have hbl' : b' < wr.heap.size := by have := hb.size; omega
        have hx := BW.cell (w := wr)
        have c0 := hc k 0 hlt (by omega); have e0 := hc' k 0 hlt (by omega)
        have c1 := hc k 1 hlt (by omega); have e1 := hc' k 1 hlt (by omega)
        have c2 := hc k 2 hlt (by omega); have e2 := hc' k 2 hlt (by omega)
        have c3 := hc k 3 hlt (by omega); have e3 := hc' k 3 hlt (by omega)
        have c4 := hc k 4 hlt (by omega); have e4 := hc' k 4 hlt (by omega)
        have c5 := hc k 5 hlt (by omega); have e5 := hc' k 5 hlt (by omega)
        have c6 := hc k 6 hlt (by omega); have e6 := hc' k 6 hlt (by omega)
        simp only [Nat.add_zero, iv] at c0 e0 c1 e1 c2 e2 c3 e3 c4 e4 c5 e5 c6 e6
        have HA := hide hall; have HV := hide hv
        clear hc ha hc' ha' hall hv
        by_cases hd : ∀ j, j < 7 → X k j = Y k j
        · have hB : (decide (X k 0 = Y k 0) && decide (X k 1 = Y k 1) && decide (X k 2 = Y k 2) && decide (X k 3 = Y k 3) && decide (X k 4 = Y k 4) && decide (X k 5 = Y k 5) && decide (X k 6 = Y k 6)) = true := by simp [hd 0 (by omega), hd 1 (by omega), hd 2 (by omega), hd 3 (by omega), hd 4 (by omega), hd 5 (by omega), hd 6 (by omega)]
          have HD := hide hd
          clear hd
          go_wp2
          refine wp_region_bw (by kernel_rfl) (by kernel_rfl) ?_
          repeat (go_big_quiet_step ((first | (go_at_call 66; exact BW.call (eq_quakeRow _ _ _ _ _ _ _ _ _ _ _ _ _ _ _ (by assumption) _)))))
          refine wpQuiet_end fun w1 hb1 => ?_
          go_wp2
          go_roundw
          case rel => exact ⟨k + 1, by omega, by go_num, hb.trans (hb1.mono hb.size), all_snoc HA.out HD.out⟩
          case measure => simp [intOf]; omega
        · have hB : (decide (X k 0 = Y k 0) && decide (X k 1 = Y k 1) && decide (X k 2 = Y k 2) && decide (X k 3 = Y k 3) && decide (X k 4 = Y k 4) && decide (X k 5 = Y k 5) && decide (X k 6 = Y k 6)) = false := by
            rw [← Bool.not_eq_true]; intro h; simp only [Bool.and_eq_true, decide_eq_true_eq] at h
            exact hd fun j hj => by rcases (by omega : j = 0 ∨ j = 1 ∨ j = 2 ∨ j = 3 ∨ j = 4 ∨ j = 5 ∨ j = 6) with rfl | rfl | rfl | rfl | rfl | rfl | rfl <;> simp [h]
          have HD := hide hd
          clear hd
          go_wp2
          refine wp_region_bw (by kernel_rfl) (by kernel_rfl) ?_
          repeat (go_big_quiet_step ((first | (go_at_call 66; exact BW.call (eq_quakeRow _ _ _ _ _ _ _ _ _ _ _ _ _ _ _ (by assumption) _)))))
          refine wpQuiet_end fun w1 hb1 => ?_
          go_wp2
          go_ret
          exact ⟨ret_bool (by rw [← HV.out, eqX_no (fun h => HD.out (h k hlt))]; rfl), hb.trans (hb1.mono hb.size)⟩
      · obtain rfl : k = n := by omega
        have HA := hide hall; have HV := hide hv
        clear hall hv
        go_wp2
        go_ret
        exact ⟨ret_bool (by rw [← HV.out, eqX_yes HA.out]; rfl), hb⟩
  · obtain rfl : false = v := by simpa [eqX, hnm] using hv
    go_enter Try.func31, Try.ntmps31
    go_wp2
    go_ret
    exact ⟨rfl, by go_grown⟩
end Go.Proofs.Yteklalbjlmkagaa
