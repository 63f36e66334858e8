/- The helpers of Heard (2 numbers a value): made by gen.py. -/
import Derived.Test.YtgiphgfbfhaamaaDoorLib
namespace Go.Proofs.YtgiphgfbfhaamaaDoor
open Go.RowKit
set_option linter.unusedVariables false
set_option linter.unusedSimpArgs false

theorem to_heard (x0 x1 : Int) (w : World) :
    Calls Tryd.prog 20 #[.agg #[.int .i64 x0, .int .i64 x1]] w fun e w' => e = .returned (.agg #[.int .i64 x0, .int .i64 x1]) ∧ Below w.heap.size w w' := by
  go_enter Tryd.func20, Tryd.ntmps20
  go_wp2
  go_returns
  exact ⟨rfl, by go_grown⟩
theorem eq_heard (x0 x1 y0 y1 : Int) (v : Bool) (hv : (decide (x0 = y0) && decide (x1 = y1)) = v) (w : World) :
    Calls Tryd.prog 29 #[.agg #[.int .i64 x0, .int .i64 x1], .agg #[.int .i64 y0, .int .i64 y1]] w fun e w' => e = .returned (.bool v) ∧ Below w.heap.size w w' := by
  by_cases h0 : x0 = y0
  · subst h0
    by_cases h1 : x1 = y1
    · subst h1
      obtain rfl : true = v := by simpa using hv
      go_enter Tryd.func29, Tryd.ntmps29
      go_wp2
      go_returns
      exact ⟨rfl, by go_grown⟩
    · obtain rfl : false = v := by simpa [h1] using hv
      go_enter Tryd.func29, Tryd.ntmps29
      go_wp2
      go_returns
      exact ⟨rfl, by go_grown⟩
  · obtain rfl : false = v := by simpa [h0] using hv
    go_enter Tryd.func29, Tryd.ntmps29
    go_wp2
    go_returns
    exact ⟨rfl, by go_grown⟩
theorem sz_heardS (A : Option Addr) (n c : Nat) (l : Int) (v : Int) (hv : (if l < n then -1 else l - n) = v) (hn : n ≤ maxLen) (h1 : 0 ≤ l) (h2 : l ≤ 1048576) (w : World) :
    Calls Tryd.prog 9 #[.slice A n c, .int .i64 l] w fun e w' => e = .returned (.int .i64 v) ∧ w = w' := by
  unfold maxLen at hn
  by_cases h : l < n
  · obtain rfl : -1 = v := by simpa [h] using hv
    go_enter Tryd.func9, Tryd.ntmps9
    go_wp2
    go_returns
    exact ⟨rfl, rfl⟩
  · obtain rfl : l - n = v := by simpa [h] using hv
    go_enter Tryd.func9, Tryd.ntmps9
    go_wp2
    go_returns
    exact ⟨rfl, rfl⟩
theorem sz_heardS_ok (A : Option Addr) (n c : Nat) (l : Int) (h : (n : Int) ≤ l) (h2 : l ≤ 1048576) (w : World) :
    Calls Tryd.prog 9 #[.slice A n c, .int .i64 l] w fun e w' => e = .returned (.int .i64 (l - n)) ∧ w = w' :=
  sz_heardS A n c l _ (by rw [if_neg (by omega)]) (by unfold maxLen; omega) (by omega) h2 w
theorem sz_heardS_over (A : Option Addr) (n c : Nat) (l : Int) (h : l < (n : Int)) (hn : n ≤ maxLen) (h1 : 0 ≤ l) (h2 : l ≤ 1048576) (w : World) :
    Calls Tryd.prog 9 #[.slice A n c, .int .i64 l] w fun e w' => e = .returned (.int .i64 (-1)) ∧ w = w' :=
  sz_heardS A n c l _ (by rw [if_pos h]) hn h1 h2 w
theorem info_heard : (Tryd.prog.info? 44).map (fun i => (i.zero, i.size, i.bytes)) = some (some (.agg #[.int .i64 0, .int .i64 0]), 2, 16) := by kernel_rfl
theorem row_set_heard {cur : Array Value} {k n : Nat} {F : Nat → Nat → Value} (hs : cur.size = n * 2) (hk : k < n) (h : ∀ i j, i < k → j < 2 → cur[i * 2 + j]? = some (F i j)) :
    ∀ i j, i < k + 1 → j < 2 → (((cur.setIfInBounds (k * 2) (F k 0)).setIfInBounds (k * 2 + 1) (F k 1)))[i * 2 + j]? = some (F i j) := by
  intro i j hi hj
  simp only [Array.getElem?_setIfInBounds, Array.size_setIfInBounds]
  by_cases e : i = k
  · subst e
    rcases (by omega : j = 0 ∨ j = 1) with rfl | rfl
    · rw [if_neg (by omega), if_pos (by omega), if_pos (by omega)]
    · rw [if_pos (by omega), if_pos (by omega)]
  · rw [if_neg (by omega), if_neg (by omega)]
    exact h i j (by omega) hj

set_option maxHeartbeats 1000000 in
theorem to_heardS (A : Option Addr) (n c : Nat) (X : Nat → Nat → Int) (w : World) (hn : n ≤ 1048576) (ha : Arr w w.heap.size A n 2 (iv X)) :
    Calls Tryd.prog 12 #[.slice A n c] w fun e w' => ∃ v, e = .returned v ∧ Below w.heap.size w w' ∧ Own w' w.heap.size 44 2 v n (iv X) := by
  have hmk := fun W => mk_row (P := Tryd.prog) _ _ _ Tryd.underlying28 info_heard n hn (by omega) W
  go_enter Tryd.func12, Tryd.ntmps12
  go_wp2
  clear hmk
  go_loopw [4] (fun i wr => ∃ k : Nat, k ≤ n ∧ i = .int .i64 k ∧ Below w.heap.size w wr ∧ ∃ cur : Array Value, Blk wr w.heap.size 44 cur ∧ cur.size = n * 2 ∧ ∀ i j, i < k → j < 2 → cur[i * 2 + j]? = some (iv X i j)) (fun i _ => n - (intOf i).toNat)
  case atStart => exact ⟨0, Nat.zero_le _, rfl, by go_grown, _, Blk.new _ _ _, by simp [madeCells], by omega⟩
  case round =>
    obtain ⟨k, hk, rfl, hb, cur, hblk, hsz, hcur⟩ := hrel
    by_cases hlt : k < n
    · obtain ⟨b, off, rfl, hbb, hc⟩ := ha (by omega)
      obtain ⟨q1, q2⟩ := bcell hb
      have c0 := hc k 0 hlt (by omega)
      have c1 := hc k 1 hlt (by omega)
      simp only [Nat.add_zero, iv] at c0 c1
      have HS := hide hsz; have HC := hide hcur
      have hw1 := hblk.lt
      clear hsz hcur hc ha
      go_wp2_with (go_at_call 20; refine (to_heard _ _ _).mono ?_; rintro e w1 ⟨rfl, hb1⟩; have hblk1 := hblk.below hb1 hw1; have d0 := hblk1.cell (k * 2); have d1 := hblk1.cell (k * 2 + 1); have f0 := hblk1.frozen (k * 2); have f1 := hblk1.frozen (k * 2 + 1); rw [Array.getElem?_eq_getElem (by rw [HS.out]; omega)] at d0 d1; have HB1 := hide hblk1; clear hblk hblk1)
      go_roundw
      case rel =>
        have hsz' := HS.out
        have hrow := row_set_heard (cur := cur) (F := iv X) hsz' hlt HC.out
        have hblk2 := ((HB1.out.set_ (k * 2) (.int .i64 (X k 0))).set_ (k * 2 + 1) (.int .i64 (X k 1)))
        have hq : Below w.heap.size w _ := (((hb.trans (hb1.mono (by omega))).setCell (p := ⟨w.heap.size, k * 2, none⟩) (Nat.le_refl _) (.int .i64 (X k 0))).setCell (p := ⟨w.heap.size, k * 2 + 1, none⟩) (Nat.le_refl _) (.int .i64 (X k 1)))
        exact ⟨k + 1, by omega, by go_num, hq, _, hblk2, by simpa only [Array.size_setIfInBounds] using hsz', hrow⟩
      case measure => simp [intOf]; omega
    · go_wp2
      go_ret
      obtain rfl : k = n := by omega
      exact ⟨_, rfl, hb, Own.made hn (Nat.le_refl _) hblk hsz hcur⟩

set_option maxHeartbeats 400000 in
theorem eq_heardS (A A' : Option Addr) (n c m c' : Nat) (X Y : Nat → Nat → Int) (v : Bool) (hv : eqX 2 n m X Y = v) (w : World) (hn : n ≤ 1048576) (hm : m ≤ 1048576) (ha : Arr w w.heap.size A n 2 (iv X)) (ha' : Arr w w.heap.size A' m 2 (iv Y)) :
    Calls Tryd.prog 15 #[.slice A n c, .slice A' m c'] w fun e w' => e = .returned (.bool v) ∧ Below w.heap.size w w' := by
  by_cases hnm : n = m
  · subst hnm
    go_enter Tryd.func15, Tryd.ntmps15
    go_wp2
    go_loopw [5] (fun i wr => ∃ k : Nat, k ≤ n ∧ i = .int .i64 k ∧ Below w.heap.size w wr ∧ ∀ i, i < k → ∀ j, j < 2 → X i j = Y i j) (fun i _ => n - (intOf i).toNat)
    case atStart => exact ⟨0, Nat.zero_le _, rfl, by go_grown, by omega⟩
    case round =>
      obtain ⟨k, hk, rfl, hb, hall⟩ := hrel
      by_cases hlt : k < n
      · obtain ⟨b, off, rfl, hbb, hc⟩ := ha (by omega)
        obtain ⟨b', off', rfl, hbb', hc'⟩ := ha' (by omega)
        obtain ⟨q1, q2⟩ := bcell hb
        have hbl : b < wr.heap.size := by have := hb.size; omega
        have hbl' : b' < wr.heap.size := by have := hb.size; omega
        have hx := BW.cell (w := wr)
        have c0 := hc k 0 hlt (by omega); have e0 := hc' k 0 hlt (by omega)
        have c1 := hc k 1 hlt (by omega); have e1 := hc' k 1 hlt (by omega)
        simp only [Nat.add_zero, iv] at c0 e0 c1 e1
        have HA := hide hall; have HV := hide hv
        clear hc ha hc' ha' hall hv
        by_cases hd : ∀ j, j < 2 → X k j = Y k j
        · have hB : (decide (X k 0 = Y k 0) && decide (X k 1 = Y k 1)) = true := by simp [hd 0 (by omega), hd 1 (by omega)]
          have HD := hide hd
          clear hd
          go_wp2
          refine wp_region_bw (by kernel_rfl) (by kernel_rfl) ?_
          repeat (go_big_quiet_step ((first | (go_at_call 29; exact BW.call (eq_heard _ _ _ _ _ (by assumption) _)))))
          refine wpQuiet_end fun w1 hb1 => ?_
          go_wp2
          go_roundw
          case rel => exact ⟨k + 1, by omega, by go_num, hb.trans (hb1.mono hb.size), all_snoc HA.out HD.out⟩
          case measure => simp [intOf]; omega
        · have hB : (decide (X k 0 = Y k 0) && decide (X k 1 = Y k 1)) = false := by
            rw [← Bool.not_eq_true]; intro h; simp only [Bool.and_eq_true, decide_eq_true_eq] at h
            exact hd fun j hj => by rcases (by omega : j = 0 ∨ j = 1) with rfl | rfl <;> simp [h]
          have HD := hide hd
          clear hd
          go_wp2
          refine wp_region_bw (by kernel_rfl) (by kernel_rfl) ?_
          repeat (go_big_quiet_step ((first | (go_at_call 29; exact BW.call (eq_heard _ _ _ _ _ (by assumption) _)))))
          refine wpQuiet_end fun w1 hb1 => ?_
          go_wp2
          go_ret
          exact ⟨ret_bool (by rw [← HV.out, eqX_no (fun h => HD.out (h k hlt))]; rfl), hb.trans (hb1.mono hb.size)⟩
      · obtain rfl : k = n := by omega
        have HA := hide hall; have HV := hide hv
        clear hall hv
        go_wp2
        go_ret
        exact ⟨ret_bool (by rw [← HV.out, eqX_yes HA.out]; rfl), hb⟩
  · obtain rfl : false = v := by simpa [eqX, hnm] using hv
    go_enter Tryd.func15, Tryd.ntmps15
    go_wp2
    go_ret
    exact ⟨rfl, by go_grown⟩
end Go.Proofs.YtgiphgfbfhaamaaDoor
