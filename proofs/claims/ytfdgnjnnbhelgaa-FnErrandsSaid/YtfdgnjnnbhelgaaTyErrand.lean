/- The helpers of Errand (4 numbers a value): made by gen.py. -/
import Derived.Test.YtfdgnjnnbhelgaaLib
namespace Go.Proofs.Ytfdgnjnnbhelgaa
open Go.RowKit
set_option linter.unusedVariables false
set_option linter.unusedSimpArgs false

theorem to_errand (x0 x1 x2 x3 : Int) (w : World) :
    Calls Try.prog 94 #[.agg #[.int .i64 x0, .int .i64 x1, .int .i64 x2, .int .i64 x3]] w fun e w' => e = .returned (.agg #[.int .i64 x0, .int .i64 x1, .int .i64 x2, .int .i64 x3]) ∧ Below w.heap.size w w' := by
  go_enter Try.func94, Try.ntmps94
  go_wp2
  go_returns
  exact ⟨rfl, by go_grown⟩
theorem eq_errand (x0 x1 x2 x3 y0 y1 y2 y3 : Int) (v : Bool) (hv : (decide (x0 = y0) && decide (x1 = y1) && decide (x2 = y2) && decide (x3 = y3)) = v) (w : World) :
    Calls Try.prog 100 #[.agg #[.int .i64 x0, .int .i64 x1, .int .i64 x2, .int .i64 x3], .agg #[.int .i64 y0, .int .i64 y1, .int .i64 y2, .int .i64 y3]] w fun e w' => e = .returned (.bool v) ∧ Below w.heap.size w w' := by
  by_cases h0 : x0 = y0
  · subst h0
    by_cases h1 : x1 = y1
    · subst h1
      by_cases h2 : x2 = y2
      · subst h2
        by_cases h3 : x3 = y3
        · subst h3
          obtain rfl : true = v := by simpa using hv
          go_enter Try.func100, Try.ntmps100
          go_wp2
          go_returns
          exact ⟨rfl, by go_grown⟩
        · obtain rfl : false = v := by simpa [h3] using hv
          go_enter Try.func100, Try.ntmps100
          go_wp2
          go_returns
          exact ⟨rfl, by go_grown⟩
      · obtain rfl : false = v := by simpa [h2] using hv
        go_enter Try.func100, Try.ntmps100
        go_wp2
        go_returns
        exact ⟨rfl, by go_grown⟩
    · obtain rfl : false = v := by simpa [h1] using hv
      go_enter Try.func100, Try.ntmps100
      go_wp2
      go_returns
      exact ⟨rfl, by go_grown⟩
  · obtain rfl : false = v := by simpa [h0] using hv
    go_enter Try.func100, Try.ntmps100
    go_wp2
    go_returns
    exact ⟨rfl, by go_grown⟩
theorem sz_errandS (A : Option Addr) (n c : Nat) (l : Int) (v : Int) (hv : (if l < n then -1 else l - n) = v) (hn : n ≤ maxLen) (h1 : 0 ≤ l) (h2 : l ≤ 1048576) (w : World) :
    Calls Try.prog 38 #[.slice A n c, .int .i64 l] w fun e w' => e = .returned (.int .i64 v) ∧ w = w' := by
  unfold maxLen at hn
  by_cases h : l < n
  · obtain rfl : -1 = v := by simpa [h] using hv
    go_enter Try.func38, Try.ntmps38
    go_wp2
    go_returns
    exact ⟨rfl, rfl⟩
  · obtain rfl : l - n = v := by simpa [h] using hv
    go_enter Try.func38, Try.ntmps38
    go_wp2
    go_returns
    exact ⟨rfl, rfl⟩
theorem sz_errandS_ok (A : Option Addr) (n c : Nat) (l : Int) (h : (n : Int) ≤ l) (h2 : l ≤ 1048576) (w : World) :
    Calls Try.prog 38 #[.slice A n c, .int .i64 l] w fun e w' => e = .returned (.int .i64 (l - n)) ∧ w = w' :=
  sz_errandS A n c l _ (by rw [if_neg (by omega)]) (by unfold maxLen; omega) (by omega) h2 w
theorem sz_errandS_over (A : Option Addr) (n c : Nat) (l : Int) (h : l < (n : Int)) (hn : n ≤ maxLen) (h1 : 0 ≤ l) (h2 : l ≤ 1048576) (w : World) :
    Calls Try.prog 38 #[.slice A n c, .int .i64 l] w fun e w' => e = .returned (.int .i64 (-1)) ∧ w = w' :=
  sz_errandS A n c l _ (by rw [if_pos h]) hn h1 h2 w
theorem info_errand : (Try.prog.info? 66).map (fun i => (i.zero, i.size, i.bytes)) = some (some (.agg #[.int .i64 0, .int .i64 0, .int .i64 0, .int .i64 0]), 4, 32) := by kernel_rfl
theorem row_set_errand {cur : Array Value} {k n : Nat} {F : Nat → Nat → Value} (hs : cur.size = n * 4) (hk : k < n) (h : ∀ i j, i < k → j < 4 → cur[i * 4 + j]? = some (F i j)) :
    ∀ i j, i < k + 1 → j < 4 → (((((cur.setIfInBounds (k * 4) (F k 0)).setIfInBounds (k * 4 + 1) (F k 1)).setIfInBounds (k * 4 + 2) (F k 2)).setIfInBounds (k * 4 + 3) (F k 3)))[i * 4 + j]? = some (F i j) := by
  intro i j hi hj
  simp only [Array.getElem?_setIfInBounds, Array.size_setIfInBounds]
  by_cases e : i = k
  · subst e
    rcases (by omega : j = 0 ∨ j = 1 ∨ j = 2 ∨ j = 3) with rfl | rfl | rfl | rfl
    · rw [if_neg (by omega), if_neg (by omega), if_neg (by omega), if_pos (by omega), if_pos (by omega)]
    · rw [if_neg (by omega), if_neg (by omega), if_pos (by omega), if_pos (by omega)]
    · rw [if_neg (by omega), if_pos (by omega), if_pos (by omega)]
    · rw [if_pos (by omega), if_pos (by omega)]
  · rw [if_neg (by omega), if_neg (by omega), if_neg (by omega), if_neg (by omega)]
    exact h i j (by omega) hj

set_option maxHeartbeats 1000000 in
theorem to_errandS (A : Option Addr) (n c : Nat) (X : Nat → Nat → Int) (w : World) (hn : n ≤ 1048576) (ha : Arr w w.heap.size A n 4 (iv X)) :
    Calls Try.prog 40 #[.slice A n c] w fun e w' => ∃ v, e = .returned v ∧ Below w.heap.size w w' ∧ Own w' w.heap.size 66 4 v n (iv X) := by
  have hmk := fun W => mk_row (P := Try.prog) _ _ _ Try.underlying56 info_errand n hn (by omega) W
  go_enter Try.func40, Try.ntmps40
  go_wp2
  clear hmk
  go_loopw [4] (fun i wr => ∃ k : Nat, k ≤ n ∧ i = .int .i64 k ∧ Below w.heap.size w wr ∧ ∃ cur : Array Value, Blk wr w.heap.size 66 cur ∧ cur.size = n * 4 ∧ ∀ i j, i < k → j < 4 → cur[i * 4 + j]? = some (iv X i j)) (fun i _ => n - (intOf i).toNat)
  case atStart => exact ⟨0, Nat.zero_le _, rfl, by go_grown, _, Blk.new _ _ _, by simp [madeCells], by omega⟩
  case round =>
    obtain ⟨k, hk, rfl, hb, cur, hblk, hsz, hcur⟩ := hrel
    by_cases hlt : k < n
    · obtain ⟨b, off, rfl, hbb, hc⟩ := ha (by omega)
      obtain ⟨q1, q2⟩ := bcell hb
      have c0 := hc k 0 hlt (by omega)
      have c1 := hc k 1 hlt (by omega)
      have c2 := hc k 2 hlt (by omega)
      have c3 := hc k 3 hlt (by omega)
      simp only [Nat.add_zero, iv] at c0 c1 c2 c3
      have HS := hide hsz; have HC := hide hcur
      have hw1 := hblk.lt
      clear hsz hcur hc ha
      go_wp2_with (go_at_call 94; refine (to_errand _ _ _ _ _).mono ?_; rintro e w1 ⟨rfl, hb1⟩; have hblk1 := hblk.below hb1 hw1; have d0 := hblk1.cell (k * 4); have d1 := hblk1.cell (k * 4 + 1); have d2 := hblk1.cell (k * 4 + 2); have d3 := hblk1.cell (k * 4 + 3); have f0 := hblk1.frozen (k * 4); have f1 := hblk1.frozen (k * 4 + 1); have f2 := hblk1.frozen (k * 4 + 2); have f3 := hblk1.frozen (k * 4 + 3); rw [Array.getElem?_eq_getElem (by rw [HS.out]; omega)] at d0 d1 d2 d3; have HB1 := hide hblk1; clear hblk hblk1)
      go_roundw
      case rel =>
        have hsz' := HS.out
        have hrow := row_set_errand (cur := cur) (F := iv X) hsz' hlt HC.out
        have hblk2 := ((((HB1.out.set_ (k * 4) (.int .i64 (X k 0))).set_ (k * 4 + 1) (.int .i64 (X k 1))).set_ (k * 4 + 2) (.int .i64 (X k 2))).set_ (k * 4 + 3) (.int .i64 (X k 3)))
        have hq : Below w.heap.size w _ := (((((hb.trans (hb1.mono (by omega))).setCell (p := ⟨w.heap.size, k * 4, none⟩) (Nat.le_refl _) (.int .i64 (X k 0))).setCell (p := ⟨w.heap.size, k * 4 + 1, none⟩) (Nat.le_refl _) (.int .i64 (X k 1))).setCell (p := ⟨w.heap.size, k * 4 + 2, none⟩) (Nat.le_refl _) (.int .i64 (X k 2))).setCell (p := ⟨w.heap.size, k * 4 + 3, none⟩) (Nat.le_refl _) (.int .i64 (X k 3)))
        exact ⟨k + 1, by omega, by go_num, hq, _, hblk2, by simpa only [Array.size_setIfInBounds] using hsz', hrow⟩
      case measure => simp [intOf]; omega
    · go_wp2
      go_ret
      obtain rfl : k = n := by omega
      exact ⟨_, rfl, hb, Own.made hn (Nat.le_refl _) hblk hsz hcur⟩

set_option maxHeartbeats 400000 in
theorem eq_errandS (A A' : Option Addr) (n c m c' : Nat) (X Y : Nat → Nat → Int) (v : Bool) (hv : eqX 4 n m X Y = v) (w : World) (hn : n ≤ 1048576) (hm : m ≤ 1048576) (ha : Arr w w.heap.size A n 4 (iv X)) (ha' : Arr w w.heap.size A' m 4 (iv Y)) :
    Calls Try.prog 43 #[.slice A n c, .slice A' m c'] w fun e w' => e = .returned (.bool v) ∧ Below w.heap.size w w' := by
  by_cases hnm : n = m
  · subst hnm
    go_enter Try.func43, Try.ntmps43
    go_wp2
    go_loopw [5] (fun i wr => ∃ k : Nat, k ≤ n ∧ i = .int .i64 k ∧ Below w.heap.size w wr ∧ ∀ i, i < k → ∀ j, j < 4 → X i j = Y i j) (fun i _ => n - (intOf i).toNat)
    case atStart => exact ⟨0, Nat.zero_le _, rfl, by go_grown, by omega⟩
    case round =>
      obtain ⟨k, hk, rfl, hb, hall⟩ := hrel
      by_cases hlt : k < n
      · obtain ⟨b, off, rfl, hbb, hc⟩ := ha (by omega)
        obtain ⟨b', off', rfl, hbb', hc'⟩ := ha' (by omega)
        obtain ⟨q1, q2⟩ := bcell hb
        have hbl : b < wr.heap.size := by have := hb.size; omega
        have hbl' : b' < wr.heap.size := by have := hb.size; omega
        have hx := BW.cell (w := wr)
        have c0 := hc k 0 hlt (by omega); have e0 := hc' k 0 hlt (by omega)
        have c1 := hc k 1 hlt (by omega); have e1 := hc' k 1 hlt (by omega)
        have c2 := hc k 2 hlt (by omega); have e2 := hc' k 2 hlt (by omega)
        have c3 := hc k 3 hlt (by omega); have e3 := hc' k 3 hlt (by omega)
        simp only [Nat.add_zero, iv] at c0 e0 c1 e1 c2 e2 c3 e3
        have HA := hide hall; have HV := hide hv
        clear hc ha hc' ha' hall hv
        by_cases hd : ∀ j, j < 4 → X k j = Y k j
        · have hB : (decide (X k 0 = Y k 0) && decide (X k 1 = Y k 1) && decide (X k 2 = Y k 2) && decide (X k 3 = Y k 3)) = true := by simp [hd 0 (by omega), hd 1 (by omega), hd 2 (by omega), hd 3 (by omega)]
          have HD := hide hd
          clear hd
          go_wp2
          refine wp_region_bw (by kernel_rfl) (by kernel_rfl) ?_
          repeat (go_big_quiet_step ((first | (go_at_call 100; exact BW.call (eq_errand _ _ _ _ _ _ _ _ _ (by assumption) _)))))
          refine wpQuiet_end fun w1 hb1 => ?_
          go_wp2
          go_roundw
          case rel => exact ⟨k + 1, by omega, by go_num, hb.trans (hb1.mono hb.size), all_snoc HA.out HD.out⟩
          case measure => simp [intOf]; omega
        · have hB : (decide (X k 0 = Y k 0) && decide (X k 1 = Y k 1) && decide (X k 2 = Y k 2) && decide (X k 3 = Y k 3)) = false := by
            rw [← Bool.not_eq_true]; intro h; simp only [Bool.and_eq_true, decide_eq_true_eq] at h
            exact hd fun j hj => by rcases (by omega : j = 0 ∨ j = 1 ∨ j = 2 ∨ j = 3) with rfl | rfl | rfl | rfl <;> simp [h]
          have HD := hide hd
          clear hd
          go_wp2
          refine wp_region_bw (by kernel_rfl) (by kernel_rfl) ?_
          repeat (go_big_quiet_step ((first | (go_at_call 100; exact BW.call (eq_errand _ _ _ _ _ _ _ _ _ (by assumption) _)))))
          refine wpQuiet_end fun w1 hb1 => ?_
          go_wp2
          go_ret
          exact ⟨ret_bool (by rw [← HV.out, eqX_no (fun h => HD.out (h k hlt))]; rfl), hb.trans (hb1.mono hb.size)⟩
      · obtain rfl : k = n := by omega
        have HA := hide hall; have HV := hide hv
        clear hall hv
        go_wp2
        go_ret
        exact ⟨ret_bool (by rw [← HV.out, eqX_yes HA.out]; rfl), hb⟩
  · obtain rfl : false = v := by simpa [eqX, hnm] using hv
    go_enter Try.func43, Try.ntmps43
    go_wp2
    go_ret
    exact ⟨rfl, by go_grown⟩
theorem row_setv_errand {cur : Array Value} {k n : Nat} {F : Nat → Nat → Value} {v0 v1 v2 v3 : Value} (hs : cur.size = n * 4) (hk : k < n) (h : ∀ i j, i < k → j < 4 → cur[i * 4 + j]? = some (F i j)) (h0 : v0 = F k 0) (h1 : v1 = F k 1) (h2 : v2 = F k 2) (h3 : v3 = F k 3) :
    ∀ i j, i < k + 1 → j < 4 → (((((cur.setIfInBounds (k * 4) v0).setIfInBounds (k * 4 + 1) v1).setIfInBounds (k * 4 + 2) v2).setIfInBounds (k * 4 + 3) v3))[i * 4 + j]? = some (F i j) := by
  subst h0 h1 h2 h3
  exact row_set_errand hs hk h
/-- Marks, one number after another, are laid into a slice of the call's own. -/
def mkerrand (l : Int) (i j : Nat) : Value := .int .i64 (l + i * 4 + j)
set_option maxHeartbeats 1000000 in
theorem mark_errandS (A : Option Addr) (n c : Nat) (F : Nat → Nat → Value) (l : Int) (base : Nat) (w : World) (hn : n ≤ 1048576) (h0 : 0 ≤ l) (h1 : l ≤ 1099511627776) (ho : Own w base 66 4 (.slice A n c) n F) :
    Calls Try.prog 44 #[.slice A n c, .int .i64 l] w fun e w' => e = .returned (.int .i64 (l + n * 4)) ∧ w.grownBy w' (Value.slice A n c).ownBlock ∧ Own w' base 66 4 (.slice A n c) n (mkerrand l) := by
  rcases ho with ⟨hv, rfl⟩ | ⟨g, cap, cur0, hv, hg0, hblk0, hcap, hmax, hsz0, hF0⟩
  · injection hv with hA _ hc
    subst hA hc
    go_enter Try.func44, Try.ntmps44
    go_wp2
    go_loopw [1, 5] (fun a i wr => a = .int .i64 l ∧ i = .int .i64 0 ∧ wr = w) (fun _ _ _ => 0)
    case atStart => exact ⟨rfl, rfl, rfl⟩
    case round =>
      obtain ⟨rfl, rfl, rfl⟩ := hrel
      go_wp2
      go_ret
      exact ⟨by simp, grown_refl _ _, .inl ⟨rfl, rfl⟩⟩
  · injection hv with hA _ hc
    subst hA hc
    have HF0 := hide hF0
    clear hF0
    go_enter Try.func44, Try.ntmps44
    go_wp2
    go_loopw [1, 5] (fun a i wr => ∃ q : Nat, q ≤ n ∧ a = .int .i64 (l + q * 4) ∧ i = .int .i64 q ∧ w.grownBy wr (some g) ∧ ∃ cur : Array Value, Blk wr g 66 cur ∧ cur.size = c * 4 ∧ ∀ i j, i < q → j < 4 → cur[i * 4 + j]? = some (mkerrand l i j)) (fun _ i _ => n - (intOf i).toNat)
    case atStart => exact ⟨0, Nat.zero_le _, by simp, rfl, grown_refl _ _, cur0, hblk0, hsz0, by omega⟩
    case round =>
      obtain ⟨q, hq, rfl, rfl, hg, cur, hblk, hsz, hcur⟩ := hrel
      by_cases hlt : q < n
      · have d0 := hblk.cell (q * 4); have d1 := hblk.cell (q * 4 + 1); have d2 := hblk.cell (q * 4 + 2); have d3 := hblk.cell (q * 4 + 3)
        have f0 := hblk.frozen (q * 4); have f1 := hblk.frozen (q * 4 + 1); have f2 := hblk.frozen (q * 4 + 2); have f3 := hblk.frozen (q * 4 + 3)
        have HS := hide hsz; have HC := hide hcur; have HB := hide hblk; have HG := hide hg
        clear hsz hcur hblk hblk0 hsz0 hg
        rw [Array.getElem?_eq_getElem (by rw [HS.out]; omega)] at d0 d1 d2 d3
        go_wp2
        go_roundw
        case rel =>
          have hg := HG.out
          refine ⟨q + 1, by omega, by go_num, by go_num, (grown_setCell (grown_setCell (grown_setCell (grown_setCell hg (q * 4) _) (q * 4 + 1) _) (q * 4 + 2) _) (q * 4 + 3) _), _, ((((HB.out.set_ (q * 4) _).set_ (q * 4 + 1) _).set_ (q * 4 + 2) _).set_ (q * 4 + 3) _), by simpa only [Array.size_setIfInBounds] using HS.out, row_setv_errand HS.out (by omega) HC.out (by simp [mkerrand]) (by simp [mkerrand] <;> omega) (by simp [mkerrand] <;> omega) (by simp [mkerrand] <;> omega)⟩
        case measure => simp [intOf]; omega
      · obtain rfl : q = n := by omega
        go_wp2
        go_ret
        exact ⟨rfl, by simpa [Value.ownBlock] using hg, .inr ⟨g, c, cur, rfl, hg0, hblk, hcap, hmax, hsz, hcur⟩⟩
end Go.Proofs.Ytfdgnjnnbhelgaa
