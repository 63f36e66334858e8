/- The helpers of Bend (2 numbers a value): made by gen.py. -/
import Derived.Test.YtbpeamjgddikjaaLib
namespace Go.Proofs.Ytbpeamjgddikjaa
open Go.RowKit
set_option linter.unusedVariables false
set_option linter.unusedSimpArgs false

theorem to_bend (x0 x1 : Int) (w : World) :
    Calls Try.prog 12 #[.agg #[.int .i64 x0, .int .i64 x1]] w fun e w' => e = .returned (.agg #[.int .i64 x0, .int .i64 x1]) ∧ Below w.heap.size w w' := by
  go_enter Try.func12, Try.ntmps12
  go_wp2
  go_returns
  exact ⟨rfl, by go_grown⟩
theorem eq_bend (x0 x1 y0 y1 : Int) (v : Bool) (hv : (decide (x0 = y0) && decide (x1 = y1)) = v) (w : World) :
    Calls Try.prog 85 #[.agg #[.int .i64 x0, .int .i64 x1], .agg #[.int .i64 y0, .int .i64 y1]] w fun e w' => e = .returned (.bool v) ∧ Below w.heap.size w w' := by
  by_cases h0 : x0 = y0
  · subst h0
    by_cases h1 : x1 = y1
    · subst h1
      obtain rfl : true = v := by simpa using hv
      go_enter Try.func85, Try.ntmps85
      go_wp2
      go_returns
      exact ⟨rfl, by go_grown⟩
    · obtain rfl : false = v := by simpa [h1] using hv
      go_enter Try.func85, Try.ntmps85
      go_wp2
      go_returns
      exact ⟨rfl, by go_grown⟩
  · obtain rfl : false = v := by simpa [h0] using hv
    go_enter Try.func85, Try.ntmps85
    go_wp2
    go_returns
    exact ⟨rfl, by go_grown⟩
theorem sz_bendS (A : Option Addr) (n c : Nat) (l : Int) (v : Int) (hv : (if l < n then -1 else l - n) = v) (hn : n ≤ maxLen) (h1 : 0 ≤ l) (h2 : l ≤ 1048576) (w : World) :
    Calls Try.prog 45 #[.slice A n c, .int .i64 l] w fun e w' => e = .returned (.int .i64 v) ∧ w = w' := by
  unfold maxLen at hn
  by_cases h : l < n
  · obtain rfl : -1 = v := by simpa [h] using hv
    go_enter Try.func45, Try.ntmps45
    go_wp2
    go_returns
    exact ⟨rfl, rfl⟩
  · obtain rfl : l - n = v := by simpa [h] using hv
    go_enter Try.func45, Try.ntmps45
    go_wp2
    go_returns
    exact ⟨rfl, rfl⟩
theorem sz_bendS_ok (A : Option Addr) (n c : Nat) (l : Int) (h : (n : Int) ≤ l) (h2 : l ≤ 1048576) (w : World) :
    Calls Try.prog 45 #[.slice A n c, .int .i64 l] w fun e w' => e = .returned (.int .i64 (l - n)) ∧ w = w' :=
  sz_bendS A n c l _ (by rw [if_neg (by omega)]) (by unfold maxLen; omega) (by omega) h2 w
theorem sz_bendS_over (A : Option Addr) (n c : Nat) (l : Int) (h : l < (n : Int)) (hn : n ≤ maxLen) (h1 : 0 ≤ l) (h2 : l ≤ 1048576) (w : World) :
    Calls Try.prog 45 #[.slice A n c, .int .i64 l] w fun e w' => e = .returned (.int .i64 (-1)) ∧ w = w' :=
  sz_bendS A n c l _ (by rw [if_pos h]) hn h1 h2 w
theorem info_bend : (Try.prog.info? 26).map (fun i => (i.zero, i.size, i.bytes)) = some (some (.agg #[.int .i64 0, .int .i64 0]), 2, 16) := by kernel_rfl
theorem row_set_bend {cur : Array Value} {k n : Nat} {F : Nat → Nat → Value} (hs : cur.size = n * 2) (hk : k < n) (h : ∀ i j, i < k → j < 2 → cur[i * 2 + j]? = some (F i j)) :
    ∀ i j, i < k + 1 → j < 2 → (((cur.setIfInBounds (k * 2) (F k 0)).setIfInBounds (k * 2 + 1) (F k 1)))[i * 2 + j]? = some (F i j) := by
  intro i j hi hj
  simp only [Array.getElem?_setIfInBounds, Array.size_setIfInBounds]
  by_cases e : i = k
  · subst e
    rcases (by omega : j = 0 ∨ j = 1) with rfl | rfl
    · rw [if_neg (by omega), if_pos (by omega), if_pos (by omega)]
    · rw [if_pos (by omega), if_pos (by omega)]
  · rw [if_neg (by omega), if_neg (by omega)]
    exact h i j (by omega) hj

set_option maxHeartbeats 1000000 in
theorem to_bendS (A : Option Addr) (n c : Nat) (X : Nat → Nat → Int) (w : World) (hn : n ≤ 1048576) (ha : Arr w w.heap.size A n 2 (iv X)) :
    Calls Try.prog 47 #[.slice A n c] w fun e w' => ∃ v, e = .returned v ∧ Below w.heap.size w w' ∧ Own w' w.heap.size 26 2 v n (iv X) := by
  have hmk := fun W => mk_row (P := Try.prog) _ _ _ Try.underlying34 info_bend n hn (by omega) W
  go_enter Try.func47, Try.ntmps47
  go_wp2
  clear hmk
  go_loopw [4] (fun i wr => ∃ k : Nat, k ≤ n ∧ i = .int .i64 k ∧ Below w.heap.size w wr ∧ ∃ cur : Array Value, Blk wr w.heap.size 26 cur ∧ cur.size = n * 2 ∧ ∀ i j, i < k → j < 2 → cur[i * 2 + j]? = some (iv X i j)) (fun i _ => n - (intOf i).toNat)
  case atStart => exact ⟨0, Nat.zero_le _, rfl, by go_grown, _, Blk.new _ _ _, by simp [madeCells], by omega⟩
  case round =>
    obtain ⟨k, hk, rfl, hb, cur, hblk, hsz, hcur⟩ := hrel
    by_cases hlt : k < n
    · obtain ⟨b, off, rfl, hbb, hc⟩ := ha (by omega)
      obtain ⟨q1, q2⟩ := bcell hb
      have c0 := hc k 0 hlt (by omega)
      have c1 := hc k 1 hlt (by omega)
      simp only [Nat.add_zero, iv] at c0 c1
      have HS := hide hsz; have HC := hide hcur
      have hw1 := hblk.lt
      clear hsz hcur hc ha
      go_wp2_with (go_at_call 12; refine (to_bend _ _ _).mono ?_; rintro e w1 ⟨rfl, hb1⟩; have hblk1 := hblk.below hb1 hw1; have d0 := hblk1.cell (k * 2); have d1 := hblk1.cell (k * 2 + 1); have f0 := hblk1.frozen (k * 2); have f1 := hblk1.frozen (k * 2 + 1); rw [Array.getElem?_eq_getElem (by rw [HS.out]; omega)] at d0 d1; have HB1 := hide hblk1; clear hblk hblk1)
      go_roundw
      case rel =>
        have hsz' := HS.out
        have hrow := row_set_bend (cur := cur) (F := iv X) hsz' hlt HC.out
        have hblk2 := ((HB1.out.set_ (k * 2) (.int .i64 (X k 0))).set_ (k * 2 + 1) (.int .i64 (X k 1)))
        have hq : Below w.heap.size w _ := (((hb.trans (hb1.mono (by omega))).setCell (p := ⟨w.heap.size, k * 2, none⟩) (Nat.le_refl _) (.int .i64 (X k 0))).setCell (p := ⟨w.heap.size, k * 2 + 1, none⟩) (Nat.le_refl _) (.int .i64 (X k 1)))
        exact ⟨k + 1, by omega, by go_num, hq, _, hblk2, by simpa only [Array.size_setIfInBounds] using hsz', hrow⟩
      case measure => simp [intOf]; omega
    · go_wp2
      go_ret
      obtain rfl : k = n := by omega
      exact ⟨_, rfl, hb, Own.made hn (Nat.le_refl _) hblk hsz hcur⟩

set_option maxHeartbeats 400000 in
theorem eq_bendS (A A' : Option Addr) (n c m c' : Nat) (X Y : Nat → Nat → Int) (v : Bool) (hv : eqX 2 n m X Y = v) (w : World) (hn : n ≤ 1048576) (hm : m ≤ 1048576) (ha : Arr w w.heap.size A n 2 (iv X)) (ha' : Arr w w.heap.size A' m 2 (iv Y)) :
    Calls Try.prog 52 #[.slice A n c, .slice A' m c'] w fun e w' => e = .returned (.bool v) ∧ Below w.heap.size w w' := by
  by_cases hnm : n = m
  · subst hnm
    go_enter Try.func52, Try.ntmps52
    go_wp2
    go_loopw [5] (fun i wr => ∃ k : Nat, k ≤ n ∧ i = .int .i64 k ∧ Below w.heap.size w wr ∧ ∀ i, i < k → ∀ j, j < 2 → X i j = Y i j) (fun i _ => n - (intOf i).toNat)
    case atStart => exact ⟨0, Nat.zero_le _, rfl, by go_grown, by omega⟩
    case round =>
      obtain ⟨k, hk, rfl, hb, hall⟩ := hrel
      by_cases hlt : k < n
      · obtain ⟨b, off, rfl, hbb, hc⟩ := ha (by omega)
        obtain ⟨b', off', rfl, hbb', hc'⟩ := ha' (by omega)
        obtain ⟨q1, q2⟩ := bcell hb
        have hbl : b < wr.heap.size := by have := hb.size; omega
        have hbl' : b' < wr.heap.size := by have := hb.size; omega
        have hx := BW.cell (w := wr)
        have c0 := hc k 0 hlt (by omega); have e0 := hc' k 0 hlt (by omega)
        have c1 := hc k 1 hlt (by omega); have e1 := hc' k 1 hlt (by omega)
        simp only [Nat.add_zero, iv] at c0 e0 c1 e1
        have HA := hide hall; have HV := hide hv
        clear hc ha hc' ha' hall hv
        by_cases hd : ∀ j, j < 2 → X k j = Y k j
        · have hB : (decide (X k 0 = Y k 0) && decide (X k 1 = Y k 1)) = true := by simp [hd 0 (by omega), hd 1 (by omega)]
          have HD := hide hd
          clear hd
          go_wp2
          refine wp_region_bw (by kernel_rfl) (by kernel_rfl) ?_
          repeat (go_big_quiet_step ((first | (go_at_call 85; exact BW.call (eq_bend _ _ _ _ _ (by assumption) _)))))
          refine wpQuiet_end fun w1 hb1 => ?_
          go_wp2
          go_roundw
          case rel => exact ⟨k + 1, by omega, by go_num, hb.trans (hb1.mono hb.size), all_snoc HA.out HD.out⟩
          case measure => simp [intOf]; omega
        · have hB : (decide (X k 0 = Y k 0) && decide (X k 1 = Y k 1)) = false := by
            rw [← Bool.not_eq_true]; intro h; simp only [Bool.and_eq_true, decide_eq_true_eq] at h
            exact hd fun j hj => by rcases (by omega : j = 0 ∨ j = 1) with rfl | rfl <;> simp [h]
          have HD := hide hd
          clear hd
          go_wp2
          refine wp_region_bw (by kernel_rfl) (by kernel_rfl) ?_
          repeat (go_big_quiet_step ((first | (go_at_call 85; exact BW.call (eq_bend _ _ _ _ _ (by assumption) _)))))
          refine wpQuiet_end fun w1 hb1 => ?_
          go_wp2
          go_ret
          exact ⟨ret_bool (by rw [← HV.out, eqX_no (fun h => HD.out (h k hlt))]; rfl), hb.trans (hb1.mono hb.size)⟩
      · obtain rfl : k = n := by omega
        have HA := hide hall; have HV := hide hv
        clear hall hv
        go_wp2
        go_ret
        exact ⟨ret_bool (by rw [← HV.out, eqX_yes HA.out]; rfl), hb⟩
  · obtain rfl : false = v := by simpa [eqX, hnm] using hv
    go_enter Try.func52, Try.ntmps52
    go_wp2
    go_ret
    exact ⟨rfl, by go_grown⟩
theorem row_setv_bend {cur : Array Value} {k n : Nat} {F : Nat → Nat → Value} {v0 v1 : Value} (hs : cur.size = n * 2) (hk : k < n) (h : ∀ i j, i < k → j < 2 → cur[i * 2 + j]? = some (F i j)) (h0 : v0 = F k 0) (h1 : v1 = F k 1) :
    ∀ i j, i < k + 1 → j < 2 → (((cur.setIfInBounds (k * 2) v0).setIfInBounds (k * 2 + 1) v1))[i * 2 + j]? = some (F i j) := by
  subst h0 h1
  exact row_set_bend hs hk h
/-- Marks, one number after another, are laid into a slice of the call's own. -/
def mkbend (l : Int) (i j : Nat) : Value := .int .i64 (l + i * 2 + j)
set_option maxHeartbeats 1000000 in
theorem mark_bendS (A : Option Addr) (n c : Nat) (F : Nat → Nat → Value) (l : Int) (base : Nat) (w : World) (hn : n ≤ 1048576) (h0 : 0 ≤ l) (h1 : l ≤ 1099511627776) (ho : Own w base 26 2 (.slice A n c) n F) :
    Calls Try.prog 73 #[.slice A n c, .int .i64 l] w fun e w' => e = .returned (.int .i64 (l + n * 2)) ∧ w.grownBy w' (Value.slice A n c).ownBlock ∧ Own w' base 26 2 (.slice A n c) n (mkbend l) := by
  rcases ho with ⟨hv, rfl⟩ | ⟨g, cap, cur0, hv, hg0, hblk0, hcap, hmax, hsz0, hF0⟩
  · injection hv with hA _ hc
    subst hA hc
    go_enter Try.func73, Try.ntmps73
    go_wp2
    go_loopw [1, 5] (fun a i wr => a = .int .i64 l ∧ i = .int .i64 0 ∧ wr = w) (fun _ _ _ => 0)
    case atStart => exact ⟨rfl, rfl, rfl⟩
    case round =>
      obtain ⟨rfl, rfl, rfl⟩ := hrel
      go_wp2
      go_ret
      exact ⟨by simp, grown_refl _ _, .inl ⟨rfl, rfl⟩⟩
  · injection hv with hA _ hc
    subst hA hc
    have HF0 := hide hF0
    clear hF0
    go_enter Try.func73, Try.ntmps73
    go_wp2
    go_loopw [1, 5] (fun a i wr => ∃ q : Nat, q ≤ n ∧ a = .int .i64 (l + q * 2) ∧ i = .int .i64 q ∧ w.grownBy wr (some g) ∧ ∃ cur : Array Value, Blk wr g 26 cur ∧ cur.size = c * 2 ∧ ∀ i j, i < q → j < 2 → cur[i * 2 + j]? = some (mkbend l i j)) (fun _ i _ => n - (intOf i).toNat)
    case atStart => exact ⟨0, Nat.zero_le _, by simp, rfl, grown_refl _ _, cur0, hblk0, hsz0, by omega⟩
    case round =>
      obtain ⟨q, hq, rfl, rfl, hg, cur, hblk, hsz, hcur⟩ := hrel
      by_cases hlt : q < n
      · have d0 := hblk.cell (q * 2); have d1 := hblk.cell (q * 2 + 1)
        have f0 := hblk.frozen (q * 2); have f1 := hblk.frozen (q * 2 + 1)
        have HS := hide hsz; have HC := hide hcur; have HB := hide hblk; have HG := hide hg
        clear hsz hcur hblk hblk0 hsz0 hg
        rw [Array.getElem?_eq_getElem (by rw [HS.out]; omega)] at d0 d1
        go_wp2
        go_roundw
        case rel =>
          have hg := HG.out
          refine ⟨q + 1, by omega, by go_num, by go_num, (grown_setCell (grown_setCell hg (q * 2) _) (q * 2 + 1) _), _, ((HB.out.set_ (q * 2) _).set_ (q * 2 + 1) _), by simpa only [Array.size_setIfInBounds] using HS.out, row_setv_bend HS.out (by omega) HC.out (by simp [mkbend]) (by simp [mkbend] <;> omega)⟩
        case measure => simp [intOf]; omega
      · obtain rfl : q = n := by omega
        go_wp2
        go_ret
        exact ⟨rfl, by simpa [Value.ownBlock] using hg, .inr ⟨g, c, cur, rfl, hg0, hblk, hcap, hmax, hsz, hcur⟩⟩
end Go.Proofs.Ytbpeamjgddikjaa
