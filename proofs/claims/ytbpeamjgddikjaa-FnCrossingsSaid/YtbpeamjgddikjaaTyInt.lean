/- The helpers of []int: made by gen.py. -/
import Derived.Test.YtbpeamjgddikjaaLib
namespace Go.Proofs.Ytbpeamjgddikjaa
open Go.RowKit
set_option linter.unusedVariables false
set_option linter.unusedSimpArgs false

theorem info_int : (Try.prog.info? 3).map (fun i => (i.zero, i.size, i.bytes)) = some (some (.int .i64 0), 1, 8) := by kernel_rfl
theorem row_setv_int {cur : Array Value} {k n : Nat} {F : Nat → Nat → Value} {v0 : Value} (hs : cur.size = n * 1) (hk : k < n) (h : ∀ i j, i < k → j < 1 → cur[i * 1 + j]? = some (F i j)) (h0 : v0 = F k 0) :
    ∀ i j, i < k + 1 → j < 1 → (cur.setIfInBounds k v0)[i * 1 + j]? = some (F i j) := by
  intro i j hi hj
  obtain rfl : j = 0 := by omega
  simp only [Array.getElem?_setIfInBounds, Array.size_setIfInBounds]
  by_cases e : i = k
  · subst e
    rw [if_pos (by omega), if_pos (by omega), h0]
  · rw [if_neg (by omega)]
    exact h i 0 (by omega) hj
theorem eq_intS (A A' : Option Addr) (n c m c' : Nat) (X Y : Nat → Nat → Int) (v : Bool) (hv : eqX 1 n m X Y = v) (w : World) (hn : n ≤ 1048576) (hm : m ≤ 1048576) (ha : Arr w w.heap.size A n 1 (iv X)) (ha' : Arr w w.heap.size A' m 1 (iv Y)) :
    Calls Try.prog 71 #[.slice A n c, .slice A' m c'] w fun e w' => e = .returned (.bool v) ∧ Below w.heap.size w w' := by
  by_cases hnm : n = m
  · subst hnm
    go_enter Try.func71, Try.ntmps71
    go_wp2
    go_loopw [5] (fun i wr => ∃ k : Nat, k ≤ n ∧ i = .int .i64 k ∧ Below w.heap.size w wr ∧ ∀ i, i < k → ∀ j, j < 1 → X i j = Y i j) (fun i _ => n - (intOf i).toNat)
    case atStart => exact ⟨0, Nat.zero_le _, rfl, by go_grown, by omega⟩
    case round =>
      obtain ⟨k, hk, rfl, hb, hall⟩ := hrel
      by_cases hlt : k < n
      · obtain ⟨b, off, rfl, hbb, hc⟩ := ha (by omega)
        obtain ⟨b', off', rfl, hbb', hc'⟩ := ha' (by omega)
        obtain ⟨q1, q2⟩ := bcell hb
        have hbl : b < wr.heap.size := by have := hb.size; omega
        have hbl' : b' < wr.heap.size := by have := hb.size; omega
        have hx := BW.cell (w := wr)
        have c0 := hc k 0 hlt (by omega); have e0 := hc' k 0 hlt (by omega)
        simp only [Nat.add_zero, Nat.mul_one, iv] at c0 e0
        have HA := hide hall; have HV := hide hv
        clear hc ha hc' ha' hall hv
        by_cases hd : X k 0 = Y k 0
        · have hB : (X k 0 != Y k 0) = false := by simp [hd]
          have HD := hide hd
          clear hd
          go_wp2
          refine wp_region_bw (by kernel_rfl) (by kernel_rfl) ?_
          repeat (go_big_quiet_step ((first | fail)))
          refine wpQuiet_end fun w1 hb1 => ?_
          go_wp2
          go_roundw
          case rel => exact ⟨k + 1, by omega, by go_num, hb.trans (hb1.mono hb.size), all_snoc HA.out (fun j hj => by obtain rfl : j = 0 := (by omega); exact HD.out)⟩
          case measure => simp [intOf]; omega
        · have hB : (X k 0 != Y k 0) = true := by simp [hd]
          have HD := hide hd
          clear hd
          go_wp2
          refine wp_region_bw (by kernel_rfl) (by kernel_rfl) ?_
          repeat (go_big_quiet_step ((first | fail)))
          refine wpQuiet_end fun w1 hb1 => ?_
          go_wp2
          go_ret
          exact ⟨ret_bool (by rw [← HV.out, eqX_no (fun h => HD.out (h k hlt 0 (by omega)))]; rfl), hb.trans (hb1.mono hb.size)⟩
      · obtain rfl : k = n := by omega
        have HA := hide hall; have HV := hide hv
        clear hall hv
        go_wp2
        go_ret
        exact ⟨ret_bool (by rw [← HV.out, eqX_yes HA.out]; rfl), hb⟩
  · obtain rfl : false = v := by simpa [eqX, hnm] using hv
    go_enter Try.func71, Try.ntmps71
    go_wp2
    go_ret
    exact ⟨rfl, by go_grown⟩
/-- Marks, one number after another, are laid into a slice of the call's own. -/
def mkint (l : Int) (i j : Nat) : Value := .int .i64 (l + i * 1 + j)
set_option maxHeartbeats 1000000 in
theorem mark_intS (A : Option Addr) (n c : Nat) (F : Nat → Nat → Value) (l : Int) (base : Nat) (w : World) (hn : n ≤ 1048576) (h0 : 0 ≤ l) (h1 : l ≤ 1099511627776) (ho : Own w base 3 1 (.slice A n c) n F) :
    Calls Try.prog 74 #[.slice A n c, .int .i64 l] w fun e w' => e = .returned (.int .i64 (l + n * 1)) ∧ w.grownBy w' (Value.slice A n c).ownBlock ∧ Own w' base 3 1 (.slice A n c) n (mkint l) := by
  rcases ho with ⟨hv, rfl⟩ | ⟨g, cap, cur0, hv, hg0, hblk0, hcap, hmax, hsz0, hF0⟩
  · injection hv with hA _ hc
    subst hA hc
    go_enter Try.func74, Try.ntmps74
    go_wp2
    go_loopw [1, 5] (fun a i wr => a = .int .i64 l ∧ i = .int .i64 0 ∧ wr = w) (fun _ _ _ => 0)
    case atStart => exact ⟨rfl, rfl, rfl⟩
    case round =>
      obtain ⟨rfl, rfl, rfl⟩ := hrel
      go_wp2
      go_ret
      exact ⟨by simp, grown_refl _ _, .inl ⟨rfl, rfl⟩⟩
  · injection hv with hA _ hc
    subst hA hc
    have HF0 := hide hF0
    clear hF0
    go_enter Try.func74, Try.ntmps74
    go_wp2
    go_loopw [1, 5] (fun a i wr => ∃ q : Nat, q ≤ n ∧ a = .int .i64 (l + q * 1) ∧ i = .int .i64 q ∧ w.grownBy wr (some g) ∧ ∃ cur : Array Value, Blk wr g 3 cur ∧ cur.size = c * 1 ∧ ∀ i j, i < q → j < 1 → cur[i * 1 + j]? = some (mkint l i j)) (fun _ i _ => n - (intOf i).toNat)
    case atStart => exact ⟨0, Nat.zero_le _, by simp, rfl, grown_refl _ _, cur0, hblk0, hsz0, by omega⟩
    case round =>
      obtain ⟨q, hq, rfl, rfl, hg, cur, hblk, hsz, hcur⟩ := hrel
      by_cases hlt : q < n
      · have d0 := hblk.cell (q)
        have f0 := hblk.frozen (q)
        have HS := hide hsz; have HC := hide hcur; have HB := hide hblk; have HG := hide hg
        clear hsz hcur hblk hblk0 hsz0 hg
        rw [Array.getElem?_eq_getElem (by rw [HS.out]; omega)] at d0
        go_wp2
        go_roundw
        case rel =>
          have hg := HG.out
          refine ⟨q + 1, by omega, by go_num, by go_num, (grown_setCell hg (q) _), _, (HB.out.set_ (q) _), by simpa only [Array.size_setIfInBounds] using HS.out, row_setv_int HS.out (by omega) HC.out (by simp [mkint])⟩
        case measure => simp [intOf]; omega
      · obtain rfl : q = n := by omega
        go_wp2
        go_ret
        exact ⟨rfl, by simpa [Value.ownBlock] using hg, .inr ⟨g, c, cur, rfl, hg0, hblk, hcap, hmax, hsz, hcur⟩⟩
/-- A slice that holds its marks. -/
theorem held_intS (A : Option Addr) (n c : Nat) (f : Nat → Nat → Value) (l : Int) (w : World) (hn : n ≤ 1048576) (h0 : 0 ≤ l) (h1 : l ≤ 1099511627776) (ha : Arr w w.heap.size A n 1 f) (hf : ∀ i j, i < n → j < 1 → f i j = mkint l i j) :
    Calls Try.prog 75 #[.slice A n c, .int .i64 l] w fun e w' => e = .returned (.int .i64 (l + n * 1)) ∧ w = w' := by
  go_enter Try.func75, Try.ntmps75
  go_wp2
  go_loop [1, 5] (fun a i => ∃ q : Nat, q ≤ n ∧ a = .int .i64 (l + q * 1) ∧ i = .int .i64 q) (fun _ i => n - (intOf i).toNat)
  case atStart => exact ⟨0, Nat.zero_le _, by simp, rfl⟩
  case round =>
    obtain ⟨q, hq, rfl, rfl⟩ := hrel
    by_cases hlt : q < n
    · obtain ⟨b, off, rfl, hbb, hc⟩ := ha (by omega)
      have c0 := hc q 0 hlt (by omega); rw [show f q 0 = .int .i64 (l + (q : Int)) from by rw [hf q 0 hlt (by omega)]; simp [mkint]] at c0
      simp only [Nat.add_zero, Nat.mul_one] at c0
      clear hc hf ha
      go_wp2
      go_round
      case rel => exact ⟨q + 1, by omega, by go_num, by go_num⟩
      case measure => simp [intOf]; omega
    · obtain rfl : q = n := by omega
      go_wp2
      go_ret
      exact ⟨rfl, rfl⟩
end Go.Proofs.Ytbpeamjgddikjaa
