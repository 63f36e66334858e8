/- The helpers of [][2]int: made by pairgen.py. -/
import Derived.Test.YtbogcphbnooboaaLib
namespace Go.Proofs.Ytbogcphbnooboaa
open Go.RowKit
set_option linter.unusedVariables false
set_option linter.unusedSimpArgs false

theorem info_intA2 : (Try.prog.info? 58).map (fun i => (i.zero, i.size, i.bytes)) = some (some (.agg #[.int .i64 0, .int .i64 0]), 2, 16) := by kernel_rfl
set_option maxHeartbeats 1000000 in
theorem eq_intA2 (x0 x1 y0 y1 : Int) (v : Bool) (hv : (decide (x0 = y0) && decide (x1 = y1)) = v) (w : World) :
    Calls Try.prog 57 #[.agg #[.int .i64 x0, .int .i64 x1], .agg #[.int .i64 y0, .int .i64 y1]] w fun e w' => e = .returned (.bool v) ∧ Below w.heap.size w w' := by
  have HV := hide hv
  clear hv
  go_enter Try.func57, Try.ntmps57
  go_wp2
  go_loopw [5] (fun i wr => ∃ k : Nat, k ≤ 2 ∧ i = .int .i64 k ∧ Below (w.heap.size + 2) ((w.alloc (.cells #[.int .i64 x0, .int .i64 x1] 58)).alloc (.cells #[.int .i64 y0, .int .i64 y1] 58)) wr ∧ (0 < k → x0 = y0) ∧ (1 < k → x1 = y1)) (fun i _ => 2 - (intOf i).toNat)
  case atStart => exact ⟨0, by omega, rfl, Below.refl _ _, by omega, by omega⟩
  case round =>
    obtain ⟨k, hk, rfl, hb, h0, h1⟩ := hrel
    have hbw : Below w.heap.size w wr := (below_al (below_al (Below.refl _ _))).trans (hb.mono (by omega))
    have a0 := hb.cell (p := ⟨w.heap.size, 0, none⟩) (by show w.heap.size < _; omega); have a1 := hb.cell (p := ⟨w.heap.size, 1, none⟩) (by show w.heap.size < _; omega)
    have b0 := hb.cell (p := ⟨w.heap.size + 1, 0, none⟩) (by show w.heap.size + 1 < _; omega); have b1 := hb.cell (p := ⟨w.heap.size + 1, 1, none⟩) (by show w.heap.size + 1 < _; omega)
    simp [go_sem] at a0 a1 b0 b1
    have hz := hb.size
    simp only [World.size_alloc] at hz
    have hl0 : w.heap.size < wr.heap.size := by omega
    have hl1 : w.heap.size + 1 < wr.heap.size := by omega
    have hx := BW.cell (w := wr)
    rcases (by omega : k = 0 ∨ k = 1 ∨ k = 2) with rfl | rfl | rfl
    · by_cases hd : x0 = y0
      · have hB : (x0 != y0) = false := by simp [hd]
        have HD := hide hd
        clear hd h0 h1
        go_wp2
        refine wp_region_bw (by kernel_rfl) (by kernel_rfl) ?_
        repeat (go_big_quiet_step ((first | fail)))
        refine wpQuiet_end fun w1 hb1 => ?_
        clear hx
        go_wp2
        go_roundw
        case rel => exact ⟨1, by omega, rfl, hb.trans (hb1.mono (by omega)), fun _ => HD.out, by omega⟩
        case measure => simp [intOf]
      · have hB : (x0 != y0) = true := by simp [hd]
        have HD := hide hd
        clear hd h0 h1
        go_wp2
        refine wp_region_bw (by kernel_rfl) (by kernel_rfl) ?_
        repeat (go_big_quiet_step ((first | fail)))
        refine wpQuiet_end fun w1 hb1 => ?_
        clear hx
        go_wp2
        go_returns
        exact ⟨ret_bool (by rw [← HV.out]; simp [HD.out]), hbw.trans (hb1.mono hbw.size)⟩
    · have H0 := hide (h0 (by omega))
      by_cases hd : x1 = y1
      · have hB : (x1 != y1) = false := by simp [hd]
        have HD := hide hd
        clear hd h0 h1
        go_wp2
        refine wp_region_bw (by kernel_rfl) (by kernel_rfl) ?_
        repeat (go_big_quiet_step ((first | fail)))
        refine wpQuiet_end fun w1 hb1 => ?_
        clear hx
        go_wp2
        go_roundw
        case rel => exact ⟨2, by omega, rfl, hb.trans (hb1.mono (by omega)), fun _ => H0.out, fun _ => HD.out⟩
        case measure => simp [intOf]
      · have hB : (x1 != y1) = true := by simp [hd]
        have HD := hide hd
        clear hd h0 h1
        go_wp2
        refine wp_region_bw (by kernel_rfl) (by kernel_rfl) ?_
        repeat (go_big_quiet_step ((first | fail)))
        refine wpQuiet_end fun w1 hb1 => ?_
        clear hx
        go_wp2
        go_returns
        exact ⟨ret_bool (by rw [← HV.out]; simp [HD.out]), hbw.trans (hb1.mono hbw.size)⟩
    · have H0 := hide (h0 (by omega)); have H1 := hide (h1 (by omega))
      clear h0 h1
      go_wp2
      go_returns
      exact ⟨ret_bool (by rw [← HV.out]; simp [H0.out, H1.out]), hbw⟩


set_option maxHeartbeats 400000 in
theorem eq_intA2S (A A' : Option Addr) (n c m c' : Nat) (X Y : Nat → Nat → Int) (v : Bool) (hv : eqX 2 n m X Y = v) (w : World) (hn : n ≤ 1048576) (hm : m ≤ 1048576) (ha : Arr w w.heap.size A n 2 (iv X)) (ha' : Arr w w.heap.size A' m 2 (iv Y)) :
    Calls Try.prog 22 #[.slice A n c, .slice A' m c'] w fun e w' => e = .returned (.bool v) ∧ Below w.heap.size w w' := by
  by_cases hnm : n = m
  · subst hnm
    go_enter Try.func22, Try.ntmps22
    go_wp2
    go_loopw [5] (fun i wr => ∃ k : Nat, k ≤ n ∧ i = .int .i64 k ∧ Below w.heap.size w wr ∧ ∀ i, i < k → ∀ j, j < 2 → X i j = Y i j) (fun i _ => n - (intOf i).toNat)
    case atStart => exact ⟨0, Nat.zero_le _, rfl, by go_grown, by omega⟩
    case round =>
      obtain ⟨k, hk, rfl, hb, hall⟩ := hrel
      by_cases hlt : k < n
      · obtain ⟨b, off, rfl, hbb, hc⟩ := ha (by omega)
        obtain ⟨b', off', rfl, hbb', hc'⟩ := ha' (by omega)
        obtain ⟨q1, q2⟩ := bcell hb
        have hbl : b < wr.heap.size := by have := hb.size; omega
        have hbl' : b' < wr.heap.size := by have := hb.size; omega
        have hx := BW.cell (w := wr)
        have c0 := hc k 0 hlt (by omega); have e0 := hc' k 0 hlt (by omega)
        have c1 := hc k 1 hlt (by omega); have e1 := hc' k 1 hlt (by omega)
        simp only [Nat.add_zero, iv] at c0 e0 c1 e1
        have HA := hide hall; have HV := hide hv
        clear hc ha hc' ha' hall hv
        by_cases hd : ∀ j, j < 2 → X k j = Y k j
        · have hB : (decide (X k 0 = Y k 0) && decide (X k 1 = Y k 1)) = true := by simp [hd 0 (by omega), hd 1 (by omega)]
          have HD := hide hd
          clear hd
          go_wp2
          refine wp_region_bw (by kernel_rfl) (by kernel_rfl) ?_
          repeat (go_big_quiet_step ((first | (go_at_call 57; exact BW.call (eq_intA2 _ _ _ _ _ (by assumption) _)))))
          refine wpQuiet_end fun w1 hb1 => ?_
          go_wp2
          go_roundw
          case rel => exact ⟨k + 1, by omega, by go_num, hb.trans (hb1.mono hb.size), all_snoc HA.out HD.out⟩
          case measure => simp [intOf]; omega
        · have hB : (decide (X k 0 = Y k 0) && decide (X k 1 = Y k 1)) = false := by
            rw [← Bool.not_eq_true]; intro h; simp only [Bool.and_eq_true, decide_eq_true_eq] at h
            exact hd fun j hj => by rcases (by omega : j = 0 ∨ j = 1) with rfl | rfl <;> simp [h]
          have HD := hide hd
          clear hd
          go_wp2
          refine wp_region_bw (by kernel_rfl) (by kernel_rfl) ?_
          repeat (go_big_quiet_step ((first | (go_at_call 57; exact BW.call (eq_intA2 _ _ _ _ _ (by assumption) _)))))
          refine wpQuiet_end fun w1 hb1 => ?_
          go_wp2
          go_ret
          exact ⟨ret_bool (by rw [← HV.out, eqX_no (fun h => HD.out (h k hlt))]; rfl), hb.trans (hb1.mono hb.size)⟩
      · obtain rfl : k = n := by omega
        have HA := hide hall; have HV := hide hv
        clear hall hv
        go_wp2
        go_ret
        exact ⟨ret_bool (by rw [← HV.out, eqX_yes HA.out]; rfl), hb⟩
  · obtain rfl : false = v := by simpa [eqX, hnm] using hv
    go_enter Try.func22, Try.ntmps22
    go_wp2
    go_ret
    exact ⟨rfl, by go_grown⟩

theorem row_one_intA2 {cur : Array Value} {k n : Nat} {F : Nat → Nat → Value} {j0 : Nat} {v : Value} (hs : cur.size = n * 2) (hk : k < n) (hj0 : j0 < 2) (h : ∀ i j, i < n → j < 2 → (i < k ∨ (i = k ∧ j < j0)) → cur[i * 2 + j]? = some (F i j)) (hv : v = F k j0) :
    ∀ i j, i < n → j < 2 → (i < k ∨ (i = k ∧ j < j0 + 1)) → (cur.setIfInBounds (k * 2 + j0) v)[i * 2 + j]? = some (F i j) := by
  intro i j hi hj hij
  rw [Array.getElem?_setIfInBounds]
  by_cases e : i = k ∧ j = j0
  · obtain ⟨rfl, rfl⟩ := e
    rw [if_pos rfl, if_pos (by omega), hv]
  · rw [if_neg (by omega)]
    exact h i j hi hj (by omega)
def mkintA2 (l : Int) (i j : Nat) : Value := .int .i64 (l + i * 2 + j)
set_option maxHeartbeats 2000000 in
theorem mark_intA2S (A : Option Addr) (n c : Nat) (F : Nat → Nat → Value) (l : Int) (base : Nat) (w : World) (hn : n ≤ 1048576) (h0 : 0 ≤ l) (h1 : l ≤ 1099511627776) (ho : Own w base 58 2 (.slice A n c) n F) :
    Calls Try.prog 25 #[.slice A n c, .int .i64 l] w fun e w' => e = .returned (.int .i64 (l + n * 2)) ∧ w.grownBy w' (Value.slice A n c).ownBlock ∧ Own w' base 58 2 (.slice A n c) n (mkintA2 l) := by
  rcases ho with ⟨hv, rfl⟩ | ⟨g, cap, cur0, hv, hg0, hblk0, hcap, hmax, hsz0, hF0⟩
  · injection hv with hA _ hc
    subst hA hc
    go_enter Try.func25, Try.ntmps25
    go_wp2
    go_loopw [1, 5] (fun a i wr => a = .int .i64 l ∧ i = .int .i64 0 ∧ wr = w) (fun _ _ _ => 0)
    case atStart => exact ⟨rfl, rfl, rfl⟩
    case round =>
      obtain ⟨rfl, rfl, rfl⟩ := hrel
      go_wp2
      go_ret
      exact ⟨by simp, grown_refl _ _, .inl ⟨rfl, rfl⟩⟩
  · injection hv with hA _ hc
    subst hA hc
    go_enter Try.func25, Try.ntmps25
    go_wp2
    go_loopw [1, 5] (fun a i wr => ∃ q : Nat, q ≤ n ∧ a = .int .i64 (l + q * 2) ∧ i = .int .i64 q ∧ w.grownBy wr (some g) ∧ ∃ cur : Array Value, Blk wr g 58 cur ∧ cur.size = c * 2 ∧ ∀ i j, i < c → j < 2 → (i < q ∨ (i = q ∧ j < 0)) → cur[i * 2 + j]? = some (mkintA2 l i j)) (fun _ i _ => n - (intOf i).toNat)
    case atStart => exact ⟨0, Nat.zero_le _, by simp, rfl, grown_refl _ _, cur0, hblk0, hsz0, fun i j hi hj h => by omega⟩
    case round =>
      obtain ⟨q, hq, rfl, rfl, hg, cur, hblk, hsz, hcur⟩ := hrel
      by_cases hlt : q < n
      · have HS := hide hsz; have HC := hide hcur; have HB := hide hblk; have HG := hide hg
        clear hsz hcur hblk hblk0 hsz0 hF0 hg
        go_wp2
        go_loopw [1, 6] (fun a i wr => ∃ p : Nat, p ≤ 2 ∧ a = .int .i64 (l + q * 2 + p) ∧ i = .int .i64 p ∧ w.grownBy wr (some g) ∧ ∃ cur : Array Value, Blk wr g 58 cur ∧ cur.size = c * 2 ∧ ∀ i j, i < c → j < 2 → (i < q ∨ (i = q ∧ j < p)) → cur[i * 2 + j]? = some (mkintA2 l i j)) (fun _ i _ => 2 - (intOf i).toNat)
        case atStart => exact ⟨0, by omega, by simp, rfl, HG.out, cur, HB.out, HS.out, HC.out⟩
        case round =>
          obtain ⟨p, hp, rfl, rfl, hg, cur, hblk, hsz, hcur⟩ := hrel
          by_cases hlp : p < 2
          · have d0 := hblk.cell (q * 2 + p); have f0 := hblk.frozen (q * 2 + p)
            have hp' : (p : Int) < 2 := by omega
            have HS := hide hsz; have HC := hide hcur; have HB := hide hblk; have HG := hide hg
            clear hsz hcur hblk hg
            rw [Array.getElem?_eq_getElem (by rw [HS.out]; omega)] at d0
            go_wp2
            go_roundw
            case rel =>
              have hrow := row_one_intA2 (v := .int .i64 (l + q * 2 + p)) HS.out (by omega : q < c) hlp HC.out rfl
              exact ⟨p + 1, by omega, by go_num, by go_num, grown_setCell HG.out _ _, _, HB.out.set_ _ _, by simpa only [Array.size_setIfInBounds] using HS.out, hrow⟩
            case measure => simp [intOf]; omega
          · obtain rfl : p = 2 := by omega
            have HS := hide hsz; have HC := hide hcur; have HB := hide hblk; have HG := hide hg
            clear hsz hcur hblk hg
            go_wp2
            go_roundw
            case rel => exact ⟨q + 1, by omega, by go_num, by go_num, HG.out, _, HB.out, HS.out, fun i j hi hj h => HC.out i j hi hj (by omega)⟩
            case measure => simp [intOf]; omega
      · obtain rfl : q = n := by omega
        go_wp2
        go_ret
        exact ⟨rfl, by simpa [Value.ownBlock] using hg, .inr ⟨g, c, cur, rfl, hg0, hblk, hcap, hmax, hsz, fun i j hi hj => hcur i j (by omega) hj (.inl hi)⟩⟩
theorem held_intA2S (A : Option Addr) (n c : Nat) (f : Nat → Nat → Value) (l : Int) (w : World) (hn : n ≤ 1048576) (h0 : 0 ≤ l) (h1 : l ≤ 1099511627776) (ha : Arr w w.heap.size A n 2 f) (hf : ∀ i j, i < n → j < 2 → f i j = mkintA2 l i j) :
    Calls Try.prog 26 #[.slice A n c, .int .i64 l] w fun e w' => e = .returned (.int .i64 (l + n * 2)) ∧ w = w' := by
  go_enter Try.func26, Try.ntmps26
  go_wp2
  go_loop [1, 5] (fun a i => ∃ q : Nat, q ≤ n ∧ a = .int .i64 (l + q * 2) ∧ i = .int .i64 q) (fun _ i => n - (intOf i).toNat)
  case atStart => exact ⟨0, Nat.zero_le _, by simp, rfl⟩
  case round =>
    obtain ⟨q, hq, rfl, rfl⟩ := hrel
    by_cases hlt : q < n
    · obtain ⟨b, off, rfl, hbb, hc⟩ := ha (by omega)
      have HC := hide hc; have HF := hide hf
      clear hc hf ha
      go_wp2
      go_loop [1, 6] (fun a i => ∃ p : Nat, p ≤ 2 ∧ a = .int .i64 (l + q * 2 + p) ∧ i = .int .i64 p) (fun _ i => 2 - (intOf i).toNat)
      case atStart => exact ⟨0, by omega, by simp, rfl⟩
      case round =>
        obtain ⟨p, hp, rfl, rfl⟩ := hrel
        by_cases hlp : p < 2
        · have c0 := HC.out q p hlt hlp
          rw [HF.out q p hlt hlp, mkintA2] at c0
          have hp' : (p : Int) < 2 := by omega
          go_wp2
          go_round
          case rel => exact ⟨p + 1, by omega, by go_num, by go_num⟩
          case measure => simp [intOf]; omega
        · obtain rfl : p = 2 := by omega
          go_wp2
          go_round
          case rel => exact ⟨q + 1, by omega, by go_num, by go_num⟩
          case measure => simp [intOf]; omega
    · obtain rfl : q = n := by omega
      go_wp2
      go_ret
      exact ⟨rfl, rfl⟩
end Go.Proofs.Ytbogcphbnooboaa
