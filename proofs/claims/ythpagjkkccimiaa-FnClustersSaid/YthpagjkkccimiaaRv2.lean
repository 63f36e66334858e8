/- More helpers of the great laws: made by rv2gen.py. -/
import Derived.Test.YthpagjkkccimiaaRv
import Derived.Laws.StructEq
namespace Go.Proofs.Ythpagjkkccimiaa
open Go.RowKit
set_option linter.unusedVariables false
set_option linter.unusedSimpArgs false

def smV (f : Nat → Int) : Nat → Int
  | 0 => 0
  | k + 1 => smV f k + f k

set_option maxHeartbeats 1000000 in
theorem v_quakes (A A' : Option Addr) (n c c' : Nat) (X : Nat → Nat → Int) (w : World) (hn : n ≤ 1048576) (ha : Arr w w.heap.size A n 4 (iv X)) (ha' : Arr w w.heap.size A' n 4 (iv X)) :
    Calls Try.prog 47 #[.slice A n c, .slice A' n c'] w fun e w' => e = .returned (.bool true) ∧ Below w.heap.size w w' := by
  go_enter Try.func47, Try.ntmps47
  go_wp2
  go_loopw [5] (fun i wr => ∃ k : Nat, k ≤ n ∧ i = .int .i64 k ∧ Below w.heap.size w wr) (fun i _ => n - (intOf i).toNat)
  case atStart => exact ⟨0, Nat.zero_le _, rfl, by go_grown⟩
  case round =>
    obtain ⟨k, hk, rfl, hb⟩ := hrel
    by_cases hlt : k < n
    · obtain ⟨b, off, rfl, hbb, hc⟩ := ha (by omega)
      obtain ⟨b', off', rfl, hbb', hc'⟩ := ha' (by omega)
      obtain ⟨q1, q2⟩ := bcell hb
      have hbl : b < wr.heap.size := by have := hb.size; omega
      have hbl' : b' < wr.heap.size := by have := hb.size; omega
      have hx := BW.cell (w := wr)
      have c0 := hc k 0 hlt (by omega); have e0 := hc' k 0 hlt (by omega); have c1 := hc k 1 hlt (by omega); have e1 := hc' k 1 hlt (by omega); have c2 := hc k 2 hlt (by omega); have e2 := hc' k 2 hlt (by omega); have c3 := hc k 3 hlt (by omega); have e3 := hc' k 3 hlt (by omega)
      simp only [Nat.add_zero, iv] at c0 e0 c1 e1 c2 e2 c3 e3
      clear hc ha hc' ha'
      go_wp2
      refine wp_region_bw (by kernel_rfl) (by kernel_rfl) ?_
      repeat (go_big_quiet_step ((first | fail)))
      refine wpQuiet_end fun w1 hb1 => ?_
      go_wp2
      go_roundw
      case rel => exact ⟨k + 1, by omega, by go_num, hb.trans (hb1.mono hb.size)⟩
      case measure => simp [intOf]; omega
    · obtain rfl : k = n := by omega
      go_wp2
      go_ret
      exact ⟨rfl, hb⟩
theorem eq_two (t e : TypeId) (d : Nat) (a b : Int) (w : World) (ht : Try.prog.underlying t = some (.array 2 e)) (he : Try.prog.underlying e = some (.int .i64)) (hsz : ∀ w, (sizeOf e).run Try.prog w = .ok 1 w) :
    (Op.equalIn (d + 2) t (.agg #[.int .i64 a, .int .i64 b]) (.agg #[.int .i64 a, .int .i64 b])).run Try.prog w = .ok true w := by
  rw [Op.equalIn]
  have p0 : ∀ w, (part e #[.int .i64 a, .int .i64 b] 0).run Try.prog w = .ok (.int .i64 a) w := fun w => by simp [part, isAgg, run_underlying he]
  have p1 : ∀ w, (part e #[.int .i64 a, .int .i64 b] 1).run Try.prog w = .ok (.int .i64 b) w := fun w => by simp [part, isAgg, run_underlying he]
  simp only [Sem.run_bind, run_underlying ht, Result.andThen_ok, hsz, Std.Legacy.Range.forIn_eq_forIn_range', Std.Legacy.Range.size, Nat.sub_zero, Nat.add_sub_cancel, Nat.div_one]
  simp [List.range', p0, p1, run_equalIn_int _ _ e .i64 .i64 _ _ he]
theorem eq_pair (a b : Int) (w : World) : (Op.equalIn 10000 55 (.agg #[.int .i64 a, .int .i64 b]) (.agg #[.int .i64 a, .int .i64 b])).run Try.prog w = .ok true w :=
  eq_two 55 3 9998 a b w Try.underlying55 Try.underlying3 (fun _ => by kernel_rfl)
set_option maxHeartbeats 1000000 in
theorem v_pairs (A A' : Option Addr) (n c c' : Nat) (X : Nat → Nat → Int) (w : World) (hn : n ≤ 1048576) (ha : Arr w w.heap.size A n 2 (iv X)) (ha' : Arr w w.heap.size A' n 2 (iv X)) :
    Calls Try.prog 43 #[.slice A n c, .slice A' n c'] w fun e w' => e = .returned (.bool true) ∧ Below w.heap.size w w' := by
  go_enter Try.func43, Try.ntmps43
  go_wp2
  go_loopw [5] (fun i wr => ∃ k : Nat, k ≤ n ∧ i = .int .i64 k ∧ Below w.heap.size w wr) (fun i _ => n - (intOf i).toNat)
  case atStart => exact ⟨0, Nat.zero_le _, rfl, by go_grown⟩
  case round =>
    obtain ⟨k, hk, rfl, hb⟩ := hrel
    by_cases hlt : k < n
    · obtain ⟨b, off, rfl, hbb, hc⟩ := ha (by omega)
      obtain ⟨b', off', rfl, hbb', hc'⟩ := ha' (by omega)
      obtain ⟨q1, q2⟩ := bcell hb
      have hbl : b < wr.heap.size := by have := hb.size; omega
      have hbl' : b' < wr.heap.size := by have := hb.size; omega
      have hx := BW.cell (w := wr)
      have c0 := hc k 0 hlt (by omega); have e0 := hc' k 0 hlt (by omega); have c1 := hc k 1 hlt (by omega); have e1 := hc' k 1 hlt (by omega)
      simp only [Nat.add_zero, iv] at c0 e0 c1 e1
      clear hc ha hc' ha'
      have hpr := fun W : World => eq_pair (X k 0) (X k 1) W
      go_wp2
      refine wp_region_bw (by kernel_rfl) (by kernel_rfl) ?_
      repeat (go_big_quiet_step ((first | fail)))
      refine wpQuiet_end fun w1 hb1 => ?_
      go_wp2
      go_roundw
      case rel => exact ⟨k + 1, by omega, by go_num, hb.trans (hb1.mono hb.size)⟩
      case measure => simp [intOf]; omega
    · obtain rfl : k = n := by omega
      go_wp2
      go_ret
      exact ⟨rfl, hb⟩
theorem v_sum (A : Option Addr) (n c : Nat) (X : Nat → Nat → Int) (s : Int) (hs : smV (fun i => X i 0) n = s) (w : World) (hn : n ≤ 1048576) (ha : Arr w w.heap.size A n 1 (iv X)) (hbd : ∀ k, k ≤ n → 0 ≤ smV (fun i => X i 0) k ∧ smV (fun i => X i 0) k ≤ 1099511627776) :
    Calls Try.prog 66 #[.slice A n c] w fun e w' => e = .returned (.int .i64 s) ∧ w = w' := by
  have HS := hide hs; have HB := hide hbd
  clear hs hbd
  go_enter Try.func66, Try.ntmps66
  go_wp2
  
  go_loop [3, 4] (fun v i => ∃ k : Nat, k ≤ n ∧ i = .int .i64 k ∧ v = .int .i64 (smV (fun i => X i 0) k)) (fun _ i => n - (intOf i).toNat)
  case atStart => exact ⟨0, Nat.zero_le _, rfl, rfl⟩
  case round =>
    obtain ⟨k, hk, rfl, rfl⟩ := hrel
    obtain ⟨z, hz⟩ : ∃ z, smV (fun i => X i 0) k = z := ⟨_, rfl⟩
    have b1 := HB.out k hk
    rw [hz] at b1
    by_cases hlt : k < n
    · obtain ⟨b, off, rfl, hbb, hc⟩ := ha (by omega)
      have c0 := hc k 0 hlt (by omega)
      simp only [Nat.add_zero, Nat.mul_one, iv] at c0
      have b2 := HB.out (k + 1) (by omega)
      rw [smV, hz] at b2
      have HZ := hide hz
      clear hc
      rw [hz]
      clear hz
      go_wp2
      go_round
      case rel => exact ⟨k + 1, by omega, by go_num, by rw [smV, HZ.out]⟩
      case measure => simp [intOf]; omega
    · obtain rfl : k = n := by omega
      have HZ := hide hz
      clear hz
      go_wp2
      go_ret
      exact ⟨by show Ending.returned (Value.int .i64 (smV (fun i => X i 0) k)) = _; rw [HS.out], rfl⟩
end Go.Proofs.Ythpagjkkccimiaa
