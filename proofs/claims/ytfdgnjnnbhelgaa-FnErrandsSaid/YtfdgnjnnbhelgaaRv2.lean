/- More helpers of the great laws: made by rv2gen.py. -/
import Derived.Test.YtfdgnjnnbhelgaaRv
import Derived.Laws.StructEq
namespace Go.Proofs.Ytfdgnjnnbhelgaa
open Go.RowKit
set_option linter.unusedVariables false
set_option linter.unusedSimpArgs false

def smV (f : Nat → Int) : Nat → Int
  | 0 => 0
  | k + 1 => smV f k + f k

theorem r_sum (A : Option Addr) (n c : Nat) (X : Nat → Nat → Int) (s : Int) (hs : smV (fun i => X i 0) n = s) (w : World) (hn : n ≤ 1048576) (ha : Arr w w.heap.size A n 1 (iv X)) (hbd : ∀ k, k ≤ n → 0 ≤ smV (fun i => X i 0) k ∧ smV (fun i => X i 0) k ≤ 1099511627776) :
    Calls Try.prog 60 #[.slice A n c] w fun e w' => e = .returned (.int .i64 s) ∧ w = w' := by
  have HS := hide hs; have HB := hide hbd
  clear hs hbd
  go_enter Try.func60, Try.ntmps60
  go_wp2
  
  go_loop [3, 4] (fun v i => ∃ k : Nat, k ≤ n ∧ i = .int .i64 k ∧ v = .int .i64 (smV (fun i => X i 0) k)) (fun _ i => n - (intOf i).toNat)
  case atStart => exact ⟨0, Nat.zero_le _, rfl, rfl⟩
  case round =>
    obtain ⟨k, hk, rfl, rfl⟩ := hrel
    obtain ⟨z, hz⟩ : ∃ z, smV (fun i => X i 0) k = z := ⟨_, rfl⟩
    have b1 := HB.out k hk
    rw [hz] at b1
    by_cases hlt : k < n
    · obtain ⟨b, off, rfl, hbb, hc⟩ := ha (by omega)
      have c0 := hc k 0 hlt (by omega)
      simp only [Nat.add_zero, Nat.mul_one, iv] at c0
      have b2 := HB.out (k + 1) (by omega)
      rw [smV, hz] at b2
      have HZ := hide hz
      clear hc
      rw [hz]
      clear hz
      go_wp2
      go_round
      case rel => exact ⟨k + 1, by omega, by go_num, by rw [smV, HZ.out]⟩
      case measure => simp [intOf]; omega
    · obtain rfl : k = n := by omega
      have HZ := hide hz
      clear hz
      go_wp2
      go_ret
      exact ⟨by show Ending.returned (Value.int .i64 (smV (fun i => X i 0) k)) = _; rw [HS.out], rfl⟩
end Go.Proofs.Ytfdgnjnnbhelgaa
