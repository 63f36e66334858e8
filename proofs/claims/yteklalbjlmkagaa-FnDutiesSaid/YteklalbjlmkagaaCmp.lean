/- cmp.Compare and cmp.Or at ints. -/
import Derived.Test.YteklalbjlmkagaaNum
import Derived.StillTailTactics
namespace Go.Proofs.Yteklalbjlmkagaa
open Go.RowKit
set_option linter.unusedVariables false
set_option linter.unusedSimpArgs false

def cmpI (a b : Int) : Int := if a < b then -1 else if b < a then 1 else 0
theorem compare_int (a b v : Int) (hv : cmpI a b = v) (w : World) :
    Calls Try.prog 76 #[.int .i64 a, .int .i64 b] w fun e w' => e = .returned (.int .i64 v) ∧ w = w' := by
  unfold cmpI at hv
  by_cases h1 : a < b
  · obtain rfl : -1 = v := by rw [if_pos h1] at hv; exact hv
    clear hv
    go_enter Try.func76, Try.ntmps76
    go_wp2
    go_ret
    exact ⟨rfl, rfl⟩
  · by_cases h2 : b < a
    · obtain rfl : 1 = v := by rw [if_neg h1, if_pos h2] at hv; exact hv
      clear hv
      go_enter Try.func76, Try.ntmps76
      go_wp2
      go_ret
      exact ⟨rfl, rfl⟩
    · obtain rfl : 0 = v := by rw [if_neg h1, if_neg h2] at hv; exact hv
      obtain rfl : a = b := by omega
      clear hv h1 h2
      go_enter Try.func76, Try.ntmps76
      go_wp2
      go_ret
      exact ⟨rfl, rfl⟩
theorem compare_still (a b : Int) (w : World) :
    Calls Try.prog 76 #[.int .i64 a, .int .i64 b] w fun e w' => e = .returned (.int .i64 (cmpI a b)) ∧ w' = w :=
  (compare_int a b _ rfl w).mono fun _ _ ⟨h1, h2⟩ => ⟨h1, h2.symm⟩
/-- The first number that is not 0. -/
def OrOk (F : Nat → Int) (m : Nat) (r : Int) : Prop := (∃ k, k < m ∧ r = F k ∧ r ≠ 0 ∧ ∀ j, j < k → F j = 0) ∨ (r = 0 ∧ ∀ j, j < m → F j = 0)
theorem OrOk.one {F : Nat → Int} {m : Nat} {r s : Int} (h : OrOk F m r) (h' : OrOk F m s) : r = s := by
  rcases h with ⟨k, hk, rfl, h1, h2⟩ | ⟨rfl, h1⟩ <;> rcases h' with ⟨l, hl, rfl, h3, h4⟩ | ⟨rfl, h3⟩
  · rcases Nat.lt_trichotomy k l with h | h | h
    · exact absurd (h4 k h) h1
    · rw [h]
    · exact absurd (h2 l h) h3
  · exact absurd (h3 k hk) h1
  · exact absurd (h1 l hl) h3
  · rfl
set_option maxHeartbeats 1000000 in
theorem or_ints (A : Option Addr) (m c : Nat) (F : Nat → Int) (r : Int) (hr : OrOk F m r) (w : World) (hm : m ≤ 1048576) (ha : Arr w w.heap.size A m 1 (iv fun i _ => F i)) :
    Calls Try.prog 75 #[.slice A m c] w fun e w' => e = .returned (.int .i64 r) ∧ w = w' := by
  have HR := hide hr
  clear hr
  go_enter Try.func75, Try.ntmps75
  go_wp2
  go_loop [8] (fun i => ∃ k : Nat, k ≤ m ∧ i = .int .i64 k ∧ ∀ j, j < k → F j = 0) (fun i => m - (intOf i).toNat)
  case atStart => exact ⟨0, Nat.zero_le _, rfl, all_zero⟩
  case round =>
    obtain ⟨k, hk, rfl, hall⟩ := hrel
    have HA := hide hall
    clear hall
    by_cases hlt : k < m
    · obtain ⟨b, off, rfl, hbb, hc⟩ := ha (by omega)
      have e0 := hc k 0 hlt (by omega)
      simp only [Nat.add_zero, Nat.mul_one, iv] at e0
      clear hc ha
      by_cases hz : F k = 0
      · rw [hz] at e0
        have HZ := hide hz
        clear hz
        go_wp2
        go_round
        case rel => exact ⟨k + 1, by omega, by go_num, all_snoc HA.out HZ.out⟩
        case measure => simp [intOf]; omega
      · have hB : (F k == 0) = false := by simp [hz]
        have hB2 : (F k != 0) = true := by simp [hz]
        have hO : OrOk F m (F k) := .inl ⟨k, hlt, rfl, hz, HA.out⟩
        obtain rfl := HR.out.one hO
        clear hz hO
        go_wp2
        go_ret
        exact ⟨rfl, rfl⟩
    · obtain rfl : k = m := by omega
      have hO : OrOk F k 0 := .inr ⟨rfl, HA.out⟩
      obtain rfl := HR.out.one hO
      clear hO
      go_wp2
      go_ret
      exact ⟨rfl, rfl⟩
end Go.Proofs.Yteklalbjlmkagaa
