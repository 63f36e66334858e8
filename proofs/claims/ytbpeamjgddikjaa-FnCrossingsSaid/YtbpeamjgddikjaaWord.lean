/- Is a text a word? Both sides: made by wordgen.py. -/
import Derived.Test.YtbpeamjgddikjaaNum
namespace Go.Proofs.Ytbpeamjgddikjaa
open Go.RowKit
set_option linter.unusedVariables false
set_option linter.unusedSimpArgs false

def chr (s : ByteArray) (i : Nat) : Int := if h : i < s.size then ((s[i]'h).toNat : Int) else 0
theorem chr_at {s : ByteArray} {i : Nat} (h : i < s.size) : chr s i = ((s[i]'h).toNat : Int) := by unfold chr; rw [dif_pos h]
def wordB (s : ByteArray) : Bool := decide (∀ i, i < s.size → 97 ≤ chr s i ∧ chr s i ≤ 122) && inB s.size 1 10
theorem wordB_bad {s : ByteArray} {k : Nat} (hk : k < s.size) (h : ¬ (97 ≤ chr s k ∧ chr s k ≤ 122)) : wordB s = false := by
  unfold wordB; rw [decide_eq_false (fun H => h (H k hk))]; rfl
theorem wordB_good {s : ByteArray} (h : ∀ i, i < s.size → 97 ≤ chr s i ∧ chr s i ≤ 122) : wordB s = inB s.size 1 10 := by
  unfold wordB; rw [decide_eq_true h]; simp
theorem spec_word (s : ByteArray) (v : Bool) (hv : wordB s = v) (w : World) (hs : s.size ≤ 1048576) :
    Calls Try.prog 82 #[.string s] w fun e w' => e = .returned (.bool v) ∧ w = w' := by
  have HV := hide hv
  clear hv
  go_enter Try.func82, Try.ntmps82
  go_wp2
  go_loop [3] (fun i => ∃ k : Nat, k ≤ s.size ∧ i = .int .i64 k ∧ ∀ i, i < k → 97 ≤ chr s i ∧ chr s i ≤ 122) (fun i => s.size - (intOf i).toNat)
  case atStart => exact ⟨0, Nat.zero_le _, rfl, all_zero⟩
  case round =>
    obtain ⟨k, hk, rfl, hall⟩ := hrel
    have HA := hide hall
    clear hall
    by_cases hlt : k < s.size
    · have hch := chr_at hlt
      by_cases hbad : ((s[k]'hlt).toNat : Int) < 97 ∨ 122 < ((s[k]'hlt).toNat : Int)
      · have hw := wordB_bad hlt (by rw [hch]; omega)
        have HW := hide hw
        clear hw
        rcases hbad with hbad | hbad <;> (go_wp2; all_goals (first | (exfalso; omega) | (go_ret; exact ⟨ret_bool (by rw [← HV.out, HW.out]; try rfl), rfl⟩)))
      · have hgood : 97 ≤ chr s k ∧ chr s k ≤ 122 := by rw [hch]; omega
        have HG := hide hgood
        clear hgood hch
        go_wp2
        all_goals (first | (exfalso; omega) | (go_round; (case rel => exact ⟨k + 1, by omega, by go_num, all_snoc HA.out HG.out⟩); (case measure => simp [intOf]; omega)))
    · obtain rfl : k = s.size := by omega
      have hw := wordB_good HA.out
      rw [HV.out] at hw
      have HW := hide hw.symm
      clear hw hk hlt
      go_wp2_with (go_at_call 53; refine (spec_in _ _ _ _ HW.out _).mono ?_; rintro e w' ⟨rfl, rfl⟩)
      go_ret
      exact ⟨rfl, rfl⟩
theorem impl_word (s : ByteArray) (v : Bool) (hv : wordB s = v) (w : World) (hs : s.size ≤ 1048576) :
    Calls Try.prog 49 #[.string s] w fun e w' => e = .returned (.bool v) ∧ w = w' := by
  have HV := hide hv
  clear hv
  go_enter Try.func49, Try.ntmps49
  go_wp2
  go_loop [6] (fun i => ∃ k : Nat, k ≤ s.size ∧ i = .int .i64 k ∧ ∀ i, i < k → 97 ≤ chr s i ∧ chr s i ≤ 122) (fun i => s.size - (intOf i).toNat)
  case atStart => exact ⟨0, Nat.zero_le _, rfl, all_zero⟩
  case round =>
    obtain ⟨k, hk, rfl, hall⟩ := hrel
    have HA := hide hall
    clear hall
    by_cases hlt : k < s.size
    · have hch := chr_at hlt
      by_cases hbad : ((s[k]'hlt).toNat : Int) < 97 ∨ 122 < ((s[k]'hlt).toNat : Int)
      · have hw := wordB_bad hlt (by rw [hch]; omega)
        have HW := hide hw
        clear hw
        rcases hbad with hbad | hbad <;> (go_wp2; all_goals (first | (exfalso; omega) | (go_ret; exact ⟨ret_bool (by rw [← HV.out, HW.out]; try rfl), rfl⟩)))
      · have hgood : 97 ≤ chr s k ∧ chr s k ≤ 122 := by rw [hch]; omega
        have HG := hide hgood
        clear hgood hch
        go_wp2
        all_goals (first | (exfalso; omega) | (go_round; (case rel => exact ⟨k + 1, by omega, by go_num, all_snoc HA.out HG.out⟩); (case measure => simp [intOf]; omega)))
    · obtain rfl : k = s.size := by omega
      have hw := wordB_good HA.out
      rw [HV.out] at hw
      have HW := hide hw.symm
      clear hw hk hlt
      go_wp2_with (go_at_call 48; refine (impl_in _ _ _ _ HW.out _).mono ?_; rintro e w' ⟨rfl, rfl⟩)
      go_ret
      exact ⟨rfl, rfl⟩
end Go.Proofs.Ytbpeamjgddikjaa
