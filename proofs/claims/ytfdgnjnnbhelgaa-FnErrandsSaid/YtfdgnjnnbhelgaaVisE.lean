/- Chapter 23: is a list a plan? (closures) -/
import Derived.Test.YtfdgnjnnbhelgaaVisD
namespace Go.Proofs.Ytfdgnjnnbhelgaa
open Go.RowKit
set_option linter.unusedVariables false
set_option linter.unusedSimpArgs false

theorem plan_in (x : Int) (bl : Nat) (A : Option Addr) (n c : Nat) (v : Bool) (hv : inB x 0 (n - 1) = v) (hn : n ≤ 1048576) (w : World) (hl : w.cell? ⟨bl, 0, none⟩ = some (.slice A n c)) :
    Calls Try.prog 124 #[.int .i64 x, .pointer (some ⟨bl, 0, none⟩)] w fun e w' => e = .returned (.bool v) ∧ w = w' := by
  go_enter Try.func124, Try.ntmps124
  go_wp2_with (go_at_call 81; refine (impl_in _ _ _ _ (by assumption) _).mono ?_; rintro e w' ⟨rfl, rfl⟩)
  go_ret
  exact ⟨rfl, rfl⟩
theorem all_not (x : Int) (bf bl : Nat) (A : Option Addr) (n c : Nat) (v : Bool) (hv : inB x 0 (n - 1) = v) (hn : n ≤ 1048576) (w : World) (hl : w.cell? ⟨bl, 0, none⟩ = some (.slice A n c))
    (hf : w.cell? ⟨bf, 0, none⟩ = some (.func (.func 124) #[] #[.pointer (some ⟨bl, 0, none⟩)])) :
    Calls Try.prog 144 #[.int .i64 x, .pointer (some ⟨bf, 0, none⟩)] w fun e w' => e = .returned (.bool (!v)) ∧ w = w' := by
  go_enter Try.func144, Try.ntmps144
  go_wp2_with (go_at_call 124; refine (plan_in _ _ _ _ _ v hv hn _ hl).mono ?_; rintro e w' ⟨rfl, rfl⟩)
  go_ret
  exact ⟨rfl, rfl⟩

/-- The first place of a list that is no errand, or -1. -/
def badAt (n : Nat) (Y : Nat → Nat → Int) (m : Nat) (r : Int) : Prop := (∃ k : Nat, r = k ∧ k < m ∧ inB (Y k 0) 0 (n - 1) = false) ∨ (r = -1 ∧ ∀ k, k < m → inB (Y k 0) 0 (n - 1) = true)
def BadPost (n : Nat) (Y : Nat → Nat → Int) (m : Nat) (w : World) (e : Ending) (w' : World) : Prop := ∃ r, badAt n Y m r ∧ e = .returned (.int .i64 r) ∧ w = w'
set_option maxRecDepth 100000 in
theorem index_plan (B : Option Addr) (bf bl : Nat) (A : Option Addr) (n c m d : Nat) (Y : Nat → Nat → Int) (w : World) (hn : n ≤ 1048576) (hm : m ≤ 1048576) (hb : Arr w w.heap.size B m 1 (iv Y)) (hl : w.cell? ⟨bl, 0, none⟩ = some (.slice A n c))
    (hf : w.cell? ⟨bf, 0, none⟩ = some (.func (.func 124) #[] #[.pointer (some ⟨bl, 0, none⟩)])) :
    Calls Try.prog 152 #[.slice B m d, .func (.func 144) #[] #[.pointer (some ⟨bf, 0, none⟩)]] w (BadPost n Y m w) := by
  go_enter Try.func152, Try.ntmps152
  go_wp2
  go_loop [8] (fun i => ∃ k : Nat, k ≤ m ∧ i = .int .i64 k ∧ ∀ j, j < k → inB (Y j 0) 0 (n - 1) = true) (fun i => m - (intOf i).toNat)
  case atStart => exact ⟨0, Nat.zero_le _, rfl, all_zero⟩
  case round =>
    obtain ⟨k, hk, rfl, hall⟩ := hrel
    have HA := hide hall
    clear hall
    by_cases hlt : k < m
    · obtain ⟨b2, off2, rfl, hbb2, hc2⟩ := hb (by omega)
      have e0 := hc2 k 0 hlt (by omega)
      simp only [Nat.add_zero, Nat.mul_one, iv] at e0
      clear hc2 hb
      obtain ⟨v, hv⟩ : ∃ v, inB (Y k 0) 0 (n - 1) = v := ⟨_, rfl⟩
      have HV := hide hv
      clear hv
      cases v
      · go_wp2_with (go_at_call 144; refine (all_not _ _ _ _ _ _ _ HV.out hn _ hl hf).mono ?_; rintro e w' ⟨rfl, rfl⟩)
        go_ret
        exact ⟨_, .inl ⟨k, rfl, hlt, HV.out⟩, rfl, rfl⟩
      · go_wp2_with (go_at_call 144; refine (all_not _ _ _ _ _ _ _ HV.out hn _ hl hf).mono ?_; rintro e w' ⟨rfl, rfl⟩)
        go_round
        case rel => exact ⟨k + 1, by omega, by go_num, all_snoc HA.out HV.out⟩
        case measure => simp [intOf]; omega
    · obtain rfl : k = m := by omega
      go_wp2
      go_ret
      exact ⟨_, .inr ⟨rfl, HA.out⟩, rfl, rfl⟩
end Go.Proofs.Ytfdgnjnnbhelgaa
