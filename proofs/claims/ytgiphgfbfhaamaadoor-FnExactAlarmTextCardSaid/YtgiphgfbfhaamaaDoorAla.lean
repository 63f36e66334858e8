/- Chapter 21: is an alarm valid? The reference's side, and the words for both. -/
import Derived.Test.YtgiphgfbfhaamaaDoorAlaK
import Derived.Test.YtgiphgfbfhaamaaDoorPlaceK
import Derived.Test.YtgiphgfbfhaamaaDoorCells
namespace Go.Proofs.YtgiphgfbfhaamaaDoor
open Go.RowKit
set_option linter.unusedVariables false
set_option linter.unusedSimpArgs false

def cntB (s : Int) (n : Nat) : Bool := if s = 1 then inB n 1 2 else if s = 2 then inB n 3 8 else decide ((n : Int) = 0)
def hrdOk (x0 : Int) (X : Nat → Nat → Int) (i : Nat) : Prop := 1 ≤ X i 0 ∧ X i 0 ≤ 99 ∧ 0 ≤ X i 1 ∧ X i 1 ≤ x0 ∧ (0 < i → X (i - 1) 1 ≤ X i 1)
def hrdNew (X : Nat → Nat → Int) (i : Nat) : Prop := ∀ k, k < i → X k 0 ≠ X i 0
instance (x0 : Int) (X : Nat → Nat → Int) (i : Nat) : Decidable (hrdOk x0 X i) := by unfold hrdOk; infer_instance
instance (X : Nat → Nat → Int) (i : Nat) : Decidable (hrdNew X i) := by unfold hrdNew; infer_instance
def alaB (x0 x1 : Int) (n : Nat) (X : Nat → Nat → Int) (x3 x4 : Int) : Bool :=
  (inB x0 0 1000000 && inB x1 0 3 && inB x4 0 x3 && decide (x3 ≤ 999) && cntB x1 n) && (decide (∀ i, i < n → hrdOk x0 X i ∧ hrdNew X i) && (decide (x1 ≠ 1) || decide (x0 - X 0 1 ≤ 500)))
theorem alaB_row {x0 x1 : Int} {n : Nat} {X : Nat → Nat → Int} {x3 x4 : Int} {k : Nat} (hk : k < n) (h : ¬ (hrdOk x0 X k ∧ hrdNew X k)) : alaB x0 x1 n X x3 x4 = false := by
  unfold alaB
  rw [decide_eq_false (p := ∀ i, i < n → hrdOk x0 X i ∧ hrdNew X i) (fun H => h (H k hk))]; simp
theorem hrd_up {x0 : Int} {X : Nat → Nat → Int} {n : Nat} (h : ∀ i, i < n → hrdOk x0 X i) : ∀ k, k < n → X 0 1 ≤ X k 1
  | 0, _ => Int.le_refl _
  | k + 1, hk => by
    have h1 := hrd_up h k (by omega)
    have h2 := (h (k + 1) hk).2.2.2.2 (by omega)
    simp only [Nat.add_sub_cancel] at h2
    omega
def hasS (X : Nat → Nat → Int) (k : Nat) (s : Int) : Bool := decide (∃ i, i < k ∧ X i 0 = s)
theorem hasS_yes {X : Nat → Nat → Int} {k i : Nat} {s : Int} (hi : i < k) (h : X i 0 = s) : hasS X k s = true := decide_eq_true ⟨i, hi, h⟩
theorem hasS_no {X : Nat → Nat → Int} {k : Nat} {s : Int} (h : ∀ i, i < k → X i 0 ≠ s) : hasS X k s = false := decide_eq_false fun ⟨i, hi, e⟩ => h i hi e
theorem hasS_new {X : Nat → Nat → Int} {k : Nat} (h : hasS X k (X k 0) = false) : hrdNew X k := fun i hi e => by rw [hasS_yes hi e] at h; cases h
theorem hasS_old {X : Nat → Nat → Int} {k : Nat} (h : hasS X k (X k 0) = true) : ¬ hrdNew X k := fun H => by
  obtain ⟨i, hi, e⟩ := of_decide_eq_true h
  exact H i hi e
theorem Arr.pre {w : World} {B n m k : Nat} {A : Option Addr} {f : Nat → Nat → Value} (h : Arr w B A n k f) (hm : m ≤ n) : Arr w B A m k f := fun h0 => by
  obtain ⟨b, off, e, hb, hc⟩ := h (by omega)
  exact ⟨b, off, e, hb, fun i j hi hj => hc i j (by omega) hj⟩
theorem spec_cnt (s : Int) (n : Nat) (v : Bool) (hv : cntB s n = v) (w : World) :
    Calls Tryd.prog 18 #[.int .i64 s, .int .i64 n] w fun e w' => e = .returned (.bool v) ∧ w = w' := by
  unfold cntB at hv
  by_cases h1 : s = 1
  · subst h1
    rw [if_pos rfl] at hv
    go_enter Tryd.func18, Tryd.ntmps18
    go_wp2_with (go_at_call 17; refine (spec_in _ _ _ _ (by assumption) _).mono ?_; rintro e w' ⟨rfl, rfl⟩)
    go_ret
    exact ⟨rfl, rfl⟩
  · rw [if_neg h1] at hv
    by_cases h2 : s = 2
    · subst h2
      rw [if_pos rfl] at hv
      go_enter Tryd.func18, Tryd.ntmps18
      go_wp2_with (go_at_call 17; refine (spec_in _ _ _ _ (by assumption) _).mono ?_; rintro e w' ⟨rfl, rfl⟩)
      go_ret
      exact ⟨rfl, rfl⟩
    · rw [if_neg h2] at hv
      have HV := hide hv
      clear hv
      by_cases h3 : (n : Int) = 0
      · obtain rfl : true = v := by rw [← HV.out, decide_eq_true h3]
        go_enter Tryd.func18, Tryd.ntmps18
        go_wp2
        go_ret
        exact ⟨by simp [h3] <;> omega, rfl⟩
      · obtain rfl : false = v := by rw [← HV.out, decide_eq_false h3]
        go_enter Tryd.func18, Tryd.ntmps18
        go_wp2
        go_ret
        exact ⟨by simp [h3] <;> omega, rfl⟩
theorem spec_has21 (A : Option Addr) (n c : Nat) (X : Nat → Nat → Int) (s : Int) (v : Bool) (hv : hasS X n s = v) (w : World) (hn : n ≤ 1048576) (ha : Arr w w.heap.size A n 2 (iv X)) :
    Calls Tryd.prog 19 #[.slice A n c, .int .i64 s] w fun e w' => e = .returned (.bool v) ∧ w = w' := by
  have HV := hide hv
  clear hv
  go_enter Tryd.func19, Tryd.ntmps19
  go_wp2
  go_loop [5] (fun i => ∃ k : Nat, k ≤ n ∧ i = .int .i64 k ∧ ∀ i, i < k → X i 0 ≠ s) (fun i => n - (intOf i).toNat)
  case atStart => exact ⟨0, Nat.zero_le _, rfl, all_zero⟩
  case round =>
    obtain ⟨k, hk, rfl, hall⟩ := hrel
    by_cases hlt : k < n
    · obtain ⟨b, off, rfl, hbb, hc⟩ := ha (by omega)
      have c0 := hc k 0 hlt (by omega)
      simp only [Nat.add_zero, iv] at c0
      have HA := hide hall
      clear hall hc
      by_cases he : X k 0 = s
      · go_wp2
        go_ret
        exact ⟨ret_bool (by rw [← HV.out, hasS_yes hlt he]; try rfl), rfl⟩
      · go_wp2
        go_round
        case rel => exact ⟨k + 1, by omega, by go_num, all_snoc HA.out he⟩
        case measure => simp [intOf]; omega
    · obtain rfl : k = n := by omega
      have HA := hide hall
      clear hall
      go_wp2
      go_ret
      exact ⟨ret_bool (by rw [← HV.out, hasS_no HA.out]; try rfl), rfl⟩
end Go.Proofs.YtgiphgfbfhaamaaDoor
