/- Chapter 17: duties: plain law, and the walks of the small functions. -/
import Derived.Test.YteklalbjlmkagaaNum
import Derived.Test.YteklalbjlmkagaaCmp
import Derived.Test.YteklalbjlmkagaaRowsC
import Derived.Test.YteklalbjlmkagaaCells
import Derived.RegionTactic
import Derived.BigRegion
namespace Go.Proofs.Yteklalbjlmkagaa
open Go.RowKit
set_option linter.unusedVariables false
set_option linter.unusedSimpArgs false

structure Du where
  who : Int
  beg : Int
  fin : Int
  chief : Bool
def dZ : Du := ⟨0, 0, 0, false⟩
def dC (d : Du) : List Value := [.int .i64 d.who, .int .i64 d.beg, .int .i64 d.fin, .bool d.chief]
/-- The cells of a list of duties. -/
def dv (D : Nat → Du) (i j : Nat) : Value :=
  match j with
  | 0 => .int .i64 (D i).who
  | 1 => .int .i64 (D i).beg
  | 2 => .int .i64 (D i).fin
  | _ => .bool (D i).chief
theorem dv0 (D : Nat → Du) (i : Nat) : dv D i 0 = .int .i64 (D i).who := rfl
theorem dv1 (D : Nat → Du) (i : Nat) : dv D i 1 = .int .i64 (D i).beg := rfl
theorem dv2 (D : Nat → Du) (i : Nat) : dv D i 2 = .int .i64 (D i).fin := rfl
theorem dv3 (D : Nat → Du) (i : Nat) : dv D i 3 = .bool (D i).chief := rfl
theorem load4 {w : World} {b off : Nat} {n k : Nat} {f : Nat → Nat → Value} (hk : k < n) (hc : ∀ i j, i < n → j < 4 → w.cell? ⟨b, off + i * 4 + j, none⟩ = some (f i j)) :
    w.cell? ⟨b, off + k * 4, none⟩ = some (f k 0) ∧ w.cell? ⟨b, off + k * 4 + 1, none⟩ = some (f k 1) ∧ w.cell? ⟨b, off + k * 4 + 2, none⟩ = some (f k 2) ∧ w.cell? ⟨b, off + k * 4 + 3, none⟩ = some (f k 3) :=
  ⟨hc k 0 hk (by omega), hc k 1 hk (by omega), hc k 2 hk (by omega), hc k 3 hk (by omega)⟩
def oneB (d : Du) : Bool := inB d.who 1 50 && (inB d.fin 0 9999 && (inB d.beg 0 (d.fin - 1) && decide (d.fin - d.beg ≤ 12)))
structure OneD (d : Du) : Prop where
  w1 : 1 ≤ d.who
  w2 : d.who ≤ 50
  b0 : 0 ≤ d.beg
  bf : d.beg < d.fin
  f9 : d.fin ≤ 9999
  l12 : d.fin - d.beg ≤ 12
theorem one_of {d : Du} (h : oneB d = true) : OneD d := by
  simp only [oneB, Bool.and_eq_true, decide_eq_true_eq] at h
  obtain ⟨h1, h2, h3, h4⟩ := h
  have := inB_of h1; have := inB_of h2; have := inB_of h3
  exact ⟨by omega, by omega, by omega, by omega, by omega, h4⟩
def clashB (a b : Du) : Bool := decide (a.who = b.who) && (decide (b.beg < a.fin + 8) && (decide (b.beg ≠ a.fin) || decide (12 < b.fin - a.beg)))
set_option maxHeartbeats 1000000 in
theorem spec_one17 (d : Du) (v : Bool) (hv : oneB d = v) (w : World) :
    Calls Try.prog 45 #[.agg #[.int .i64 d.who, .int .i64 d.beg, .int .i64 d.fin, .bool d.chief]] w fun e w' => e = .returned (.bool v) ∧ Below w.heap.size w w' := by
  have hfa := frozen_al; have hfo := frozen_out
  have hwho : ∀ (v : Bool) (W : World), inB d.who 1 50 = v → Calls Try.prog 73 #[.int .i64 d.who] W fun e w' => e = .returned (.bool v) ∧ W = w' := by
    intro v W hv
    go_enter Try.func73, Try.ntmps73
    go_wp2_with (go_at_call 38; refine (spec_in _ _ _ _ (by assumption) _).mono ?_; rintro e w' ⟨rfl, rfl⟩)
    go_ret
    exact ⟨rfl, rfl⟩
  unfold oneB at hv
  cases h1 : inB d.who 1 50
  · obtain rfl : false = v := by rw [← hv, h1]; rfl
    clear hv
    go_enter Try.func45, Try.ntmps45
    go_wp2_with (go_at_call 73; refine (hwho _ _ h1).mono ?_; rintro e w' ⟨rfl, rfl⟩)
    go_returns
    exact ⟨rfl, by go_grown⟩
  · cases h2 : inB d.fin 0 9999
    · obtain rfl : false = v := by rw [← hv, h1, h2]; rfl
      clear hv
      go_enter Try.func45, Try.ntmps45
      go_wp2_with (first | (go_at_call 73; refine (hwho _ _ h1).mono ?_; rintro e w' ⟨rfl, rfl⟩) | (go_at_call 38; refine (spec_in _ _ _ _ (by assumption) _).mono ?_; rintro e w' ⟨rfl, rfl⟩))
      go_returns
      exact ⟨rfl, by go_grown⟩
    · have hf := inB_of h2
      cases h3 : inB d.beg 0 (d.fin - 1)
      · obtain rfl : false = v := by rw [← hv, h1, h2, h3]; rfl
        clear hv
        go_enter Try.func45, Try.ntmps45
        go_wp2_with (first | (go_at_call 73; refine (hwho _ _ h1).mono ?_; rintro e w' ⟨rfl, rfl⟩) | (go_at_call 38; refine (spec_in _ _ _ _ (by assumption) _).mono ?_; rintro e w' ⟨rfl, rfl⟩))
        go_returns
        exact ⟨rfl, by go_grown⟩
      · have hb := inB_of h3
        obtain rfl : decide (d.fin - d.beg ≤ 12) = v := by rw [← hv, h1, h2, h3]; simp
        clear hv
        go_enter Try.func45, Try.ntmps45
        go_wp2_with (first | (go_at_call 73; refine (hwho _ _ h1).mono ?_; rintro e w' ⟨rfl, rfl⟩) | (go_at_call 38; refine (spec_in _ _ _ _ (by assumption) _).mono ?_; rintro e w' ⟨rfl, rfl⟩))
        go_returns
        exact ⟨ret_bool rfl, by go_grown⟩
theorem oneB_impl (d : Du) : oneB d = (inB d.who 1 50 && (inB d.beg 0 9999 && (inB d.fin 0 9999 && inB (d.fin - d.beg) 1 12))) := by
  unfold oneB inB
  rw [Bool.eq_iff_iff]
  simp only [Bool.and_eq_true, decide_eq_true_eq]
  omega
set_option maxHeartbeats 1000000 in
theorem impl_who (x : Int) (v : Bool) (hv : inB x 1 50 = v) (W : World) : Calls Try.prog 51 #[.int .i64 x] W fun e w' => e = .returned (.bool v) ∧ W = w' := by
  go_enter Try.func51, Try.ntmps51
  go_wp2_with (go_at_call 40; refine (impl_in _ _ _ _ (by assumption) _).mono ?_; rintro e w' ⟨rfl, rfl⟩)
  go_ret
  exact ⟨rfl, rfl⟩
set_option maxHeartbeats 1000000 in
theorem impl_duty (d : Du) (v : Bool) (hv : oneB d = v) (w : World) :
    Calls Try.prog 25 #[.agg #[.int .i64 d.who, .int .i64 d.beg, .int .i64 d.fin, .bool d.chief]] w fun e w' => e = .returned (.bool v) ∧ Below w.heap.size w w' := by
  have hfa := frozen_al; have hfo := frozen_out
  rw [oneB_impl] at hv
  cases h1 : inB d.who 1 50
  · obtain rfl : false = v := by rw [← hv, h1]; rfl
    clear hv
    go_enter Try.func25, Try.ntmps25
    go_wp2_with (first | (go_at_call 51; refine (impl_who _ _ (by assumption) _).mono ?_; rintro e w' ⟨rfl, rfl⟩) | (go_at_call 40; refine (impl_in _ _ _ _ (by assumption) _).mono ?_; rintro e w' ⟨rfl, rfl⟩))
    go_returns
    exact ⟨rfl, by go_grown⟩
  · cases h2 : inB d.beg 0 9999
    · obtain rfl : false = v := by rw [← hv, h1, h2]; rfl
      clear hv
      go_enter Try.func25, Try.ntmps25
      go_wp2_with (first | (go_at_call 51; refine (impl_who _ _ (by assumption) _).mono ?_; rintro e w' ⟨rfl, rfl⟩) | (go_at_call 40; refine (impl_in _ _ _ _ (by assumption) _).mono ?_; rintro e w' ⟨rfl, rfl⟩))
      go_returns
      exact ⟨rfl, by go_grown⟩
    · have hb := inB_of h2
      cases h3 : inB d.fin 0 9999
      · obtain rfl : false = v := by rw [← hv, h1, h2, h3]; rfl
        clear hv
        go_enter Try.func25, Try.ntmps25
        go_wp2_with (first | (go_at_call 51; refine (impl_who _ _ (by assumption) _).mono ?_; rintro e w' ⟨rfl, rfl⟩) | (go_at_call 40; refine (impl_in _ _ _ _ (by assumption) _).mono ?_; rintro e w' ⟨rfl, rfl⟩))
        go_returns
        exact ⟨rfl, by go_grown⟩
      · have hf := inB_of h3
        have h4 : inB (d.fin - d.beg) 1 12 = v := by rw [← hv, h1, h2, h3]; simp
        clear hv
        go_enter Try.func25, Try.ntmps25
        go_wp2_with (first | (go_at_call 51; refine (impl_who _ _ (by assumption) _).mono ?_; rintro e w' ⟨rfl, rfl⟩) | (go_at_call 40; refine (impl_in _ _ _ _ (by assumption) _).mono ?_; rintro e w' ⟨rfl, rfl⟩))
        go_returns
        exact ⟨rfl, by go_grown⟩
set_option maxHeartbeats 1000000 in
theorem spec_has17 (d : Du) (h : Int) (v : Bool) (hv : (decide (d.beg ≤ h) && decide (h < d.fin)) = v) (w : World) :
    Calls Try.prog 39 #[.agg #[.int .i64 d.who, .int .i64 d.beg, .int .i64 d.fin, .bool d.chief], .int .i64 h] w fun e w' => e = .returned (.bool v) ∧ Below w.heap.size w w' := by
  have hfa := frozen_al; have hfo := frozen_out
  cases h1 : decide (d.beg ≤ h)
  · obtain rfl : false = v := by rw [← hv, h1]; rfl
    have h2 : ¬ d.beg ≤ h := of_decide_eq_false h1
    clear hv
    go_enter Try.func39, Try.ntmps39
    go_wp2
    go_returns
    exact ⟨rfl, by go_grown⟩
  · obtain rfl : decide (h < d.fin) = v := by rw [← hv, h1]; simp
    have h2 : d.beg ≤ h := of_decide_eq_true h1
    clear hv
    go_enter Try.func39, Try.ntmps39
    go_wp2
    go_returns
    exact ⟨ret_bool rfl, by go_grown⟩
set_option maxHeartbeats 1000000 in
theorem spec_clash (d e : Du) (v : Bool) (hv : clashB d e = v) (hd : OneD d) (he : OneD e) (w : World) :
    Calls Try.prog 69 #[.agg #[.int .i64 d.who, .int .i64 d.beg, .int .i64 d.fin, .bool d.chief], .agg #[.int .i64 e.who, .int .i64 e.beg, .int .i64 e.fin, .bool e.chief]] w fun e w' => e = .returned (.bool v) ∧ Below w.heap.size w w' := by
  have hfa := frozen_al; have hfo := frozen_out
  obtain ⟨a1, a2, a3, a4, a5, a6⟩ := hd
  obtain ⟨b1, b2, b3, b4, b5, b6⟩ := he
  unfold clashB at hv
  by_cases h1 : d.who = e.who
  · by_cases h2 : e.beg < d.fin + 8
    · have h2n : ¬ d.fin + 8 ≤ e.beg := by omega
      by_cases h3 : e.beg = d.fin
      · obtain rfl : decide (12 < e.fin - d.beg) = v := by rw [← hv, decide_eq_true h1, decide_eq_true h2, decide_eq_false (show ¬ e.beg ≠ d.fin from fun h => h h3)]; simp
        clear hv
        go_enter Try.func69, Try.ntmps69
        go_wp2
        go_returns
        exact ⟨ret_bool rfl, by go_grown⟩
      · obtain rfl : true = v := by rw [← hv]; simp [h1, h2, h3]
        have h3b : (e.beg == d.fin) = false := by simp [h3]
        clear hv
        go_enter Try.func69, Try.ntmps69
        go_wp2
        go_returns
        exact ⟨rfl, by go_grown⟩
    · have h2n : d.fin + 8 ≤ e.beg := by omega
      obtain rfl : false = v := by rw [← hv]; simp [h1, h2]
      clear hv
      go_enter Try.func69, Try.ntmps69
      go_wp2
      go_returns
      exact ⟨rfl, by go_grown⟩
  · have h1b : (d.who == e.who) = false := by simp [h1]
    obtain rfl : false = v := by rw [← hv]; simp [h1]
    clear hv
    go_enter Try.func69, Try.ntmps69
    go_wp2
    go_returns
    exact ⟨rfl, by go_grown⟩
set_option maxHeartbeats 1000000 in
theorem impl_together (d e : Du) (v : Bool) (hv : (decide (8 ≤ e.beg - d.fin) || (decide (e.beg - d.fin = 0) && decide (e.fin - d.beg ≤ 12))) = v) (hd : OneD d) (he : OneD e) (w : World) :
    Calls Try.prog 58 #[.agg #[.int .i64 d.who, .int .i64 d.beg, .int .i64 d.fin, .bool d.chief], .agg #[.int .i64 e.who, .int .i64 e.beg, .int .i64 e.fin, .bool e.chief]] w fun e w' => e = .returned (.bool v) ∧ Below w.heap.size w w' := by
  have hfa := frozen_al; have hfo := frozen_out
  obtain ⟨a1, a2, a3, a4, a5, a6⟩ := hd
  obtain ⟨b1, b2, b3, b4, b5, b6⟩ := he
  by_cases h1 : 8 ≤ e.beg - d.fin
  · obtain rfl : true = v := by rw [← hv]; simp [h1]
    clear hv
    go_enter Try.func58, Try.ntmps58
    go_wp2
    go_returns
    exact ⟨rfl, by go_grown⟩
  · by_cases h2 : e.beg - d.fin = 0
    · obtain rfl : decide (e.fin - d.beg ≤ 12) = v := by rw [← hv]; simp [h1, h2]
      have h1b : decide (8 ≤ e.beg - d.fin) = false := decide_eq_false h1
      clear hv
      go_enter Try.func58, Try.ntmps58
      go_wp2
      go_returns
      exact ⟨ret_bool rfl, by go_grown⟩
    · have h1b : decide (8 ≤ e.beg - d.fin) = false := decide_eq_false h1
      have h2b : ((e.beg - d.fin) == 0) = false := by simp [h2]
      obtain rfl : false = v := by rw [← hv]; simp [h1, h2]
      clear hv
      go_enter Try.func58, Try.ntmps58
      go_wp2
      go_returns
      exact ⟨rfl, by go_grown⟩
theorem clash_together {d e : Du} : (!clashB d e) = (!decide (d.who = e.who) || (decide (8 ≤ e.beg - d.fin) || (decide (e.beg - d.fin = 0) && decide (e.fin - d.beg ≤ 12)))) := by
  unfold clashB
  rw [Bool.eq_iff_iff]
  simp only [Bool.not_eq_true', Bool.and_eq_false_iff, Bool.or_eq_true, Bool.and_eq_true, decide_eq_true_eq, decide_eq_false_iff_not, Bool.or_eq_false_iff, ne_eq, Decidable.not_not]
  omega
end Go.Proofs.Yteklalbjlmkagaa
