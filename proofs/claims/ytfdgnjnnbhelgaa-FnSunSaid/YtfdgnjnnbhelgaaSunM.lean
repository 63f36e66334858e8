/- Chapter 22's law on sun: the plain law. -/
import Derived.Test.YtfdgnjnnbhelgaaBatM
import Derived.Test.YtfdgnjnnbhelgaaDaysF
import Derived.Test.YtfdgnjnnbhelgaaDark
import Derived.Test.YtfdgnjnnbhelgaaMean
namespace Go.Proofs.Ytfdgnjnnbhelgaa
open Go.RowKit
set_option linter.unusedVariables false
set_option linter.unusedSimpArgs false

/-- What LeastFull says of the two batteries that the law lays. -/
theorem full_both {f nw u lo r : Int} {X : Nat → Nat → Int} {n : Nat} {v : Bool} (hv : (batB f nw u lo && sunB n X) = v) (h : LFv v nw u X n r true) :
    (1 ≤ r ∧ r ≤ 10000) ∧ (batB r nw u 0 && sunB n X) = true ∧ (badD r nw u 0 X n).length = 0 ∧ ∀ v2, (batB (r - 1) nw u 0 && sunB n X) = v2 → ∀ q2, q2 = onlyN v2 (badD (r - 1) nw u 0 X n).length → v2 = true → 0 < q2 := by
  cases v
  · cases (h.2 rfl).2
  · rw [Bool.and_eq_true] at hv
    have hb := bat_of hv.1
    rcases h.1 rfl with ⟨_, h1, h2, h3, h4⟩ | ⟨h1, _⟩
    · refine ⟨⟨by omega, h2⟩, ?_, by simpa [fullOk] using h3, ?_⟩
      · rw [Bool.and_eq_true]; exact ⟨bat_to (bat_full hb h1 h2), hv.2⟩
      · rintro v2 hv2 q2 rfl rfl
        rw [Bool.and_eq_true] at hv2
        have hb2 := bat_of hv2.1
        have h5 := h4 (r - 1) (by have := hb2.f1; have := hb2.n2; omega) (by omega)
        have h6 : (badD (r - 1) nw u 0 X n).length ≠ 0 := by simpa [fullOk] using h5
        simp only [onlyN]; simp; omega
    · cases h1

/-- How many of the first k days lie from a to b. -/
def cntD (a b : Int) (X : Nat → Nat → Int) : Nat → Int
  | 0 => 0
  | k + 1 => if a ≤ X k 0 ∧ X k 0 ≤ b then cntD a b X k + 1 else cntD a b X k
theorem cntD_eq {a b : Int} {X : Nat → Nat → Int} {n : Nat} (h : sunAll X n) (ha : X 0 0 ≤ a) (hab : a ≤ b + 1) : ∀ k : Nat, k ≤ n → cntD a b X k = max 0 (min (X 0 0 + k - 1) b - a + 1)
  | 0, _ => by simp [cntD]; omega
  | k + 1, hk => by
    have h1 := cntD_eq h ha hab k (by omega)
    have h2 := day_at h k (by omega)
    simp only [cntD, h1, h2]
    push_cast
    split <;> omega
theorem cntD_bd (a b : Int) (X : Nat → Nat → Int) : ∀ k : Nat, 0 ≤ cntD a b X k ∧ cntD a b X k ≤ k
  | 0 => by simp [cntD]
  | k + 1 => by have := cntD_bd a b X k; simp only [cntD]; split <;> omega
theorem rn_dark (X : Nat → Nat → Int) (s : Int) : ∀ k : Nat, ∀ i : Nat, i < k → (k : Int) ≤ i + rnD X s k → X i 1 < s
  | 0, _, h, _ => by omega
  | k + 1, i, hi, h => by
    simp only [rnD] at h
    split at h
    · omega
    next hs =>
      by_cases hik : i = k
      · subst hik; omega
      · exact rn_dark X s k i (by omega) (by omega)
theorem ms_dark (X : Nat → Nat → Int) (s : Int) : ∀ k : Nat, 0 < msD X s k → ∃ e : Nat, e < k ∧ lsD X s k = X e 0 ∧ msD X s k ≤ e + 1 ∧ ∀ i : Nat, i ≤ e → (e : Int) < i + msD X s k → X i 1 < s
  | 0, h => by simp [msD] at h
  | k + 1, h => by
    have h0 := rnD_bd X s (k + 1)
    by_cases hc : msD X s k < rnD X s (k + 1)
    · have e1 : msD X s (k + 1) = rnD X s (k + 1) := by simp only [msD]; rw [if_pos hc]
      have e2 : lsD X s (k + 1) = X k 0 := by simp only [lsD]; rw [if_pos hc]
      rw [e1, e2]
      exact ⟨k, by omega, rfl, by omega, fun i hi hi' => rn_dark X s (k + 1) i (by omega) (by push_cast; omega)⟩
    · have e1 : msD X s (k + 1) = msD X s k := by simp only [msD]; rw [if_neg hc]
      have e2 : lsD X s (k + 1) = lsD X s k := by simp only [lsD]; rw [if_neg hc]
      rw [e1] at h
      obtain ⟨e, h1, h2, h3, h4⟩ := ms_dark X s k h
      rw [e1, e2]
      exact ⟨e, by omega, h2, h3, h4⟩
/-- A told dark run is dark, and as long as its days say. -/
theorem dark_told {n : Nat} {X : Nat → Nat → Int} {s a b : Int} (h : darkV n X s = (a, b, true)) :
    n ≤ 20 ∧ (0 ≤ b ∧ b ≤ 9999 ∧ -20 ≤ a ∧ a ≤ b) ∧ cntD a b X n = b - a + 1 ∧ ∀ i, i < n → a ≤ X i 0 → X i 0 ≤ b → X i 1 < s := by
  by_cases hc : darkOk n X s = true ∧ 0 < msD X s n
  · rw [darkV_yes hc.1 hc.2] at h
    have hd := hc.1
    rw [darkOk, Bool.and_eq_true] at hd
    obtain ⟨hn, hX⟩ := sunB_of hd.1
    have hX : sunAll X n := hX
    obtain ⟨e, h1, h2, h3, h4⟩ := ms_dark X s n hc.2
    have hm := msD_bd X s n
    have hls := lsD_bd hX (s := s) n (Nat.le_refl _)
    injection h with e1 e2; injection e2 with e2 _
    have he := day_at hX e h1
    subst e1 e2
    rw [h2] at hls ⊢
    refine ⟨hn, by omega, ?_, fun i hi ha hb => ?_⟩
    · rw [cntD_eq hX (by omega) (by omega) n (Nat.le_refl _)]; omega
    · have := day_at hX i hi
      exact h4 i (by omega) (by omega)
  · rw [darkV_no hc] at h; cases h
theorem lost_pos {f nw u lo r : Int} {X : Nat → Nat → Int} {n : Nat} {v : Bool} (hv : (batB f nw u lo && sunB n X) = v) (hr : onlyI v (lostD f nw u lo X n) = r) : 0 ≤ r := by
  subst hr
  cases v
  · simp [onlyI]
  · rw [Bool.and_eq_true] at hv
    simp only [onlyI, if_true]
    exact (lostD_bd (bat_of hv.1) (sunB_of hv.2).2 n (Nat.le_refl _)).1
theorem spec_darkest' (A : Option Addr) (n c : Nat) (X : Nat → Nat → Int) (s a b : Int) (t : Bool) (hd : darkV n X s = (a, b, t)) (w : World) (hn : n ≤ 1048576) (ha : Arr w w.heap.size A n 2 (iv X)) :
    Calls Try.prog 32 #[.slice A n c, .int .i64 s] w fun e w' => e = .returned (.tuple #[.int .i64 a, .int .i64 b, .bool t]) ∧ Below w.heap.size w w' := by
  refine (spec_darkest A n c X s w hn ha).mono ?_
  intro e w' h
  exact darkRes_use hd.symm h
theorem impl_darkest' (A : Option Addr) (n c : Nat) (X : Nat → Nat → Int) (s a b : Int) (t : Bool) (hd : darkV n X s = (a, b, t)) (w : World) (hn : n ≤ 1048576) (ha : Arr w w.heap.size A n 2 (iv X)) :
    Calls Try.prog 31 #[.slice A n c, .int .i64 s] w fun e w' => e = .returned (.tuple #[.int .i64 a, .int .i64 b, .bool t]) ∧ Below w.heap.size w w' := by
  refine (impl_darkest A n c X s w hn ha).mono ?_
  intro e w' h
  exact darkRes_use hd.symm h
end Go.Proofs.Ytfdgnjnnbhelgaa
