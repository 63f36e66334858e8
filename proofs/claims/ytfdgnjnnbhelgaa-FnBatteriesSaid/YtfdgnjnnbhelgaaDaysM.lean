/- Chapter 22: days, one by one: the plain law. -/
import Derived.Test.YtfdgnjnnbhelgaaSun
import Derived.Test.YtfdgnjnnbhelgaaPowA
import Derived.Test.YtfdgnjnnbhelgaaList
namespace Go.Proofs.Ytfdgnjnnbhelgaa
open Go.RowKit
set_option linter.unusedVariables false
set_option linter.unusedSimpArgs false

/-- What the battery has ahead of day k; the days on which the station did not run; the sun that was lost. -/
def levD (f nw u lo : Int) (X : Nat → Nat → Int) : Nat → Int
  | 0 => nw
  | k + 1 => aNow f (levD f nw u lo X k) u lo (X k 1)
def badD (f nw u lo : Int) (X : Nat → Nat → Int) : Nat → List Int
  | 0 => []
  | k + 1 => if aRan f (levD f nw u lo X k) u lo (X k 1) = true then badD f nw u lo X k else badD f nw u lo X k ++ [X k 0]
def lostD (f nw u lo : Int) (X : Nat → Nat → Int) : Nat → Int
  | 0 => 0
  | k + 1 => lostD f nw u lo X k + max 0 (levD f nw u lo X k + X k 1 - f)
theorem badD_len (f nw u lo : Int) (X : Nat → Nat → Int) : ∀ k, (badD f nw u lo X k).length ≤ k
  | 0 => by simp [badD]
  | k + 1 => by
    have := badD_len f nw u lo X k
    simp only [badD]; split <;> simp <;> omega
def sunAll (X : Nat → Nat → Int) (n : Nat) : Prop := ∀ i, i < n → 0 ≤ X i 0 ∧ X i 0 ≤ 9999 ∧ 0 ≤ X i 1 ∧ X i 1 ≤ 1000 ∧ (0 < i → X i 0 = X (i - 1) 0 + 1)
theorem levD_bat {f nw u lo : Int} {X : Nat → Nat → Int} {n : Nat} (hb : Bat f nw u lo) (h : sunAll X n) : ∀ k, k ≤ n → Bat f (levD f nw u lo X k) u lo
  | 0, _ => hb
  | k + 1, hk => aNow_bd (levD_bat hb h k (by omega)) (h k (by omega)).2.2.1
theorem lostD_bd {f nw u lo : Int} {X : Nat → Nat → Int} {n : Nat} (hb : Bat f nw u lo) (h : sunAll X n) : ∀ k, k ≤ n → 0 ≤ lostD f nw u lo X k ∧ lostD f nw u lo X k ≤ 20000 * k
  | 0, _ => by simp [lostD]
  | k + 1, hk => by
    have h1 := lostD_bd hb h k (by omega)
    have h2 := levD_bat hb h k (by omega)
    have h3 := h k (by omega)
    have := h2.n2; have := h2.f2; have := h2.f1; have := h2.n1
    simp only [lostD]; omega
theorem lost_if (z x s f : Int) : (z + if f < x + s then x + s - f else 0) = z + max 0 (x + s - f) := by split <;> omega

/-! The smallest battery: a greater one never has less. -/
theorem lev_mono {f g nw u : Int} {X : Nat → Nat → Int} {n : Nat} (hfg : f ≤ g) (hn : 0 ≤ nw) (hu : 0 ≤ u) (hX : sunAll X n) : ∀ k, k ≤ n → 0 ≤ levD f nw u 0 X k ∧ levD f nw u 0 X k ≤ levD g nw u 0 X k ∨ f < 0
  | 0, _ => .inl ⟨hn, Int.le_refl _⟩
  | k + 1, hk => by
    have h := hX k (by omega)
    rcases lev_mono hfg hn hu hX k (by omega) with ⟨h1, h2⟩ | h1
    · by_cases hf : f < 0
      · exact .inr hf
      · left
        simp only [levD, aNow]
        rw [if_pos h1, if_pos (by omega)]
        omega
    · exact .inr h1
theorem bad_nil {f nw u lo : Int} {X : Nat → Nat → Int} : ∀ {k : Nat}, (badD f nw u lo X k).length = 0 ↔ ∀ i, i < k → aRan f (levD f nw u lo X i) u lo (X i 1) = true
  | 0 => by simp [badD]
  | k + 1 => by
    simp only [badD]
    constructor
    · intro h
      split at h
      · rename_i hr
        exact all_snoc (bad_nil.1 h) hr
      · simp at h
    · intro h
      rw [if_pos (h k (by omega))]
      exact bad_nil.2 fun i hi => h i (by omega)
def fullOk (nw u : Int) (X : Nat → Nat → Int) (n : Nat) (f : Int) : Bool := decide ((badD f nw u 0 X n).length = 0)
theorem full_mono {f g nw u : Int} {X : Nat → Nat → Int} {n : Nat} (hfg : f ≤ g) (hf : 0 ≤ f) (hn : 0 ≤ nw) (hu : 0 ≤ u) (hX : sunAll X n) (h : fullOk nw u X n f = true) : fullOk nw u X n g = true := by
  simp only [fullOk, decide_eq_true_eq] at h ⊢
  rw [bad_nil] at h ⊢
  intro i hi
  have h1 := h i hi
  rcases lev_mono hfg hn hu hX i (by omega) with ⟨h2, h3⟩ | h2
  · simp only [aRan, Bool.and_eq_true, decide_eq_true_eq] at h1 ⊢
    omega
  · omega
/-- The answer: the smallest size that is enough, or none. -/
def LF (nw u : Int) (X : Nat → Nat → Int) (n : Nat) (v : Int) (ok : Bool) : Prop :=
  (ok = true ∧ max 1 nw ≤ v ∧ v ≤ 10000 ∧ fullOk nw u X n v = true ∧ ∀ g, max 1 nw ≤ g → g < v → fullOk nw u X n g = false) ∨
  (ok = false ∧ v = 0 ∧ ∀ g, max 1 nw ≤ g → g ≤ 10000 → fullOk nw u X n g = false)
theorem LF.one {nw u : Int} {X : Nat → Nat → Int} {n : Nat} {v v' : Int} {ok ok' : Bool} (h : LF nw u X n v ok) (h' : LF nw u X n v' ok') : v = v' ∧ ok = ok' := by
  rcases h with ⟨rfl, h1, h2, h3, h4⟩ | ⟨rfl, rfl, h1⟩ <;> rcases h' with ⟨rfl, h1', h2', h3', h4'⟩ | ⟨rfl, rfl, h1'⟩
  · refine ⟨?_, rfl⟩
    rcases Int.lt_trichotomy v v' with h | h | h
    · have := h4' v h1 h; rw [h3] at this; cases this
    · exact h
    · have := h4 v' h1' h; rw [h3'] at this; cases this
  · have := h1' v h1 h2; rw [h3] at this; cases this
  · have := h1 v' h1' h2'; rw [h3'] at this; cases this
  · exact ⟨rfl, rfl⟩
theorem LF.ex (nw u : Int) (X : Nat → Nat → Int) (n : Nat) : ∃ v ok, LF nw u X n v ok := by
  have key : ∀ d : Nat, (∃ v ok, LF nw u X n v ok) ∨ ∀ g, max 1 nw ≤ g → g < max 1 nw + d → fullOk nw u X n g = false := by
    intro d
    induction d with
    | zero => exact .inr fun g h1 h2 => by omega
    | succ d ih =>
      rcases ih with h | h
      · exact .inl h
      · by_cases hd : max 1 nw + d ≤ 10000
        · cases hf : fullOk nw u X n (max 1 nw + d)
          · right
            intro g h1 h2
            by_cases e : g = max 1 nw + d
            · rw [e]; exact hf
            · exact h g h1 (by omega)
          · exact .inl ⟨_, true, .inl ⟨rfl, by omega, hd, hf, fun g h1 h2 => h g h1 h2⟩⟩
        · exact .inl ⟨0, false, .inr ⟨rfl, rfl, fun g h1 h2 => h g h1 (by omega)⟩⟩
  rcases key 10001 with h | h
  · exact h
  · exact ⟨0, false, .inr ⟨rfl, rfl, fun g h1 h2 => h g h1 (by omega)⟩⟩
end Go.Proofs.Ytfdgnjnnbhelgaa
