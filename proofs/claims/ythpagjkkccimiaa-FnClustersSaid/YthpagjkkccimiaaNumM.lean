/- Clusters' numbers, as a function. -/
import Derived.Test.YthpagjkkccimiaaClu
namespace Go.Proofs.Ythpagjkkccimiaa
set_option linter.unusedVariables false
set_option linter.unusedSimpArgs false

/-- The least of the first k with p, or k. -/
def firstT (p : Nat → Bool) : Nat → Nat
  | 0 => 0
  | k + 1 => if firstT p k < k then firstT p k else if p k = true then k else k + 1
theorem firstT_le (p : Nat → Bool) : ∀ k, firstT p k ≤ k
  | 0 => Nat.le_refl _
  | k + 1 => by
    have := firstT_le p k
    rw [firstT]; split
    · omega
    · split <;> omega
theorem firstT_lt (p : Nat → Bool) : ∀ k, firstT p k < k → p (firstT p k) = true
  | 0, h => absurd h (by simp [firstT])
  | k + 1, h => by
    rw [firstT] at h ⊢
    split
    · exact firstT_lt p k ‹_›
    · rename_i h1
      rw [if_neg h1] at h
      split
      · assumption
      · rename_i h2; rw [if_neg h2] at h; omega
theorem firstT_no (p : Nat → Bool) : ∀ k j, j < k → p j = true → firstT p k ≤ j
  | k + 1, j, hj, hp => by
    rw [firstT]
    split
    · rename_i h1
      by_cases e : j = k
      · subst e; omega
      · exact firstT_no p k j (by omega) hp
    · rename_i h1
      by_cases e : j = k
      · subst e; rw [if_pos hp]; exact Nat.le_refl _
      · have := firstT_no p k j (by omega) hp; omega
def numN (n : Nat) (r : Nat → Nat → Bool) (i : Nat) : Nat := firstT (fun j => near n r i n j) n
theorem numN_min (n : Nat) (r : Nat → Nat → Bool) : IsMin n r (numN n r) := by
  intro i hi
  have h0 : near n r i n i = true := near_le (s := 0) (Nat.zero_le _) (by simp [near])
  have h1 : numN n r i ≤ i := firstT_no _ n i hi h0
  refine ⟨near_con hi (by omega) (firstT_lt (fun j => near n r i n j) n (by show numN n r i < n; omega)), fun j c => ?_⟩
  exact firstT_no _ n j (c.lt hi) (near_all hi c)
theorem numN_lt {n : Nat} {r : Nat → Nat → Bool} {i : Nat} (hi : i < n) : numN n r i ≤ i := (numN_min n r i hi).2 i (.refl _)
end Go.Proofs.Ythpagjkkccimiaa
