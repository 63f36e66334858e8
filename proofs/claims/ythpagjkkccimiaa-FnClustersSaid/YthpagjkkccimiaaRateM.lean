/- Chapter 20: bins, counts, choices: the plain law. -/
import Derived.Test.YthpagjkkccimiaaQuakeB
namespace Go.Proofs.Ythpagjkkccimiaa
open Go.RowKit
set_option linter.unusedVariables false
set_option linter.unusedSimpArgs false

/-- The places at which P holds, in order. -/
def selL (P : Nat → Bool) : Nat → List Nat
  | 0 => []
  | k + 1 => if P k = true then selL P k ++ [k] else selL P k
theorem selL_yes {P : Nat → Bool} {k : Nat} (h : P k = true) : selL P (k + 1) = selL P k ++ [k] := by rw [selL, if_pos h]
theorem selL_no {P : Nat → Bool} {k : Nat} (h : P k = false) : selL P (k + 1) = selL P k := by rw [selL, h]; rfl
theorem selL_len (P : Nat → Bool) : ∀ k, (selL P k).length ≤ k
  | 0 => by simp [selL]
  | k + 1 => by
    have := selL_len P k
    simp only [selL]; split <;> simp <;> omega
theorem mem_selL {P : Nat → Bool} {x : Nat} : ∀ {k}, x ∈ selL P k ↔ x < k ∧ P x = true
  | 0 => by simp [selL]
  | k + 1 => by
    simp only [selL]
    split
    · rename_i h
      rw [List.mem_append, mem_selL]
      simp only [List.mem_singleton]
      constructor
      · rintro (⟨h1, h2⟩ | rfl)
        · exact ⟨by omega, h2⟩
        · exact ⟨by omega, h⟩
      · rintro ⟨h1, h2⟩
        by_cases e : x = k
        · exact .inr e
        · exact .inl ⟨by omega, h2⟩
    · rename_i h
      rw [mem_selL]
      constructor
      · rintro ⟨h1, h2⟩; exact ⟨by omega, h2⟩
      · rintro ⟨h1, h2⟩
        refine ⟨?_, h2⟩
        by_cases e : x = k
        · subst e; exact absurd h2 h
        · omega
theorem selL_get {P : Nat → Bool} {k i : Nat} (h : i < (selL P k).length) : (selL P k).getD i 0 < k ∧ P ((selL P k).getD i 0) = true := by
  have : (selL P k).getD i 0 = (selL P k)[i] := by simp [List.getD, h]
  rw [this]
  exact mem_selL.1 (List.getElem_mem h)
/-- The bin of quake i; how many of the first k are in bin b. -/
def binI (X : Nat → Nat → Int) (wd : Int) (i : Nat) : Int := min 11 ((X i 3 + 20) / wd)
def hst (X : Nat → Nat → Int) (wd : Int) : Nat → Nat → Int
  | 0, _ => 0
  | k + 1, b => hst X wd k b + if binI X wd k = (b : Int) then 1 else 0
theorem hst_bd (X : Nat → Nat → Int) (wd : Int) : ∀ (k b : Nat), 0 ≤ hst X wd k b ∧ hst X wd k b ≤ k
  | 0, b => by simp [hst]
  | k + 1, b => by
    have := hst_bd X wd k b
    simp only [hst]; split <;> omega
theorem bin_bd {n : Nat} {X : Nat → Nat → Int} {wd : Int} (h : catIn n X) (hw : 1 ≤ wd) {i : Nat} (hi : i < n) : 0 ≤ binI X wd i ∧ binI X wd i ≤ 11 := by
  obtain ⟨_, _, _, _, _, _, h1, h2⟩ := h i hi
  have : 0 ≤ (X i 3 + 20) / wd := Int.ediv_nonneg (by omega) (by omega)
  unfold binI; omega
/-- Sums from a bin on: d + 1 bins from the end. -/
def sufD (f : Nat → Int) : Nat → Int
  | 0 => f 11
  | d + 1 => sufD f d + f (10 - d)
def sufI (f : Nat → Int) (i : Nat) : Int := sufD f (11 - i)
theorem sufI_last (f : Nat → Int) : sufI f 11 = f 11 := rfl
theorem sufI_step (f : Nat → Int) {i : Nat} (hi : i ≤ 10) : sufI f i = sufI f (i + 1) + f i := by
  unfold sufI
  obtain ⟨d, hd⟩ : ∃ d, 11 - i = d + 1 := ⟨10 - i, by omega⟩
  have h1 : 11 - (i + 1) = d := by omega
  have h2 : 10 - d = i := by omega
  rw [hd, h1, sufD, h2]
/-- The first of the greatest. -/
def bestI (f : Nat → Int) : Nat → Nat
  | 0 => 0
  | k + 1 => if f (bestI f k) < f k then k else bestI f k
theorem bestI_one (f : Nat → Int) : bestI f 1 = 0 := by simp [bestI]
theorem bestI_lt (f : Nat → Int) : ∀ k, bestI f (k + 1) < k + 1
  | 0 => by simp [bestI]
  | k + 1 => by
    have := bestI_lt f k
    rw [bestI]; split <;> omega
/-- A sum of sizes of the chosen. -/
def sumL (X : Nat → Nat → Int) (l : List Nat) (j : Nat) : Nat → Int
  | 0 => 0
  | k + 1 => sumL X l j k + X (l.getD k 0) j
end Go.Proofs.Ythpagjkkccimiaa
