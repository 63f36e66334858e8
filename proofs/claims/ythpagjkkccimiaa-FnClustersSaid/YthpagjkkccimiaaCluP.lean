/- Chapter 19's great laws: the plain part. -/
import Derived.Test.YthpagjkkccimiaaClu3
import Derived.Test.YthpagjkkccimiaaClN
namespace Go.Proofs.Ythpagjkkccimiaa
set_option linter.unusedVariables false
set_option linter.unusedSimpArgs false

theorem selL_filC (P : Nat → Bool) : ∀ n, selL P n = (List.range n).filter P
  | 0 => rfl
  | n + 1 => by
    rw [List.range_succ, List.filter_append, ← selL_filC P n]
    cases h : P n
    · rw [selL_no h]; simp [h]
    · rw [selL_yes h]; simp [h]
theorem selL_nodup (P : Nat → Bool) (n : Nat) : (selL P n).Nodup := by
  rw [selL_filC]; exact List.nodup_range.filter _
theorem inj_le {f : Nat → Nat} : ∀ {a b : List Nat}, a.Nodup → (∀ x, x ∈ a → f x ∈ b) → (∀ x y, x ∈ a → y ∈ a → f x = f y → x = y) → a.length ≤ b.length
  | [], b, _, _, _ => Nat.zero_le _
  | x :: t, b, hn, hm, hi => by
    have h1 := hm x (List.mem_cons_self ..)
    have hn2 := List.nodup_cons.1 hn
    have h2 := inj_le (f := f) (a := t) (b := b.erase (f x)) hn2.2 (fun y hy => by
      have hy2 := hm y (List.mem_cons_of_mem _ hy)
      refine (List.mem_erase_of_ne (fun e => ?_)).2 hy2
      have := hi y x (List.mem_cons_of_mem _ hy) (List.mem_cons_self ..) e
      subst this
      exact hn2.1 hy) (fun u v hu hv e => hi u v (List.mem_cons_of_mem _ hu) (List.mem_cons_of_mem _ hv) e)
    rw [List.length_erase_of_mem h1] at h2
    have h3 := List.length_pos_of_mem h1
    simp only [List.length_cons]; omega
/-! What a cluster's main one is. -/
theorem getD_mem {l : List Nat} {k : Nat} (h : k < l.length) : l.getD k 0 ∈ l := by simp [List.getD, h]
theorem mnK_mem {S : Nat → Int} {l : List Nat} (h0 : 0 < l.length) : ∀ k, k ≤ l.length → mnK S l k ∈ l
  | 0, _ => getD_mem h0
  | k + 1, hk => by
    have := mnK_mem (S := S) h0 k (by omega)
    rw [mnK]; split
    · exact getD_mem (by omega)
    · exact this
theorem mnK_max {S : Nat → Int} {l : List Nat} : ∀ {k j : Nat}, j < k → S (l.getD j 0) ≤ S (mnK S l k)
  | k + 1, j, hj => by
    rw [mnK]
    by_cases e : j = k
    · subst e; split <;> omega
    · have := mnK_max (S := S) (l := l) (k := k) (j := j) (by omega)
      split <;> omega
theorem main_mem {n : Nat} {r : Nat → Nat → Bool} {S : Nat → Int} {i : Nat} (hi : i < n) : mainN n r S i ∈ cluL n r i := mnK_mem (cluL_pos hi) _ (Nat.le_refl _)
theorem main_num {n : Nat} {r : Nat → Nat → Bool} {S : Nat → Int} {i : Nat} (hi : i < n) : numN n r (mainN n r S i) = numN n r i := (cluL_mem.1 (main_mem hi)).2
theorem clu_same {n : Nat} {r : Nat → Nat → Bool} {i j : Nat} (h : numN n r i = numN n r j) : cluL n r i = cluL n r j := by
  have e : cluP n r i = cluP n r j := by funext k; unfold cluP; rw [h]
  unfold cluL; rw [e]
theorem main_same {n : Nat} {r : Nat → Nat → Bool} {S : Nat → Int} {i j : Nat} (h : numN n r i = numN n r j) : mainN n r S i = mainN n r S j := by
  unfold mainN; rw [clu_same h]
theorem main_main {n : Nat} {r : Nat → Nat → Bool} {S : Nat → Int} {i : Nat} (hi : i < n) : mainN n r S (mainN n r S i) = mainN n r S i := main_same (main_num hi)
theorem main_in {n : Nat} {r : Nat → Nat → Bool} {S : Nat → Int} {i : Nat} (hi : i < n) : mainN n r S i ∈ mainsL n r S := mem_selL.2 ⟨mainN_lt hi, by simp [mainP, main_main hi]⟩
theorem self_in {n : Nat} {r : Nat → Nat → Bool} {i : Nat} (hi : i < n) : i ∈ cluL n r i := cluL_mem.2 ⟨hi, rfl⟩
theorem num_num {n : Nat} {r : Nat → Nat → Bool} {i : Nat} (hi : i < n) : numN n r (numN n r i) = numN n r i := by
  have hm := numN_min n r
  exact (hm.same hi (hm i hi).1).symm
/-- The clusters, by the smallest index of each. -/
def rootL (n : Nat) (r : Nat → Nat → Bool) (k : Nat) : List Nat := selL (fun i => decide (numN n r i = i)) k
theorem roots_mains (n : Nat) (r : Nat → Nat → Bool) (S : Nat → Int) : (rootL n r n).length = (mainsL n r S).length := by
  apply Nat.le_antisymm
  · refine inj_le (f := mainN n r S) (selL_nodup _ _) (fun x hx => main_in (mem_selL.1 hx).1) (fun x y hx hy e => ?_)
    have hx := mem_selL.1 hx; have hy := mem_selL.1 hy
    have h1 := main_num (r := r) (S := S) hx.1; have h2 := main_num (r := r) (S := S) hy.1
    have h3 := of_decide_eq_true hx.2; have h4 := of_decide_eq_true hy.2
    rw [e] at h1
    omega
  · refine inj_le (f := numN n r) (selL_nodup _ _) (fun x hx => ?_) (fun x y hx hy e => ?_)
    · have hx := mem_selL.1 hx
      have h1 := numN_lt (r := r) hx.1
      exact mem_selL.2 ⟨by omega, by simp [num_num hx.1]⟩
    · have hx := mem_selL.1 hx; have hy := mem_selL.1 hy
      have h3 := of_decide_eq_true hx.2; have h4 := of_decide_eq_true hy.2
      rw [← h3, ← h4]; exact main_same e
def rootN (n : Nat) (r : Nat → Nat → Bool) (k : Nat) : Int := (rootL n r k).length
theorem rootN_yes {n : Nat} {r : Nat → Nat → Bool} {k : Nat} (h : numN n r k = k) : rootN n r (k + 1) = rootN n r k + 1 := by
  unfold rootN rootL; rw [selL_yes (by simp [h])]; simp
theorem rootN_no {n : Nat} {r : Nat → Nat → Bool} {k : Nat} (h : numN n r k ≠ k) : rootN n r (k + 1) = rootN n r k := by
  unfold rootN rootL; rw [selL_no (by simp [h])]
theorem rootN_bd (n : Nat) (r : Nat → Nat → Bool) (k : Nat) : 0 ≤ rootN n r k ∧ rootN n r k ≤ k := by
  have := selL_len (fun i => decide (numN n r i = i)) k
  unfold rootN rootL; omega
/-! Links join within a cluster. -/
theorem mem_prK {r : Nat → Nat → Bool} {i : Nat} {p : Nat × Nat} : ∀ {k}, p ∈ prK r i k → p.1 = i ∧ i < p.2 ∧ p.2 < k ∧ r i p.2 = true
  | 0, h => by simp [prK] at h
  | k + 1, h => by
    rw [prK] at h
    split at h
    next hc =>
      rw [List.mem_append] at h
      rcases h with h | h
      · have := mem_prK h; exact ⟨this.1, this.2.1, by omega, this.2.2.2⟩
      · rw [List.mem_singleton] at h; subst h; exact ⟨rfl, hc.1, by simp, hc.2⟩
    next =>
      have := mem_prK h; exact ⟨this.1, this.2.1, by omega, this.2.2.2⟩
theorem mem_prI {r : Nat → Nat → Bool} {n : Nat} {p : Nat × Nat} : ∀ {i}, p ∈ prI r n i → p.1 < i ∧ p.1 < p.2 ∧ p.2 < n ∧ r p.1 p.2 = true
  | 0, h => by simp [prI] at h
  | i + 1, h => by
    rw [prI, List.mem_append] at h
    rcases h with h | h
    · have := mem_prI h; exact ⟨by omega, this.2⟩
    · have := mem_prK h
      obtain ⟨h1, h2, h3, h4⟩ := this
      rw [h1]; exact ⟨by omega, h2, h3, h4⟩
theorem pair_num {n : Nat} {r : Nat → Nat → Bool} {k : Nat} (hk : k < (prI r n n).length) : ∃ a b : Nat, pairF (prI r n n) k 0 = a ∧ pairF (prI r n n) k 1 = b ∧ a < n ∧ b < n ∧ numN n r a = numN n r b := by
  have hm : (prI r n n).getD k (0, 0) ∈ prI r n n := by simp [List.getD, hk]
  obtain ⟨h1, h2, h3, h4⟩ := mem_prI hm
  refine ⟨_, _, rfl, rfl, h1, h3, ?_⟩
  exact (numN_min n r).same h1 (.step (.refl _) h1 h3 (.inl ⟨h2, h4⟩))
/-! A number stands in a list. -/
theorem has_mem {L : List Nat} {x : Nat} (h : x ∈ L) : ∃ i, i < L.length ∧ ((L.getD i 0 : Nat) : Int) = (x : Int) := by
  obtain ⟨i, hi, e⟩ := List.mem_iff_getElem.1 h
  exact ⟨i, hi, by simp [List.getD, hi, e]⟩
theorem not_mem_has {L : List Nat} {x : Nat} (h : x ∉ L) : ∀ i, i < L.length → ((L.getD i 0 : Nat) : Int) ≠ (x : Int) := fun i hi e => by
  have : L.getD i 0 = x := by omega
  exact h (this ▸ getD_mem hi)
/-! Aftershocks. -/
theorem aft_mem {n : Nat} {r : Nat → Nat → Bool} {S : Nat → Int} {i x : Nat} : x ∈ aftL n r S i ↔ x ∈ cluL n r i ∧ mainN n r S i < x := by
  unfold aftL; rw [List.mem_filter]; simp
theorem main_max {n : Nat} {r : Nat → Nat → Bool} {S : Nat → Int} {i k : Nat} (hk : k < (cluL n r i).length) : S ((cluL n r i).getD k 0) ≤ S (mainN n r S i) := mnK_max hk
/-! The largest cluster. -/
theorem lgS_at {n : Nat} {r : Nat → Nat → Bool} : ∀ k, k + 1 ≤ n → (lgS n r (k + 1)).1 < k + 1 ∧ (cluL n r (lgS n r (k + 1)).1).length = (lgS n r (k + 1)).2
  | 0, hk => by
    have := cluL_pos (n := n) (r := r) (i := 0) (by omega)
    rw [lgS, if_pos (show (lgS n r 0).2 < (cluL n r 0).length from this)]
    exact ⟨Nat.one_pos, rfl⟩
  | k + 1, hk => by
    have ih := lgS_at (n := n) (r := r) k (by omega)
    rw [lgS]
    split
    next h => exact ⟨by simp, rfl⟩
    next h => exact ⟨by omega, ih.2⟩
end Go.Proofs.Ythpagjkkccimiaa
