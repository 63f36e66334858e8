/- Plans in an order; numbers put to their places: the plain law. -/
import Derived.Test.YteklalbjlmkagaaLib
namespace Go.Proofs.Yteklalbjlmkagaa
set_option linter.unusedVariables false
set_option linter.unusedSimpArgs false

/-! Plans in an order: an index is put behind all that are not greater. -/
def cutOf (f : Nat → Int) (l : List Nat) (x : Nat) : Nat → Nat
  | 0 => 0
  | k + 1 => if f x < f (l.getD k 0) then cutOf f l x k else k + 1
def insAt (l : List Nat) (x k : Nat) : List Nat := l.take k ++ x :: l.drop k
def insL (f : Nat → Int) : Nat → List Nat
  | 0 => []
  | k + 1 => insAt (insL f k) k (cutOf f (insL f k) k k)
theorem insAt_len (l : List Nat) (x k : Nat) : (insAt l x k).length = l.length + 1 := by
  simp [insAt]; omega
theorem insL_len (f : Nat → Int) : ∀ k, (insL f k).length = k
  | 0 => rfl
  | k + 1 => by rw [insL, insAt_len, insL_len f k]
theorem mem_insAt {l : List Nat} {x k y : Nat} : y ∈ insAt l x k ↔ y = x ∨ y ∈ l := by
  have h : y ∈ l ↔ y ∈ l.take k ∨ y ∈ l.drop k := by
    rw [← List.mem_append, List.take_append_drop]
  rw [h]
  simp only [insAt, List.mem_append, List.mem_cons]
  constructor
  · rintro (h | h | h)
    · exact .inr (.inl h)
    · exact .inl h
    · exact .inr (.inr h)
  · rintro (h | h | h)
    · exact .inr (.inl h)
    · exact .inl h
    · exact .inr (.inr h)
theorem mem_insL {f : Nat → Int} {x : Nat} : ∀ {k}, x ∈ insL f k ↔ x < k
  | 0 => by simp [insL]
  | k + 1 => by rw [insL, mem_insAt, mem_insL]; omega
theorem cutOf_le (f : Nat → Int) (l : List Nat) (x : Nat) : ∀ k, cutOf f l x k ≤ k
  | 0 => Nat.le_refl _
  | k + 1 => by
    have := cutOf_le f l x k
    simp only [cutOf]; split <;> omega
theorem getD_lt {l : List Nat} {i d : Nat} (h : i < l.length) : l.getD i d = l[i] := by simp [List.getD, h]
theorem insL_get {f : Nat → Int} {n j : Nat} (hj : j < n) : (insL f n).getD j 0 < n := by
  have h : j < (insL f n).length := by rw [insL_len]; exact hj
  rw [getD_lt h]
  exact mem_insL.1 (List.getElem_mem h)
/-- The place is found by steps from the end. -/
theorem cut_step {f : Nat → Int} {l : List Nat} {x k n : Nat} (hc : cutOf f l x n = cutOf f l x (k + 1)) (h : f x < f (l.getD k 0)) : cutOf f l x n = cutOf f l x k := by
  rw [hc, cutOf, if_pos h]
theorem cut_stop {f : Nat → Int} {l : List Nat} {x k n : Nat} (hc : cutOf f l x n = cutOf f l x (k + 1)) (h : ¬ f x < f (l.getD k 0)) : cutOf f l x n = k + 1 := by
  rw [hc, cutOf, if_neg h]
theorem cut_split {f : Nat → Int} {x : Nat} (A : List Nat) : ∀ (C : List Nat) (k : Nat), k ≤ C.length → (∀ a, a ∈ A → f a ≤ f x) → (∀ c, c ∈ C → f x < f c) → cutOf f (A ++ C) x (A.length + k) = A.length
  | C, 0, _, hA, _ => by
    rcases hl : A.length with _ | q
    · rfl
    · simp only [Nat.add_zero, cutOf]
      have hq : q < A.length := by omega
      have : (A ++ C).getD q 0 = A[q] := by
        rw [getD_lt (by simp; omega), List.getElem_append_left hq]
      rw [this, if_neg (by have := hA _ (List.getElem_mem hq); omega)]
  | C, k + 1, hk, hA, hC => by
    have hk' : k < C.length := by omega
    have : (A ++ C).getD (A.length + k) 0 = C[k] := by
      rw [getD_lt (by simp; omega), List.getElem_append_right (by omega)]
      simp
    rw [← Nat.add_assoc, cutOf, this, if_pos (hC _ (List.getElem_mem hk'))]
    exact cut_split A C k (by omega) hA hC
/-! Buckets. -/
def bks (f : Nat → Int) (lo : Int) (n : Nat) : Nat → List Nat
  | 0 => []
  | V + 1 => bks f lo n V ++ (List.range n).filter fun i => decide (f i = lo + V)
theorem bks_lt {f : Nat → Int} {lo : Int} {n : Nat} : ∀ {V x : Nat}, x ∈ bks f lo n V → f x < lo + V ∧ x < n
  | 0, x, h => by simp [bks] at h
  | V + 1, x, h => by
    simp only [bks, List.mem_append, List.mem_filter, List.mem_range, decide_eq_true_eq] at h
    rcases h with h | h
    · have := bks_lt h; omega
    · omega
theorem bks_add {f : Nat → Int} {lo : Int} {n : Nat} (h0 : lo ≤ f n) : ∀ V : Nat, (f n < lo + V → ∃ A C, bks f lo n V = A ++ C ∧ bks f lo (n + 1) V = A ++ n :: C ∧ (∀ a, a ∈ A → f a ≤ f n) ∧ ∀ c, c ∈ C → f n < f c) ∧ (lo + V ≤ f n → bks f lo (n + 1) V = bks f lo n V)
  | 0 => ⟨fun h => by omega, fun _ => rfl⟩
  | V + 1 => by
    obtain ⟨h1, h2⟩ := bks_add (f := f) (lo := lo) (n := n) h0 V
    have hr : (List.range (n + 1)).filter (fun i => decide (f i = lo + V)) = (List.range n).filter (fun i => decide (f i = lo + V)) ++ if f n = lo + V then [n] else [] := by
      rw [List.range_succ, List.filter_append]
      congr 1
      by_cases e : f n = lo + V <;> simp [List.filter_cons, e]
    refine ⟨fun h => ?_, fun h => ?_⟩
    · by_cases e : f n < lo + V
      · obtain ⟨A, C, e1, e2, e3, e4⟩ := h1 e
        refine ⟨A, C ++ (List.range n).filter (fun i => decide (f i = lo + V)), ?_, ?_, e3, ?_⟩
        · rw [bks, e1, List.append_assoc]
        · rw [bks, e2, hr, if_neg (by omega)]; simp
        · intro c hc
          simp only [List.mem_append, List.mem_filter, List.mem_range, decide_eq_true_eq] at hc
          rcases hc with hc | hc
          · exact e4 c hc
          · omega
      · refine ⟨bks f lo n (V + 1), [], by simp, ?_, ?_, by simp⟩
        · rw [bks, hr, h2 (by omega), if_pos (by omega), bks, List.append_assoc]
        · intro a ha
          have := (bks_lt ha).1
          omega
    · rw [bks, hr, h2 (by omega), if_neg (by omega), bks]; simp
theorem bks_len {f : Nat → Int} {lo : Int} {V : Nat} : ∀ {n : Nat}, (∀ i, i < n → lo ≤ f i ∧ f i < lo + V) → insL f n = bks f lo n V
  | 0, _ => by
    have : ∀ V, bks f lo 0 V = [] := by
      intro V
      induction V with
      | zero => rfl
      | succ V ih => rw [bks, ih]; rfl
    rw [this]; rfl
  | n + 1, h => by
    have ih := bks_len (n := n) fun i hi => h i (by omega)
    have hn := h n (by omega)
    obtain ⟨A, C, e1, e2, e3, e4⟩ := (bks_add hn.1 V).1 hn.2
    have hl : (A ++ C).length = n := by rw [← e1, ← ih, insL_len]
    have hc := cut_split (f := f) (x := n) A C C.length (Nat.le_refl _) e3 e4
    rw [List.length_append] at hl
    rw [hl] at hc
    rw [insL, ih, e1, hc, e2, insAt]
    simp
/-! Numbers put to their places, once. -/
def putL (x : Nat) : List Nat → List Nat
  | [] => [x]
  | y :: t => if y < x then y :: putL x t else x :: y :: t
theorem putL_at {x : Nat} : ∀ {l : List Nat} {k : Nat}, k ≤ l.length → (∀ j, j < k → l.getD j 0 < x) → (k < l.length → x < l.getD k 0) → putL x l = l.take k ++ x :: l.drop k
  | [], k, hk, _, _ => by simp at hk; subst hk; rfl
  | y :: t, 0, _, _, h => by
    have := h (by simp)
    simp at this
    simp only [putL]
    rw [if_neg (by omega)]; rfl
  | y :: t, k + 1, hk, h1, h2 => by
    have h0 := h1 0 (by omega)
    simp at h0
    simp only [putL]
    rw [if_pos h0, putL_at (k := k) (by simpa using hk) (fun j hj => by have := h1 (j + 1) (by omega); simpa using this) (fun hk' => by have := h2 (by simpa using hk'); simpa using this)]
    rfl
theorem mem_putL {x y : Nat} : ∀ {l : List Nat}, y ∈ putL x l ↔ y = x ∨ y ∈ l
  | [] => by simp [putL]
  | z :: t => by
    simp only [putL]
    split
    · rw [List.mem_cons, mem_putL, List.mem_cons]
      constructor
      · rintro (h | h | h)
        · exact .inr (.inl h)
        · exact .inl h
        · exact .inr (.inr h)
      · rintro (h | h | h)
        · exact .inr (.inl h)
        · exact .inl h
        · exact .inr (.inr h)
    · simp
theorem putL_len {x : Nat} : ∀ {l : List Nat}, (putL x l).length = l.length + 1
  | [] => rfl
  | z :: t => by
    simp only [putL]
    split
    · simp [putL_len]
    · simp
theorem putL_up {x : Nat} : ∀ {l : List Nat}, x ∉ l → l.Pairwise (· < ·) → (putL x l).Pairwise (· < ·)
  | [], _, _ => by simp [putL]
  | z :: t, hx, h => by
    simp only [List.mem_cons, not_or] at hx
    obtain ⟨h1, h2⟩ := List.pairwise_cons.1 h
    simp only [putL]
    split
    · rename_i hz
      refine List.pairwise_cons.2 ⟨fun a ha => ?_, putL_up hx.2 h2⟩
      rcases mem_putL.1 ha with e | e
      · omega
      · exact h1 a e
    · rename_i hz
      refine List.pairwise_cons.2 ⟨fun a ha => ?_, h⟩
      rcases List.mem_cons.1 ha with e | e
      · omega
      · have := h1 a e; omega
theorem putL_split {x : Nat} : ∀ {l : List Nat}, x ∉ l → l.Pairwise (· < ·) → ∃ A C, l = A ++ C ∧ putL x l = A ++ x :: C ∧ (∀ a, a ∈ A → a < x) ∧ ∀ c, c ∈ C → x < c
  | [], _, _ => ⟨[], [], rfl, rfl, by simp, by simp⟩
  | z :: t, hx, h => by
    simp only [List.mem_cons, not_or] at hx
    obtain ⟨h1, h2⟩ := List.pairwise_cons.1 h
    simp only [putL]
    split
    · rename_i hz
      obtain ⟨A, C, e1, e2, e3, e4⟩ := putL_split hx.2 h2
      refine ⟨z :: A, C, by rw [e1]; rfl, by rw [e2]; rfl, fun a ha => ?_, e4⟩
      rcases List.mem_cons.1 ha with e | e
      · omega
      · exact e3 a e
    · rename_i hz
      refine ⟨[], z :: t, rfl, rfl, by simp, fun c hc => ?_⟩
      rcases List.mem_cons.1 hc with e | e
      · omega
      · have := h1 c e; omega
/-- The numbers of a list, one after another put to their places. -/
def putAll (l : List Nat) : Nat → List Nat
  | 0 => []
  | k + 1 => putL (l.getD k 0) (putAll l k)
theorem mem_putAll {l : List Nat} {x : Nat} : ∀ {k : Nat}, x ∈ putAll l k ↔ ∃ j, j < k ∧ x = l.getD j 0
  | 0 => by simp [putAll]
  | k + 1 => by
    rw [putAll, mem_putL, mem_putAll]
    constructor
    · rintro (h | ⟨j, hj, h⟩)
      · exact ⟨k, by omega, h⟩
      · exact ⟨j, by omega, h⟩
    · rintro ⟨j, hj, h⟩
      by_cases e : j = k
      · subst e; exact .inl h
      · exact .inr ⟨j, by omega, h⟩
theorem nodup_getD {l : List Nat} (h : l.Nodup) {i j : Nat} (hi : i < l.length) (hj : j < l.length) (e : l.getD i 0 = l.getD j 0) : i = j := by
  rw [getD_lt hi, getD_lt hj] at e
  exact (List.getElem_inj h).1 e
theorem putAll_not {l : List Nat} (h : l.Nodup) {k : Nat} (hk : k < l.length) : l.getD k 0 ∉ putAll l k := by
  intro hc
  obtain ⟨j, hj, e⟩ := mem_putAll.1 hc
  have := nodup_getD h hk (by omega) e
  omega
theorem putAll_up {l : List Nat} (h : l.Nodup) : ∀ {k : Nat}, k ≤ l.length → (putAll l k).Pairwise (· < ·)
  | 0, _ => by simp [putAll]
  | k + 1, hk => putL_up (putAll_not h (by omega)) (putAll_up h (by omega))
theorem putAll_len {l : List Nat} : ∀ {k : Nat}, (putAll l k).length = k
  | 0 => rfl
  | k + 1 => by rw [putAll, putL_len, putAll_len]
theorem putAll_app {l : List Nat} {x : Nat} : ∀ {k : Nat}, k ≤ l.length → putAll (l ++ [x]) k = putAll l k
  | 0, _ => rfl
  | k + 1, hk => by
    rw [putAll, putAll, putAll_app (by omega)]
    congr 1
    rw [getD_lt (by simp; omega), getD_lt (by omega), List.getElem_append_left (by omega)]
theorem putAll_snoc {l : List Nat} {x : Nat} : putAll (l ++ [x]) (l.length + 1) = putL x (putAll l l.length) := by
  rw [putAll, putAll_app (Nat.le_refl _)]
  congr 1
  rw [getD_lt (by simp)]; simp
/-- Sorting by insertion. -/
def insG (l : List Nat) : Nat → List Nat
  | 0 => []
  | k + 1 => insAt (insG l k) (l.getD k 0) (cutOf (fun x => (x : Int)) (insG l k) (l.getD k 0) k)
theorem insG_put {l : List Nat} (h : l.Nodup) : ∀ {k : Nat}, k ≤ l.length → insG l k = putAll l k
  | 0, _ => rfl
  | k + 1, hk => by
    rw [insG, insG_put h (by omega), putAll]
    obtain ⟨A, C, e1, e2, e3, e4⟩ := putL_split (putAll_not h hk) (putAll_up h (by omega))
    have hl : A.length + C.length = k := by rw [← List.length_append, ← e1, putAll_len]
    have hc := cut_split (f := fun x => (x : Int)) (x := l.getD k 0) A C C.length (Nat.le_refl _) (fun a ha => by have := e3 a ha; omega) (fun c hc => by have := e4 c hc; omega)
    rw [hl] at hc
    rw [e2, e1, hc, insAt]
    simp
theorem insAt_getD {x : Nat} : ∀ {l : List Nat} {k p : Nat}, k ≤ l.length → (insAt l x k).getD p 0 = if p < k then l.getD p 0 else if p = k then x else l.getD (p - 1) 0
  | l, 0, 0, _ => by simp [insAt]
  | l, 0, p + 1, _ => by simp [insAt]
  | [], k + 1, p, h => by simp at h
  | a :: t, k + 1, 0, h => by simp [insAt]
  | a :: t, k + 1, p + 1, h => by
    have ih := insAt_getD (x := x) (l := t) (k := k) (p := p) (by simpa using h)
    simp only [insAt] at ih
    simp only [insAt, List.take_succ_cons, List.drop_succ_cons, List.cons_append, List.getD_cons_succ, ih, Nat.add_sub_cancel]
    by_cases h1 : p < k
    · have h2 : p + 1 < k + 1 := by omega
      rw [if_pos h1, if_pos h2]
    · have h2 : ¬ p + 1 < k + 1 := by omega
      rw [if_neg h1, if_neg h2]
      by_cases h3 : p = k
      · have h4 : p + 1 = k + 1 := by omega
        rw [if_pos h3, if_pos h4]
      · have h4 : ¬ p + 1 = k + 1 := by omega
        rw [if_neg h3, if_neg h4]
        obtain ⟨q, rfl⟩ : ∃ q, p = q + 1 := ⟨p - 1, by omega⟩
        rfl
/-- While x goes down its way: it stands at j. -/
def stG (l : List Nat) (x j i p : Nat) : Nat := if p ≤ i then (if p < j then l.getD p 0 else if p = j then x else l.getD (p - 1) 0) else p
theorem stG_start {l : List Nat} {i p : Nat} (hp : p < i) : stG l i i i p = l.getD p 0 := by unfold stG; rw [if_pos (by omega), if_pos hp]
theorem stG_start' {l : List Nat} {i p : Nat} (hp : i ≤ p) : stG l i i i p = p := by
  unfold stG
  by_cases e : p ≤ i
  · obtain rfl : p = i := by omega
    rw [if_pos e, if_neg (by omega), if_pos rfl]
  · rw [if_neg e]
theorem stG_step {l : List Nat} {x q i p : Nat} (hq : q + 1 ≤ i) : (if p = q then x else if p = q + 1 then l.getD q 0 else stG l x (q + 1) i p) = stG l x q i p := by
  unfold stG
  by_cases h1 : p = q
  · subst h1; rw [if_pos rfl, if_pos (by omega), if_neg (by omega), if_pos rfl]
  · rw [if_neg h1]
    by_cases h2 : p = q + 1
    · subst h2; rw [if_pos rfl, if_pos (by omega), if_neg (by omega), if_neg (by omega)]; rfl
    · rw [if_neg h2]
      by_cases h3 : p ≤ i
      · rw [if_pos h3, if_pos h3]
        by_cases h4 : p < q
        · rw [if_pos (by omega), if_pos h4]
        · rw [if_neg (by omega), if_neg h2, if_neg h4, if_neg h1]
      · rw [if_neg h3, if_neg h3]
theorem stG_end {f : Nat → Int} {i j p : Nat} (hj : j ≤ i) (hc : cutOf f (insL f i) i i = j) : stG (insL f i) i j i p = if p < i + 1 then (insL f (i + 1)).getD p 0 else p := by
  unfold stG
  by_cases h : p ≤ i
  · have h2 : p < i + 1 := by omega
    rw [if_pos h, if_pos h2, insL, hc, insAt_getD (by rw [insL_len]; exact hj)]
  · have h2 : ¬ p < i + 1 := by omega
    rw [if_neg h, if_neg h2]
end Go.Proofs.Yteklalbjlmkagaa
