/- Chapter 17: plain law: lists of numbers that go up. -/
import Derived.Test.YteklalbjlmkagaaSrt
import Derived.Test.YteklalbjlmkagaaSort
namespace Go.Proofs.Yteklalbjlmkagaa
open Go.RowKit
set_option linter.unusedVariables false
set_option linter.unusedSimpArgs false

theorem asc_ext : ∀ {a b : List Nat}, a.Pairwise (· < ·) → b.Pairwise (· < ·) → (∀ x, x ∈ a ↔ x ∈ b) → a = b
  | [], [], _, _, _ => rfl
  | [], y :: b, _, _, h => absurd ((h y).2 (List.mem_cons_self ..)) (by simp)
  | x :: a, [], _, _, h => absurd ((h x).1 (List.mem_cons_self ..)) (by simp)
  | x :: a, y :: b, ha, hb, h => by
    rw [List.pairwise_cons] at ha hb
    have hxy : x = y := by
      have h1 := (h x).1 (List.mem_cons_self ..)
      have h2 := (h y).2 (List.mem_cons_self ..)
      rcases List.mem_cons.1 h1 with e | e
      · exact e
      · rcases List.mem_cons.1 h2 with f | f
        · exact f.symm
        · have := ha.1 y f; have := hb.1 x e; omega
    subst hxy
    congr 1
    refine asc_ext ha.2 hb.2 fun z => ⟨fun hz => ?_, fun hz => ?_⟩
    · rcases List.mem_cons.1 ((h z).1 (List.mem_cons_of_mem _ hz)) with e | e
      · have := ha.1 z hz; omega
      · exact e
    · rcases List.mem_cons.1 ((h z).2 (List.mem_cons_of_mem _ hz)) with e | e
      · have := hb.1 z hz; omega
      · exact e
theorem asc_nodup {l : List Nat} (h : l.Pairwise (· < ·)) : l.Nodup := List.Pairwise.imp (fun hab => Nat.ne_of_lt hab) h
theorem split_le (x : Nat) : ∀ {L : List Nat}, L.Pairwise (· ≤ ·) → ∃ A C, L = A ++ C ∧ (∀ a, a ∈ A → a ≤ x) ∧ ∀ c, c ∈ C → x < c
  | [], _ => ⟨[], [], rfl, by simp, by simp⟩
  | y :: L, h => by
    rw [List.pairwise_cons] at h
    by_cases hy : y ≤ x
    · obtain ⟨A, C, e, h1, h2⟩ := split_le x h.2
      exact ⟨y :: A, C, by rw [e]; rfl, fun a ha => by
        rcases List.mem_cons.1 ha with f | f
        · rw [f]; exact hy
        · exact h1 a f, h2⟩
    · exact ⟨[], y :: L, rfl, by simp, fun c hc => by
        rcases List.mem_cons.1 hc with f | f
        · omega
        · have := h.1 c f; omega⟩
theorem insG_up (l : List Nat) : ∀ k, (insG l k).Pairwise (· ≤ ·)
  | 0 => List.Pairwise.nil
  | k + 1 => by
    obtain ⟨A, C, e, h1, h2⟩ := split_le (l.getD k 0) (insG_up l k)
    have hk : A.length + C.length = k := by have := insG_len l k; rw [e, List.length_append] at this; exact this
    have hc : cutOf (fun x => (x : Int)) (insG l k) (l.getD k 0) k = A.length := by
      have := cut_split (f := fun x => (x : Int)) (x := l.getD k 0) A C C.length (Nat.le_refl _) (fun a ha => by have := h1 a ha; omega) (fun c hc => by have := h2 c hc; omega)
      rw [hk] at this
      rw [e]
      exact this
    rw [insG, hc, insAt, e, List.take_left, List.drop_left]
    have hu := insG_up l k
    rw [e, List.pairwise_append] at hu
    refine List.pairwise_append.2 ⟨hu.1, List.pairwise_cons.2 ⟨fun c hc => Nat.le_of_lt (h2 c hc), hu.2.1⟩, fun a ha b hb => ?_⟩
    rcases List.mem_cons.1 hb with f | f
    · rw [f]; exact h1 a ha
    · exact hu.2.2 a ha b f
theorem mem_insG {l : List Nat} {x : Nat} : ∀ {k : Nat}, x ∈ insG l k ↔ ∃ j, j < k ∧ x = l.getD j 0
  | 0 => by simp [insG]
  | k + 1 => by
    rw [insG, mem_insAt, mem_insG]
    constructor
    · rintro (h | ⟨j, hj, h⟩)
      · exact ⟨k, Nat.lt_succ_self _, h⟩
      · exact ⟨j, by omega, h⟩
    · rintro ⟨j, hj, h⟩
      by_cases e : j = k
      · subst e; exact .inl h
      · exact .inr ⟨j, by omega, h⟩
/-- The numbers of a list that goes up, each once. -/
def compS (S : List Nat) : Nat → List Nat
  | 0 => []
  | k + 1 => if 0 < k ∧ S.getD k 0 = S.getD (k - 1) 0 then compS S k else compS S k ++ [S.getD k 0]
theorem compS_le (S : List Nat) : ∀ k, (compS S k).length ≤ k
  | 0 => Nat.le_refl _
  | k + 1 => by
    have := compS_le S k
    rw [compS]; split <;> (try simp only [List.length_append, List.length_cons, List.length_nil]) <;> omega
theorem mem_compS {S : List Nat} {x : Nat} : ∀ {k : Nat}, x ∈ compS S k ↔ ∃ j, j < k ∧ x = S.getD j 0
  | 0 => by simp [compS]
  | k + 1 => by
    rw [compS]
    split
    · next h =>
      rw [mem_compS]
      constructor
      · rintro ⟨j, hj, e⟩; exact ⟨j, by omega, e⟩
      · rintro ⟨j, hj, e⟩
        by_cases f : j = k
        · subst f; exact ⟨j - 1, by omega, by rw [e, h.2]⟩
        · exact ⟨j, by omega, e⟩
    · rw [List.mem_append, mem_compS, List.mem_singleton]
      constructor
      · rintro (⟨j, hj, e⟩ | e)
        · exact ⟨j, by omega, e⟩
        · exact ⟨k, by omega, e⟩
      · rintro ⟨j, hj, e⟩
        by_cases f : j = k
        · subst f; exact .inr e
        · exact .inl ⟨j, by omega, e⟩
theorem up_getD {S : List Nat} (h : S.Pairwise (· ≤ ·)) {i j : Nat} (hij : i ≤ j) (hj : j < S.length) : S.getD i 0 ≤ S.getD j 0 := by
  by_cases e : i = j
  · subst e; exact Nat.le_refl _
  · have := List.pairwise_iff_getElem.1 h i j (by omega) hj (by omega)
    simpa [List.getD, hj, show i < S.length by omega] using this
theorem compS_up {S : List Nat} (h : S.Pairwise (· ≤ ·)) : ∀ {k : Nat}, k ≤ S.length → (compS S k).Pairwise (· < ·)
  | 0, _ => List.Pairwise.nil
  | k + 1, hk => by
    have ih := compS_up h (k := k) (by omega)
    rw [compS]
    split
    · exact ih
    · next hn =>
      refine List.pairwise_append.2 ⟨ih, by simp, fun a ha b hb => ?_⟩
      rw [List.mem_singleton] at hb
      subst hb
      obtain ⟨j, hj, e⟩ := mem_compS.1 ha
      have h1 := up_getD h (show j ≤ k - 1 by omega) (by omega)
      have h2 := up_getD h (show k - 1 ≤ k by omega) (by omega)
      have h3 : ¬ S.getD k 0 = S.getD (k - 1) 0 := fun e => hn ⟨by omega, e⟩
      omega
theorem compS_yes {S : List Nat} {k : Nat} (h0 : 0 < k) (h : S.getD k 0 = S.getD (k - 1) 0) : compS S (k + 1) = compS S k := by rw [compS, if_pos ⟨h0, h⟩]
theorem compS_no {S : List Nat} {k : Nat} (h : ¬ S.getD k 0 = S.getD (k - 1) 0) : compS S (k + 1) = compS S k ++ [S.getD k 0] := by rw [compS, if_neg (fun e => h e.2)]
/-- Where no two neighbours are the same, nothing is left out. -/
theorem compS_same {S : List Nat} : ∀ {k : Nat}, k ≤ S.length → (∀ j, 0 < j → j < k → ¬ S.getD j 0 = S.getD (j - 1) 0) → compS S k = S.take k
  | 0, _, _ => rfl
  | k + 1, hk, h => by
    have ih := compS_same (k := k) (by omega) fun j h0 hj => h j h0 (by omega)
    have e : S.take (k + 1) = S.take k ++ [S.getD k 0] := by
      rw [List.take_add_one]
      simp [List.getD, show k < S.length by omega]
    rw [compS, ih, e]
    split
    · next hn => exact absurd hn.2 (h k hn.1 (Nat.lt_succ_self _))
    · rfl
end Go.Proofs.Yteklalbjlmkagaa
