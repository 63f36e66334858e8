/- Chapter 22's law on batteries: the plain law, and contracts without cases. -/
import Derived.Test.YtfdgnjnnbhelgaaPowB
import Derived.Test.YtfdgnjnnbhelgaaPowC
import Derived.Test.YtfdgnjnnbhelgaaDaysC
import Derived.Test.YtfdgnjnnbhelgaaRv
namespace Go.Proofs.Ytfdgnjnnbhelgaa
open Go.RowKit
set_option linter.unusedVariables false
set_option linter.unusedSimpArgs false

theorem spec_least' (f nw u lo v : Int) (ok : Bool) (hv : leastV f nw u lo = (v, ok)) (w : World) :
    Calls Try.prog 11 #[.agg #[.int .i64 f, .int .i64 nw, .int .i64 u, .int .i64 lo]] w fun e w' => e = .returned (.tuple #[.int .i64 v, .bool ok]) ∧ Below w.heap.size w w' := by
  have h := spec_leastSun f nw u lo w
  rw [hv] at h; exact h
theorem impl_least' (f nw u lo v : Int) (ok : Bool) (hv : leastV f nw u lo = (v, ok)) (w : World) :
    Calls Try.prog 10 #[.agg #[.int .i64 f, .int .i64 nw, .int .i64 u, .int .i64 lo]] w fun e w' => e = .returned (.tuple #[.int .i64 v, .bool ok]) ∧ Below w.heap.size w w' := by
  have h := impl_leastSun f nw u lo w
  rw [hv] at h; exact h
theorem least_use {f nw u lo v : Int} (h : leastV f nw u lo = (v, true)) :
    batB f nw u lo = true ∧ 0 ≤ v ∧ v ≤ 1000 ∧ aRan f nw u lo v = true ∧ (0 ≤ v - 1 → aRan f nw u lo (v - 1) = false) := by
  unfold leastV at h
  split at h
  next hc =>
    obtain ⟨hb, h1, h2, h3⟩ := hc
    have hv : max 0 (u - nw) = v := by injection h
    have hbat := bat_of hb
    have := hbat.n1; have := hbat.n2; have := hbat.u1
    refine ⟨hb, by omega, by omega, ?_, fun h0 => ?_⟩
    · simp only [aRan, Bool.and_eq_true, decide_eq_true_eq]; omega
    · simp only [aRan, Bool.and_eq_false_iff, decide_eq_false_iff_not]; omega
  next => simp at h
theorem bat_to {f nw u lo : Int} (h : Bat f nw u lo) : batB f nw u lo = true := by
  obtain ⟨f1, f2, n1, n2, u1, u2, l1, l2⟩ := h
  unfold batB inB; simp only [Bool.and_eq_true, decide_eq_true_eq]; omega
theorem inB_le {x a b : Int} : inB x a b = true ↔ a ≤ x ∧ x ≤ b := by unfold inB; simp

/-- What AfterDay returns. -/
def AfterU (f nw u lo s x0 x1 x2 x3 : Int) (r ok : Bool) : Prop :=
  ((batB f nw u lo && inB s 0 1000) = true ∧ x0 = f ∧ x1 = aNow f nw u lo s ∧ x2 = u ∧ x3 = lo ∧ r = aRan f nw u lo s ∧ ok = true) ∨
  ((batB f nw u lo && inB s 0 1000) = false ∧ x0 = 0 ∧ x1 = 0 ∧ x2 = 0 ∧ x3 = 0 ∧ r = false ∧ ok = false)
theorem AfterU.ex (f nw u lo s : Int) : ∃ x0 x1 x2 x3 r ok, AfterU f nw u lo s x0 x1 x2 x3 r ok := by
  cases h : (batB f nw u lo && inB s 0 1000)
  · exact ⟨0, 0, 0, 0, false, false, .inr ⟨h, rfl, rfl, rfl, rfl, rfl, rfl⟩⟩
  · exact ⟨_, _, _, _, _, _, .inl ⟨h, rfl, rfl, rfl, rfl, rfl, rfl⟩⟩
theorem after_less {f nw u lo v x0 x1 x2 x3 : Int} {r ok : Bool} (hl : leastV f nw u lo = (v, true)) (h : AfterU f nw u lo (v - 1) x0 x1 x2 x3 r ok) : r = false := by
  obtain ⟨_, _, _, _, h5⟩ := least_use hl
  rcases h with ⟨h, _, _, _, _, rfl, _⟩ | ⟨_, _, _, _, _, rfl, _⟩
  · rw [Bool.and_eq_true, inB_le] at h
    exact h5 h.2.1
  · rfl
theorem after_least {f nw u lo v : Int} (hl : leastV f nw u lo = (v, true)) : AfterU f nw u lo v f (aNow f nw u lo v) u lo true true := by
  obtain ⟨h1, h2, h3, h4, _⟩ := least_use hl
  exact .inl ⟨by rw [h1, Bool.true_and, inB_le]; exact ⟨h2, h3⟩, rfl, rfl, rfl, rfl, h4.symm, rfl⟩
theorem spec_afterU (f nw u lo s x0 x1 x2 x3 : Int) (r ok : Bool) (h : AfterU f nw u lo s x0 x1 x2 x3 r ok) (w : World) :
    Calls Try.prog 23 #[.agg #[.int .i64 f, .int .i64 nw, .int .i64 u, .int .i64 lo], .int .i64 s] w fun e w' => e = .returned (.tuple #[.agg #[.int .i64 x0, .int .i64 x1, .int .i64 x2, .int .i64 x3], .bool r, .bool ok]) ∧ Below w.heap.size w w' := by
  rcases h with ⟨h, rfl, rfl, rfl, rfl, rfl, rfl⟩ | ⟨h, rfl, rfl, rfl, rfl, rfl, rfl⟩
  · exact spec_afterDay _ _ _ _ _ h _ _ rfl rfl w
  · exact spec_afterDayNo _ _ _ _ _ h w
theorem impl_afterU (f nw u lo s x0 x1 x2 x3 : Int) (r ok : Bool) (h : AfterU f nw u lo s x0 x1 x2 x3 r ok) (w : World) :
    Calls Try.prog 12 #[.agg #[.int .i64 f, .int .i64 nw, .int .i64 u, .int .i64 lo], .int .i64 s] w fun e w' => e = .returned (.tuple #[.agg #[.int .i64 x0, .int .i64 x1, .int .i64 x2, .int .i64 x3], .bool r, .bool ok]) ∧ Below w.heap.size w w' := by
  rcases h with ⟨h, rfl, rfl, rfl, rfl, rfl, rfl⟩ | ⟨h, rfl, rfl, rfl, rfl, rfl, rfl⟩
  · exact impl_afterDay _ _ _ _ _ h _ _ rfl rfl w
  · exact impl_afterDayNo _ _ _ _ _ h w

/-- What DarkDays returns. -/
def DarkU (f nw u lo d : Int) (told : Bool) : Prop := (told = true ∧ batB f nw u lo = true ∧ ∃ k : Nat, IsDark f nw u lo k ∧ d = k) ∨ (told = false ∧ batB f nw u lo = false ∧ d = 0)
theorem DarkU.one {f nw u lo d d' : Int} {t t' : Bool} (h : DarkU f nw u lo d t) (h' : DarkU f nw u lo d' t') : d' = d ∧ t' = t := by
  rcases h with ⟨rfl, h, k, hk, rfl⟩ | ⟨rfl, h, rfl⟩ <;> rcases h' with ⟨rfl, h', k', hk', rfl⟩ | ⟨rfl, h', rfl⟩
  · exact ⟨by rw [dark_one hk hk'], rfl⟩
  · rw [h] at h'; cases h'
  · rw [h] at h'; cases h'
  · exact ⟨rfl, rfl⟩
theorem dark_le {f nw u lo : Int} (hb : Bat f nw u lo) : ∀ {k : Nat}, (∀ i : Nat, i < k → aRan f (nw - i * u) u lo 0 = true) → (k : Int) * u ≤ nw
  | 0, _ => by have := hb.n1; simpa using this
  | k + 1, h => by
    have h1 := h k (by omega)
    simp only [aRan, Bool.and_eq_true, decide_eq_true_eq] at h1
    push_cast; rw [Int.add_mul]; omega
theorem DarkU.le {f nw u lo d : Int} (h : DarkU f nw u lo d true) : 0 ≤ d * u ∧ d * u ≤ nw ∧ 0 ≤ nw ∧ nw ≤ 10000 ∧ 0 ≤ d ∧ d ≤ 10000 := by
  rcases h with ⟨_, h, k, hk, rfl⟩ | ⟨h, _⟩
  · have hb := bat_of h
    have h1 := dark_le hb hk.1
    have := hb.f2; have := hb.n1; have := hb.n2; have := hb.u1
    have h2 : (0 : Int) ≤ k * u := Int.mul_nonneg (by omega) (by omega)
    have h3 : (k : Int) * 1 ≤ k * u := Int.mul_le_mul_of_nonneg_left (by omega) (by omega)
    refine ⟨h2, h1, by omega, by omega, by omega, by omega⟩
  · cases h
theorem spec_darkU (f nw u lo : Int) (w : World) :
    Calls Try.prog 21 #[.agg #[.int .i64 f, .int .i64 nw, .int .i64 u, .int .i64 lo]] w fun e w' => ∃ d told, e = .returned (.tuple #[.int .i64 d, .bool told]) ∧ Below w.heap.size w w' ∧ Hid (DarkU f nw u lo d told) := by
  cases hB : batB f nw u lo
  · exact (spec_darkNo _ _ _ _ hB w).mono fun e w' ⟨h, h'⟩ => ⟨0, false, h, h', .inr ⟨rfl, hB, rfl⟩⟩
  · exact (spec_dark _ _ _ _ hB w).mono fun e w' ⟨k, hk, h, h'⟩ => ⟨k, true, h, h', .inl ⟨rfl, hB, k, hk, rfl⟩⟩
theorem impl_darkU (f nw u lo : Int) (w : World) :
    Calls Try.prog 20 #[.agg #[.int .i64 f, .int .i64 nw, .int .i64 u, .int .i64 lo]] w fun e w' => ∃ d told, e = .returned (.tuple #[.int .i64 d, .bool told]) ∧ Below w.heap.size w w' ∧ Hid (DarkU f nw u lo d told) := by
  cases hB : batB f nw u lo
  · exact (impl_darkNo _ _ _ _ hB w).mono fun e w' ⟨h, h'⟩ => ⟨0, false, h, h', .inr ⟨rfl, hB, rfl⟩⟩
  · exact (impl_dark _ _ _ _ hB w).mono fun e w' ⟨k, hk, h, h'⟩ => ⟨k, true, h, h', .inl ⟨rfl, hB, k, hk, rfl⟩⟩

/-! Days one by one. -/
theorem mem_bad {f nw u lo x : Int} {X : Nat → Nat → Int} : ∀ {n : Nat}, x ∈ badD f nw u lo X n ↔ ∃ i, i < n ∧ aRan f (levD f nw u lo X i) u lo (X i 1) = false ∧ X i 0 = x
  | 0 => by simp [badD]
  | n + 1 => by
    have ih := mem_bad (f := f) (nw := nw) (u := u) (lo := lo) (x := x) (X := X) (n := n)
    simp only [badD]
    split
    next h =>
      rw [ih]
      constructor
      · rintro ⟨i, h1, h2⟩; exact ⟨i, by omega, h2⟩
      · rintro ⟨i, h1, h2, h3⟩
        by_cases hi : i = n
        · subst hi; rw [h] at h2; cases h2
        · exact ⟨i, by omega, h2, h3⟩
    next h =>
      rw [List.mem_append, ih]
      constructor
      · rintro (⟨i, h1, h2⟩ | h1)
        · exact ⟨i, by omega, h2⟩
        · rw [List.mem_singleton] at h1
          exact ⟨n, by omega, by simpa using h, h1.symm⟩
      · rintro ⟨i, h1, h2, h3⟩
        by_cases hi : i = n
        · subst hi; exact .inr (by simp [h3])
        · exact .inl ⟨i, by omega, h2, h3⟩
theorem day_at {X : Nat → Nat → Int} {n : Nat} (h : sunAll X n) : ∀ i, i < n → X i 0 = X 0 0 + i
  | 0, _ => by simp
  | i + 1, hi => by
    have h1 := (h (i + 1) hi).2.2.2.2 (by omega)
    have h2 := day_at h i (by omega)
    simp only [Nat.add_sub_cancel] at h1
    rw [h1, h2]; push_cast; omega
theorem has_bad {f nw u lo : Int} {X : Nat → Nat → Int} {n k q : Nat} (hX : sunAll X n) (hk : k < n) (hq : q = (badD f nw u lo X n).length) {r : Bool} (hr : aRan f (levD f nw u lo X k) u lo (X k 1) = r) :
    hasI (lf (badD f nw u lo X n)) q (X k 0) = !r := by
  have key : X k 0 ∈ badD f nw u lo X n ↔ r = false := by
    rw [mem_bad]
    constructor
    · rintro ⟨i, h1, h2, h3⟩
      have := day_at hX i h1; have := day_at hX k hk
      obtain rfl : i = k := by omega
      rw [← hr, h2]
    · intro h; exact ⟨k, hk, by rw [hr, h], rfl⟩
  subst hq
  cases r
  · obtain ⟨i, hi, h⟩ := List.getElem_of_mem (key.2 rfl)
    exact hasI_yes hi (by unfold lf; simp [List.getD, hi, h])
  · refine hasI_no fun i hi h => ?_
    have hm : X k 0 ∈ badD f nw u lo X n := by
      rw [← h]; unfold lf; simp [List.getD, hi]
    have := key.1 hm; cases this
end Go.Proofs.Ytfdgnjnnbhelgaa
