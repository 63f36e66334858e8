/- FnCrossings: the plain laws: segments meet in any order of their ends; the nearest bend is the nearest. -/
import Derived.Test.YtbpeamjgddikjaaFltN
import Derived.Test.YtbpeamjgddikjaaMeet
namespace Go.Proofs.Ytbpeamjgddikjaa
open Go.RowKit
set_option linter.unusedVariables false
set_option linter.unusedSimpArgs false

theorem sgn_neg (n : Int) : sgn (-n) = - sgn n := by
  unfold sgn
  by_cases h1 : 0 < n
  · rw [if_neg (by omega), if_pos (by omega), if_pos h1]
  · by_cases h2 : n < 0
    · rw [if_pos (by omega), if_neg h1, if_pos h2]; rfl
    · rw [if_neg (by omega), if_neg (by omega), if_neg h1, if_neg h2]; rfl
theorem side_swap (ax ay bx b2 px py : Int) : sideI bx b2 ax ay px py = - sideI ax ay bx b2 px py := by
  unfold sideI
  rw [← sgn_neg]
  congr 1
  obtain ⟨u, hu⟩ : ∃ u, bx - ax = u := ⟨_, rfl⟩
  obtain ⟨v, hv⟩ : ∃ v, b2 - ay = v := ⟨_, rfl⟩
  obtain ⟨s, hs⟩ : ∃ s, px - ax = s := ⟨_, rfl⟩
  obtain ⟨t, ht⟩ : ∃ t, py - ay = t := ⟨_, rfl⟩
  rw [show ax - bx = -u by omega, show py - b2 = t - v by omega, show ay - b2 = -v by omega, show px - bx = s - u by omega, hu, hv, hs, ht]
  rw [Int.neg_mul, Int.neg_mul, Int.mul_sub, Int.mul_sub, Int.mul_comm v u]
  omega
theorem side_end (ax ay bx b2 : Int) : sideI ax ay bx b2 bx b2 = 0 := by
  unfold sideI
  rw [Int.mul_comm (b2 - ay) (bx - ax), Int.sub_self]
  rfl
theorem box_swap (ax ay bx b2 px py : Int) : boxB bx b2 ax ay px py = boxB ax ay bx b2 px py := by
  unfold boxB
  rw [show min bx ax = min ax bx by omega, show max bx ax = max ax bx by omega, show min b2 ay = min ay b2 by omega, show max b2 ay = max ay b2 by omega]
theorem box_end (ax ay bx b2 : Int) : boxB ax ay bx b2 bx b2 = true := by
  unfold boxB inB
  simp only [Bool.and_eq_true, decide_eq_true_eq]
  omega
theorem dec_neg (p : Int) : decide (-p = 0) = decide (p = 0) := by
  by_cases h : p = 0
  · subst h; rfl
  · rw [decide_eq_false h, decide_eq_false (by omega)]
theorem meet_turn (ax ay bx b2 cx cy dx dy : Int) : meetB dx dy cx cy ax ay bx b2 = meetB ax ay bx b2 cx cy dx dy := by
  unfold meetB
  rw [side_swap cx cy dx dy ax ay, side_swap cx cy dx dy bx b2, box_swap cx cy dx dy ax ay, box_swap cx cy dx dy bx b2]
  unfold meetV
  rw [dec_neg, dec_neg, Int.neg_mul_neg, Int.mul_comm (sideI ax ay bx b2 dx dy)]
  generalize (decide (sideI cx cy dx dy ax ay = 0) && boxB cx cy dx dy ax ay) = A
  generalize (decide (sideI cx cy dx dy bx b2 = 0) && boxB cx cy dx dy bx b2) = B
  generalize (decide (sideI ax ay bx b2 dx dy = 0) && boxB ax ay bx b2 dx dy) = C
  generalize (decide (sideI ax ay bx b2 cx cy = 0) && boxB ax ay bx b2 cx cy) = D
  generalize decide (sideI cx cy dx dy ax ay * sideI cx cy dx dy bx b2 < 0) = E
  generalize decide (sideI ax ay bx b2 cx cy * sideI ax ay bx b2 dx dy < 0) = F
  cases A <;> cases B <;> cases C <;> cases D <;> cases E <;> cases F <;> rfl
theorem meet_flip (ax ay bx b2 cx cy dx dy : Int) : meetB bx b2 ax ay cx cy dx dy = meetB ax ay bx b2 cx cy dx dy := by
  unfold meetB
  rw [side_swap ax ay bx b2 cx cy, side_swap ax ay bx b2 dx dy, box_swap ax ay bx b2 cx cy, box_swap ax ay bx b2 dx dy]
  unfold meetV
  rw [dec_neg, dec_neg, Int.neg_mul_neg, Int.mul_comm (sideI cx cy dx dy bx b2)]
  generalize (decide (sideI cx cy dx dy ax ay = 0) && boxB cx cy dx dy ax ay) = A
  generalize (decide (sideI cx cy dx dy bx b2 = 0) && boxB cx cy dx dy bx b2) = B
  generalize (decide (sideI ax ay bx b2 dx dy = 0) && boxB ax ay bx b2 dx dy) = C
  generalize (decide (sideI ax ay bx b2 cx cy = 0) && boxB ax ay bx b2 cx cy) = D
  generalize decide (sideI cx cy dx dy ax ay * sideI cx cy dx dy bx b2 < 0) = E
  generalize decide (sideI ax ay bx b2 cx cy * sideI ax ay bx b2 dx dy < 0) = F
  cases A <;> cases B <;> cases C <;> cases D <;> cases E <;> cases F <;> rfl
theorem meet_common (ax ay bx b2 cx cy : Int) : meetB ax ay bx b2 bx b2 cx cy = true := by
  unfold meetB meetV
  rw [side_end, box_end]
  rfl
theorem seg_swap (ax ay bx b2 : Int) : segB bx b2 ax ay = segB ax ay bx b2 := by
  unfold segB
  rw [Bool.and_comm (plB bx b2), show decide (bx = ax) = decide (ax = bx) by simp [eq_comm], show decide (b2 = ay) = decide (ay = b2) by simp [eq_comm]]
/-! The nearest bend. -/
/-- r is the nearest of the first k bends of faults before n, and of the first k of fault n. -/
def NbI (E : Nat → FauE) (x y : Int) (n k : Nat) (r : Int × Int × Int) : Prop :=
  (r.2.2 < 0 → n = 0 ∧ k = 0) ∧ (0 ≤ r.2.2 → (∃ i j, (i < n ∧ j < (E i).m ∨ i = n ∧ j < k) ∧ r.1 = (E i).id ∧ r.2.1 = (j : Int) ∧ r.2.2 = sqI ((E i).Y j 0) ((E i).Y j 1) x y) ∧ ∀ i j, (i < n ∧ j < (E i).m ∨ i = n ∧ j < k) → r.2.2 ≤ sqI ((E i).Y j 0) ((E i).Y j 1) x y)
theorem sqI_nn (a b x y : Int) : 0 ≤ sqI a b x y := by
  unfold sqI
  have h1 : 0 ≤ (a - x) * (a - x) := sq_nn
  have h2 : 0 ≤ (b - y) * (b - y) := sq_nn
  omega
theorem nbI_step {E : Nat → FauE} {x y : Int} {n k : Nat} {r : Int × Int × Int} (h : NbI E x y n k r) (hk : r.2.2 < 0 → True) : NbI E x y n (k + 1) (nbS r (E n).id k (sqI ((E n).Y k 0) ((E n).Y k 1) x y)) := by
  have hnn := sqI_nn ((E n).Y k 0) ((E n).Y k 1) x y
  obtain ⟨h1, h2⟩ := h
  unfold nbS
  by_cases hc : r.2.2 < 0 ∨ sqI ((E n).Y k 0) ((E n).Y k 1) x y < r.2.2
  · rw [if_pos hc]
    refine ⟨fun h => absurd h (by show ¬ sqI _ _ _ _ < 0; omega), fun _ => ⟨⟨n, k, .inr ⟨rfl, Nat.lt_succ_self _⟩, rfl, rfl, rfl⟩, fun i j hij => ?_⟩⟩
    show sqI _ _ _ _ ≤ _
    rcases hc with hc | hc
    · obtain ⟨rfl, rfl⟩ := h1 hc
      rcases hij with ⟨a, _⟩ | ⟨rfl, b⟩
      · omega
      · obtain rfl : j = 0 := by omega
        exact Int.le_refl _
    · by_cases hl : r.2.2 < 0
      · omega
      · have := (h2 (by omega)).2
        rcases hij with ⟨a, b⟩ | ⟨rfl, b⟩
        · have := this i j (.inl ⟨a, b⟩); omega
        · by_cases e : j = k
          · subst e; exact Int.le_refl _
          · have := this i j (.inr ⟨rfl, by omega⟩); omega
  · rw [if_neg hc]
    refine ⟨fun h => absurd (.inl h) hc, fun h => ?_⟩
    obtain ⟨⟨i, j, hij, e1, e2, e3⟩, h4⟩ := h2 h
    refine ⟨⟨i, j, ?_, e1, e2, e3⟩, fun a b hab => ?_⟩
    · rcases hij with hij | ⟨e, f⟩
      · exact .inl hij
      · exact .inr ⟨e, by omega⟩
    · rcases hab with hab | ⟨rfl, hb⟩
      · exact h4 a b (.inl hab)
      · by_cases e : b = k
        · subst e
          have : ¬ sqI ((E a).Y b 0) ((E a).Y b 1) x y < r.2.2 := fun e => hc (.inr e)
          omega
        · exact h4 a b (.inr ⟨rfl, by omega⟩)
theorem nbI_row {E : Nat → FauE} {x y : Int} {n : Nat} {r : Int × Int × Int} (h : NbI E x y n 0 r) : ∀ k, NbI E x y n k (nbB (E n) x y r k)
  | 0 => h
  | k + 1 => nbI_step (nbI_row h k) fun _ => trivial
theorem nbI_next {E : Nat → FauE} {x y : Int} {n : Nat} {r : Int × Int × Int} (hm : 0 < (E n).m) (h : NbI E x y n (E n).m r) : NbI E x y (n + 1) 0 r := by
  obtain ⟨h1, h2⟩ := h
  refine ⟨fun h => absurd (h1 h).2 (by omega), fun h => ?_⟩
  obtain ⟨⟨i, j, hij, e1, e2, e3⟩, h4⟩ := h2 h
  refine ⟨⟨i, j, ?_, e1, e2, e3⟩, fun a b hab => h4 a b ?_⟩
  · rcases hij with ⟨a, b⟩ | ⟨rfl, b⟩
    · exact .inl ⟨by omega, b⟩
    · exact .inl ⟨Nat.lt_succ_self _, b⟩
  · rcases hab with ⟨a1, b1⟩ | ⟨_, b1⟩
    · by_cases e : a = n
      · subst e; exact .inr ⟨rfl, b1⟩
      · exact .inl ⟨by omega, b1⟩
    · omega
theorem nbI_all {E : Nat → FauE} {x y : Int} : ∀ n, (∀ i, i < n → 0 < (E i).m) → NbI E x y n 0 (nbF E x y n)
  | 0, _ => ⟨fun _ => ⟨rfl, rfl⟩, fun h => absurd h (by show ¬ (0 : Int) ≤ -1; decide)⟩
  | n + 1, hm => nbI_next (hm n (Nat.lt_succ_self _)) (nbI_row (nbI_all n fun i hi => hm i (by omega)) _)
theorem ids_up {E : Nat → FauE} {n : Nat} (h : ∀ i, i < n → faOk E i) : ∀ {j i : Nat}, i < j → j < n → (E i).id < (E j).id
  | 0, i, hi, _ => absurd hi (by omega)
  | j + 1, i, hi, hj => by
    have h1 := (h (j + 1) hj).2 (by omega)
    rw [Nat.add_sub_cancel] at h1
    by_cases e : i = j
    · subst e; exact h1
    · have := ids_up h (show i < j by omega) (by omega); omega
/-- The fault that was told is the one of its number, its index is one of its bends, and no bend is nearer. -/
theorem near_law {E : Nat → FauE} {x y : Int} {n : Nat} (h : nbOk n E x y = true) {i : Nat} (hi : i < n) (hid : (E i).id = (nbF E x y n).1) :
    ∃ j : Nat, j < (E i).m ∧ (nbF E x y n).2.1 = (j : Int) ∧ ∀ a b, a < n → b < (E a).m → sqI ((E i).Y j 0) ((E i).Y j 1) x y ≤ sqI ((E a).Y b 0) ((E a).Y b 1) x y := by
  unfold nbOk at h
  simp only [Bool.and_eq_true, decide_eq_true_eq] at h
  obtain ⟨_, hok, _⟩ := fausB_of h.1
  have hm : ∀ i, i < n → 0 < (E i).m := fun i hi => by
    have := (fau_of (hok i hi).1).2.1
    omega
  obtain ⟨h1, h2⟩ := nbI_all (E := E) (x := x) (y := y) n hm
  have hp : 0 ≤ (nbF E x y n).2.2 := by
    by_cases hc : (nbF E x y n).2.2 < 0
    · have := (h1 hc).1; omega
    · omega
  obtain ⟨⟨a, b, hab, e1, e2, e3⟩, h4⟩ := h2 hp
  have hab2 : a < n ∧ b < (E a).m := by
    rcases hab with h | ⟨_, h⟩
    · exact h
    · omega
  have hai : a = i := by
    rw [e1] at hid
    rcases Nat.lt_trichotomy a i with h | h | h
    · have := ids_up hok h hi; omega
    · exact h
    · have := ids_up hok h hab2.1; omega
  subst hai
  exact ⟨b, hab2.2, e2, fun c d hc hd => by rw [← e3]; exact h4 c d (.inl ⟨hc, hd⟩)⟩
end Go.Proofs.Ytbpeamjgddikjaa
