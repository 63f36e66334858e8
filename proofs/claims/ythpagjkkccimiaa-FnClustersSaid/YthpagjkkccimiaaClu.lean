/- Clusters: the plain law. -/
import Derived.Test.YthpagjkkccimiaaLib
namespace Go.Proofs.Ythpagjkkccimiaa
set_option linter.unusedVariables false
set_option linter.unusedSimpArgs false

/-! links -/
def Lnk (r : Nat → Nat → Bool) (i k : Nat) : Prop := (i < k ∧ r i k = true) ∨ (k < i ∧ r k i = true)
theorem Lnk.symm {r : Nat → Nat → Bool} {i k : Nat} (h : Lnk r i k) : Lnk r k i := by
  rcases h with h | h
  · exact .inr h
  · exact .inl h
instance (r : Nat → Nat → Bool) (i k : Nat) : Decidable (Lnk r i k) := by unfold Lnk; infer_instance
/-- Joined by links among the first n. -/
inductive Con (n : Nat) (r : Nat → Nat → Bool) : Nat → Nat → Prop
  | refl (i : Nat) : Con n r i i
  | step {i j k : Nat} : Con n r i j → j < n → k < n → Lnk r j k → Con n r i k
theorem Con.trans {n : Nat} {r : Nat → Nat → Bool} {i j k : Nat} (h : Con n r i j) (h' : Con n r j k) : Con n r i k := by
  induction h' with
  | refl => exact h
  | step _ a b c ih => exact .step ih a b c
theorem Con.symm {n : Nat} {r : Nat → Nat → Bool} {i j : Nat} (h : Con n r i j) : Con n r j i := by
  induction h with
  | refl => exact .refl _
  | step _ a b c ih => exact Con.trans (.step (.refl _) b a c.symm) ih
theorem Con.lt {n : Nat} {r : Nat → Nat → Bool} {i j : Nat} (h : Con n r i j) (hi : i < n) : j < n := by
  induction h with
  | refl => exact hi
  | step _ _ b _ _ => exact b
theorem Con.mono {n m : Nat} {r q : Nat → Nat → Bool} {i j : Nat} (h : Con n r i j) (hnm : n ≤ m) (hr : ∀ a b, a < b → b < n → r a b = true → q a b = true) : Con m q i j := by
  induction h with
  | refl => exact .refl _
  | step _ a b c ih =>
    refine .step ih (by omega) (by omega) ?_
    rcases c with ⟨c1, c2⟩ | ⟨c1, c2⟩
    · exact .inl ⟨c1, hr _ _ c1 b c2⟩
    · exact .inr ⟨c1, hr _ _ c1 a c2⟩
/-- g tells for each its smallest one. -/
def IsMin (n : Nat) (r : Nat → Nat → Bool) (g : Nat → Nat) : Prop := ∀ i, i < n → Con n r i (g i) ∧ ∀ j, Con n r i j → g i ≤ j
theorem IsMin.one {n : Nat} {r : Nat → Nat → Bool} {f g : Nat → Nat} (hf : IsMin n r f) (hg : IsMin n r g) : ∀ i, i < n → f i = g i := by
  intro i hi
  have h1 := (hf i hi).2 _ (hg i hi).1
  have h2 := (hg i hi).2 _ (hf i hi).1
  omega
theorem IsMin.same {n : Nat} {r : Nat → Nat → Bool} {g : Nat → Nat} (h : IsMin n r g) {i j : Nat} (hi : i < n) (c : Con n r i j) : g i = g j := by
  have hj := c.lt hi
  have h1 := (h i hi).2 _ (c.trans (h j hj).1)
  have h2 := (h j hj).2 _ (c.symm.trans (h i hi).1)
  omega
theorem IsMin.con {n : Nat} {r : Nat → Nat → Bool} {g : Nat → Nat} (h : IsMin n r g) {i j : Nat} (hi : i < n) (hj : j < n) (e : g i = g j) : Con n r i j :=
  (h i hi).1.trans (by rw [e]; exact (h j hj).1.symm)
theorem IsMin.congr {n : Nat} {r : Nat → Nat → Bool} {g f : Nat → Nat} (h : IsMin n r g) (e : ∀ i, i < n → f i = g i) : IsMin n r f := fun i hi => by rw [e i hi]; exact h i hi
theorem IsMin.of_con {n m : Nat} {r q : Nat → Nat → Bool} {g : Nat → Nat} (h : IsMin n r g) (e : ∀ i j, i < m → (Con m q i j ↔ Con n r i j)) (hm : m ≤ n) : IsMin m q g := fun i hi =>
  ⟨(e i _ hi).2 (h i (by omega)).1, fun j c => (h i (by omega)).2 j ((e i j hi).1 c)⟩
/-! the reference: links one by one -/
/-- The links that have been seen when k's links from those below i have been. -/
def upR (r : Nat → Nat → Bool) (k i : Nat) (a b : Nat) : Bool := r a b && (decide (b < k) || (decide (b = k) && decide (a < i)))
theorem con_add {n : Nat} {r : Nat → Nat → Bool} {k i : Nat} {a b : Nat} (h : Con n (upR r k (i + 1)) a b) :
    Con n (upR r k i) a b ∨ (Con n (upR r k i) a i ∧ Con n (upR r k i) k b) ∨ (Con n (upR r k i) a k ∧ Con n (upR r k i) i b) := by
  induction h with
  | refl => exact .inl (.refl _)
  | @step y z c h1 h2 l ih =>
    by_cases hl : Lnk (upR r k i) y z
    · rcases ih with ih | ⟨ih, ih'⟩ | ⟨ih, ih'⟩
      · exact .inl (ih.step h1 h2 hl)
      · exact .inr (.inl ⟨ih, ih'.step h1 h2 hl⟩)
      · exact .inr (.inr ⟨ih, ih'.step h1 h2 hl⟩)
    · have hyz : (y = i ∧ z = k) ∨ (z = i ∧ y = k) := by
        unfold Lnk upR at l hl
        simp only [Bool.and_eq_true, Bool.or_eq_true, decide_eq_true_eq] at l hl
        rcases l with ⟨l1, l2, l3⟩ | ⟨l1, l2, l3⟩
        · left
          rcases l3 with l3 | ⟨l3, l4⟩
          · exact absurd (.inl ⟨l1, l2, .inl l3⟩) hl
          · by_cases e : y = i
            · exact ⟨e, l3⟩
            · exact absurd (.inl ⟨l1, l2, .inr ⟨l3, by omega⟩⟩) hl
        · right
          rcases l3 with l3 | ⟨l3, l4⟩
          · exact absurd (.inr ⟨l1, l2, .inl l3⟩) hl
          · by_cases e : z = i
            · exact ⟨e, l3⟩
            · exact absurd (.inr ⟨l1, l2, .inr ⟨l3, by omega⟩⟩) hl
      rcases hyz with ⟨rfl, rfl⟩ | ⟨rfl, rfl⟩
      · rcases ih with ih | ⟨ih, ih'⟩ | ⟨ih, ih'⟩
        · exact .inr (.inl ⟨ih, .refl _⟩)
        · exact .inr (.inl ⟨ih, .refl _⟩)
        · exact .inl ih
      · rcases ih with ih | ⟨ih, ih'⟩ | ⟨ih, ih'⟩
        · exact .inr (.inr ⟨ih, .refl _⟩)
        · exact .inl ih
        · exact .inr (.inr ⟨ih, .refl _⟩)
theorem con_up {n : Nat} {r : Nat → Nat → Bool} {k i : Nat} {a b : Nat} (h : Con n (upR r k i) a b) : Con n (upR r k (i + 1)) a b := by
  refine h.mono (Nat.le_refl _) fun x y _ _ hr => ?_
  unfold upR at hr ⊢
  simp only [Bool.and_eq_true, Bool.or_eq_true, decide_eq_true_eq] at hr ⊢
  refine ⟨hr.1, ?_⟩
  rcases hr.2 with h | h
  · exact .inl h
  · exact .inr ⟨h.1, by omega⟩
theorem con_link {n : Nat} {r : Nat → Nat → Bool} {k i : Nat} (hik : i < k) (hk : k < n) (hr : r i k = true) : Con n (upR r k (i + 1)) i k := by
  refine .step (.refl _) (by omega) hk (.inl ⟨hik, ?_⟩)
  unfold upR; simp [hr]
/-- No new link, or one within a cluster. -/
theorem min_keep {r : Nat → Nat → Bool} {g : Nat → Nat} {k i : Nat} (hik : i < k) (h : IsMin (k + 1) (upR r k i) g) (hr : r i k = false ∨ g i = g k) : IsMin (k + 1) (upR r k (i + 1)) g := by
  refine h.of_con (fun a b ha => ⟨fun c => ?_, con_up⟩) (Nat.le_refl _)
  rcases hr with hr | hr
  · refine c.mono (Nat.le_refl _) fun x y hxy _ hq => ?_
    unfold upR at hq ⊢
    simp only [Bool.and_eq_true, Bool.or_eq_true, decide_eq_true_eq] at hq ⊢
    refine ⟨hq.1, ?_⟩
    rcases hq.2 with h | ⟨h1, h2⟩
    · exact .inl h
    · refine .inr ⟨h1, ?_⟩
      by_cases e : x = i
      · subst e; subst h1; rw [hr] at hq; exact absurd hq.1 (by simp)
      · omega
  · have hc := h.con (i := i) (j := k) (by omega) (by omega) hr
    rcases con_add c with c | ⟨c1, c2⟩ | ⟨c1, c2⟩
    · exact c
    · exact c1.trans (hc.trans c2)
    · exact c1.trans (hc.symm.trans c2)
/-- A link that joins two clusters: all of the higher one get the lower number. -/
theorem min_join {r : Nat → Nat → Bool} {g : Nat → Nat} {k i : Nat} (hik : i < k) (h : IsMin (k + 1) (upR r k i) g) (hr : r i k = true) :
    IsMin (k + 1) (upR r k (i + 1)) (fun j => if g j = max (g i) (g k) then min (g i) (g k) else g j) := by
  have hl := con_link (n := k + 1) hik (by omega) hr
  intro a ha
  have h0 := h a ha
  have hi := h i (by omega); have hk := h k (by omega)
  constructor
  · show Con _ _ a (if g a = max (g i) (g k) then min (g i) (g k) else g a)
    split
    · rename_i e
      rcases Nat.le_total (g i) (g k) with hle | hle
      · have e1 : g a = g k := by omega
        have e2 : min (g i) (g k) = g i := by omega
        rw [e2]
        exact (con_up (h.con ha (by omega) e1)).trans (hl.symm.trans (con_up hi.1))
      · have e1 : g a = g i := by omega
        have e2 : min (g i) (g k) = g k := by omega
        rw [e2]
        exact (con_up (h.con ha (by omega) e1)).trans (hl.trans (con_up hk.1))
    · exact con_up h0.1
  · intro b c
    show (if g a = max (g i) (g k) then min (g i) (g k) else g a) ≤ b
    have hm : (if g a = max (g i) (g k) then min (g i) (g k) else g a) ≤ g a := by split <;> omega
    rcases con_add c with c | ⟨c1, c2⟩ | ⟨c1, c2⟩
    · have := h0.2 b c; omega
    · have e1 := h.same ha c1
      have e2 := hk.2 b c2
      split <;> omega
    · have e1 := h.same ha c1
      have e2 := hi.2 b c2
      split <;> omega
theorem min_next {r : Nat → Nat → Bool} {g f : Nat → Nat} {k : Nat} (h : IsMin k (upR r k 0) g) (e : ∀ i, i < k → f i = g i) (ek : f k = k) : IsMin (k + 1) (upR r k 0) f := by
  have hno : ∀ a b, Con (k + 1) (upR r k 0) a b → (a = k → b = k) ∧ (a < k → b < k ∧ Con k (upR r k 0) a b) := by
    intro a b c
    induction c with
    | refl => exact ⟨fun h => h, fun h => ⟨h, .refl _⟩⟩
    | @step y z _ h1 h2 l ih =>
      have : y < k ∧ z < k := by
        unfold Lnk upR at l
        simp at l
        omega
      exact ⟨fun e => by have := ih.1 e; omega, fun e => ⟨this.2, (ih.2 e).2.step this.1 this.2 l⟩⟩
  intro a ha
  by_cases ea : a = k
  · subst ea
    rw [ek]
    exact ⟨.refl _, fun j c => by have := (hno _ _ c).1 rfl; omega⟩
  · have ha' : a < k := by omega
    rw [e a ha']
    exact ⟨(h a ha').1.mono (by omega) (fun _ _ _ _ h => h), fun j c => (h a ha').2 j ((hno _ _ c).2 ha').2⟩
theorem up_succ {r : Nat → Nat → Bool} {g : Nat → Nat} {k : Nat} (h : IsMin (k + 1) (upR r k k) g) : IsMin (k + 1) (upR r (k + 1) 0) g := by
  refine h.of_con (fun a b _ => ⟨fun c => c.mono (Nat.le_refl _) fun x y hxy hy hr => ?_, fun c => c.mono (Nat.le_refl _) fun x y hxy hy hr => ?_⟩) (Nat.le_refl _)
  all_goals
    unfold upR at hr ⊢
    simp at hr ⊢
    exact ⟨hr.1, by omega⟩
theorem up_all {r : Nat → Nat → Bool} {g : Nat → Nat} {n : Nat} (h : IsMin n (upR r n 0) g) : IsMin n r g := by
  refine h.of_con (fun a b _ => ⟨fun c => c.mono (Nat.le_refl _) fun x y hxy hy hr => ?_, fun c => c.mono (Nat.le_refl _) fun x y hxy hy hr => ?_⟩) (Nat.le_refl _)
  · unfold upR; simp [hr, hy]
  · unfold upR at hr; simp at hr; exact hr.1
theorem min_zero (r : Nat → Nat → Bool) (g : Nat → Nat) : IsMin 0 (upR r 0 0) g := fun i hi => absurd hi (by omega)
/-! the program: rounds over all links -/
/-- Labels stay within the cluster. -/
def Snd (n : Nat) (r : Nat → Nat → Bool) (g : Nat → Nat) : Prop := ∀ i, i < n → Con n r i (g i)
/-- Within t links of m. -/
def near (n : Nat) (r : Nat → Nat → Bool) (m : Nat) : Nat → Nat → Bool
  | 0, i => decide (i = m)
  | t + 1, i => near n r m t i || (List.range n).any fun j => near n r m t j && decide (Lnk r j i)
def isLow (n : Nat) (r : Nat → Nat → Bool) (m : Nat) : Prop := ∀ j, Con n r m j → m ≤ j
def Prg (n : Nat) (r : Nat → Nat → Bool) (t : Nat) (g : Nat → Nat) : Prop := ∀ m i, m < n → isLow n r m → i < n → near n r m t i = true → g i = m
theorem near_con {n : Nat} {r : Nat → Nat → Bool} {m : Nat} (hm : m < n) : ∀ {t i : Nat}, i < n → near n r m t i = true → Con n r m i
  | 0, i, hi, h => by simp [near] at h; rw [h]; exact .refl _
  | t + 1, i, hi, h => by
    simp only [near, Bool.or_eq_true, List.any_eq_true, List.mem_range, Bool.and_eq_true, decide_eq_true_eq] at h
    rcases h with h | ⟨j, hj, h1, h2⟩
    · exact near_con hm hi h
    · exact (near_con hm hj h1).step hj hi h2
/-- Joining i and k. -/
def joinG (g : Nat → Nat) (i k : Nat) (x : Nat) : Nat := if x = i ∨ x = k then min (g i) (g k) else g x
theorem low_le {n : Nat} {r : Nat → Nat → Bool} {g : Nat → Nat} (hs : Snd n r g) {m i : Nat} (hl : isLow n r m) (hi : i < n) (c : Con n r m i) : m ≤ g i := hl _ (c.trans (hs i hi))
theorem snd_join {n : Nat} {r : Nat → Nat → Bool} {g : Nat → Nat} (hs : Snd n r g) {i k : Nat} (hik : i < k) (hk : k < n) (hr : r i k = true) : Snd n r (joinG g i k) := by
  have hl : Con n r i k := .step (.refl _) (by omega) hk (.inl ⟨hik, hr⟩)
  have h1 := hs i (by omega); have h2 := hs k hk
  intro x hx
  unfold joinG
  split
  · rename_i e
    rcases Nat.le_total (g i) (g k) with hle | hle
    · rw [Nat.min_eq_left hle]
      rcases e with rfl | rfl
      · exact h1
      · exact hl.symm.trans h1
    · rw [Nat.min_eq_right hle]
      rcases e with rfl | rfl
      · exact hl.trans h2
      · exact h2
  · exact hs x hx
theorem low_join {n : Nat} {r : Nat → Nat → Bool} {g : Nat → Nat} (hs : Snd n r g) {i k : Nat} (hik : i < k) (hk : k < n) (hr : r i k = true) {m x : Nat} (hl : isLow n r m) (hx : x < n) (c : Con n r m x) (h : g x = m) : joinG g i k x = m := by
  have hl' : Con n r i k := .step (.refl _) (by omega) hk (.inl ⟨hik, hr⟩)
  unfold joinG
  split
  · rename_i e
    have h1 : m ≤ g i := low_le hs hl (by omega) (by rcases e with rfl | rfl; exact c; exact c.trans hl'.symm)
    have h2 : m ≤ g k := low_le hs hl hk (by rcases e with rfl | rfl; exact c.trans hl'; exact c)
    rcases e with rfl | rfl <;> omega
  · exact h
/-- Within a round: the links ahead of (a, b) have been seen. -/
def Rnd (n : Nat) (r : Nat → Nat → Bool) (t : Nat) (a b : Nat) (g : Nat → Nat) : Prop :=
  Snd n r g ∧ Prg n r t g ∧ ∀ i k, i < k → k < n → r i k = true → (i < a ∨ (i = a ∧ k < b)) → ∀ m, m < n → isLow n r m → (near n r m t i = true ∨ near n r m t k = true) → g i = m ∧ g k = m
theorem Rnd.start {n : Nat} {r : Nat → Nat → Bool} {t : Nat} {g : Nat → Nat} (hs : Snd n r g) (hp : Prg n r t g) : Rnd n r t 0 0 g := ⟨hs, hp, fun i k _ _ _ h => by omega⟩
theorem Rnd.next {n : Nat} {r : Nat → Nat → Bool} {t a b : Nat} {g : Nat → Nat} (h : Rnd n r t a b g) (hb : n ≤ b) : Rnd n r t (a + 1) (a + 2) g :=
  ⟨h.1, h.2.1, fun i k h1 h2 h3 h4 => h.2.2 i k h1 h2 h3 (by omega)⟩
theorem Rnd.begin {n : Nat} {r : Nat → Nat → Bool} {t a b : Nat} {g : Nat → Nat} (h : Rnd n r t a b g) (hb : b ≤ a + 1) : Rnd n r t a (a + 1) g :=
  ⟨h.1, h.2.1, fun i k h1 h2 h3 h4 => h.2.2 i k h1 h2 h3 (by omega)⟩
theorem Rnd.skip {n : Nat} {r : Nat → Nat → Bool} {t a b : Nat} {g : Nat → Nat} (h : Rnd n r t a b g) (hr : r a b = false) : Rnd n r t a (b + 1) g :=
  ⟨h.1, h.2.1, fun i k h1 h2 h3 h4 => by
    by_cases e : i = a ∧ k = b
    · obtain ⟨rfl, rfl⟩ := e; rw [hr] at h3; cases h3
    · exact h.2.2 i k h1 h2 h3 (by omega)⟩
theorem Rnd.join {n : Nat} {r : Nat → Nat → Bool} {t a b : Nat} {g : Nat → Nat} (h : Rnd n r t a b g) (hab : a < b) (hb : b < n) (hr : r a b = true) : Rnd n r t a (b + 1) (joinG g a b) := by
  have hl' : Con n r a b := .step (.refl _) (by omega) hb (.inl ⟨hab, hr⟩)
  refine ⟨snd_join h.1 hab hb hr, fun m i hm hl hi hn => low_join h.1 hab hb hr hl hi (near_con hm hi hn) (h.2.1 m i hm hl hi hn), fun i k h1 h2 h3 h4 m hm hl hn => ?_⟩
  have hc : Con n r i k := .step (.refl _) (by omega) h2 (.inl ⟨h1, h3⟩)
  have ci : Con n r m i := by
    rcases hn with hn | hn
    · exact near_con hm (by omega) hn
    · exact (near_con hm h2 hn).trans hc.symm
  by_cases e : i = a ∧ k = b
  · obtain ⟨rfl, rfl⟩ := e
    have g1 := low_le h.1 hl (by omega) ci
    have g2 := low_le h.1 hl hb (ci.trans hl')
    have : g i = m ∨ g k = m := by
      rcases hn with hn | hn
      · exact .inl (h.2.1 m i hm hl (by omega) hn)
      · exact .inr (h.2.1 m k hm hl h2 hn)
    unfold joinG
    rw [if_pos (.inl rfl), if_pos (.inr rfl)]
    omega
  · obtain ⟨e1, e2⟩ := h.2.2 i k h1 h2 h3 (by omega) m hm hl hn
    exact ⟨low_join h.1 hab hb hr hl (by omega) ci e1, low_join h.1 hab hb hr hl h2 (ci.trans hc) e2⟩
theorem Rnd.done {n : Nat} {r : Nat → Nat → Bool} {t b : Nat} {g : Nat → Nat} (h : Rnd n r t n b g) : Prg n r (t + 1) g := by
  intro m i hm hl hi hn
  simp only [near, Bool.or_eq_true, List.any_eq_true, List.mem_range, Bool.and_eq_true, decide_eq_true_eq] at hn
  rcases hn with hn | ⟨j, hj, h1, h2⟩
  · exact h.2.1 m i hm hl hi hn
  · rcases h2 with ⟨h2, h3⟩ | ⟨h2, h3⟩
    · exact (h.2.2 j i h2 hi h3 (by omega) m hm hl (.inl h1)).2
    · exact (h.2.2 i j h2 hj h3 (by omega) m hm hl (.inr h1)).1
/-! n rounds are enough -/
def cnt (n : Nat) (p : Nat → Bool) : Nat := (List.range n).countP p
theorem cnt_le (n : Nat) (p : Nat → Bool) : cnt n p ≤ n := by
  have := List.countP_le_length (p := p) (l := List.range n)
  simpa [cnt] using this
theorem cnt_lt {p q : Nat → Bool} (hpq : ∀ i, p i = true → q i = true) : ∀ {n : Nat}, (∃ i, i < n ∧ p i = false ∧ q i = true) → cnt n p < cnt n q
  | 0, ⟨i, hi, _⟩ => absurd hi (by omega)
  | n + 1, ⟨i, hi, h1, h2⟩ => by
    have hm : cnt n p ≤ cnt n q := List.countP_mono_left (fun x _ => hpq x)
    simp only [cnt, List.range_succ, List.countP_append, List.countP_singleton] at hm ⊢
    by_cases e : i = n
    · subst e; rw [h1, h2]; simp; omega
    · have := cnt_lt hpq (n := n) ⟨i, by omega, h1, h2⟩
      simp only [cnt] at this
      have h3 : (if p n = true then 1 else 0) ≤ (if q n = true then 1 else 0) := by
        by_cases hp : p n = true
        · rw [if_pos hp, if_pos (hpq n hp)]; exact Nat.le_refl _
        · rw [if_neg hp]; omega
      omega
theorem near_mono {n : Nat} {r : Nat → Nat → Bool} {m t i : Nat} (h : near n r m t i = true) : near n r m (t + 1) i = true := by
  simp only [near, Bool.or_eq_true]; exact .inl h
theorem near_stop {n : Nat} {r : Nat → Nat → Bool} {m : Nat} (hm : m < n) : ∀ t, (∃ s, s < t ∧ ∀ i, i < n → near n r m (s + 1) i = true → near n r m s i = true) ∨ t + 1 ≤ cnt n (near n r m t)
  | 0 => by
    right
    have := cnt_lt (p := fun _ => false) (q := near n r m 0) (by simp) (n := n) ⟨m, hm, rfl, by simp [near]⟩
    omega
  | t + 1 => by
    rcases near_stop hm t with ⟨s, hs, h⟩ | h
    · exact .inl ⟨s, by omega, h⟩
    · by_cases e : ∀ i, i < n → near n r m (t + 1) i = true → near n r m t i = true
      · exact .inl ⟨t, by omega, e⟩
      · right
        have : ∃ i, i < n ∧ near n r m t i = false ∧ near n r m (t + 1) i = true := by
          refine Classical.byContradiction fun hc => e fun i hi h1 => Classical.byContradiction fun h2 => hc ⟨i, hi, by simpa using h2, h1⟩
        have := cnt_lt (p := near n r m t) (q := near n r m (t + 1)) (fun i h => near_mono h) this
        omega
theorem near_le {n : Nat} {r : Nat → Nat → Bool} {m s i : Nat} : ∀ {t : Nat}, s ≤ t → near n r m s i = true → near n r m t i = true
  | 0, h, hs => by obtain rfl : s = 0 := by omega
                   exact hs
  | t + 1, h, hs => by
    by_cases e : s = t + 1
    · subst e; exact hs
    · exact near_mono (near_le (by omega) hs)
theorem near_all {n : Nat} {r : Nat → Nat → Bool} {m i : Nat} (hm : m < n) (c : Con n r m i) : near n r m n i = true := by
  rcases near_stop (r := r) hm n with ⟨s, hs, h⟩ | h
  · refine near_le (s := s) (by omega) ?_
    induction c with
    | refl => exact near_le (Nat.zero_le _) (by simp [near])
    | step c a b l ih =>
      refine h _ b ?_
      simp only [near, Bool.or_eq_true, List.any_eq_true, List.mem_range, Bool.and_eq_true, decide_eq_true_eq]
      exact .inr ⟨_, a, ih, l⟩
  · have := cnt_le n (near n r m n); omega
theorem low_of {n : Nat} {r : Nat → Nat → Bool} (i : Nat) (hi : i < n) : ∃ m, m < n ∧ Con n r i m ∧ isLow n r m := by
  induction i using Nat.strongRecOn with
  | ind i ih =>
    by_cases h : ∃ j, j < i ∧ Con n r i j
    · obtain ⟨j, h1, h2⟩ := h
      obtain ⟨m, h3, h4, h5⟩ := ih j h1 (by omega)
      exact ⟨m, h3, h2.trans h4, h5⟩
    · exact ⟨i, hi, .refl _, fun j c => Classical.byContradiction fun hc => h ⟨j, by omega, c⟩⟩
theorem min_of_prg {n : Nat} {r : Nat → Nat → Bool} {g : Nat → Nat} (hs : Snd n r g) (hp : Prg n r n g) : IsMin n r g := by
  intro i hi
  refine ⟨hs i hi, fun j c => ?_⟩
  obtain ⟨m, h1, h2, h3⟩ := low_of (r := r) i hi
  have := hp m i h1 h3 hi (near_all h1 h2.symm)
  rw [this]
  exact h3 j (h2.symm.trans c)
theorem prg_zero (n : Nat) (r : Nat → Nat → Bool) : Prg n r 0 (fun i => i) := fun m i _ _ _ h => by simpa [near] using h
theorem snd_zero (n : Nat) (r : Nat → Nat → Bool) : Snd n r (fun i => i) := fun i _ => .refl _
end Go.Proofs.Ythpagjkkccimiaa
