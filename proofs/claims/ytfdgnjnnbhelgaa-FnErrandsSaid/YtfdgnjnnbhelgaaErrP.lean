/- Chapter 23's great laws: the plain part. -/
import Derived.Test.YtfdgnjnnbhelgaaFewM
import Derived.Test.YtfdgnjnnbhelgaaUrg
import Derived.Test.YtfdgnjnnbhelgaaVisN
namespace Go.Proofs.Ytfdgnjnnbhelgaa
set_option linter.unusedVariables false
set_option linter.unusedSimpArgs false

/-! The time that a list of errands takes. -/
def tS (X : Nat → Nat → Int) : List Nat → Int
  | [] => 0
  | a :: t => 1 + X a 1 + tS X t
theorem tS_app (X : Nat → Nat → Int) : ∀ (l m : List Nat), tS X (l ++ m) = tS X l + tS X m
  | [], m => by simp [tS]
  | a :: t, m => by rw [List.cons_append, tS, tS, tS_app X t m]; omega
theorem endH_list (X Y : Nat → Nat → Int) : ∀ k, endH X Y k = tS X ((List.range k).map fun i => (Y i 0).toNat)
  | 0 => rfl
  | k + 1 => by
    rw [List.range_succ, List.map_append, tS_app, endH, endH_list X Y k]
    simp [tS]; omega
theorem range_take (l : List Nat) : ∀ {k}, k ≤ l.length → (List.range k).map (fun i => (keptY l i 0).toNat) = l.take k
  | 0, _ => rfl
  | k + 1, hk => by
    rw [List.range_succ, List.map_append, range_take l (by omega), List.take_succ_eq_append_getElem (by omega)]
    simp [keptY, List.getD, (by omega : k < l.length)]
theorem endH_kept (X : Nat → Nat → Int) {l : List Nat} {k : Nat} (h : k ≤ l.length) : endH X (keptY l) k = tS X (l.take k) := by
  rw [endH_list, range_take l h]
theorem getD_memE {l : List Nat} {k : Nat} (h : k < l.length) : l.getD k 0 ∈ l := by simp [List.getD, h]
theorem take_succE {l : List Nat} {k : Nat} (h : k < l.length) : l.take (k + 1) = l.take k ++ [l.getD k 0] := by
  rw [List.take_succ_eq_append_getElem (by omega)]; simp [List.getD, h]
theorem tS_erase {X : Nat → Nat → Int} : ∀ {l : List Nat} {x : Nat}, x ∈ l → tS X l = 1 + X x 1 + tS X (l.erase x)
  | a :: t, x, h => by
    by_cases e : a = x
    · subst e; rw [List.erase_cons_head, tS]
    · rcases List.mem_cons.1 h with h | h
      · exact absurd h.symm e
      · rw [List.erase_cons_tail (by simpa using e), tS, tS, tS_erase h]; omega
theorem tS_nn {X : Nat → Nat → Int} : ∀ {l : List Nat}, (∀ x, x ∈ l → 0 ≤ X x 1) → 0 ≤ tS X l
  | [], _ => by simp [tS]
  | a :: t, h => by
    have h1 := h a (List.mem_cons_self ..)
    have h2 := tS_nn (X := X) (l := t) (fun x hx => h x (List.mem_cons_of_mem _ hx))
    rw [tS]; omega
theorem tS_sub {X : Nat → Nat → Int} : ∀ {a b : List Nat}, a.Nodup → (∀ x, x ∈ a → x ∈ b) → (∀ x, x ∈ b → 0 ≤ X x 1) → tS X a ≤ tS X b
  | [], b, _, _, h => tS_nn h
  | x :: t, b, hn, hm, h => by
    have h1 := hm x (List.mem_cons_self ..)
    have hn2 := List.nodup_cons.1 hn
    have h2 := tS_sub (X := X) (a := t) (b := b.erase x) hn2.2 (fun y hy => (List.mem_erase_of_ne (fun e => hn2.1 (by rw [← e]; exact hy))).2 (hm y (List.mem_cons_of_mem _ hy))) (fun y hy => h y (List.mem_of_mem_erase hy))
    rw [tS_erase h1, tS]; omega
theorem inj_leE : ∀ {a b : List Nat}, a.Nodup → (∀ x, x ∈ a → x ∈ b) → a.length ≤ b.length
  | [], b, _, _ => Nat.zero_le _
  | x :: t, b, hn, hm => by
    have h1 := hm x (List.mem_cons_self ..)
    have hn2 := List.nodup_cons.1 hn
    have h2 := inj_leE (a := t) (b := b.erase x) hn2.2 (fun y hy => (List.mem_erase_of_ne (fun e => hn2.1 (by rw [← e]; exact hy))).2 (hm y (List.mem_cons_of_mem _ hy)))
    rw [List.length_erase_of_mem h1] at h2
    have h3 := List.length_pos_of_mem h1
    simp only [List.length_cons]; omega
theorem all_in {l : List Nat} {n x : Nat} (hn : l.Nodup) (hl : ∀ y, y ∈ l → y < n) (he : l.length = n) (hx : x < n) : x ∈ l := by
  by_cases h : x ∈ l
  · exact h
  · have h1 := inj_leE (a := x :: l) (b := List.range n) (List.nodup_cons.2 ⟨h, hn⟩) (fun y hy => by
      rw [List.mem_range]
      rcases List.mem_cons.1 hy with rfl | hy
      · exact hx
      · exact hl y hy)
    simp at h1; omega
/-! The order of deadlines. -/
theorem bks_pair {f : Nat → Int} {lo : Int} {n : Nat} : ∀ V : Nat, (bks f lo n V).Pairwise (fun a b => f a ≤ f b)
  | 0 => by simp [bks]
  | V + 1 => by
    rw [bks, List.pairwise_append]
    refine ⟨bks_pair V, ?_, fun a ha b hb => ?_⟩
    · refine List.Pairwise.imp_of_mem ?_ (List.nodup_range.filter _ : (List.filter (fun i => decide (f i = lo + V)) (List.range n)).Nodup)
      intro a b ha hb _
      have h1 := (List.mem_filter.1 ha).2; have h2 := (List.mem_filter.1 hb).2
      simp only [decide_eq_true_eq] at h1 h2
      omega
    · have h1 := bks_lt ha
      have h2 := (List.mem_filter.1 hb).2
      simp only [decide_eq_true_eq] at h2
      omega
theorem ins_pair {n : Nat} {X : Nat → Nat → Int} (h : ∀ i, i < n → errOk X i) : (insL (fun i => X i 3) n).Pairwise (fun a b => X a 3 ≤ X b 3) := by
  rw [bks_len (f := fun i => X i 3) (lo := 1) (V := 200) (fun i hi => by have := err_of (h i hi); omega)]
  exact bks_pair 200
theorem ins_up {n : Nat} {X : Nat → Nat → Int} (h : ∀ i, i < n → errOk X i) {i j : Nat} (hij : i < j) (hj : j < n) : X ((insL (fun i => X i 3) n).getD i 0) 3 ≤ X ((insL (fun i => X i 3) n).getD j 0) 3 := by
  have hl : (insL (fun i => X i 3) n).length = n := insL_len _ n
  have h1 := List.pairwise_iff_getElem.1 (ins_pair h) i j (by omega) (by omega) hij
  rw [getD_lt (by omega), getD_lt (by omega)]
  exact h1
theorem take_up {n : Nat} {X : Nat → Nat → Int} (h : ∀ i, i < n → errOk X i) {k x : Nat} (hk : k < n) (hx : x ∈ (insL (fun i => X i 3) n).take (k + 1)) : X x 3 ≤ X ((insL (fun i => X i 3) n).getD k 0) 3 := by
  have hl : (insL (fun i => X i 3) n).length = n := insL_len _ n
  obtain ⟨i, hi, rfl⟩ := List.mem_iff_getElem.1 hx
  rw [List.length_take] at hi
  rw [List.getElem_take]
  by_cases e : i = k
  · subst e; rw [getD_lt (by omega)]; exact Int.le_refl _
  · have := ins_up h (i := i) (j := k) (by omega) hk
    rw [getD_lt (by omega)] at this
    exact this
/-! Plans as lists. -/
theorem plan_list {n : Nat} {l : List Nat} (h : ∀ x, x ∈ l → x < n) (hn : l.Nodup) : planB n l.length (keptY l) = true := by
  have h1 : allIn n l.length (keptY l) = true := decide_eq_true fun i hi => by
    have := h _ (getD_memE hi)
    unfold keptY inB; simp only [Bool.and_eq_true, decide_eq_true_eq]; omega
  have h2 : diffB l.length (keptY l) = true := decide_eq_true fun i hi j hj e => by
    have : j = i := nodup_getD hn (by omega) hi (by unfold keptY at e; omega)
    omega
  unfold planB; rw [h1, h2]; rfl
def planL (Y : Nat → Nat → Int) (m : Nat) : List Nat := (List.range m).map fun i => (Y i 0).toNat
theorem planL_len (Y : Nat → Nat → Int) (m : Nat) : (planL Y m).length = m := by simp [planL]
theorem planL_get {Y : Nat → Nat → Int} {m i : Nat} (h : i < m) : (planL Y m).getD i 0 = (Y i 0).toNat := by simp [planL, List.getD, h]
theorem plan_nodup {n m : Nat} {Y : Nat → Nat → Int} (h : planB n m Y = true) : (planL Y m).Nodup ∧ ∀ x, x ∈ planL Y m → x < n := by
  unfold planB at h
  rw [Bool.and_eq_true] at h
  have h1 := allIn_of h.1
  have h2 := of_decide_eq_true h.2
  refine ⟨List.pairwise_iff_getElem.2 fun i j hi hj hij => ?_, fun x hx => ?_⟩
  · rw [planL_len] at hi hj
    have := h2 j hj i hij
    have a := h1 i hi; have b := h1 j hj
    simp only [planL, List.getElem_map, List.getElem_range]
    omega
  · obtain ⟨i, hi, rfl⟩ := List.mem_map.1 hx
    have := h1 i (List.mem_range.1 hi)
    omega
/-! The plan by deadlines is least late. -/
theorem most_le {X Y : Nat → Nat → Int} {M : Int} (hM : 0 ≤ M) : ∀ {m}, (∀ k, k < m → endH X Y (k + 1) - X (Y k 0).toNat 3 ≤ M) → mostL X Y m ≤ M
  | 0, _ => by simpa [mostL] using hM
  | m + 1, h => by
    have h1 := most_le hM (m := m) (fun k hk => h k (by omega))
    have h2 := h m (by omega)
    rw [mostL]; omega
theorem le_most {X Y : Nat → Nat → Int} : ∀ {m k}, k < m → endH X Y (k + 1) - X (Y k 0).toNat 3 ≤ mostL X Y m
  | m + 1, k, hk => by
    rw [mostL]
    by_cases e : k = m
    · subst e; omega
    · have := le_most (X := X) (Y := Y) (m := m) (k := k) (by omega); omega
theorem most_nn (X Y : Nat → Nat → Int) : ∀ m, 0 ≤ mostL X Y m
  | 0 => by simp [mostL]
  | m + 1 => by have := most_nn X Y m; rw [mostL]; omega
theorem last_idx {P : Nat → Prop} : ∀ {n : Nat}, (∃ i, i < n ∧ P i) → ∃ p, p < n ∧ P p ∧ ∀ j, p < j → j < n → ¬ P j
  | 0, ⟨i, hi, _⟩ => absurd hi (by omega)
  | n + 1, ⟨i, hi, h⟩ => by
    by_cases hn : P n
    · exact ⟨n, by omega, hn, fun j h1 h2 => by omega⟩
    · have hi2 : i < n := by
        rcases (by omega : i < n ∨ i = n) with h1 | h1
        · exact h1
        · exact absurd (h1 ▸ h) hn
      obtain ⟨p, h1, h2, h3⟩ := last_idx (P := P) (n := n) ⟨i, hi2, h⟩
      refine ⟨p, by omega, h2, fun j h4 h5 => ?_⟩
      by_cases e : j = n
      · exact e ▸ hn
      · exact h3 j h4 (by omega)
theorem edd_least {n : Nat} {X Y : Nat → Nat → Int} (hX : ∀ i, i < n → errOk X i) (hY : planB n n Y = true) : mostL X (keptY (insL (fun i => X i 3) n)) n ≤ mostL X Y n := by
  obtain ⟨o, ho⟩ : ∃ o, o = insL (fun i => X i 3) n := ⟨_, rfl⟩
  have hol : o.length = n := by rw [ho]; exact insL_len _ n
  have hon : o.Nodup := by rw [ho]; exact insL_nodup
  have hom : ∀ x, x ∈ o → x < n := fun x hx => mem_insL.1 (ho ▸ hx)
  obtain ⟨hn, hl⟩ := plan_nodup hY
  have hlen := planL_len Y n
  rw [← ho]
  refine most_le (most_nn _ _ _) fun k hk => ?_
  have hS : (o.take (k + 1)).Nodup := hon.sublist (List.take_sublist _ _)
  obtain ⟨p, hp, hpS, hlast⟩ := last_idx (P := fun i => (Y i 0).toNat ∈ o.take (k + 1)) (n := n) (by
    have h1 : o.getD k 0 ∈ planL Y n := all_in hn hl hlen (hom _ (getD_memE (by omega)))
    obtain ⟨i, hi, e⟩ := List.mem_map.1 h1
    refine ⟨i, List.mem_range.1 hi, ?_⟩
    show (Y i 0).toNat ∈ o.take (k + 1)
    rw [e, take_succE (by omega)]
    exact List.mem_append_right _ (List.mem_singleton.2 rfl))
  have h1 : tS X (o.take (k + 1)) ≤ tS X (planL Y (p + 1)) := by
    refine tS_sub hS (fun x hx => ?_) (fun x hx => ?_)
    · have hxn : x ∈ planL Y n := all_in hn hl hlen (hom x (List.mem_of_mem_take hx))
      obtain ⟨i, hi, e⟩ := List.mem_map.1 hxn
      have hi := List.mem_range.1 hi
      refine List.mem_map.2 ⟨i, List.mem_range.2 ?_, e⟩
      by_cases h2 : i < p + 1
      · exact h2
      · exact absurd (by rw [e]; exact hx) (hlast i (by omega) hi)
    · obtain ⟨i, hi, e⟩ := List.mem_map.1 hx
      have hi := List.mem_range.1 hi
      have h2 := hl x (List.mem_map.2 ⟨i, List.mem_range.2 (by omega), e⟩)
      have := err_of (hX x h2); omega
  have h2 : X ((Y p 0).toNat) 3 ≤ X (o.getD k 0) 3 := by
    have := take_up hX hk (ho ▸ hpS)
    rw [← ho] at this; exact this
  have h3 := le_most (X := X) (Y := Y) hp
  have h4 : endH X Y (p + 1) = tS X (planL Y (p + 1)) := endH_list X Y (p + 1)
  have h5 : endH X (keptY o) (k + 1) = tS X (o.take (k + 1)) := endH_kept X (by omega)
  have h6 : (keptY o k 0).toNat = o.getD k 0 := by simp [keptY]
  rw [h5, h6]
  omega
theorem late_most {X Y : Nat → Nat → Int} : ∀ m, (0 < mostL X Y m ↔ 0 < (lateL X Y m).length)
  | 0 => by simp [mostL, lateL]
  | m + 1 => by
    have ih := late_most (X := X) (Y := Y) m
    rw [mostL, lateL]
    split
    next h => simp; omega
    next h => rw [← ih]; omega
/-! Errands left out. -/
def OnT (X : Nat → Nat → Int) : Int → List Nat → Prop
  | _, [] => True
  | e, a :: t => e + (1 + X a 1) ≤ X a 3 ∧ OnT X (e + (1 + X a 1)) t
theorem OnT.mono {X : Nat → Nat → Int} : ∀ {l : List Nat} {e e' : Int}, OnT X e l → e' ≤ e → OnT X e' l
  | [], _, _, _, _ => trivial
  | a :: t, e, e', h, he => ⟨by have := h.1; omega, h.2.mono (by omega)⟩
theorem onT_app {X : Nat → Nat → Int} : ∀ {l m : List Nat} {e : Int}, OnT X e (l ++ m) ↔ OnT X e l ∧ OnT X (e + tS X l) m
  | [], m, e => by simp [OnT, tS]
  | a :: t, m, e => by
    rw [List.cons_append]
    simp only [OnT, tS]
    rw [onT_app, and_assoc, show e + (1 + X a 1) + tS X t = e + (1 + X a 1 + tS X t) from by omega]
theorem onT_one {X : Nat → Nat → Int} {e : Int} {i : Nat} : OnT X e [i] ↔ e + (1 + X i 1) ≤ X i 3 := by simp [OnT]
theorem onT_late {X : Nat → Nat → Int} {l : List Nat} (h : OnT X 0 l) : ∀ {k}, k ≤ l.length → lateL X (keptY l) k = []
  | 0, _ => rfl
  | k + 1, hk => by
    have h2 : (keptY l k 0).toNat = l.getD k 0 := by simp [keptY]
    have h3 : OnT X 0 (l.take (k + 1) ++ l.drop (k + 1)) := by rw [List.take_append_drop]; exact h
    have h4 := (onT_app.1 h3).1
    rw [take_succE (by omega)] at h4
    have h5 := onT_one.1 (onT_app.1 h4).2
    rw [lateL, onT_late h (by omega), h2, endH_kept X hk, take_succE (by omega), tS_app, if_neg]
    simp only [tS]; omega
theorem worst_max {X : Nat → Nat → Int} {l : List Nat} : ∀ {k j : Nat}, j < k → X (l.getD j 0) 1 ≤ X (l.getD (worstOf X l k) 0) 1
  | k + 1, j, hj => by
    rw [worstOf]
    by_cases e : j = k
    · subst e; split <;> omega
    · have := worst_max (X := X) (l := l) (k := k) (j := j) (by omega)
      split <;> omega
theorem erase_split {l : List Nat} {w : Nat} (h : w < l.length) : l = l.take w ++ l.getD w 0 :: l.drop (w + 1) ∧ l.eraseIdx w = l.take w ++ l.drop (w + 1) := by
  refine ⟨?_, List.eraseIdx_eq_take_drop_succ l w⟩
  rw [getD_lt h]
  conv => lhs; rw [← List.take_append_drop w l, List.drop_eq_getElem_cons h]
theorem fw_onT {n : Nat} {X : Nat → Nat → Int} (hX : ∀ i, i < n → errOk X i) : ∀ {q}, q ≤ n → OnT X 0 (fwS X (insL (fun i => X i 3) n) q).1
  | 0, _ => trivial
  | q + 1, hq => by
    have ih := fw_onT hX (q := q) (by omega)
    have hol : (insL (fun i => X i 3) n).length = n := insL_len _ n
    have hmem : ∀ x, x ∈ (fwS X (insL (fun i => X i 3) n) q).1 → x ∈ (insL (fun i => X i 3) n).take (q + 1) := fun x hx => by
      have := (fw_perm (X := X) (order := insL (fun i => X i 3) n) (q := q) (by omega)).mem_iff (a := x)
      have h1 := this.1 (List.mem_append_left _ hx)
      rw [take_succE (by omega)]
      exact List.mem_append_left _ h1
    have hXn : ∀ x, x ∈ insL (fun i => X i 3) n → 1 ≤ X x 1 := fun x hx => (err_of (hX x (mem_insL.1 hx))).2.2.1
    obtain ⟨l, hl⟩ : ∃ l, l = (fwS X (insL (fun i => X i 3) n) q).1 := ⟨_, rfl⟩
    rw [← hl] at ih hmem
    obtain ⟨i, hi⟩ : ∃ i, i = (insL (fun i => X i 3) n).getD q 0 := ⟨_, rfl⟩
    have hup : ∀ x, x ∈ l → X x 3 ≤ X i 3 := fun x hx => by
      rw [hi]; exact take_up hX (by omega) (hmem x hx)
    by_cases h : endH X (keptY (l ++ [i])) (l ++ [i]).length ≤ X i 3
    · rw [fwS_keep (kp := l ++ [i]) (by rw [hl, hi]) (by rw [← hi]; exact h)]
      rw [endH_kept X (Nat.le_refl _), List.take_length, tS_app] at h
      simp only [tS] at h
      exact onT_app.2 ⟨ih, onT_one.2 (by omega)⟩
    · rw [fwS_drop (kp := l ++ [i]) (by rw [hl, hi]) (by rw [← hi]; exact h)]
      obtain ⟨w, hw⟩ : ∃ w, w = worstOf X (l ++ [i]) (l ++ [i]).length := ⟨_, rfl⟩
      have hwl : w < (l ++ [i]).length := by
        rw [hw]
        have := worst_lt X (l ++ [i]) l.length
        simpa using this
      have hmax : X i 1 ≤ X ((l ++ [i]).getD w 0) 1 := by
        have := worst_max (X := X) (l := l ++ [i]) (k := (l ++ [i]).length) (j := l.length) (by simp)
        rw [← hw] at this
        have e : (l ++ [i]).getD l.length 0 = i := by simp [List.getD]
        rwa [e] at this
      rw [← hw]
      obtain ⟨h1, h2⟩ := erase_split hwl
      show OnT X 0 ((l ++ [i]).eraseIdx w)
      by_cases e : w = l.length
      · have : (l ++ [i]).eraseIdx w = l := by rw [e]; simp [List.eraseIdx_append_of_length_le]
        rw [this]; exact ih
      · have hwl2 : w < l.length := by simp at hwl; omega
        have e1 : (l ++ [i]).getD w 0 = l.getD w 0 := by simp [List.getD, List.getElem?_append, hwl2]
        have e2 : (l ++ [i]).eraseIdx w = l.take w ++ l.drop (w + 1) ++ [i] := by
          rw [List.eraseIdx_append_of_lt_length hwl2, (erase_split hwl2).2]
        have e3 := (erase_split hwl2).1
        rw [e2]
        have ih2 := ih
        rw [e3] at ih2
        have a1 := onT_app.1 ih2
        have a2 := a1.2
        simp only [OnT] at a2
        have hx1 : 1 ≤ X (l.getD w 0) 1 := hXn _ (List.mem_of_mem_take (hmem _ (getD_memE hwl2)))
        have b1 : OnT X 0 (l.take w ++ l.drop (w + 1)) := onT_app.2 ⟨a1.1, a2.2.mono (by omega)⟩
        refine onT_app.2 ⟨b1, onT_one.2 ?_⟩
        have c1 : tS X l = tS X (l.take w) + (1 + X (l.getD w 0) 1 + tS X (l.drop (w + 1))) := by
          conv => lhs; rw [e3]
          rw [tS_app, tS]
        have c2 : tS X l ≤ X i 3 := by
          obtain ⟨r, hr⟩ : ∃ r, l.length = r + 1 := ⟨l.length - 1, by omega⟩
          have d1 : l = l.take r ++ [l.getD r 0] := by
            rw [← take_succE (by omega), ← hr, List.take_length]
          have d2 := ih
          rw [d1] at d2
          have d3 := onT_one.1 (onT_app.1 d2).2
          have d4 := hup _ (getD_memE (l := l) (k := r) (by omega))
          rw [d1, tS_app]; simp only [tS]; omega
        rw [tS_app]
        rw [e1] at hmax
        omega
theorem erase_filter : ∀ {l : List Nat} {w : Nat}, l.Nodup → w < l.length → l.eraseIdx w = l.filter fun x => decide (x ≠ l.getD w 0)
  | a :: t, 0, hn, _ => by
    have h := (List.nodup_cons.1 hn).1
    have h2 : t.filter (fun x => decide (x ≠ a)) = t := List.filter_eq_self.2 fun x hx => by
      simp only [decide_eq_true_eq]; exact fun e => h (e ▸ hx)
    simp only [List.eraseIdx_cons_zero, List.getD_cons_zero]
    rw [List.filter_cons, h2]; simp
  | a :: t, w + 1, hn, hw => by
    have h := (List.nodup_cons.1 hn)
    have hw2 : w < t.length := by simpa using hw
    have ih := erase_filter h.2 hw2
    simp only [List.eraseIdx_cons_succ, List.getD_cons_succ]
    rw [List.filter_cons, if_pos (by simp only [decide_eq_true_eq]; exact fun e => h.1 (e ▸ getD_memE hw2)), ih]
theorem fw_kept {X : Nat → Nat → Int} {order : List Nat} (hn : order.Nodup) : ∀ {q}, q ≤ order.length → (fwS X order q).1 = (order.take q).filter fun x => decide (x ∉ (fwS X order q).2)
  | 0, _ => by simp [fwS]
  | q + 1, hq => by
    have ih := fw_kept (X := X) hn (q := q) (by omega)
    have hperm := fw_perm (X := X) (order := order) (q := q) (by omega)
    obtain ⟨l, hl⟩ : ∃ l, l = (fwS X order q).1 := ⟨_, rfl⟩
    obtain ⟨m, hm⟩ : ∃ m, m = (fwS X order q).2 := ⟨_, rfl⟩
    rw [← hl, ← hm] at ih hperm
    obtain ⟨i, hi⟩ : ∃ i, i = order.getD q 0 := ⟨_, rfl⟩
    have hnt : (order.take (q + 1)).Nodup := hn.sublist (List.take_sublist _ _)
    have hts := take_succE (l := order) (k := q) (by omega)
    rw [← hi] at hts
    have hit : i ∉ order.take q := by
      rw [hts, List.nodup_append] at hnt
      intro h
      exact hnt.2.2 i h i (List.mem_singleton.2 rfl) rfl
    have him : i ∉ m := fun h => hit (hperm.mem_iff.1 (List.mem_append_right _ h))
    have hkp : l ++ [i] = (order.take (q + 1)).filter fun x => decide (x ∉ m) := by
      rw [hts, List.filter_append, ← ih]; simp [him]
    by_cases h : endH X (keptY (l ++ [i])) (l ++ [i]).length ≤ X i 3
    · rw [fwS_keep (kp := l ++ [i]) (by rw [hl, hi]) (by rw [← hi]; exact h), ← hm]
      exact hkp
    · rw [fwS_drop (kp := l ++ [i]) (by rw [hl, hi]) (by rw [← hi]; exact h), ← hm]
      obtain ⟨w, hw⟩ : ∃ w, w = worstOf X (l ++ [i]) (l ++ [i]).length := ⟨_, rfl⟩
      have hwl : w < (l ++ [i]).length := by
        rw [hw]
        have := worst_lt X (l ++ [i]) l.length
        simpa using this
      rw [← hw]
      have hnk : (l ++ [i]).Nodup := by rw [hkp]; exact hnt.filter _
      show (l ++ [i]).eraseIdx w = _
      rw [erase_filter hnk hwl]
      obtain ⟨z, hz⟩ : ∃ z, z = (l ++ [i]).getD w 0 := ⟨_, rfl⟩
      rw [← hz, hkp, List.filter_filter]
      apply List.filter_congr
      intro x _
      simp only [List.mem_append, List.mem_singleton]
      by_cases h1 : x = z <;> by_cases h2 : x ∈ m <;> simp [h1, h2]
theorem fw_late {n : Nat} {X : Nat → Nat → Int} (hX : ∀ i, i < n → errOk X i) : ∀ {q}, q ≤ n → (fwS X (insL (fun i => X i 3) n) q).2.length ≤ (lateL X (keptY (insL (fun i => X i 3) n)) q).length
  | 0, _ => by simp [fwS, lateL]
  | q + 1, hq => by
    have ih := fw_late hX (q := q) (by omega)
    obtain ⟨o, ho⟩ : ∃ o, o = insL (fun i => X i 3) n := ⟨_, rfl⟩
    have hol : o.length = n := by rw [ho]; exact insL_len _ n
    have hon : o.Nodup := by rw [ho]; exact insL_nodup
    have hom : ∀ x, x ∈ o → x < n := fun x hx => mem_insL.1 (ho ▸ hx)
    rw [← ho] at ih ⊢
    have hperm := fw_perm (X := X) (order := o) (q := q) (by omega)
    have hlate : (lateL X (keptY o) q).length ≤ (lateL X (keptY o) (q + 1)).length := by
      rw [lateL]; split <;> simp
    obtain ⟨l, hl⟩ : ∃ l, l = (fwS X o q).1 := ⟨_, rfl⟩
    obtain ⟨i, hi⟩ : ∃ i, i = o.getD q 0 := ⟨_, rfl⟩
    rw [← hl] at hperm
    by_cases h : endH X (keptY (l ++ [i])) (l ++ [i]).length ≤ X i 3
    · rw [fwS_keep (kp := l ++ [i]) (by rw [hl, hi]) (by rw [← hi]; exact h)]
      show (fwS X o q).2.length ≤ _
      omega
    · rw [fwS_drop (kp := l ++ [i]) (by rw [hl, hi]) (by rw [← hi]; exact h)]
      have hts := take_succE (l := o) (k := q) (by omega)
      rw [← hi] at hts
      have hsub : ∀ x, x ∈ l ++ [i] → x ∈ o.take (q + 1) := fun x hx => by
        rw [hts]
        rcases List.mem_append.1 hx with hx | hx
        · exact List.mem_append_left _ (hperm.mem_iff.1 (List.mem_append_left _ hx))
        · exact List.mem_append_right _ hx
      have hnd : (l ++ [i]).Nodup := by
        have h1 : (o.take (q + 1)).Nodup := hon.sublist (List.take_sublist _ _)
        rw [hts] at h1
        have h2 := (hperm.append_right [i]).nodup_iff.2 h1
        rw [List.append_assoc] at h2
        refine h2.sublist ?_
        refine List.Sublist.append (List.Sublist.refl l) ?_
        exact List.sublist_append_right _ _
      have hle := tS_sub (X := X) hnd hsub (fun x hx => by have := err_of (hX x (hom x (List.mem_of_mem_take hx))); omega)
      rw [endH_kept X (Nat.le_refl _), List.take_length] at h
      have e2 : (keptY o q 0).toNat = i := by simp [keptY, hi]
      have hl2 : (lateL X (keptY o) (q + 1)).length = (lateL X (keptY o) q).length + 1 := by
        rw [lateL, e2, endH_kept X (by omega), if_pos (by omega)]; simp
      rw [hl2]
      show ((fwS X o q).2 ++ [_]).length ≤ _
      simp; omega
/-! Urgent errands fit into the hours. -/
theorem urgS_end {X : Nat → Nat → Int} {H : Int} : ∀ (l : List Nat) (s : List Nat × Int), s.2 = tS X s.1 → (l.foldl (stepU X H) s).2 = tS X (l.foldl (stepU X H) s).1
  | [], s, h => h
  | i :: t, s, h => by
    rw [List.foldl_cons]
    refine urgS_end t _ ?_
    unfold stepU
    split
    · show s.2 + 1 + X i 1 = tS X (s.1 ++ [i])
      rw [tS_app]; simp only [tS]; omega
    · exact h
theorem foldU_sub {X : Nat → Nat → Int} {H : Int} : ∀ (l : List Nat) (s : List Nat × Int), ((l.foldl (stepU X H) s).1).Sublist (s.1 ++ l)
  | [], s => by simp
  | i :: t, s => by
    rw [List.foldl_cons]
    refine (foldU_sub t _).trans ?_
    unfold stepU
    split
    · show ((s.1 ++ [i]) ++ t).Sublist _
      simp
    · exact List.Sublist.append (List.Sublist.refl _) (List.sublist_cons_self _ _)
theorem urg_sub (n : Nat) (X : Nat → Nat → Int) (H : Int) : (urgL n X H).Sublist (insL (keyU n X) n) := by
  have := foldU_sub (X := X) (H := H) (insL (keyU n X) n) ([], 0)
  simpa [urgL, urgS] using this
theorem urg_plan (n : Nat) (X : Nat → Nat → Int) (H : Int) : planB n (urgL n X H).length (keptY (urgL n X H)) = true :=
  plan_list (fun x hx => mem_insL.1 ((urg_sub n X H).subset hx)) (insL_nodup.sublist (urg_sub n X H))
theorem urg_end {n : Nat} {X : Nat → Nat → Int} {H : Int} (hH : 0 ≤ H) (h : ∀ i, i < n → errOk X i) : endH X (keptY (urgL n X H)) (urgL n X H).length ≤ H := by
  rw [endH_kept X (Nat.le_refl _), List.take_length]
  have h1 := urgS_end (X := X) (H := H) (insL (keyU n X) n) ([], 0) rfl
  have h2 := (urgS_bd (X := X) hH (l := insL (keyU n X) n) (fun i hi => by have := err_of (h i (mem_insL.1 hi)); omega)).2.1
  have h3 : (urgS X H (insL (keyU n X) n)).2 = tS X (urgL n X H) := h1
  omega
/-! Hours by rank. -/
def smE (f : Nat → Int) : Nat → Int
  | 0 => 0
  | k + 1 => smE f k + f k
def hrT (X : Nat → Nat → Int) : Nat → Int
  | 0 => 0
  | k + 1 => hrT X k + X k 1
theorem hrs_sum {X : Nat → Nat → Int} : ∀ {k : Nat}, (∀ i, i < k → errOk X i) → smE (hrs X k) 5 = hrT X k
  | 0, _ => by simp [smE, hrs, hrT]
  | k + 1, h => by
    have ih := hrs_sum (X := X) (k := k) (fun i hi => h i (by omega))
    have he := err_of (h k (by omega))
    simp only [smE, hrs, hrT] at ih ⊢
    rcases (by omega : X k 2 = 1 ∨ X k 2 = 2 ∨ X k 2 = 3 ∨ X k 2 = 4 ∨ X k 2 = 5) with e | e | e | e | e <;> simp [e] <;> omega
theorem hrT_bd {X : Nat → Nat → Int} : ∀ {k : Nat}, (∀ i, i < k → errOk X i) → 0 ≤ hrT X k ∧ hrT X k ≤ 12 * k
  | 0, _ => by simp [hrT]
  | k + 1, h => by
    have ih := hrT_bd (X := X) (k := k) (fun i hi => h i (by omega))
    have he := err_of (h k (by omega))
    simp only [hrT]; omega
end Go.Proofs.Ytfdgnjnnbhelgaa
