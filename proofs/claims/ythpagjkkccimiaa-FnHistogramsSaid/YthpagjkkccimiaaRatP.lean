/- Chapter 20's great laws: the plain part. -/
import Derived.Test.YthpagjkkccimiaaRate
import Derived.Test.YthpagjkkccimiaaWin
import Derived.Test.YthpagjkkccimiaaHist
namespace Go.Proofs.Ythpagjkkccimiaa
set_option linter.unusedVariables false
set_option linter.unusedSimpArgs false

theorem selL_fil (P : Nat → Bool) : ∀ n, selL P n = (List.range n).filter P
  | 0 => rfl
  | n + 1 => by
    rw [List.range_succ, List.filter_append, ← selL_fil P n]
    cases h : P n
    · rw [selL_no h]; simp [h]
    · rw [selL_yes h]; simp [h]
theorem map_getD (L : List Nat) : (List.range L.length).map (fun i => L.getD i 0) = L := by
  apply List.ext_getElem
  · simp
  · intro i h1 h2
    simp [List.getD, h2]
theorem sel_sel (P P' : Nat → Bool) (n : Nat) : (selL (fun i => P' ((selL P n).getD i 0)) (selL P n).length).length = (selL (fun i => P i && P' i) n).length := by
  generalize hL : selL P n = L
  have h1 : (L.filter P').length = (selL (fun i => P' (L.getD i 0)) L.length).length := by
    conv => lhs; rw [← map_getD L]
    rw [List.filter_map, List.length_map, selL_fil]
    rfl
  rw [← h1, ← hL, selL_fil, selL_fil, List.filter_filter]
  congr 2
  funext x
  exact Bool.and_comm _ _
/-- How many of the first k are large enough and within the time. -/
def rtP (X : Nat → Nat → Int) (s f t : Int) (i : Nat) : Bool := szP X s i && inB (X i 0) f t
def rtN (X : Nat → Nat → Int) (s f t : Int) (k : Nat) : Int := (selL (rtP X s f t) k).length
theorem rtN_yes {X : Nat → Nat → Int} {s f t : Int} {k : Nat} (h1 : s ≤ X k 3) (h2 : f ≤ X k 0) (h3 : X k 0 ≤ t) : rtN X s f t (k + 1) = rtN X s f t k + 1 := by
  unfold rtN
  rw [selL_yes (by simp [rtP, szP, inB, h1, h2, h3])]; simp
theorem rtN_no {X : Nat → Nat → Int} {s f t : Int} {k : Nat} (h : ¬ (s ≤ X k 3 ∧ f ≤ X k 0 ∧ X k 0 ≤ t)) : rtN X s f t (k + 1) = rtN X s f t k := by
  unfold rtN
  rw [selL_no]
  simp only [rtP, szP, inB, Bool.and_eq_false_iff, decide_eq_false_iff_not]; omega
theorem rtN_bd (X : Nat → Nat → Int) (s f t : Int) (k : Nat) : 0 ≤ rtN X s f t k ∧ rtN X s f t k ≤ k := by
  have := selL_len (rtP X s f t) k
  unfold rtN; omega
theorem rate_rt (X : Nat → Nat → Int) (s f t : Int) (n : Nat) : (rateN X s f t n : Int) = rtN X s f t n := by
  have h := sel_sel (szP X s) (fun i => inB (X i 0) f t) n
  unfold rateN rtN
  exact congrArg Int.ofNat h
theorem frac_parts {num den : Int} (h : 1 ≤ den) : ∃ g a b : Int, fracG num den = g ∧ 0 < g ∧ num = a * g ∧ den = b * g ∧ num.tdiv g = a ∧ den / g = b := by
  have hg := fracG_pos (num := num) h
  obtain ⟨g, hgg⟩ : ∃ g, fracG num den = g := ⟨_, rfl⟩
  rw [hgg] at hg
  have d1 : g ∣ num := by rw [← hgg]; unfold fracG; exact Int.dvd_trans (Int.natCast_dvd_natCast.2 (Nat.gcd_dvd_left _ _)) Int.natAbs_dvd_self
  have d2 : g ∣ den := by rw [← hgg]; unfold fracG; exact Int.dvd_trans (Int.natCast_dvd_natCast.2 (Nat.gcd_dvd_right _ _)) Int.natAbs_dvd_self
  obtain ⟨a, ha⟩ := d1; obtain ⟨b, hb⟩ := d2
  refine ⟨g, a, b, hgg, hg, by rw [ha, Int.mul_comm], by rw [hb, Int.mul_comm], ?_, ?_⟩
  · rw [ha]; exact Int.mul_tdiv_cancel_left _ (by omega)
  · rw [hb]; exact Int.mul_ediv_cancel_left _ (by omega)
theorem frac_cross {num den : Int} (h : 1 ≤ den) : num.tdiv (fracG num den) * den = num * (den / fracG num den) := by
  obtain ⟨g, a, b, e, hg, h1, h2, h3, h4⟩ := frac_parts (num := num) h
  rw [e, h3, h4, h1, h2]
  rw [← Int.mul_assoc, Int.mul_right_comm]
theorem frac_bd {num den : Int} (h0 : 0 ≤ num) (h : 1 ≤ den) : 0 ≤ num.tdiv (fracG num den) ∧ num.tdiv (fracG num den) ≤ num ∧ 1 ≤ den / fracG num den ∧ den / fracG num den ≤ den := by
  obtain ⟨g, a, b, e, hg, h1, h2, h3, h4⟩ := frac_parts (num := num) h
  rw [e, h3, h4]
  have ha : 0 ≤ a := by
    by_cases hn : 0 ≤ a
    · exact hn
    · have : a * g < 0 := Int.mul_neg_of_neg_of_pos (by omega) hg
      omega
  have hb : 0 < b := by
    by_cases hn : 0 < b
    · exact hn
    · have : b * g ≤ 0 := Int.mul_nonpos_of_nonpos_of_nonneg (by omega) (by omega)
      omega
  have l1 : a * 1 ≤ a * g := Int.mul_le_mul_of_nonneg_left (by omega) ha
  have l2 : b * 1 ≤ b * g := Int.mul_le_mul_of_nonneg_left (by omega) (by omega)
  refine ⟨ha, by omega, by omega, by omega⟩
theorem frac_ge {s num den : Int} (h : 1 ≤ den) (hs : s * den ≤ num) : s * (den / fracG num den) ≤ num.tdiv (fracG num den) := by
  obtain ⟨g, a, b, e, hg, h1, h2, h3, h4⟩ := frac_parts (num := num) h
  rw [e, h3, h4]
  rw [h1, h2, ← Int.mul_assoc] at hs
  exact Int.le_of_mul_le_mul_right hs hg
theorem frac_den {num den : Int} (h : 1 ≤ den) : 1 ≤ den / fracG num den ∧ den / fracG num den ≤ den := by
  obtain ⟨g, a, b, e, hg, h1, h2, h3, h4⟩ := frac_parts (num := num) h
  rw [e, h4]
  have hb : 0 < b := by
    by_cases hn : 0 < b
    · exact hn
    · have : b * g ≤ 0 := Int.mul_nonpos_of_nonpos_of_nonneg (by omega) (by omega)
      omega
  have l2 : b * 1 ≤ b * g := Int.mul_le_mul_of_nonneg_left (by omega) (by omega)
  omega
/-- A rate times its time is the number of quakes. -/
theorem rate_law {X : Nat → Nat → Int} {s f t : Int} {n : Nat} (h : f ≤ t) : rateA X s f t n * (t - f + 1) = rtN X s f t n * rateB X s f t n := by
  unfold rateA rateB
  rw [← rate_rt]
  exact frac_cross (by omega)
theorem rate_bd {X : Nat → Nat → Int} {s f t : Int} {n : Nat} (h : f ≤ t) : 0 ≤ rateA X s f t n ∧ rateA X s f t n ≤ n ∧ 1 ≤ rateB X s f t n ∧ rateB X s f t n ≤ t - f + 1 := by
  unfold rateA rateB
  have h1 := frac_bd (num := (rateN X s f t n : Int)) (den := t - f + 1) (by omega) (by omega)
  have h2 := rtN_bd X s f t n
  rw [← rate_rt] at h2
  omega
theorem prod_bd {a b A B : Int} (a0 : 0 ≤ a) (a1 : a ≤ A) (b0 : 0 ≤ b) (b1 : b ≤ B) : 0 ≤ a * b ∧ a * b ≤ A * B :=
  ⟨Int.mul_nonneg a0 b0, Int.mul_le_mul a1 b1 b0 (by omega)⟩

/-! Windows. -/
theorem win_self {X : Nat → Nat → Int} {wd : Int} {n i : Nat} (hw : 0 ≤ wd) (hi : i < n) : 1 ≤ winI X wd n i := by
  have h : i ∈ selL (winP X wd i) n := mem_selL.2 ⟨hi, by simp [winP, inB]; omega⟩
  have := List.length_pos_of_mem h
  unfold winI winN; omega
theorem best_max (f : Nat → Int) : ∀ {k i : Nat}, i < k → f i ≤ f (bestI f k)
  | k + 1, i, hi => by
    rw [bestI]
    by_cases e : i = k
    · subst e; split <;> omega
    · have := best_max f (k := k) (i := i) (by omega)
      split <;> omega
theorem best_in (f : Nat → Int) {n : Nat} (h : 0 < n) : bestI f n < n := by
  rcases n with _ | n
  · omega
  · exact bestI_lt f n

/-! Quiet spans. -/
theorem quB_in (f : Nat → Int) : ∀ k, 1 ≤ quB f (k + 1) ∧ (quB f (k + 2) < k + 2)
  | 0 => by
    refine ⟨by simp [quB], ?_⟩
    rw [(quB_two f).2]; omega
  | k + 1 => by
    have ih := quB_in f k
    have h1 : 1 ≤ quB f (k + 1 + 1) := by
      rw [quB]; split
      · omega
      · exact ih.1
    have h2 : quB f (k + 1 + 2) < k + 1 + 2 := by
      show quB f (k + 2 + 1) < k + 3
      rw [quB]; split
      · omega
      · have := ih.2; omega
    exact ⟨h1, h2⟩
theorem quB_lt (f : Nat → Int) {k : Nat} (h : 2 ≤ k) : 1 ≤ quB f k ∧ quB f k < k := by
  obtain ⟨k, rfl⟩ : ∃ j, k = j + 2 := ⟨k - 2, by omega⟩
  exact ⟨(quB_in f (k + 1)).1, (quB_in f k).2⟩
theorem selL_up {P : Nat → Bool} : ∀ {k i j : Nat}, i ≤ j → j < (selL P k).length → (selL P k).getD i 0 ≤ (selL P k).getD j 0
  | 0, i, j, _, hj => by simp [selL] at hj
  | k + 1, i, j, hij, hj => by
    cases h : P k
    · rw [selL_no h] at hj ⊢; exact selL_up hij hj
    · rw [selL_yes h] at hj ⊢
      simp only [List.length_append, List.length_singleton] at hj
      by_cases e : j < (selL P k).length
      · have := selL_up (P := P) (k := k) hij e
        simpa [List.getD, List.getElem?_append, e, (by omega : i < (selL P k).length)] using this
      · obtain rfl : j = (selL P k).length := by omega
        by_cases e2 : i < (selL P k).length
        · have h1 := (selL_get (P := P) (k := k) e2).1
          have h2 : (selL P k ++ [k]).getD i 0 = (selL P k).getD i 0 := by simp [List.getD, List.getElem?_append, e2]
          rw [h2]; simp [List.getD]; simp [List.getD] at h1; omega
        · obtain rfl : i = (selL P k).length := by omega
          exact Nat.le_refl _
theorem span_up {X : Nat → Nat → Int} {s : Int} {n : Nat} (h : spanOk X s n = true) : spanA X s n ≤ spanB X s n := by
  simp only [spanOk, Bool.and_eq_true, decide_eq_true_eq] at h
  obtain ⟨⟨hc, _⟩, h2⟩ := h
  obtain ⟨_, hc⟩ := catB_of hc
  have hq := quB_lt (tkS X s n) h2
  unfold spanA spanB tkS selX
  exact cat_tick hc (selL_up (by omega) hq.2) (selL_get hq.2).1
theorem span_two {X : Nat → Nat → Int} {s : Int} {n : Nat} (h : spanOk X s n = true) : (catB n X && inB s (-20) 95) = true ∧ 2 ≤ (selL (szP X s) n).length := by
  simp only [spanOk, Bool.and_eq_true, decide_eq_true_eq] at h ⊢
  exact h

/-! Histograms. -/
def smI (f : Nat → Int) : Nat → Int
  | 0 => 0
  | k + 1 => smI f k + f k
theorem smI_add (f g : Nat → Int) : ∀ k, smI (fun b => f b + g b) k = smI f k + smI g k
  | 0 => rfl
  | k + 1 => by rw [smI, smI, smI, smI_add f g k]; omega
theorem smI_one (q : Nat) : ∀ k, smI (fun b => if (q : Int) = (b : Int) then 1 else 0) k = if q < k then 1 else 0
  | 0 => by simp [smI]
  | k + 1 => by
    rw [smI, smI_one q k]
    split <;> split <;> split <;> omega
theorem hst_sum {n : Nat} {X : Nat → Nat → Int} {wd : Int} (h : catIn n X) (hw : 1 ≤ wd) : ∀ k, k ≤ n → smI (hst X wd k) 12 = k
  | 0, _ => by simp [smI, hst]
  | k + 1, hk => by
    obtain ⟨b0, b1⟩ := bin_bd h hw (show k < n by omega)
    obtain ⟨q, hq⟩ : ∃ q : Nat, binI X wd k = q := ⟨(binI X wd k).toNat, by omega⟩
    have e : hst X wd (k + 1) = fun b => hst X wd k b + (if (q : Int) = (b : Int) then 1 else 0) := by
      funext b; rw [hst, hq]
    rw [e, smI_add, hst_sum h hw k (by omega), smI_one, if_pos (by omega)]
    omega
theorem smI_bd {f : Nat → Int} {M : Int} (hM : 0 ≤ M) (h : ∀ i, 0 ≤ f i ∧ f i ≤ M) : ∀ k : Nat, 0 ≤ smI f k ∧ smI f k ≤ M * k
  | 0 => by simp [smI]
  | k + 1 => by
    have h1 := smI_bd hM h k
    have h2 := h k
    rw [smI]; push_cast; rw [Int.mul_add]; omega
theorem suf_zero (f : Nat → Int) : sufI f 0 = smI f 12 := by
  simp only [sufI, sufD, smI, Nat.reduceSub]; omega
theorem suf_up {f : Nat → Int} (h : ∀ i, 0 ≤ f i) {i : Nat} (hi : i < 11) : sufI f (i + 1) ≤ sufI f i := by
  rw [sufI_step f (i := i) (by omega)]
  have := h i; omega
theorem hst_pos {X : Nat → Nat → Int} {wd : Int} : ∀ {k b : Nat}, 1 ≤ hst X wd k b → ∃ i, i < k ∧ binI X wd i = (b : Int)
  | 0, b, h => by simp [hst] at h
  | k + 1, b, h => by
    by_cases e : binI X wd k = (b : Int)
    · exact ⟨k, by omega, e⟩
    · rw [hst, if_neg e] at h
      obtain ⟨i, hi, e⟩ := hst_pos (X := X) (wd := wd) (k := k) (b := b) (by omega)
      exact ⟨i, by omega, e⟩
theorem hst_has {X : Nat → Nat → Int} {wd : Int} {b : Nat} : ∀ {k i : Nat}, i < k → binI X wd i = (b : Int) → 1 ≤ hst X wd k b
  | k + 1, i, hi, e => by
    rw [hst]
    by_cases hik : i = k
    · subst hik; rw [if_pos e]; have := hst_bd X wd i b; omega
    · have := hst_has (k := k) (i := i) (b := b) (by omega) e
      split <;> omega
theorem complete_one {n : Nat} {X : Nat → Nat → Int} {wd : Int} (h : (catB n X && inB wd 1 50 && decide (n ≠ 0)) = true) :
    0 ≤ (bestI (hst X wd n) 12 : Int) * wd ∧ (bestI (hst X wd n) 12 : Int) * wd ≤ 550 ∧ 1 ≤ (selL (szP X ((bestI (hst X wd n) 12 : Int) * wd - 20)) n).length := by
  simp only [Bool.and_eq_true, decide_eq_true_eq] at h
  obtain ⟨⟨hc, hw⟩, h0⟩ := h
  have hw := inB_of hw
  obtain ⟨hn, hc⟩ := catB_of hc
  have hX := catIn_of hc
  obtain ⟨b0, b1⟩ := bin_bd hX (wd := wd) hw.1 (show 0 < n by omega)
  obtain ⟨q, hq⟩ : ∃ q : Nat, binI X wd 0 = q := ⟨(binI X wd 0).toNat, by omega⟩
  have h1 := hst_has (k := n) (by omega) hq
  have h2 := best_max (hst X wd n) (k := 12) (i := q) (by omega)
  have hb := best_in (hst X wd n) (n := 12) (by omega)
  obtain ⟨B, hB⟩ : ∃ B, bestI (hst X wd n) 12 = B := ⟨_, rfl⟩
  rw [hB] at h2 hb ⊢
  obtain ⟨i, hi, e⟩ := hst_pos (X := X) (wd := wd) (k := n) (b := B) (by omega)
  have hx := hX i hi
  have e2 : (B : Int) ≤ (X i 3 + 20) / wd := by unfold binI at e; omega
  have e3 : (B : Int) * wd ≤ X i 3 + 20 := (Int.le_ediv_iff_mul_le (by omega)).1 e2
  have e4 := prod_bd (a := (B : Int)) (b := wd) (A := 11) (B := 50) (by omega) (by omega) (by omega) (by omega)
  refine ⟨e4.1, by omega, ?_⟩
  exact List.length_pos_of_mem (mem_selL.2 ⟨hi, by simp [szP]; omega⟩)
theorem tot_ge {X : Nat → Nat → Int} {s : Int} {n : Nat} : ∀ k, k ≤ (selL (szP X s) n).length → s * k ≤ totZ (selX X (selL (szP X s) n)) k
  | 0, _ => by simp [totZ]
  | k + 1, hk => by
    have ih := tot_ge (X := X) (s := s) (n := n) k (by omega)
    have h1 := (selL_get (P := szP X s) (k := n) (i := k) (by omega)).2
    simp only [szP, decide_eq_true_eq] at h1
    rw [totZ]; push_cast; rw [Int.mul_add]
    show s * k + s * 1 ≤ totZ (selX X (selL (szP X s) n)) k + X ((selL (szP X s) n).getD k 0) 3
    omega
theorem mean_law {X : Nat → Nat → Int} {s : Int} {n : Nat} (h : 0 < (selL (szP X s) n).length) : s * meanB X s n ≤ meanA X s n := by
  unfold meanA meanB meanT
  exact frac_ge (by omega) (tot_ge _ (Nat.le_refl _))
theorem mean_den {X : Nat → Nat → Int} {s : Int} {n : Nat} (h : 0 < (selL (szP X s) n).length) : 1 ≤ meanB X s n ∧ meanB X s n ≤ n := by
  unfold meanB
  have h1 := frac_den (num := meanT X s n) (den := ((selL (szP X s) n).length : Int)) (by omega)
  have := selL_len (szP X s) n
  omega
end Go.Proofs.Ythpagjkkccimiaa
