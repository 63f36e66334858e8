/- Chapter 17: a list sorted with a duty behind it is the list with the duty in its place: the plain law. -/
import Derived.Test.YteklalbjlmkagaaDuL
import Derived.Test.YteklalbjlmkagaaSrt
import Derived.Test.YteklalbjlmkagaaDuC
namespace Go.Proofs.Yteklalbjlmkagaa
open Go.RowKit
set_option linter.unusedVariables false
set_option linter.unusedSimpArgs false

def keyD (D : Nat → Du) (i : Nat) : Int := (D i).beg * 1000 + (D i).who
def WhoOk (d : Du) : Prop := 0 ≤ d.who ∧ d.who ≤ 100
theorem key_bef {D : Nat → Du} {a b : Nat} (ha : WhoOk (D a)) (hb : WhoOk (D b)) : keyD D a < keyD D b ↔ bef (D a) (D b) := by
  obtain ⟨a1, a2⟩ := ha; obtain ⟨b1, b2⟩ := hb
  unfold keyD bef
  omega
theorem ok_congr {D E : Nat → Du} {i : Nat} (h : ∀ j, j ≤ i → D j = E j) : okAt D i ↔ okAt E i := by
  unfold okAt
  rw [h i (Nat.le_refl _), h (i - 1) (by omega)]
  refine and_congr Iff.rfl (and_congr Iff.rfl ⟨fun H k hk => ?_, fun H k hk => ?_⟩)
  · rw [← h k (by omega)]; exact H k hk
  · rw [h k (by omega)]; exact H k hk
theorem good_congr {D E : Nat → Du} {n : Nat} (h : ∀ i, i < n → D i = E i) : goodB n D = goodB n E := by
  unfold goodB
  congr 1
  exact decide_eq_decide.2 ⟨fun H i hi => (ok_congr fun j hj => h j (by omega)).1 (H i hi), fun H i hi => (ok_congr fun j hj => h j (by omega)).2 (H i hi)⟩
theorem up_key {D : Nat → Du} {n : Nat} (hok : ∀ i, i < n → okAt D i) : ∀ {j : Nat}, j < n → ∀ i, i < j → keyD D i < keyD D j
  | 0, _, i, hi => absurd hi (by omega)
  | j + 1, hj, i, hi => by
    have hw : ∀ k, k < n → WhoOk (D k) := fun k hk => by have := (hok k hk).1.w1; have := (hok k hk).1.w2; exact ⟨by omega, by omega⟩
    have h1 : keyD D j < keyD D (j + 1) := (key_bef (hw j (by omega)) (hw (j + 1) hj)).2 ((hok (j + 1) hj).2.1 (Nat.succ_pos _))
    by_cases e : i = j
    · subst e; exact h1
    · have := up_key hok (j := j) (by omega) i (by omega)
      omega
/-- A place in a row that goes up. -/
theorem place {f : Nat → Int} {p : Int → Prop} [DecidablePred p] (hp : ∀ a b : Int, a < b → p b → p a) : ∀ {n : Nat}, (∀ j, j < n → ∀ i, i < j → f i < f j) → ∃ c, c ≤ n ∧ (∀ a, a < c → p (f a)) ∧ ∀ a, c ≤ a → a < n → ¬ p (f a)
  | 0, _ => ⟨0, Nat.le_refl _, fun a h => absurd h (by omega), fun a _ h => absurd h (by omega)⟩
  | n + 1, hu => by
    obtain ⟨c, hc, h1, h2⟩ := place hp (n := n) fun j hj i hi => hu j (by omega) i hi
    by_cases hcn : c < n
    · refine ⟨c, by omega, h1, fun a ha han => ?_⟩
      by_cases e : a = n
      · subst e
        intro hpa
        exact h2 c (Nat.le_refl _) hcn (hp _ _ (hu a (Nat.lt_succ_self _) c hcn) hpa)
      · exact h2 a ha (by omega)
    · obtain rfl : c = n := by omega
      by_cases hpn : p (f c)
      · refine ⟨c + 1, Nat.le_refl _, fun a ha => ?_, fun a ha h => absurd h (by omega)⟩
        by_cases e : a = c
        · subst e; exact hpn
        · exact h1 a (by omega)
      · refine ⟨c, by omega, h1, fun a ha han => ?_⟩
        obtain rfl : a = c := by omega
        exact hpn
theorem insL_range {f : Nat → Int} : ∀ {n : Nat}, (∀ j, j < n → ∀ i, i < j → f i < f j) → insL f n = List.range n
  | 0, _ => rfl
  | n + 1, hu => by
    rw [insL, insL_range (n := n) fun j hj i hi => hu j (by omega) i hi]
    have hc := cut_split (f := f) (x := n) (List.range n) [] 0 (Nat.zero_le _) (fun a ha => by
      have := hu n (Nat.lt_succ_self _) a (List.mem_range.1 ha); omega) (fun c hc => absurd hc (by simp))
    rw [List.append_nil, List.length_range, Nat.add_zero] at hc
    rw [hc]
    unfold insAt
    rw [List.range_succ]
    simp
/-- The last one is put into its place. -/
theorem insL_last {f : Nat → Int} {n c : Nat} (hu : ∀ j, j < n → ∀ i, i < j → f i < f j) (hc : c ≤ n) (h1 : ∀ a, a < c → f a ≤ f n) (h2 : ∀ a, c ≤ a → a < n → ¬ f a ≤ f n) : insL f (n + 1) = insAt (List.range n) n c := by
  rw [insL, insL_range hu]
  have hl : ((List.range n).take c).length = c := by rw [List.length_take, List.length_range]; omega
  have hl2 : ((List.range n).drop c).length = n - c := by rw [List.length_drop, List.length_range]
  have hc := cut_split (f := f) (x := n) ((List.range n).take c) ((List.range n).drop c) (n - c) (by omega) (fun a ha => by
    obtain ⟨i, hi, e⟩ := List.getElem_of_mem ha
    rw [List.getElem_take, List.getElem_range] at e
    rw [hl] at hi
    subst e; exact h1 _ hi) (fun a ha => by
    obtain ⟨i, hi, e⟩ := List.getElem_of_mem ha
    rw [List.getElem_drop, List.getElem_range] at e
    rw [hl2] at hi
    subst e
    have := h2 (c + i) (by omega) (by omega)
    omega)
  rw [List.take_append_drop, hl, show c + (n - c) = n by omega] at hc
  rw [hc]
theorem Ln_map {α : Type} (g : Nat → Du) (l : List Nat) : Ln (fun p => g (l.getD p 0)) l.length = l.map g := by
  apply List.ext_getElem
  · simp [Ln]
  · intro i h1 h2
    simp [Ln] at h1 ⊢
    simp [h1]
/-- The list with the duty behind. -/
def endD (D : Nat → Du) (n : Nat) (d : Du) : Nat → Du := dg (Ln D n ++ [d])
theorem end_lt {D : Nat → Du} {n : Nat} {d : Du} {i : Nat} (h : i < n) : endD D n d i = D i := by
  unfold endD dg
  rw [List.getD, List.getElem?_append_left (by rw [Ln_len]; exact h)]
  have := dg_Ln D h
  unfold dg at this
  rw [List.getD] at this
  exact this
theorem end_at {D : Nat → Du} {n : Nat} {d : Du} : endD D n d n = d := by
  unfold endD dg
  rw [List.getD, List.getElem?_append_right (by rw [Ln_len]; exact Nat.le_refl _), Ln_len, Nat.sub_self]
  rfl
def sortD (D : Nat → Du) (n : Nat) (d : Du) : Nat → Du := fun p => endD D n d ((insL (keyD (endD D n d)) (n + 1)).getD p 0)
theorem sort_list {D : Nat → Du} {n c : Nat} {d : Du} (hi : insL (keyD (endD D n d)) (n + 1) = insAt (List.range n) n c) : Ln (sortD D n d) (n + 1) = (Ln D n).take c ++ d :: (Ln D n).drop c := by
  have h := Ln_map (α := Nat) (endD D n d) (insL (keyD (endD D n d)) (n + 1))
  rw [insL_len] at h
  unfold sortD
  rw [h, hi]
  have hm : (List.range n).map (endD D n d) = Ln D n := by
    unfold Ln
    apply List.map_congr_left
    intro a ha
    exact end_lt (List.mem_range.1 ha)
  unfold insAt
  rw [List.map_append, List.map_cons, List.map_take, List.map_drop, hm, end_at]
theorem ins_lt {L : List Du} {d : Du} {c i : Nat} (hc : c ≤ L.length) (hi : i < c) : dg (L.take c ++ d :: L.drop c) i = dg L i := by
  unfold dg
  rw [List.getD, List.getD, List.getElem?_append_left (by rw [List.length_take]; omega), List.getElem?_take, if_pos hi]
theorem ins_at {L : List Du} {d : Du} {c : Nat} (hc : c ≤ L.length) : dg (L.take c ++ d :: L.drop c) c = d := by
  have hl : (L.take c).length = c := by rw [List.length_take]; omega
  unfold dg
  rw [List.getD, List.getElem?_append_right (by omega), hl, Nat.sub_self]
  rfl
theorem ins_gt {L : List Du} {d : Du} {c i : Nat} (hc : c ≤ L.length) (hi : c < i) : dg (L.take c ++ d :: L.drop c) i = dg L (i - 1) := by
  have hl : (L.take c).length = c := by rw [List.length_take]; omega
  unfold dg
  rw [List.getD, List.getD, List.getElem?_append_right (by omega), hl, show i - c = (i - 1 - c) + 1 by omega, List.getElem?_cons_succ, List.getElem?_drop, show c + (i - 1 - c) = i - 1 by omega]
theorem bef_irr (d : Du) : ¬ bef d d := by unfold bef; omega
/-- THE LAW: sorted, the list is the list with the duty in its place, or neither of the two is a list of duties. -/
theorem sort_put {D : Nat → Du} {n : Nat} {d : Du} (hg : goodB n D = true) (hd : WhoOk d) :
    goodB (n + 1) (sortD D n d) = goodB (n + 1) (dg (putD d (Ln D n))) ∧ (goodB (n + 1) (dg (putD d (Ln D n))) = true → Ln (sortD D n d) (n + 1) = putD d (Ln D n)) := by
  obtain ⟨hn, hok⟩ := good_of hg
  have hw : ∀ k, k < n → WhoOk (D k) := fun k hk => by have := (hok k hk).1.w1; have := (hok k hk).1.w2; exact ⟨by omega, by omega⟩
  obtain ⟨f, hf⟩ : ∃ f, keyD (endD D n d) = f := ⟨_, rfl⟩
  have hfk : ∀ k, k < n → f k = keyD D k := fun k hk => by rw [← hf]; unfold keyD; rw [end_lt hk]
  have hfn : f n = d.beg * 1000 + d.who := by rw [← hf]; unfold keyD; rw [end_at]
  have hu : ∀ j, j < n → ∀ i, i < j → f i < f j := fun j hj i hi => by rw [hfk j hj, hfk i (by omega)]; exact up_key hok hj i hi
  have hbf : ∀ k, k < n → (f k < f n ↔ bef (D k) d) := fun k hk => by
    rw [hfk k hk, hfn]
    obtain ⟨a1, a2⟩ := hw k hk; obtain ⟨b1, b2⟩ := hd
    unfold keyD bef
    omega
  obtain ⟨c, hc, c1, c2⟩ := place (p := fun x => x ≤ f n) (fun a b h1 h2 => by show a ≤ f n; have : b ≤ f n := h2; omega) hu
  obtain ⟨t, ht, t1, t2⟩ := place (p := fun x => x < f n) (fun a b h1 h2 => by show a < f n; have : b < f n := h2; omega) hu
  have es : Ln (sortD D n d) (n + 1) = (Ln D n).take c ++ d :: (Ln D n).drop c := sort_list (by rw [hf]; exact insL_last hu hc c1 c2)
  have ep : putD d (Ln D n) = (Ln D n).take t ++ d :: (Ln D n).drop t := putD_at ht (fun i hi => (hbf i (by omega)).1 (t1 i hi)) (fun h hb => t2 t (Nat.le_refl _) h ((hbf t h).2 hb))
  have eg : goodB (n + 1) (sortD D n d) = goodB (n + 1) (dg ((Ln D n).take c ++ d :: (Ln D n).drop c)) := good_congr fun i hi => by rw [← es, dg_Ln _ hi]
  by_cases hct : c = t
  · subst hct
    rw [eg, ep]
    exact ⟨rfl, fun _ => es⟩
  · have htn : t < n := by
      by_cases h : t < n
      · exact h
      · obtain rfl : t = n := by omega
        by_cases h2 : c < t
        · exact absurd (Int.le_of_lt (t1 c h2)) (c2 c (Nat.le_refl _) h2)
        · omega
    have htc : t < c := by
      by_cases h : t < c
      · exact h
      · exact absurd (Int.le_of_lt (t1 c (by omega))) (c2 c (Nat.le_refl _) (by omega))
    have heq : f t = f n := by
      have h1 := c1 t htc
      have h2 := t2 t (Nat.le_refl _) htn
      have : ¬ f t < f n := h2
      omega
    have hcl : c ≤ (Ln D n).length := by rw [Ln_len]; exact hc
    have htl : t ≤ (Ln D n).length := by rw [Ln_len]; exact ht
    have hct1 : c = t + 1 := by
      by_cases h : c = t + 1
      · exact h
      · have h1 := c1 (t + 1) (by omega)
        have h2 := hu (t + 1) (by omega) t (Nat.lt_succ_self _)
        omega
    have n1 : ¬ bef (D t) d := fun h => by have := (hbf t htn).2 h; omega
    have n2 : ¬ bef d (D t) := fun h => by
      rw [hfk t htn, hfn] at heq
      obtain ⟨a1, a2⟩ := hw t htn; obtain ⟨b1, b2⟩ := hd
      unfold keyD at heq
      unfold bef at h
      omega
    have g1 : goodB (n + 1) (sortD D n d) = false := by
      rw [eg]
      refine good_no (k := c) (by omega) (fun h => ?_)
      have := h.2.1 (by omega)
      rw [ins_at hcl, ins_lt hcl (by omega), dg_Ln D (by omega), show c - 1 = t by omega] at this
      exact n1 this
    have g2 : goodB (n + 1) (dg (putD d (Ln D n))) = false := by
      rw [ep]
      refine good_no (k := t + 1) (by omega) (fun h => ?_)
      have := h.2.1 (by omega)
      rw [Nat.add_sub_cancel, ins_at htl, ins_gt (i := t + 1) htl (by omega), Nat.add_sub_cancel, dg_Ln D htn] at this
      exact n2 this
    rw [g1, g2]
    exact ⟨rfl, fun h => by cases h⟩
end Go.Proofs.Yteklalbjlmkagaa
