/- Chapter 17: what the law on duties asks: plain. -/
import Derived.Test.YteklalbjlmkagaaDuT
import Derived.Test.YteklalbjlmkagaaDuI
import Derived.Test.YteklalbjlmkagaaDuG
import Derived.Test.YteklalbjlmkagaaDuO
namespace Go.Proofs.Yteklalbjlmkagaa
open Go.RowKit
set_option linter.unusedVariables false
set_option linter.unusedSimpArgs false

/-- The gaps that are over, and the open one, are free hours. -/
def GapIn (n : Nat) (D : Nat → Du) (f : Int) (k : Nat) (p : Int × Int) : Prop := f ≤ p.1 ∧ p.1 < p.2 ∧ p.2 ≤ f + k ∧ covB D p.1 n = false ∧ covB D (p.2 - 1) n = false
theorem GapIn.up {n : Nat} {D : Nat → Du} {f : Int} {k : Nat} {p : Int × Int} (h : GapIn n D f k p) : GapIn n D f (k + 1) p := by
  obtain ⟨h1, h2, h3, h4, h5⟩ := h
  exact ⟨h1, h2, by omega, h4, h5⟩
def OpenIn (n : Nat) (D : Nat → Du) (f : Int) (k : Nat) (s : Int) : Prop := 0 ≤ s → f ≤ s ∧ s < f + k ∧ covB D s n = false ∧ covB D (f + k - 1) n = false
theorem gS_in {n : Nat} {D : Nat → Du} {f : Int} (hf : 0 ≤ f) : ∀ k, OpenIn n D f k (gS n D f k).2 ∧ ∀ p, p ∈ (gS n D f k).1 → GapIn n D f k p
  | 0 => ⟨fun h => absurd h (by show ¬ (0 : Int) ≤ -1; omega), fun p hp => by cases hp⟩
  | k + 1 => by
    obtain ⟨h1, h2⟩ := gS_in (n := n) (D := D) hf k
    have hk : f + ((k + 1 : Nat) : Int) - 1 = f + k := by omega
    rw [gS]
    split
    · split
      · next h0 =>
        obtain ⟨a1, a2, a3, a4⟩ := h1 h0
        refine ⟨fun h => absurd h (by show ¬ (0 : Int) ≤ -1; omega), fun p hp => ?_⟩
        rcases List.mem_append.1 hp with e | e
        · exact (h2 p e).up
        · rw [List.mem_singleton] at e; subst e
          exact ⟨a1, a2, by show f + (k : Int) ≤ _; omega, a3, a4⟩
      · next h0 => exact ⟨fun h => absurd h h0, fun p hp => (h2 p hp).up⟩
    · next hc =>
      have hcf : covB D (f + k) n = false := by cases h : covB D (f + k) n; rfl; exact absurd h hc
      split
      · next h0 =>
        refine ⟨fun _ => ⟨by show f ≤ f + (k : Int); omega, by show f + (k : Int) < _; omega, hcf, by rw [hk]; exact hcf⟩, fun p hp => (h2 p hp).up⟩
      · next h0 =>
        obtain ⟨a1, a2, a3, a4⟩ := h1 (by omega)
        exact ⟨fun _ => ⟨a1, by omega, a3, by rw [hk]; exact hcf⟩, fun p hp => (h2 p hp).up⟩
theorem gI_in {n : Nat} {D : Nat → Du} {f : Int} (hf : 0 ≤ f) (k : Nat) : ∀ p, p ∈ gI n D f k → GapIn n D f k p := by
  obtain ⟨h1, h2⟩ := gS_in (n := n) (D := D) hf k
  intro p hp
  unfold gI at hp
  split at hp
  · next h0 =>
    obtain ⟨a1, a2, a3, a4⟩ := h1 h0
    rcases List.mem_append.1 hp with e | e
    · exact h2 p e
    · rw [List.mem_singleton] at e; subst e
      exact ⟨a1, a2, Int.le_refl _, a3, a4⟩
  · exact h2 p hp
theorem onL_free {n : Nat} {D : Nat → Du} {h : Int} (hc : covB D h n = false) : onL n D h = [] := by
  unfold onL
  rw [List.filter_eq_nil_iff]
  intro x _ hx
  obtain ⟨i, hi, e, _⟩ := of_decide_eq_true hx
  exact of_decide_eq_false hc ⟨i, hi, e⟩
/-- Both hours that the law asks a gap for: nobody has them. -/
theorem gap_law {n : Nat} {D : Nat → Du} {f t : Int} (hk : gapOk n D f t = true) {p : Int × Int} (hp : p ∈ gI n D f (t - f).toNat) : onOk n D p.1 = true ∧ onL n D p.1 = [] ∧ onOk n D (p.2 - 1) = true ∧ onL n D (p.2 - 1) = [] ∧ 0 ≤ p.1 ∧ p.1 < p.2 ∧ p.2 ≤ 9999 := by
  unfold gapOk at hk
  rw [Bool.and_eq_true, decide_eq_true_eq] at hk
  obtain ⟨hg, h0, h1, h2⟩ := hk
  obtain ⟨a1, a2, a3, a4, a5⟩ := gI_in h0 _ p hp
  have hin : ∀ h : Int, 0 ≤ h → h ≤ 9998 → onOk n D h = true := fun h b1 b2 => by
    unfold onOk inB
    rw [hg, Bool.true_and]
    simp only [Bool.and_eq_true, decide_eq_true_eq]
    omega
  exact ⟨hin _ (by omega) (by omega), onL_free a4, hin _ (by omega) (by omega), onL_free a5, by omega, a2, by omega⟩
/-! The hours of somebody with another duty. -/
def hrsL (x : Int) : List Du → Int
  | [] => 0
  | d :: L => (if d.who = x then d.fin - d.beg else 0) + hrsL x L
theorem hrsL_app (x : Int) : ∀ A B : List Du, hrsL x (A ++ B) = hrsL x A + hrsL x B
  | [], B => by simp [hrsL]
  | d :: A, B => by
    rw [List.cons_append, hrsL, hrsL, hrsL_app x A B]; omega
theorem hrsD_list (D : Nat → Du) (x : Int) : ∀ n, hrsD D x n = hrsL x (Ln D n)
  | 0 => rfl
  | n + 1 => by
    rw [hrsD, Ln_succ, hrsL_app, ← hrsD_list D x n, hrsL, hrsL]
    split <;> omega
theorem Ln_self (L : List Du) : Ln (dg L) L.length = L := by
  apply List.ext_getElem
  · simp [Ln]
  · intro i h1 h2
    simp [Ln, dg, List.getD, h2]
theorem hrsL_put (x : Int) (d : Du) (L : List Du) : hrsL x (putD d L) = hrsL x L + (if d.who = x then d.fin - d.beg else 0) := by
  unfold putD
  have h := hrsL_app x (L.takeWhile fun e => decide (bef e d)) (L.dropWhile fun e => decide (bef e d))
  rw [List.takeWhile_append_dropWhile] at h
  rw [hrsL_app, hrsL, h]; omega
theorem hrs_put {D : Nat → Du} {n : Nat} {d : Du} : hrsD (dg (putD d (Ln D n))) d.who (n + 1) = hrsD D d.who n + (d.fin - d.beg) := by
  have hl : (putD d (Ln D n)).length = n + 1 := put_row D d n
  have h := Ln_self (putD d (Ln D n))
  rw [hl] at h
  rw [hrsD_list, h, hrsL_put, if_pos rfl, hrsD_list]
theorem mem_putD {d e : Du} {L : List Du} : e ∈ putD d L ↔ e = d ∨ e ∈ L := by
  have h : e ∈ L ↔ e ∈ L.takeWhile (fun e => decide (bef e d)) ∨ e ∈ L.dropWhile (fun e => decide (bef e d)) := by
    rw [← List.mem_append, List.takeWhile_append_dropWhile]
  rw [h]
  unfold putD
  simp only [List.mem_append, List.mem_cons]
  constructor
  · rintro (h | h | h)
    · exact .inr (.inl h)
    · exact .inl h
    · exact .inr (.inr h)
  · rintro (h | h | h)
    · exact .inr (.inl h)
    · exact .inl h
    · exact .inr (.inr h)
/-- Whoever is put into a list that then is one of duties, is a duty. -/
theorem put_one {D : Nat → Du} {n : Nat} {d : Du} (h : goodB (n + 1) (dg (putD d (Ln D n))) = true) : oneB d = true := by
  have hm : d ∈ putD d (Ln D n) := mem_putD.2 (.inl rfl)
  obtain ⟨i, hi, e⟩ := List.getElem_of_mem hm
  have hl : (putD d (Ln D n)).length = n + 1 := put_row D d n
  have h1 := ((good_of h).2 i (by omega)).1
  rw [show dg (putD d (Ln D n)) i = d by simp [dg, List.getD, hi, e]] at h1
  exact oneD_iff.1 h1
/-- The law on somebody who could have another duty. -/
theorem free_law {n : Nat} {D : Nat → Du} {b t : Int} (hk : freeOk n D b t = true) {x : Nat} (hx : x ∈ freeL n D b t) :
    addOk n D ⟨x, b, t, false⟩ = true ∧ hrsOk n D x = true ∧ hrsOk (n + 1) (dg (putD ⟨x, b, t, false⟩ (Ln D n))) x = true ∧ hrsD (dg (putD ⟨x, b, t, false⟩ (Ln D n))) x (n + 1) = hrsD D x n + (t - b) ∧ (1 ≤ x ∧ x ≤ 50) ∧ (0 ≤ b ∧ b < t ∧ t ≤ 9999 ∧ t - b ≤ 12) ∧ (0 ≤ hrsD D x n ∧ hrsD D x n ≤ 144) := by
  unfold freeOk at hk
  rw [Bool.and_eq_true] at hk
  obtain ⟨hg, h1⟩ := hk
  unfold freeL at hx
  rw [List.mem_filter] at hx
  obtain ⟨hw, hfb⟩ := hx
  unfold freeB at hfb
  unfold whoL at hw
  rw [List.mem_filter, List.mem_range, decide_eq_true_eq] at hw
  obtain ⟨h51, i, hi, hwi⟩ := hw
  obtain ⟨hn12, hok⟩ := good_of hg
  have o1 := one_of h1
  have ow := (hok i hi).1
  have w1 := ow.w1; have w2 := ow.w2
  unfold whoN at hwi
  have hin : inB (x : Int) 1 50 = true := by
    unfold inB
    simp only [Bool.and_eq_true, decide_eq_true_eq]
    omega
  have hb := hrsD_bd (x := (x : Int)) (k := n) (fun i hi => (hok i hi).1)
  refine ⟨by rw [addOk, hg, Bool.true_and]; exact hfb, by rw [hrsOk, hg, hin]; rfl, by rw [hrsOk, hfb, hin]; rfl, hrs_put (d := ⟨x, b, t, false⟩), by omega, ⟨o1.b0, o1.bf, o1.f9, o1.l12⟩, hb.1, by omega⟩
/-- The leader has the hour. -/
theorem lead_law {n : Nat} {D : Nat → Du} {h : Int} (hb : (onOk n D h && decide (0 < (leadL n D h).length)) = true) : ∃ i, i < (onL n D h).length ∧ (((onL n D h).getD i 0 : Nat) : Int) = leadR (leadL n D h) true := by
  rw [Bool.and_eq_true, decide_eq_true_eq] at hb
  obtain ⟨ho, hl⟩ := hb
  unfold onOk at ho
  rw [Bool.and_eq_true] at ho
  obtain ⟨hn12, hok⟩ := good_of ho.1
  have hD : ∀ i, i < n → OneD (D i) := fun i hi => (hok i hi).1
  have hm : (leadL n D h).getD 0 0 ∈ leadL n D h := by simp [List.getD, hl]
  obtain ⟨i, hi, h1, h2⟩ := (mem_leadL hD).1 hm
  have ho2 : (leadL n D h).getD 0 0 ∈ onL n D h := (mem_onL hD).2 ⟨i, hi, h1.1, h2⟩
  obtain ⟨j, hj, e⟩ := List.getElem_of_mem ho2
  refine ⟨j, hj, ?_⟩
  unfold leadR
  rw [if_pos rfl, ← e]
  simp [List.getD, hj]
end Go.Proofs.Yteklalbjlmkagaa
