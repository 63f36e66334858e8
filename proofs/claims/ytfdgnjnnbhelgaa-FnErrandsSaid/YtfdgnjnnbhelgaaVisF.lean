/- Chapter 23: is a list a plan? -/
import Derived.Test.YtfdgnjnnbhelgaaVisE
namespace Go.Proofs.Ytfdgnjnnbhelgaa
open Go.RowKit
set_option linter.unusedVariables false
set_option linter.unusedSimpArgs false

def allIn (n m : Nat) (Y : Nat → Nat → Int) : Bool := decide (∀ i, i < m → inB (Y i 0) 0 (n - 1) = true)
theorem allIn_of {n m : Nat} {Y : Nat → Nat → Int} (h : allIn n m Y = true) : planIn n m Y := by
  intro i hi
  have := inB_of (of_decide_eq_true h i hi)
  omega
def planB (n m : Nat) (Y : Nat → Nat → Int) : Bool := allIn n m Y && diffB m Y
theorem bad_all {n m : Nat} {Y : Nat → Nat → Int} {r : Int} (h : badAt n Y m r) : (0 ≤ r ∧ allIn n m Y = false) ∨ (r = -1 ∧ allIn n m Y = true) := by
  rcases h with ⟨k, rfl, hk, h⟩ | ⟨rfl, h⟩
  · refine .inl ⟨by omega, decide_eq_false fun H => ?_⟩
    have := H k hk
    rw [h] at this; cases this
  · exact .inr ⟨rfl, decide_eq_true h⟩
theorem contains_plan (B : Option Addr) (bf bl : Nat) (A : Option Addr) (n c m d : Nat) (Y : Nat → Nat → Int) (v : Bool) (hv : allIn n m Y = v) (w : World) (hn : n ≤ 1048576) (hm : m ≤ 1048576) (hb : Arr w w.heap.size B m 1 (iv Y)) (hl : w.cell? ⟨bl, 0, none⟩ = some (.slice A n c))
    (hf : w.cell? ⟨bf, 0, none⟩ = some (.func (.func 124) #[] #[.pointer (some ⟨bl, 0, none⟩)])) :
    Calls Try.prog 143 #[.slice B m d, .func (.func 144) #[] #[.pointer (some ⟨bf, 0, none⟩)]] w fun e w' => e = .returned (.bool (!v)) ∧ w = w' := by
  go_enter Try.func143, Try.ntmps143
  go_wp2_with fail
  refine (index_plan _ _ _ _ _ _ _ _ Y _ hn hm hb hl hf).mono ?_
  rintro e w' ⟨r, hr, rfl, rfl⟩
  rcases bad_all hr with ⟨h1, h2⟩ | ⟨h1, h2⟩
  · obtain rfl : false = v := by rw [← hv, h2]
    clear hv h2 hr
    go_wp2
    go_ret
    exact ⟨rfl, rfl⟩
  · obtain rfl : true = v := by rw [← hv, h2]
    subst h1
    clear hv h2 hr
    go_wp2
    go_ret
    exact ⟨rfl, rfl⟩
theorem all_plan (B : Option Addr) (bl : Nat) (A : Option Addr) (n c m d : Nat) (Y : Nat → Nat → Int) (v : Bool) (hv : allIn n m Y = v) (w : World) (hn : n ≤ 1048576) (hm : m ≤ 1048576) (hb : Arr w w.heap.size B m 1 (iv Y)) (hbl : bl < w.heap.size) (hl : w.cell? ⟨bl, 0, none⟩ = some (.slice A n c)) :
    Calls Try.prog 123 #[.slice B m d, .func (.func 124) #[] #[.pointer (some ⟨bl, 0, none⟩)]] w fun e w' => e = .returned (.bool v) ∧ Below w.heap.size w w' := by
  have HB := hide hb
  clear hb
  go_enter Try.func123, Try.ntmps123
  go_wp2_with fail
  refine (contains_plan _ _ bl A n c _ _ Y v hv _ hn hm (HB.out.on (below_al (Below.refl _ _))) (by simp [go_sem, hl, World.cell?_alloc_lt, hbl]) (by simp [go_sem])).mono ?_
  rintro e w' ⟨rfl, rfl⟩
  go_wp2
  go_returns
  exact ⟨by cases v <;> rfl, by go_grown⟩
theorem impl_isPlan0 (A B : Option Addr) (n c m d : Nat) (Y : Nat → Nat → Int) (v : Bool) (hv : planB n m Y = v) (w : World) (hn : n ≤ 1048576) (hm : m ≤ 1048576) (hb : Arr w w.heap.size B m 1 (iv Y)) :
    Calls Try.prog 102 #[.slice A n c, .slice B m d] w fun e w' => e = .returned (.bool v) ∧ Below w.heap.size w w' := by
  have HB := hide hb; have HV := hide hv
  clear hb hv
  obtain ⟨u, hu⟩ : ∃ u, allIn n m Y = u := ⟨_, rfl⟩
  have HU := hide hu
  clear hu
  go_enter Try.func102, Try.ntmps102
  go_wp2_with fail
  refine (all_plan _ w.heap.size A n c _ _ Y u HU.out _ hn hm (HB.out.on (below_al (Below.refl _ _))) (by simp) (by simp [go_sem])).mono ?_
  rintro e w1 ⟨rfl, hb1⟩
  have hq1 : Below w.heap.size w w1 := below_call (by go_grown) hb1
  cases u
  · go_wp2
    go_returns
    exact ⟨ret_bool (by rw [← HV.out, planB, HU.out]; rfl), hq1⟩
  · obtain ⟨t, ht⟩ : ∃ t, diffB m Y = t := ⟨_, rfl⟩
    have HT := hide ht
    clear ht
    go_wp2_with fail
    refine (differ_plan _ n _ _ Y t HT.out _ hn hm (HB.out.on hq1) (allIn_of HU.out)).mono ?_
    rintro e w2 ⟨rfl, hb2⟩
    go_wp2
    go_returns
    exact ⟨ret_bool (by rw [← HV.out, planB, HU.out, HT.out]; rfl), below_call hq1 hb2⟩
end Go.Proofs.Ytfdgnjnnbhelgaa
