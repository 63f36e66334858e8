/- Chapter 18: is a fault valid? The reference's side: made by faugen.py. -/
import Derived.Test.YtbpeamjgddikjaaBendW
import Derived.Test.YtbpeamjgddikjaaWord
import Derived.Test.YtbpeamjgddikjaaCells
namespace Go.Proofs.Ytbpeamjgddikjaa
open Go.RowKit
set_option linter.unusedVariables false
set_option linter.unusedSimpArgs false

def segX (X : Nat → Nat → Int) (i : Nat) : Bool := segB (X i 0) (X i 1) (X (i + 1) 0) (X (i + 1) 1)
def fauB (x0 : Int) (s : ByteArray) (n : Nat) (X : Nat → Nat → Int) (x3 : Int) : Bool :=
  decide (∀ i, i < n - 1 → segX X i = true) && (((inB x0 1 99 && wordB s) && inB n 2 8) && inB x3 0 1000)
theorem fauB_bad {x0 : Int} {s : ByteArray} {n : Nat} {X : Nat → Nat → Int} {x3 : Int} {i : Nat} (hi : i + 1 < n) (h : segX X i = false) : fauB x0 s n X x3 = false := by
  unfold fauB; rw [decide_eq_false (fun H => by have := H i (by omega); rw [h] at this; cases this)]; rfl
theorem fauB_end {x0 : Int} {s : ByteArray} {n : Nat} {X : Nat → Nat → Int} {x3 : Int} (h : ∀ i, i + 1 < n → segX X i = true) : fauB x0 s n X x3 = (((inB x0 1 99 && wordB s) && inB n 2 8) && inB x3 0 1000) := by
  unfold fauB; rw [decide_eq_true (fun i hi => h i (by omega))]; rfl
def plAll (n : Nat) (X : Nat → Nat → Int) : Bool := decide (∀ i, i < n → plB (X i 0) (X i 1) = true)
theorem plAll_no {n i : Nat} {X : Nat → Nat → Int} (hi : i < n) (h : plB (X i 0) (X i 1) = false) : plAll n X = false := decide_eq_false fun H => by have := H i hi; rw [h] at this; cases this
def sameX (X : Nat → Nat → Int) (i : Nat) : Prop := X (i + 1) 0 = X i 0 ∧ X (i + 1) 1 = X i 1
theorem seg_same {X : Nat → Nat → Int} {i : Nat} (h : sameX X i) : segX X i = false := by
  unfold segX segB; rw [h.1, h.2]; simp
theorem seg_alt {X : Nat → Nat → Int} {i : Nat} (h : ¬ sameX X i) : segX X i = (plB (X i 0) (X i 1) && plB (X (i + 1) 0) (X (i + 1) 1)) := by
  unfold segX segB
  have : (!(decide (X i 0 = X (i + 1) 0) && decide (X i 1 = X (i + 1) 1))) = true := by
    simp only [Bool.not_eq_true', Bool.and_eq_false_iff, decide_eq_false_iff_not]
    by_cases e : X i 0 = X (i + 1) 0
    · right; intro f; exact h ⟨e.symm, f.symm⟩
    · exact .inl e
  rw [this]; simp
theorem fau_alt {x0 : Int} {s : ByteArray} {n : Nat} {X : Nat → Nat → Int} {x3 : Int} (h : ∀ i, i + 1 < n → ¬ sameX X i) : fauB x0 s n X x3 = ((((inB x0 1 99 && wordB s) && inB n 2 8) && plAll n X) && inB x3 0 1000) := by
  unfold fauB
  cases h3 : inB (n : Int) 2 8
  · simp
  · have hb := inB_of h3
    have e : decide (∀ i, i < n - 1 → segX X i = true) = plAll n X := by
      unfold plAll
      apply decide_eq_decide.2
      constructor
      · intro H i hi
        by_cases hl : i + 1 < n
        · have := H i (by omega)
          rw [seg_alt (h i hl)] at this
          simp only [Bool.and_eq_true] at this
          exact this.1
        · obtain ⟨j, rfl⟩ : ∃ j, i = j + 1 := ⟨i - 1, by omega⟩
          have := H j (by omega)
          rw [seg_alt (h j hi)] at this
          simp only [Bool.and_eq_true] at this
          exact this.2
      · intro H i hi
        rw [seg_alt (h i (by omega)), H i (by omega), H (i + 1) (by omega)]; rfl
    rw [e]
    cases inB x0 1 99 <;> cases wordB s <;> cases plAll n X <;> cases inB x3 0 1000 <;> rfl

theorem all_snoc2 {Q : Nat → Prop} {p : Nat} (h : ∀ i, i + 1 < p + 1 → Q i) (hp : Q p) : ∀ i, i + 1 < p + 1 + 1 → Q i := fun i hi => by
  by_cases e : i = p
  · rw [e]; exact hp
  · exact h i (by omega)
set_option maxHeartbeats 4000000 in
set_option maxRecDepth 100000 in
theorem spec_fau (x0 : Int) (s : ByteArray) (A : Option Addr) (n c : Nat) (X : Nat → Nat → Int) (x3 : Int) (v : Bool) (hv : fauB x0 s n X x3 = v) (w : World) (hs : s.size ≤ 1048576) (hn : n ≤ 1048576) (ha : Arr w w.heap.size A n 2 (iv X)) :
    Calls Try.prog 46 #[.agg #[.int .i64 x0, .string s, .slice A n c, .int .i64 x3]] w fun e w' => e = .returned (.bool v) ∧ Below w.heap.size w w' := by
  have HV := hide hv
  clear hv
  have hcx0 : Cells (w.alloc (.cells #[.int .i64 x0, .string s, .slice A n c, .int .i64 x3] 36)) w.heap.size [.int .i64 x0, .string s, .slice A n c, .int .i64 x3] := Cells.new w _ _ _ rfl
  have hb0 : Below w.heap.size w (w.alloc (.cells #[.int .i64 x0, .string s, .slice A n c, .int .i64 x3] 36)) := below_al (Below.refl _ _)
  go_enter Try.func46, Try.ntmps46
  go_wp2
  go_loopw [3] (fun y wr => ∃ k : Nat, (k ≤ n ∨ k = 1) ∧ 1 ≤ k ∧ y = .int .i64 k ∧ Below w.heap.size w wr ∧ Cells wr w.heap.size [.int .i64 x0, .string s, .slice A n c, .int .i64 x3] ∧ ∀ i, i + 1 < k → segX X i = true) (fun y _ => n - (intOf y).toNat)
  case atStart => exact ⟨1, .inr rfl, Nat.le_refl _, rfl, hb0, hcx0, fun i hi => absurd hi (by omega)⟩
  case round =>
    clear hcx0 hb0
    obtain ⟨k, hk, hk1, rfl, hbw, hcx, hall⟩ := hrel
    obtain ⟨p, rfl⟩ : ∃ p, k = p + 1 := ⟨k - 1, by omega⟩
    have l0 := hcx.2 0 _ rfl; have l1 := hcx.2 1 _ rfl; have l2 := hcx.2 2 _ rfl; have l3 := hcx.2 3 _ rfl; have l5 := hcx.1
    obtain ⟨q1, q2⟩ := bcell hbw
    have hsw := hbw.size
    have HA := hide hall
    have HAA := hide ha
    clear hall
    have hx := BW.cell (w := wr)
    by_cases hlt : p + 1 < n
    · obtain ⟨b, off, rfl, hbb, hc⟩ := ha (by omega)
      have c0 := hc p 0 (by omega) (by omega); have c1 := hc p 1 (by omega) (by omega); have d0 := hc (p + 1) 0 hlt (by omega); have d1 := hc (p + 1) 1 hlt (by omega)
      simp only [Nat.add_zero, iv] at c0 c1 d0 d1
      have hbl : b < wr.heap.size := by omega
      clear ha hc
      cases hg : segX X p
      · have HG := hide hg
        go_wp2
        refine wp_region_bw (by kernel_rfl) (by kernel_rfl) ?_
        repeat (go_big_quiet_step ((first | (go_at_call 41; exact BW.call (spec_seg _ _ _ _ _ HG.out _)))))
        refine wpQuiet_end fun w1 hb1 => ?_
        clear hx
        go_wp2
        go_ret
        exact ⟨ret_bool (by rw [← HV.out, fauB_bad hlt HG.out]; try rfl), below_call hbw hb1⟩
      · have HG := hide hg
        have HF := hide (hg)
        go_wp2
        refine wp_region_bw (by kernel_rfl) (by kernel_rfl) ?_
        repeat (go_big_quiet_step ((first | (go_at_call 41; exact BW.call (spec_seg _ _ _ _ _ HG.out _)))))
        refine wpQuiet_end fun w1 hb1 => ?_
        clear hx
        have HC1 := hide (hcx.on hb1)
        go_wp2
        go_roundw
        case rel => exact ⟨p + 1 + 1, by omega, by omega, by go_num, below_call hbw hb1, HC1.out, all_snoc2 HA.out HF.out⟩
        case measure => simp [intOf]; omega
    · have he := fauB_end (x0 := x0) (s := s) (x3 := x3) (n := n) (X := X) (fun i hi => HA.out i (by omega))
      rw [HV.out] at he
      have HE := hide he
      clear he hx
      cases b1 : inB x0 1 99
      · obtain rfl : false = v := by rw [HE.out, b1]; simp
        go_wp2_with (first | (go_at_call 53; refine (spec_in _ _ _ _ (by assumption) _).mono ?_; rintro e w' ⟨rfl, rfl⟩) | (go_at_call 82; refine (spec_word _ _ (by assumption) _ hs).mono ?_; rintro e w' ⟨rfl, rfl⟩))
        go_ret
        exact ⟨rfl, hbw⟩
      · skip
        cases b2 : wordB s
        · obtain rfl : false = v := by rw [HE.out, b1, b2]; simp
          go_wp2_with (first | (go_at_call 53; refine (spec_in _ _ _ _ (by assumption) _).mono ?_; rintro e w' ⟨rfl, rfl⟩) | (go_at_call 82; refine (spec_word _ _ (by assumption) _ hs).mono ?_; rintro e w' ⟨rfl, rfl⟩))
          go_ret
          exact ⟨rfl, hbw⟩
        · skip
          cases b3 : inB (n : Int) 2 8
          · obtain rfl : false = v := by rw [HE.out, b1, b2, b3]; simp
            go_wp2_with (first | (go_at_call 53; refine (spec_in _ _ _ _ (by assumption) _).mono ?_; rintro e w' ⟨rfl, rfl⟩) | (go_at_call 82; refine (spec_word _ _ (by assumption) _ hs).mono ?_; rintro e w' ⟨rfl, rfl⟩))
            go_ret
            exact ⟨rfl, hbw⟩
          · skip
            cases b4 : inB x3 0 1000
            · obtain rfl : false = v := by rw [HE.out, b1, b2, b3, b4]; simp
              go_wp2_with (first | (go_at_call 53; refine (spec_in _ _ _ _ (by assumption) _).mono ?_; rintro e w' ⟨rfl, rfl⟩) | (go_at_call 82; refine (spec_word _ _ (by assumption) _ hs).mono ?_; rintro e w' ⟨rfl, rfl⟩))
              go_ret
              exact ⟨rfl, hbw⟩
            · skip
              obtain rfl : true = v := by rw [HE.out, b1, b2, b3, b4]; rfl
              go_wp2_with (first | (go_at_call 53; refine (spec_in _ _ _ _ (by assumption) _).mono ?_; rintro e w' ⟨rfl, rfl⟩) | (go_at_call 82; refine (spec_word _ _ (by assumption) _ hs).mono ?_; rintro e w' ⟨rfl, rfl⟩))
              go_ret
              exact ⟨rfl, hbw⟩
set_option maxHeartbeats 4000000 in
set_option maxRecDepth 100000 in
theorem spec_isFau (x0 : Int) (s : ByteArray) (A : Option Addr) (n c : Nat) (X : Nat → Nat → Int) (x3 : Int) (v : Bool) (hv : fauB x0 s n X x3 = v) (w : World) (hs : s.size ≤ 1048576) (hn : n ≤ 1048576) (ha : Arr w w.heap.size A n 2 (iv X)) :
    Calls Try.prog 15 #[.agg #[.int .i64 x0, .string s, .slice A n c, .int .i64 x3]] w fun e w' => e = .returned (.bool v) ∧ Below w.heap.size w w' := by
  have HV := hide hv
  clear hv
  have hb0 : Below w.heap.size w (w.alloc (.cells #[.int .i64 x0, .string s, .slice A n c, .int .i64 x3] 36)) := below_al (Below.refl _ _)
  go_enter Try.func15, Try.ntmps15
  go_wp2_with fail
  refine (spec_fau _ _ _ _ _ X _ _ HV.out _ hs hn (ha.on hb0)).mono ?_
  rintro e w1 ⟨rfl, hb1⟩
  obtain ⟨qc1, qf1⟩ := bcell hb1
  have hz1 := hb1.size
  try simp only [World.size_alloc, World.size_setCell, World.size_drew] at hz1
  have hq1 : Below w.heap.size w w1 := below_call (by go_grown) hb1
  try have hl0_1 : w.heap.size < w1.heap.size := by omega
  try have hl1_1 : w.heap.size + 1 < w1.heap.size := by omega
  try have hl2_1 : w.heap.size + 2 < w1.heap.size := by omega
  try have hl3_1 : w.heap.size + 3 < w1.heap.size := by omega
  go_wp2
  go_returns
  exact ⟨rfl, hq1⟩
end Go.Proofs.Ytbpeamjgddikjaa
