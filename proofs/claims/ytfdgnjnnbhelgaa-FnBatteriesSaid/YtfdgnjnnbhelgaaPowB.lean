/- Chapter 22: the least sun, dark days. -/
import Derived.Test.YtfdgnjnnbhelgaaPowA
namespace Go.Proofs.Ytfdgnjnnbhelgaa
open Go.RowKit
set_option linter.unusedVariables false
set_option linter.unusedSimpArgs false

/-- The least sun with which a station runs. -/
def leastV (f nw u lo : Int) : Int × Bool := if batB f nw u lo = true ∧ lo ≤ nw ∧ u ≤ f ∧ u - nw ≤ 1000 then (max 0 (u - nw), true) else (0, false)
theorem least_hit {f nw u lo : Int} (hb : batB f nw u lo = true) {k : Nat} (hk : k ≤ 1000) (hall : ∀ s : Nat, s < k → aRan f nw u lo s = false) (hr : aRan f nw u lo k = true) : leastV f nw u lo = ((k : Int), true) := by
  have hbat := bat_of hb
  have := hbat.n1; have := hbat.n2; have := hbat.u1
  simp only [aRan, Bool.and_eq_true, decide_eq_true_eq] at hr
  have hmin : max 0 (u - nw) = (k : Int) := by
    by_cases hlt : max 0 (u - nw) < (k : Int)
    · have h1 := hall (max 0 (u - nw)).toNat (by omega)
      simp only [aRan, Bool.and_eq_false_iff, decide_eq_false_iff_not] at h1
      omega
    · omega
  unfold leastV
  rw [if_pos ⟨hb, by omega, by omega, by omega⟩, hmin]
theorem least_miss {f nw u lo : Int} (hb : batB f nw u lo = true) (hall : ∀ s : Nat, s < 1001 → aRan f nw u lo s = false) : leastV f nw u lo = (0, false) := by
  have hbat := bat_of hb
  have := hbat.n1; have := hbat.n2; have := hbat.u1
  unfold leastV
  rw [if_neg]
  rintro ⟨_, h1, h2, h3⟩
  have h4 := hall (max 0 (u - nw)).toNat (by omega)
  simp only [aRan, Bool.and_eq_false_iff, decide_eq_false_iff_not] at h4
  omega
theorem least_bad {f nw u lo : Int} (hb : batB f nw u lo = false) : leastV f nw u lo = (0, false) := by
  unfold leastV; rw [if_neg]; rintro ⟨h, _⟩; rw [hb] at h; cases h

set_option maxHeartbeats 400000 in
theorem spec_leastSun (f nw u lo : Int) (w : World) :
    Calls Try.prog 11 #[.agg #[.int .i64 f, .int .i64 nw, .int .i64 u, .int .i64 lo]] w fun e w' =>
      e = .returned (.tuple #[.int .i64 (leastV f nw u lo).1, .bool (leastV f nw u lo).2]) ∧ Below w.heap.size w w' := by
  cases hB : batB f nw u lo
  · rw [least_bad hB]
    go_enter Try.func11, Try.ntmps11
    go_wp2_with (first | (go_at_call 74; refine (spec_bat _ _ _ _ _ (by assumption) _).mono ?_; rintro e w1 ⟨rfl, hb1⟩; obtain ⟨qc1, qf1⟩ := bcell hb1; have hz1 := hb1.size; (try simp only [World.size_alloc, World.size_setCell, World.size_drew] at hz1); (try have hl1 : w.heap.size < w1.heap.size := by omega); (try have hm1 : w.heap.size + 1 < w1.heap.size := by omega)))
    go_returns
    exact ⟨rfl, below_call (by go_grown) hb1⟩
  · obtain ⟨f1, f2, n1, n2, u1, u2, l1, l2⟩ := bat_of hB
    by_cases h1 : lo ≤ nw
    · by_cases h2 : u ≤ f
      · by_cases h3 : u - nw ≤ 1000
        · have HE : Hid (leastV f nw u lo = (max 0 (u - nw), true)) := by unfold leastV; rw [if_pos ⟨hB, h1, h2, h3⟩]; rfl
          rw [HE.out]
          go_enter Try.func11, Try.ntmps11
          go_wp2_with (first | (go_at_call 74; refine (spec_bat _ _ _ _ _ (by assumption) _).mono ?_; rintro e w1 ⟨rfl, hb1⟩; obtain ⟨qc1, qf1⟩ := bcell hb1; have hz1 := hb1.size; (try simp only [World.size_alloc, World.size_setCell, World.size_drew] at hz1); (try have hl1 : w.heap.size < w1.heap.size := by omega); (try have hm1 : w.heap.size + 1 < w1.heap.size := by omega)) | (go_at_call 75; refine (spec_most _ _ _ rfl _).mono ?_; rintro e w' ⟨rfl, rfl⟩))
          go_returns
          exact ⟨rfl, below_call (by go_grown) hb1⟩
        · omega
      · have HE : Hid (leastV f nw u lo = (0, false)) := by unfold leastV; rw [if_neg (by rintro ⟨_, _, h, _⟩; exact h2 h)]; rfl
        rw [HE.out]
        go_enter Try.func11, Try.ntmps11
        go_wp2_with (first | (go_at_call 74; refine (spec_bat _ _ _ _ _ (by assumption) _).mono ?_; rintro e w1 ⟨rfl, hb1⟩; obtain ⟨qc1, qf1⟩ := bcell hb1; have hz1 := hb1.size; (try simp only [World.size_alloc, World.size_setCell, World.size_drew] at hz1); (try have hl1 : w.heap.size < w1.heap.size := by omega); (try have hm1 : w.heap.size + 1 < w1.heap.size := by omega)))
        go_returns
        exact ⟨rfl, below_call (by go_grown) hb1⟩
    · have HE : Hid (leastV f nw u lo = (0, false)) := by unfold leastV; rw [if_neg (by rintro ⟨_, h, _⟩; exact h1 h)]; rfl
      rw [HE.out]
      go_enter Try.func11, Try.ntmps11
      go_wp2_with (first | (go_at_call 74; refine (spec_bat _ _ _ _ _ (by assumption) _).mono ?_; rintro e w1 ⟨rfl, hb1⟩; obtain ⟨qc1, qf1⟩ := bcell hb1; have hz1 := hb1.size; (try simp only [World.size_alloc, World.size_setCell, World.size_drew] at hz1); (try have hl1 : w.heap.size < w1.heap.size := by omega); (try have hm1 : w.heap.size + 1 < w1.heap.size := by omega)))
      go_returns
      exact ⟨rfl, below_call (by go_grown) hb1⟩

set_option maxHeartbeats 1000000 in
theorem impl_leastSun (f nw u lo : Int) (w : World) :
    Calls Try.prog 10 #[.agg #[.int .i64 f, .int .i64 nw, .int .i64 u, .int .i64 lo]] w fun e w' =>
      e = .returned (.tuple #[.int .i64 (leastV f nw u lo).1, .bool (leastV f nw u lo).2]) ∧ Below w.heap.size w w' := by
  cases hB : batB f nw u lo
  · rw [least_bad hB]
    go_enter Try.func10, Try.ntmps10
    go_wp2_with (first | (go_at_call 18; refine (impl_bat _ _ _ _ _ (by assumption) _).mono ?_; rintro e w1 ⟨rfl, hb1⟩; obtain ⟨qc1, qf1⟩ := bcell hb1; have hz1 := hb1.size; (try simp only [World.size_alloc, World.size_setCell, World.size_drew] at hz1); (try have hl1 : w.heap.size < w1.heap.size := by omega); (try have hm1 : w.heap.size + 1 < w1.heap.size := by omega)))
    go_returns
    exact ⟨rfl, below_call (by go_grown) hb1⟩
  · have HB := hide hB
    have hbat := bat_of hB
    go_enter Try.func10, Try.ntmps10
    go_wp2_with (first | (go_at_call 18; refine (impl_bat _ _ _ _ _ (by assumption) _).mono ?_; rintro e w1 ⟨rfl, hb1⟩; obtain ⟨qc1, qf1⟩ := bcell hb1; have hz1 := hb1.size; (try simp only [World.size_alloc, World.size_setCell, World.size_drew] at hz1); (try have hl1 : w.heap.size < w1.heap.size := by omega); (try have hm1 : w.heap.size + 1 < w1.heap.size := by omega)))
    have hw0 : Below w.heap.size w w1 := below_call (by go_grown) hb1
    have g0 := qc1 w.heap.size 0 (by simp); have g1 := qc1 w.heap.size 1 (by simp); have g2 := qc1 w.heap.size 2 (by simp); have g3 := qc1 w.heap.size 3 (by simp)
    simp [go_sem] at g0 g1 g2 g3
    have hsz : w.heap.size < w1.heap.size := by have := hb1.size; simp at this; omega
    clear hB qc1 qf1 hb1
    go_loopw [4] (fun i wr => ∃ k : Nat, k ≤ 1001 ∧ i = .int .i64 k ∧ Below w1.heap.size w1 wr ∧ ∀ s : Nat, s < k → aRan f nw u lo s = false) (fun i _ => 1001 - (intOf i).toNat)
    case atStart => exact ⟨0, by omega, rfl, Below.refl _ _, fun s h => absurd h (by omega)⟩
    case round =>
      obtain ⟨k, hk, rfl, hb, hall⟩ := hrel
      obtain ⟨q1, q2⟩ := bcell hb
      have HA := hide hall
      have hbs := hb.size
      have hlt0 : w.heap.size < wr.heap.size := by omega
      clear hall
      by_cases hlt : k ≤ 1000
      · have hS : inB (k : Int) 0 1000 = true := inB_mk (by omega) (by omega)
        cases hr : aRan f nw u lo k
        · go_wp2_with (first | (go_at_call 72; refine (impl_sun _ _ (by assumption) _).mono ?_; rintro e w' ⟨rfl, rfl⟩) | (go_at_call 73; refine (impl_after _ _ _ _ _ _ _ rfl (by assumption) hbat (by omega) (by omega) _).mono ?_; rintro e w2 ⟨rfl, hb2⟩; obtain ⟨qc2, qf2⟩ := bcell hb2; have hz2 := hb2.size; (try simp only [World.size_alloc, World.size_setCell, World.size_drew] at hz2); (try have hl2 : w.heap.size < w2.heap.size := by omega); (try have hm2 : w.heap.size + 1 < w2.heap.size := by omega); (try have hn1_2 : w1.heap.size < w2.heap.size := by omega)))
          go_roundw
          case rel => exact ⟨k + 1, by omega, by go_num, below_al (below_call hb hb2), all_snoc HA.out hr⟩
          case measure => simp [intOf]; omega
        · go_wp2_with (first | (go_at_call 72; refine (impl_sun _ _ (by assumption) _).mono ?_; rintro e w' ⟨rfl, rfl⟩) | (go_at_call 73; refine (impl_after _ _ _ _ _ _ _ rfl (by assumption) hbat (by omega) (by omega) _).mono ?_; rintro e w2 ⟨rfl, hb2⟩; obtain ⟨qc2, qf2⟩ := bcell hb2; have hz2 := hb2.size; (try simp only [World.size_alloc, World.size_setCell, World.size_drew] at hz2); (try have hl2 : w.heap.size < w2.heap.size := by omega); (try have hm2 : w.heap.size + 1 < w2.heap.size := by omega); (try have hn1_2 : w1.heap.size < w2.heap.size := by omega)))
          go_returns
          exact ⟨by rw [least_hit HB.out hlt HA.out hr]; rfl, below_call hw0 (below_al (below_call hb hb2))⟩
      · obtain rfl : k = 1001 := by omega
        have hS : inB (1001 : Int) 0 1000 = false := by rfl
        go_wp2_with (first | (go_at_call 72; refine (impl_sun _ _ (by assumption) _).mono ?_; rintro e w' ⟨rfl, rfl⟩))
        go_returns
        exact ⟨by rw [least_miss HB.out HA.out]; rfl, hw0.trans (hb.mono (by omega))⟩

/-- For k days without sun the station runs, and no more. -/
def IsDark (f nw u lo : Int) (k : Nat) : Prop := (∀ i : Nat, i < k → aRan f (nw - i * u) u lo 0 = true) ∧ aRan f (nw - k * u) u lo 0 = false
theorem dark_one {f nw u lo : Int} {k k' : Nat} (h : IsDark f nw u lo k) (h' : IsDark f nw u lo k') : k = k' := by
  rcases Nat.lt_trichotomy k k' with hlt | heq | hgt
  · have := h'.1 k hlt; rw [h.2] at this; cases this
  · exact heq
  · have := h.1 k' hgt; rw [h'.2] at this; cases this
def DarkPost (f nw u lo : Int) (w : World) (e : Ending) (w' : World) : Prop := ∃ k : Nat, IsDark f nw u lo k ∧ e = .returned (.tuple #[.int .i64 k, .bool true]) ∧ Below w.heap.size w w'
theorem ran_zero {f nw u lo : Int} (hbat : Bat f nw u lo) (h : aRan f nw u lo 0 = true) : lo ≤ nw ∧ u ≤ nw ∧ aNow f nw u lo 0 = nw - u := by
  have := hbat.n2; have := hbat.n1; have := hbat.u1
  simp only [aRan, Bool.and_eq_true, decide_eq_true_eq] at h
  refine ⟨h.1, by omega, ?_⟩
  unfold aNow; rw [if_pos h.1]; omega
theorem dark_step {nw u : Int} {k : Nat} {x : Int} (hx : x = nw - k * u) : x - u = nw - ((k + 1 : Nat) : Int) * u := by
  subst hx; push_cast; rw [Int.add_mul]; omega

theorem spec_darkNo (f nw u lo : Int) (hB : batB f nw u lo = false) (w : World) :
    Calls Try.prog 21 #[.agg #[.int .i64 f, .int .i64 nw, .int .i64 u, .int .i64 lo]] w fun e w' => e = .returned (.tuple #[.int .i64 0, .bool false]) ∧ Below w.heap.size w w' := by
  go_enter Try.func21, Try.ntmps21
  go_wp2_with (first | (go_at_call 74; refine (spec_bat _ _ _ _ _ (by assumption) _).mono ?_; rintro e w1 ⟨rfl, hb1⟩; obtain ⟨qc1, qf1⟩ := bcell hb1; have hz1 := hb1.size; (try simp only [World.size_alloc, World.size_setCell, World.size_drew] at hz1); (try have hl1 : w.heap.size < w1.heap.size := by omega); (try have hm1 : w.heap.size + 1 < w1.heap.size := by omega)))
  go_returns
  exact ⟨rfl, below_call (by go_grown) hb1⟩
theorem impl_darkNo (f nw u lo : Int) (hB : batB f nw u lo = false) (w : World) :
    Calls Try.prog 20 #[.agg #[.int .i64 f, .int .i64 nw, .int .i64 u, .int .i64 lo]] w fun e w' => e = .returned (.tuple #[.int .i64 0, .bool false]) ∧ Below w.heap.size w w' := by
  go_enter Try.func20, Try.ntmps20
  go_wp2_with (first | (go_at_call 18; refine (impl_bat _ _ _ _ _ (by assumption) _).mono ?_; rintro e w1 ⟨rfl, hb1⟩; obtain ⟨qc1, qf1⟩ := bcell hb1; have hz1 := hb1.size; (try simp only [World.size_alloc, World.size_setCell, World.size_drew] at hz1); (try have hl1 : w.heap.size < w1.heap.size := by omega); (try have hm1 : w.heap.size + 1 < w1.heap.size := by omega)))
  go_returns
  exact ⟨rfl, below_call (by go_grown) hb1⟩

set_option maxHeartbeats 1000000 in
theorem spec_dark (f nw u lo : Int) (hB : batB f nw u lo = true) (w : World) :
    Calls Try.prog 21 #[.agg #[.int .i64 f, .int .i64 nw, .int .i64 u, .int .i64 lo]] w (DarkPost f nw u lo w) := by
  have hbat := bat_of hB
  go_enter Try.func21, Try.ntmps21
  go_wp2_with (first | (go_at_call 74; refine (spec_bat _ _ _ _ _ (by assumption) _).mono ?_; rintro e w1 ⟨rfl, hb1⟩; obtain ⟨qc1, qf1⟩ := bcell hb1; have hz1 := hb1.size; (try simp only [World.size_alloc, World.size_setCell, World.size_drew] at hz1); (try have hl1 : w.heap.size < w1.heap.size := by omega); (try have hm1 : w.heap.size + 1 < w1.heap.size := by omega)))
  have hw0 : Below w.heap.size w w1 := below_call (by go_grown) hb1
  have hblk : Blk w1 w.heap.size 25 #[.int .i64 f, .int .i64 nw, .int .i64 u, .int .i64 lo] := (Blk.new w _ _).below hb1 (by simp)
  have HN := hide hbat.n1
  clear hB qc1 qf1 hb1
  go_loopw [4] (fun i wr => ∃ (k : Nat) (x : Int), i = .int .i64 k ∧ x = nw - k * u ∧ x + k ≤ nw ∧ Bat f x u lo ∧ Below w.heap.size w wr ∧ Blk wr w.heap.size 25 #[.int .i64 f, .int .i64 x, .int .i64 u, .int .i64 lo] ∧ ∀ i : Nat, i < k → aRan f (nw - i * u) u lo 0 = true) (fun i _ => nw.toNat + 1 - (intOf i).toNat)
  case atStart => exact ⟨0, nw, rfl, by simp, by omega, hbat, hw0, hblk, fun i h => absurd h (by omega)⟩
  case round =>
    obtain ⟨k, x, rfl, hx, hxk, hbx, hb, hblk, hall⟩ := hrel
    have hx0 := hbx.n1; have hf2 := hbx.f2; have hnf := hbat.n2; have hu1 := hbx.u1
    have hkb : (k : Int) ≤ 10000 := by omega
    have HX := hide hx; have HA := hide hall
    have d0 := hblk.cell 0; have d1 := hblk.cell 1; have d2 := hblk.cell 2; have d3 := hblk.cell 3
    have f0 := hblk.frozen 0; have f1 := hblk.frozen 1; have f2 := hblk.frozen 2; have f3 := hblk.frozen 3
    simp at d0 d1 d2 d3
    have hlt0 := hblk.lt
    have HK := hide hblk
    clear hx hall hblk
    cases hr : aRan f x u lo 0
    · go_wp2_with (first | (go_at_call 82; refine (spec_day _ _ _ _ _ _ _ _ rfl (by assumption) rfl (by assumption) (by omega) (by omega) _).mono ?_; rintro e w2 ⟨rfl, hb2⟩; obtain ⟨qc2, qf2⟩ := bcell hb2; have hz2 := hb2.size; (try simp only [World.size_alloc, World.size_setCell, World.size_drew] at hz2); (try have hl2 : w.heap.size < w2.heap.size := by omega); (try have hm2 : w.heap.size + 1 < w2.heap.size := by omega); (try have hn1_2 : w1.heap.size < w2.heap.size := by omega)))
      go_returns
      exact ⟨k, ⟨HA.out, by rw [← HX.out]; exact hr⟩, rfl, below_al (below_call hb hb2)⟩
    · have hz := ran_zero hbx hr
      obtain ⟨hz1, hz2, hz3⟩ := hz
      have HZ := hide hz3
      clear hz3
      have hfa := frozen_al; have hfo := frozen_out
      go_wp2_with (first | (go_at_call 82; refine (spec_day _ _ _ _ _ _ _ _ HZ.out (by assumption) rfl (by assumption) (by omega) (by omega) _).mono ?_; rintro e w2 ⟨rfl, hb2⟩; obtain ⟨qc2, qf2⟩ := bcell hb2; have hl2 : w.heap.size < w2.heap.size := Nat.lt_of_lt_of_le hlt0 hb2.size))
      go_roundw
      case rel =>
        have hB2 := HK.out.below hb2 hlt0
        exact ⟨k + 1, x - u, by go_num, dark_step HX.out, by push_cast; omega, by have := aNow_bd hbx (Int.le_refl 0); rwa [HZ.out] at this,
          below_al (((((below_call hb hb2).setCell (p := ⟨w.heap.size, 0, none⟩) (Nat.le_refl _) _).setCell (p := ⟨w.heap.size, 1, none⟩) (Nat.le_refl _) _).setCell (p := ⟨w.heap.size, 2, none⟩) (Nat.le_refl _) _).setCell (p := ⟨w.heap.size, 3, none⟩) (Nat.le_refl _) _),
          ((((hB2.set_ 0 _).set_ 1 _).set_ 2 _).set_ 3 _).alloc _, all_snoc HA.out (by rw [← HX.out]; exact hr)⟩
      case measure => simp [intOf]; omega

set_option maxHeartbeats 1000000 in
theorem impl_dark (f nw u lo : Int) (hB : batB f nw u lo = true) (w : World) :
    Calls Try.prog 20 #[.agg #[.int .i64 f, .int .i64 nw, .int .i64 u, .int .i64 lo]] w (DarkPost f nw u lo w) := by
  have hbat := bat_of hB
  go_enter Try.func20, Try.ntmps20
  go_wp2_with (first | (go_at_call 18; refine (impl_bat _ _ _ _ _ (by assumption) _).mono ?_; rintro e w1 ⟨rfl, hb1⟩; obtain ⟨qc1, qf1⟩ := bcell hb1; have hz1 := hb1.size; (try simp only [World.size_alloc, World.size_setCell, World.size_drew] at hz1); (try have hl1 : w.heap.size < w1.heap.size := by omega); (try have hm1 : w.heap.size + 1 < w1.heap.size := by omega)) | (go_at_call 73; refine (impl_after _ _ _ _ _ _ _ rfl rfl hbat (by omega) (by omega) _).mono ?_; rintro e w2 ⟨rfl, hb2⟩; obtain ⟨qc2, qf2⟩ := bcell hb2; have hz2 := hb2.size; (try simp only [World.size_alloc, World.size_setCell, World.size_drew] at hz2); (try have hl2 : w.heap.size < w2.heap.size := by omega); (try have hm2 : w.heap.size + 1 < w2.heap.size := by omega); (try have hn1_2 : w1.heap.size < w2.heap.size := by omega)))
  have hw0 : Below w.heap.size w w2 := below_call (below_call (by go_grown) hb1) hb2
  have HN := hide hbat.n1; have HF := hide hbat.f2; have hnf := hbat.n2; have hu1 := hbat.u1
  clear hB qc1 qf1 hb1 qc2 qf2
  go_loopw [4, 5, 6] (fun i p r wr => ∃ (k g : Nat) (x : Int), i = .int .i64 k ∧ p = .pointer (some ⟨g, 0, none⟩) ∧ r = .bool (aRan f x u lo 0) ∧ x = nw - k * u ∧ x + k ≤ nw ∧ Bat f x u lo ∧ Below w.heap.size w wr ∧ w.heap.size ≤ g ∧ Blk wr g 25 #[.int .i64 f, .int .i64 (aNow f x u lo 0), .int .i64 u, .int .i64 lo] ∧ ∀ i : Nat, i < k → aRan f (nw - i * u) u lo 0 = true) (fun i _ _ _ => nw.toNat + 1 - (intOf i).toNat)
  case atStart => exact ⟨0, _, nw, rfl, rfl, rfl, by simp, by omega, hbat, below_al hw0, hw0.size, Blk.new _ _ _, fun i h => absurd h (by omega)⟩
  case round =>
    obtain ⟨k, g, x, rfl, rfl, rfl, hx, hxk, hbx, hb, hg, hblk, hall⟩ := hrel
    have hx0 := hbx.n1; have hf2 := hbx.f2
    have hkb : (k : Int) ≤ 10000 := by omega
    cases hr : aRan f x u lo 0
    · clear hblk
      have HX := hide hx; have HA := hide hall
      clear hx hall
      go_wp2
      go_returns
      exact ⟨k, ⟨HA.out, by rw [← HX.out]; exact hr⟩, rfl, hb⟩
    · obtain ⟨hz1, hz2, hz3⟩ := ran_zero hbx hr
      rw [hz3] at hblk
      have hby : Bat f (x - u) u lo := by have := aNow_bd hbx (Int.le_refl 0); rwa [hz3] at this
      have d0 := hblk.cell 0; have d1 := hblk.cell 1; have d2 := hblk.cell 2; have d3 := hblk.cell 3
      simp at d0 d1 d2 d3
      have hlt0 := hblk.lt
      have hfa := frozen_al; have hfo := frozen_out
      have HX := hide hx; have HA := hide hall; have HZ := hide hz3; have HK := hide hblk
      clear hx hall hz3 hblk
      go_wp2_with (first | (go_at_call 73; refine (impl_after _ _ _ _ _ _ _ rfl rfl hby (by omega) (by omega) _).mono ?_; rintro e w3 ⟨rfl, hb3⟩; obtain ⟨qc3, qf3⟩ := bcell hb3; have hz3 := hb3.size; (try simp only [World.size_alloc, World.size_setCell, World.size_drew] at hz3); (try have hl3 : w.heap.size < w3.heap.size := by omega); (try have hm3 : w.heap.size + 1 < w3.heap.size := by omega); (try have hn1_3 : w1.heap.size < w3.heap.size := by omega); (try have hn2_3 : w2.heap.size < w3.heap.size := by omega)))
      go_roundw
      case rel =>
        have hB3 := (Blk.new wr 25 #[.int .i64 f, .int .i64 (x - u), .int .i64 u, .int .i64 lo]).below hb3 (by simp)
        exact ⟨k + 1, wr.heap.size, x - u, by go_num, rfl, rfl, dark_step HX.out, by push_cast; omega, hby,
          ((((below_call (below_al hb) hb3).setCell (p := ⟨wr.heap.size, 0, none⟩) hb.size _).setCell (p := ⟨wr.heap.size, 1, none⟩) hb.size _).setCell (p := ⟨wr.heap.size, 2, none⟩) hb.size _).setCell (p := ⟨wr.heap.size, 3, none⟩) hb.size _,
          hb.size, (((hB3.set_ 0 _).set_ 1 _).set_ 2 _).set_ 3 _, all_snoc HA.out (by rw [← HX.out]; exact hr)⟩
      case measure => simp [intOf]; omega


end Go.Proofs.Ytfdgnjnnbhelgaa
