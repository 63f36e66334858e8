/- Chapter 19: does a quake reach a later one? both sides. -/
import Derived.Test.YthpagjkkccimiaaQuakeC
import Derived.Test.YthpagjkkccimiaaLink
import Derived.IntWalk
namespace Go.Proofs.Ythpagjkkccimiaa
open Go.RowKit
set_option linter.unusedVariables false
set_option linter.unusedSimpArgs false

theorem sq_bd {a M : Int} (h1 : -M ≤ a) (h2 : a ≤ M) (h0 : 0 ≤ M) : 0 ≤ a * a ∧ a * a ≤ M * M := by
  rcases Int.le_total 0 a with h | h
  · exact ⟨Int.mul_nonneg h h, Int.mul_le_mul h2 h2 h h0⟩
  · have e : a * a = (-a) * (-a) := by rw [Int.neg_mul_neg]
    rw [e]
    exact ⟨Int.mul_nonneg (by omega) (by omega), Int.mul_le_mul (by omega) (by omega) (by omega) h0⟩
def farI (f g s : Int) : Int := f + g * max 0 s / 10
def dstI (ax ay bx b2 : Int) : Int := (ax - bx) * (ax - bx) + (ay - b2) * (ay - b2)
def rchV (t f g a0 a1 a2 a3 b0 b1 b2 : Int) : Bool := decide (b0 - a0 ≤ t) && decide (dstI a1 a2 b1 b2 ≤ farI f g a3 * farI f g a3)
/-- What the walks know of a linking and two quakes. -/
structure RchIn (t f g a0 a1 a2 a3 b0 b1 b2 b3 : Int) : Prop where
  t0 : 0 ≤ t
  t1 : t ≤ 100000
  f0 : 0 ≤ f
  f1 : f ≤ 500
  g0 : 0 ≤ g
  g1 : g ≤ 100
  u0 : 0 ≤ a0
  u1 : a0 ≤ b0
  u2 : b0 ≤ 1000000
  x0 : 0 ≤ a1
  x1 : a1 ≤ 999
  y0 : 0 ≤ a2
  y1 : a2 ≤ 999
  s0 : -20 ≤ a3
  s1 : a3 ≤ 95
  p0 : 0 ≤ b1
  p1 : b1 ≤ 999
  q0 : 0 ≤ b2
  q1 : b2 ≤ 999
theorem gm_bd {g m : Int} (g0 : 0 ≤ g) (g1 : g ≤ 100) (m0 : 0 ≤ m) (m1 : m ≤ 95) : 0 ≤ g * m ∧ g * m ≤ 9500 :=
  ⟨Int.mul_nonneg g0 m0, by have := Int.mul_le_mul g1 m1 m0 (by omega : (0 : Int) ≤ 100); omega⟩
theorem impl_square (x y v : Int) (hv : x * x + y * y = v) (x0 : -999 ≤ x) (x1 : x ≤ 999) (y0 : -999 ≤ y) (y1 : y ≤ 999) (w : World) :
    Calls Try.prog 123 #[.int .i64 x, .int .i64 y] w fun e w' => e = .returned (.int .i64 v) ∧ w = w' := by
  obtain ⟨a0, a1⟩ := sq_bd x0 x1 (by omega)
  obtain ⟨b0, b1⟩ := sq_bd y0 y1 (by omega)
  subst hv
  go_enter Try.func123, Try.ntmps123
  go_wp2
  go_ret
  exact ⟨rfl, rfl⟩
set_option maxHeartbeats 1000000 in
theorem impl_reach (t f g a0 a1 a2 a3 b0 b1 b2 b3 : Int) (v : Bool) (hv : rchV t f g a0 a1 a2 a3 b0 b1 b2 = v) (B : RchIn t f g a0 a1 a2 a3 b0 b1 b2 b3) (w : World) :
    Calls Try.prog 93 #[.agg #[.int .i64 t, .int .i64 f, .int .i64 g], .agg #[.int .i64 a0, .int .i64 a1, .int .i64 a2, .int .i64 a3], .agg #[.int .i64 b0, .int .i64 b1, .int .i64 b2, .int .i64 b3]] w fun e w' => e = .returned (.bool v) ∧ Below w.heap.size w w' := by
  obtain ⟨t0, t1, f0, f1, g0, g1, u0, u1, u2, x0, x1, y0, y1, s0, s1, p0, p1, q0, q1⟩ := B
  obtain ⟨D, hD⟩ : ∃ D, dstI a1 a2 b1 b2 = D := ⟨_, rfl⟩
  obtain ⟨m, hm⟩ : ∃ m, max 0 a3 = m := ⟨_, rfl⟩
  have m0 : 0 ≤ m := by omega
  have m1 : m ≤ 95 := by omega
  obtain ⟨gm0, gm1⟩ := gm_bd g0 g1 m0 m1
  obtain ⟨z, hz⟩ : ∃ z, f + g * m / 10 = z := ⟨_, rfl⟩
  have z0 : 0 ≤ z := by omega
  have z1 : z ≤ 1450 := by omega
  obtain ⟨zz0, zz1⟩ := sq_bd (a := z) (M := 1450) (by omega) z1 (by omega)
  have hr : rchV t f g a0 a1 a2 a3 b0 b1 b2 = (decide (b0 - a0 ≤ t) && decide (D ≤ z * z)) := by unfold rchV farI; rw [hD, hm, hz]
  rw [hr] at hv
  have HV := hide hv; have HD := hide hD
  clear hv hr hD
  by_cases hs : 0 < a3
  · obtain rfl : a3 = m := by omega
    clear hm
    by_cases h1 : b0 - a0 ≤ t
    · by_cases h2 : D ≤ z * z
      · obtain rfl : true = v := by rw [← HV.out]; simp [h1, h2]
        go_enter Try.func93, Try.ntmps93
        go_wp2_with (go_at_call 123; refine (impl_square _ _ D HD.out (by omega) (by omega) (by omega) (by omega) _).mono ?_; rintro e w' ⟨rfl, rfl⟩)
        go_returns
        exact ⟨rfl, by go_grown⟩
      · obtain rfl : false = v := by rw [← HV.out]; simp [h1, h2]
        have h2' : decide (D ≤ z * z) = false := by simp; omega
        clear h2
        go_enter Try.func93, Try.ntmps93
        go_wp2_with (go_at_call 123; refine (impl_square _ _ D HD.out (by omega) (by omega) (by omega) (by omega) _).mono ?_; rintro e w' ⟨rfl, rfl⟩)
        go_returns
        exact ⟨rfl, by go_grown⟩
    · obtain rfl : false = v := by rw [← HV.out]; simp [h1]
      have h1' : t < b0 - a0 := by omega
      clear h1
      go_enter Try.func93, Try.ntmps93
      go_wp2
      go_returns
      exact ⟨rfl, by go_grown⟩
  · obtain rfl : m = 0 := by omega
    have hs' : a3 ≤ 0 := by omega
    simp only [Int.mul_zero, Int.zero_ediv, Int.add_zero] at hz
    subst hz
    clear hm hs
    by_cases h1 : b0 - a0 ≤ t
    · by_cases h2 : D ≤ f * f
      · obtain rfl : true = v := by rw [← HV.out]; simp [h1, h2]
        go_enter Try.func93, Try.ntmps93
        go_wp2_with (go_at_call 123; refine (impl_square _ _ D HD.out (by omega) (by omega) (by omega) (by omega) _).mono ?_; rintro e w' ⟨rfl, rfl⟩)
        go_returns
        exact ⟨rfl, by go_grown⟩
      · obtain rfl : false = v := by rw [← HV.out]; simp [h1, h2]
        have h2' : decide (D ≤ f * f) = false := by simp; omega
        clear h2
        go_enter Try.func93, Try.ntmps93
        go_wp2_with (go_at_call 123; refine (impl_square _ _ D HD.out (by omega) (by omega) (by omega) (by omega) _).mono ?_; rintro e w' ⟨rfl, rfl⟩)
        go_returns
        exact ⟨rfl, by go_grown⟩
    · obtain rfl : false = v := by rw [← HV.out]; simp [h1]
      have h1' : t < b0 - a0 := by omega
      clear h1
      go_enter Try.func93, Try.ntmps93
      go_wp2
      go_returns
      exact ⟨rfl, by go_grown⟩
theorem spec_size (x v : Int) (hv : max x (-x) = v) (h1 : -1000000 ≤ x) (h2 : x ≤ 1000000) (w : World) :
    Calls Try.prog 137 #[.int .i64 x] w fun e w' => e = .returned (.int .i64 v) ∧ w = w' := by
  go_enter Try.func137, Try.ntmps137
  go_wp2_with (go_at_call 122; refine (spec_most _ _ _ hv _).mono ?_; rintro e w' ⟨rfl, rfl⟩)
  go_ret
  exact ⟨rfl, rfl⟩
set_option maxHeartbeats 1000000 in
theorem spec_match (t z a0 a1 a2 a3 b0 b1 b2 b3 : Int) (v : Bool) (hv : (decide (b0 - a0 ≤ t) && decide (dstI a1 a2 b1 b2 ≤ z * z)) = v) (u0 : 0 ≤ a0) (u1 : a0 ≤ b0) (u2 : b0 ≤ 1000000)
    (x0 : 0 ≤ a1) (x1 : a1 ≤ 999) (y0 : 0 ≤ a2) (y1 : a2 ≤ 999) (p0 : 0 ≤ b1) (p1 : b1 ≤ 999) (q0 : 0 ≤ b2) (q1 : b2 ≤ 999) (z0 : 0 ≤ z) (z1 : z ≤ 1450) (w : World) :
    Calls Try.prog 124 #[.agg #[.int .i64 a0, .int .i64 a1, .int .i64 a2, .int .i64 a3], .agg #[.int .i64 b0, .int .i64 b1, .int .i64 b2, .int .i64 b3], .int .i64 t, .int .i64 z] w fun e w' => e = .returned (.bool v) ∧ Below w.heap.size w w' := by
  obtain ⟨zz0, zz1⟩ := sq_bd (a := z) (M := 1450) (by omega) z1 (by omega)
  obtain ⟨c0, c1⟩ := sq_bd (a := a1 - b1) (M := 999) (by omega) (by omega) (by omega)
  obtain ⟨d0, d1⟩ := sq_bd (a := a2 - b2) (M := 999) (by omega) (by omega) (by omega)
  have HV := hide hv
  clear hv
  by_cases h1 : b0 - a0 ≤ t
  · by_cases h2 : (a1 - b1) * (a1 - b1) + (a2 - b2) * (a2 - b2) ≤ z * z
    · obtain rfl : true = v := by rw [← HV.out]; simp [dstI, h1, h2]
      go_enter Try.func124, Try.ntmps124
      go_wp2_with (go_at_call 137; refine (spec_size _ (b0 - a0) (by omega) (by omega) (by omega) _).mono ?_; rintro e w' ⟨rfl, rfl⟩)
      go_returns
      exact ⟨rfl, by go_grown⟩
    · obtain rfl : false = v := by rw [← HV.out]; simp [dstI, h1, h2]
      have h2' : decide ((a1 - b1) * (a1 - b1) + (a2 - b2) * (a2 - b2) ≤ z * z) = false := by simp; omega
      clear h2
      go_enter Try.func124, Try.ntmps124
      go_wp2_with (go_at_call 137; refine (spec_size _ (b0 - a0) (by omega) (by omega) (by omega) _).mono ?_; rintro e w' ⟨rfl, rfl⟩)
      go_returns
      exact ⟨rfl, by go_grown⟩
  · obtain rfl : false = v := by rw [← HV.out]; simp [h1]
    have h1' : t < b0 - a0 := by omega
    clear h1
    go_enter Try.func124, Try.ntmps124
    go_wp2_with (go_at_call 137; refine (spec_size _ (b0 - a0) (by omega) (by omega) (by omega) _).mono ?_; rintro e w' ⟨rfl, rfl⟩)
    go_returns
    exact ⟨rfl, by go_grown⟩
set_option maxHeartbeats 1000000 in
theorem spec_reach (t f g a0 a1 a2 a3 b0 b1 b2 b3 : Int) (v : Bool) (hv : rchV t f g a0 a1 a2 a3 b0 b1 b2 = v) (B : RchIn t f g a0 a1 a2 a3 b0 b1 b2 b3) (w : World) :
    Calls Try.prog 94 #[.agg #[.int .i64 a0, .int .i64 a1, .int .i64 a2, .int .i64 a3], .agg #[.int .i64 b0, .int .i64 b1, .int .i64 b2, .int .i64 b3], .agg #[.int .i64 t, .int .i64 f, .int .i64 g]] w fun e w' => e = .returned (.bool v) ∧ Below w.heap.size w w' := by
  obtain ⟨t0, t1, f0, f1, g0, g1, u0, u1, u2, x0, x1, y0, y1, s0, s1, p0, p1, q0, q1⟩ := B
  obtain ⟨m, hm⟩ : ∃ m, max 0 a3 = m := ⟨_, rfl⟩
  have m0 : 0 ≤ m := by omega
  have m1 : m ≤ 95 := by omega
  obtain ⟨gm0, gm1⟩ := gm_bd g0 g1 m0 m1
  have z0 : 0 ≤ f + g * m / 10 := by omega
  have z1 : f + g * m / 10 ≤ 1450 := by omega
  have hr : rchV t f g a0 a1 a2 a3 b0 b1 b2 = (decide (b0 - a0 ≤ t) && decide (dstI a1 a2 b1 b2 ≤ (f + g * m / 10) * (f + g * m / 10))) := by unfold rchV farI; rw [hm]
  rw [hr] at hv
  have HV := hide hv; have HM := hide hm
  clear hv hr hm
  have hw1 : IntKind.i64.wrap (g * m) = g * m := IntWalk.i64_in _ (by omega)
  have hw2 : (g * m).tdiv 10 = g * m / 10 := Int.tdiv_eq_ediv_of_nonneg gm0
  have hw3 : IntKind.i64.wrap (g * m / 10) = g * m / 10 := IntWalk.i64_in _ (by omega)
  have hw4 : IntKind.i64.wrap (f + g * m / 10) = f + g * m / 10 := IntWalk.i64_in _ (by omega)
  have hx := fun (W : World) => BW.cell (w := W)
  go_enter Try.func94, Try.ntmps94
  go_wp2
  refine wp_region_bw (by kernel_rfl) (by kernel_rfl) ?_
  repeat (go_big_quiet_step ((first | (go_at_call 122; exact BW.call0 (spec_most _ _ _ HM.out _)) | (go_at_call 124; exact BW.call (spec_match t _ a0 a1 a2 a3 b0 b1 b2 b3 _ HV.out u0 u1 u2 x0 x1 y0 y1 p0 p1 q0 q1 z0 z1 _)))))
  refine wpQuiet_end fun w1 hb1 => ?_
  clear hx hw1 hw2 hw3 hw4
  go_wp2
  go_returns
  exact ⟨rfl, (by go_grown : Below w.heap.size w _).trans (hb1.mono (by simp; omega))⟩
end Go.Proofs.Ythpagjkkccimiaa
