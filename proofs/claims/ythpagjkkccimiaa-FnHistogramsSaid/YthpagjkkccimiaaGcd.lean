/- Fractions in lowest terms. -/
import Derived.Test.YthpagjkkccimiaaNum
namespace Go.Proofs.Ythpagjkkccimiaa
open Go.RowKit
set_option linter.unusedVariables false
set_option linter.unusedSimpArgs false

theorem tmod_bd {p q M : Int} (h1 : -M ≤ p) (h2 : p ≤ M) : -M ≤ p.tmod q ∧ p.tmod q ≤ M := by
  have h := Int.natAbs_tmod p q
  have h3 : (p.tmod q).natAbs ≤ p.natAbs := by rw [h]; exact Nat.mod_le _ _
  omega
theorem gcd_step {p q : Int} : Nat.gcd q.natAbs (p.tmod q).natAbs = Nat.gcd p.natAbs q.natAbs := by
  rw [Int.natAbs_tmod, Nat.gcd_comm, ← Nat.gcd_rec, Nat.gcd_comm]
theorem tmod_lt {p q : Int} (h : q ≠ 0) : (p.tmod q).natAbs < q.natAbs := by
  rw [Int.natAbs_tmod]; exact Nat.mod_lt _ (by omega)

theorem impl_abs (a : Int) (h1 : -1099511627776 ≤ a) (h2 : a ≤ 1099511627776) (w : World) :
    Calls Try.prog 139 #[.int .i64 a] w fun e w' => e = .returned (.int .i64 (a.natAbs : Int)) ∧ w = w' := by
  rcases Int.lt_trichotomy a 0 with h | h | h
  · obtain ⟨v, hv⟩ : ∃ v : Int, (a.natAbs : Int) = v := ⟨_, rfl⟩
    rw [hv]
    obtain rfl : -a = v := by omega
    clear hv
    go_enter Try.func139, Try.ntmps139
    go_wp2
    go_ret
    exact ⟨rfl, rfl⟩
  · subst h
    go_enter Try.func139, Try.ntmps139
    go_wp2
    go_ret
    exact ⟨rfl, rfl⟩
  · obtain ⟨v, hv⟩ : ∃ v : Int, (a.natAbs : Int) = v := ⟨_, rfl⟩
    rw [hv]
    obtain rfl : a = v := by omega
    clear hv
    go_enter Try.func139, Try.ntmps139
    go_wp2
    go_ret
    exact ⟨rfl, rfl⟩

theorem impl_gcd (a b : Int) (a1 : -1099511627776 ≤ a) (a2 : a ≤ 1099511627776) (b1 : -1099511627776 ≤ b) (b2 : b ≤ 1099511627776) (w : World) :
    Calls Try.prog 130 #[.int .i64 a, .int .i64 b] w fun e w' => e = .returned (.int .i64 (Nat.gcd a.natAbs b.natAbs : Int)) ∧ Below w.heap.size w w' := by
  go_enter Try.func130, Try.ntmps130
  go_wp2
  go_loopw [0, 1] (fun x y wr => ∃ p q : Int, x = .int .i64 p ∧ y = .int .i64 q ∧ -1099511627776 ≤ p ∧ p ≤ 1099511627776 ∧ -1099511627776 ≤ q ∧ q ≤ 1099511627776 ∧ Nat.gcd p.natAbs q.natAbs = Nat.gcd a.natAbs b.natAbs ∧ Below w.heap.size w wr) (fun _ y _ => (intOf y).natAbs)
  case atStart => exact ⟨a, b, rfl, rfl, a1, a2, b1, b2, rfl, by go_grown⟩
  case round =>
    obtain ⟨p, q, rfl, rfl, p1, p2, q1, q2, hG, hb⟩ := hrel
    have HG := hide hG
    clear hG a1 a2 b1 b2
    by_cases hq : q = 0
    · subst hq
      go_wp2_with (go_at_call 139; refine (impl_abs _ p1 p2 _).mono ?_; rintro e w' ⟨rfl, rfl⟩)
      go_ret
      exact ⟨by rw [← HG.out]; simp, hb⟩
    · obtain ⟨t1, t2⟩ := tmod_bd (q := q) p1 p2
      have t3 := gcd_step (p := p) (q := q)
      have t4 := tmod_lt (p := p) hq
      have T3 := hide t3; have T4 := hide t4
      have hq0 : (q != 0) = true := by simp [hq]
      have hq1 : (q == 0) = false := by simp [hq]
      clear t3 t4
      go_wp2
      refine wp_region_bw (by kernel_rfl) (by kernel_rfl) ?_
      repeat (go_big_quiet_step ((first | fail)))
      refine wpQuiet_end fun w1 hb1 => ?_
      go_wp2
      go_roundw
      case rel => exact ⟨q, _, rfl, rfl, q1, q2, t1, t2, by rw [T3.out, HG.out], hb.trans (hb1.mono hb.size)⟩
      case measure => exact T4.out

/-- A fraction in lowest terms. -/
def fracG (num den : Int) : Int := (Nat.gcd num.natAbs den.natAbs : Int)
theorem fracG_pos {num den : Int} (h : 1 ≤ den) : 0 < fracG num den := by
  unfold fracG
  have := Nat.gcd_pos_of_pos_right num.natAbs (show 0 < den.natAbs by omega)
  omega
set_option maxHeartbeats 400000 in
theorem impl_fraction (num den g : Int) (hg : fracG num den = g) (n1 : -1099511627776 ≤ num) (n2 : num ≤ 1099511627776) (d1 : 1 ≤ den) (d2 : den ≤ 1099511627776) (w : World) :
    Calls Try.prog 106 #[.int .i64 num, .int .i64 den] w fun e w' => e = .returned (.tuple #[.int .i64 (num.tdiv g), .int .i64 (den / g)]) ∧ Below w.heap.size w w' := by
  have hp := fracG_pos (num := num) d1
  rw [hg] at hp
  have hg0 : (g == 0) = false := by simp; omega
  have c := impl_gcd num den n1 n2 (by omega) d2
  rw [show (Nat.gcd num.natAbs den.natAbs : Int) = g from hg] at c
  have C := hide c
  clear c hg
  go_enter Try.func106, Try.ntmps106
  go_wp2_with (go_at_call 130; refine (C.out _).mono ?_; rintro e w1 ⟨rfl, hb1⟩)
  have hq1 := below_call (Below.refl _ _) hb1
  clear hb1
  have hb9 := hide hq1
  clear hq1
  refine wp_region_bw (by kernel_rfl) (by kernel_rfl) ?_
  repeat (go_big_quiet_step (fail))
  refine wpQuiet_end fun w2 hb2 => ?_
  go_wp2
  go_returns
  exact ⟨rfl, below_call hb9.out hb2⟩

theorem emod_gcd {p q : Int} (hp : 0 ≤ p) : Nat.gcd q.natAbs (p % q).natAbs = Nat.gcd p.natAbs q.natAbs := by
  rw [← Int.tmod_eq_emod_of_nonneg hp]; exact gcd_step

set_option maxHeartbeats 400000 in
theorem spec_reduce (num den g : Int) (hg : fracG num den = g) (n1 : -1099511627776 ≤ num) (n2 : num ≤ 1099511627776) (d1 : 1 ≤ den) (d2 : den ≤ 1099511627776) (w : World) :
    Calls Try.prog 111 #[.int .i64 num, .int .i64 den] w fun e w' => e = .returned (.tuple #[.int .i64 (num.tdiv g), .int .i64 (den / g)]) ∧ Below w.heap.size w w' := by
  have hp := fracG_pos (num := num) d1
  rw [hg] at hp
  have hg0 : (g == 0) = false := by simp; omega
  obtain ⟨a, ha⟩ : ∃ a : Int, max num (-num) = a := ⟨_, rfl⟩
  have a0 : 0 ≤ a := by omega
  have a1 : a ≤ 1099511627776 := by omega
  have haa : a.natAbs = num.natAbs := by omega
  have HA := hide haa; have HG := hide hg
  clear hg haa
  go_enter Try.func111, Try.ntmps111
  go_wp2_with (go_at_call 122; refine (spec_most _ _ _ ha _).mono ?_; rintro e w1 ⟨rfl, rfl⟩)
  clear ha
  go_loopw [6, 7] (fun x y wr => ∃ p q : Int, x = .int .i64 p ∧ y = .int .i64 q ∧ 0 ≤ p ∧ p ≤ 1099511627776 ∧ 0 ≤ q ∧ q ≤ 1099511627776 ∧ (Nat.gcd p.natAbs q.natAbs : Int) = g ∧ Below w.heap.size w wr) (fun _ y _ => (intOf y).natAbs)
  case atStart => exact ⟨a, den, rfl, rfl, a0, a1, by omega, d2, by rw [HA.out]; exact HG.out, by go_grown⟩
  case round =>
    obtain ⟨p, q, rfl, rfl, p1, p2, q1, q2, hG, hb⟩ := hrel
    by_cases hq : q = 0
    · subst hq
      have hpg : p = g := by
        have h : (Nat.gcd p.natAbs (0 : Int).natAbs : Int) = g := hG
        simp at h; omega
      subst hpg
      clear hG a0 a1
      go_wp2
      refine wp_region_bw (by kernel_rfl) (by kernel_rfl) ?_
      repeat (go_big_quiet_step (fail))
      refine wpQuiet_end fun w2 hb2 => ?_
      go_wp2
      go_returns
      exact ⟨rfl, below_call hb hb2⟩
    · have hq0 : 0 < q := by omega
      have t0 : 0 ≤ p % q := Int.emod_nonneg _ hq
      have t1 : p % q < q := Int.emod_lt_of_pos _ hq0
      have t3 := emod_gcd (q := q) p1
      have HG2 := hide hG; have T3 := hide t3
      have hq9 : (q != 0) = true := by simp [hq]
      clear hG t3
      go_wp2
      go_roundw
      case rel => exact ⟨q, _, rfl, rfl, q1, q2, t0, by omega, by rw [T3.out, HG2.out], hb⟩
      case measure => simp [intOf]; omega
end Go.Proofs.Ythpagjkkccimiaa
