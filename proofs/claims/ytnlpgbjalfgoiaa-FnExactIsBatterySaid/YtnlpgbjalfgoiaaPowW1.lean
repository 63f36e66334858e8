/- Chapter 22: walks of laws on a battery, by value. -/
import Derived.Test.YtnlpgbjalfgoiaaPowB
import Derived.Test.YtnlpgbjalfgoiaaTyBattery
namespace Go.Proofs.Ytnlpgbjalfgoiaa
open Go.RowKit
set_option linter.unusedVariables false

theorem walk_FnExactIsBattery (a b c d : Int) (w : World) :
    Calls Try.prog 3 #[.agg #[.int .i64 a, .int .i64 b, .int .i64 c, .int .i64 d]] w fun e w' => e = .returned (.bool true) ∧ Below w.heap.size w w' := by
  cases hB : batB a b c d
  all_goals
    go_enter Try.func3, Try.ntmps3
    go_wp2_with fail
    refine (to_battery _ _ _ _ _).mono ?_
    rintro e w1 ⟨rfl, hb1⟩
    obtain ⟨qc1, qf1⟩ := bcell hb1
    go_wp2_with fail
    refine (spec_isBat _ _ _ _ _ hB _).mono ?_
    rintro e w2 ⟨rfl, hb2⟩
    obtain ⟨qc2, qf2⟩ := bcell hb2
    have z1 := hb1.size; have z2 := hb2.size
    simp only [World.size_alloc] at z1
    have y2 : w.heap.size < w1.heap.size := by omega
    go_wp2_with fail
    refine (to_battery _ _ _ _ _).mono ?_
    rintro e w3 ⟨rfl, hb3⟩
    go_wp2_with fail
    refine (impl_bat _ _ _ _ _ hB _).mono ?_
    rintro e w4 ⟨rfl, hb4⟩
    go_wp2
    go_returns
    exact ⟨rfl, below_call (below_call (below_call (below_call (by go_grown) hb1) hb2) hb3) hb4⟩
end Go.Proofs.Ytnlpgbjalfgoiaa
