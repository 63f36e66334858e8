/- Chapter 22: LostSun, AfterDays: made by daysgen.py. -/
import Derived.Test.YtfdgnjnnbhelgaaDaysS
namespace Go.Proofs.Ytfdgnjnnbhelgaa
open Go.RowKit
set_option linter.unusedVariables false
set_option linter.unusedSimpArgs false

theorem blk_new_at (X : World) (g : Nat) (t : TypeId) (cs : Array Value) (h : g = X.heap.size) : Blk (X.alloc (.cells cs t)) g t cs := by
  subst h; exact Blk.new X t cs
theorem spec_good22v (A : Option Addr) (n c : Nat) (X : Nat → Nat → Int) (v : Bool) (hv : sunB n X = v) (w : World) (hn : n ≤ 1048576) (ha : Arr w w.heap.size A n 2 (iv X)) :
    Calls Try.prog 79 #[.slice A n c] w fun e w' => e = .returned (.bool v) ∧ Below w.heap.size w w' := by
  subst hv; exact spec_good22 A n c X w hn ha
set_option maxHeartbeats 1000000 in
theorem spec_lost (A : Option Addr) (n c : Nat) (X : Nat → Nat → Int) (f nw u lo : Int) (v : Bool) (hv : (batB f nw u lo && sunB n X) = v) (r : Int) (hr : onlyI v (lostD f nw u lo X n) = r) (w : World) (hn : n ≤ 1048576) (ha : Arr w w.heap.size A n 2 (iv X)) :
    Calls Try.prog 29 #[.agg #[.int .i64 f, .int .i64 nw, .int .i64 u, .int .i64 lo], .slice A n c] w fun e w' => e = .returned (.tuple #[.int .i64 r, .bool v]) ∧ Below w.heap.size w w' := by
  have HV := hide hv; have HR := hide hr
  clear hv hr
  have hfa := frozen_al; have hfo := frozen_out
  cases h1 : batB f nw u lo
  · obtain rfl : false = v := by rw [← HV.out, h1]; rfl
    have H1 := hide h1
    clear h1
    obtain rfl : 0 = r := HR.out
    go_enter Try.func29, Try.ntmps29
    go_wp2_with fail
    refine (spec_bat _ _ _ _ _ H1.out _).mono ?_
    rintro e w1 ⟨rfl, hb1⟩
    obtain ⟨qc1, qf1⟩ := bcell hb1
    have hz1 := hb1.size
    try simp only [World.size_alloc, World.size_setCell, World.size_drew] at hz1
    have hq1 : Below w.heap.size w w1 := below_call (by go_grown) hb1
    try have hl0_1 : w.heap.size < w1.heap.size := by omega
    try have hl1_1 : w.heap.size + 1 < w1.heap.size := by omega
    try have hl2_1 : w.heap.size + 2 < w1.heap.size := by omega
    try have hl3_1 : w.heap.size + 3 < w1.heap.size := by omega
    go_wp2
    go_returns
    exact ⟨rfl, hq1⟩
  · cases h2 : sunB n X
    · obtain rfl : false = v := by rw [← HV.out, h1, h2]; rfl
      have H1 := hide h1; have H2 := hide h2
      clear h1 h2
      obtain rfl : 0 = r := HR.out
      go_enter Try.func29, Try.ntmps29
      go_wp2_with fail
      refine (spec_bat _ _ _ _ _ H1.out _).mono ?_
      rintro e w1 ⟨rfl, hb1⟩
      obtain ⟨qc1, qf1⟩ := bcell hb1
      have hz1 := hb1.size
      try simp only [World.size_alloc, World.size_setCell, World.size_drew] at hz1
      have hq1 : Below w.heap.size w w1 := below_call (by go_grown) hb1
      try have hl0_1 : w.heap.size < w1.heap.size := by omega
      try have hl1_1 : w.heap.size + 1 < w1.heap.size := by omega
      try have hl2_1 : w.heap.size + 2 < w1.heap.size := by omega
      try have hl3_1 : w.heap.size + 3 < w1.heap.size := by omega
      go_wp2_with fail
      refine (spec_good22v _ _ _ X _ H2.out _ hn (ha.on hq1)).mono ?_
      rintro e w2 ⟨rfl, hb2⟩
      obtain ⟨qc2, qf2⟩ := bcell hb2
      have hz2 := hb2.size
      try simp only [World.size_alloc, World.size_setCell, World.size_drew] at hz2
      have hq2 : Below w.heap.size w w2 := below_call (by go_grown) hb2
      try have hl0_2 : w.heap.size < w2.heap.size := by omega
      try have hl1_2 : w.heap.size + 1 < w2.heap.size := by omega
      try have hl2_2 : w.heap.size + 2 < w2.heap.size := by omega
      try have hl3_2 : w.heap.size + 3 < w2.heap.size := by omega
      try have hn1_2 : w1.heap.size < w2.heap.size := by omega
      go_wp2
      go_returns
      exact ⟨rfl, hq2⟩
    · obtain rfl : true = v := by rw [← HV.out, h1, h2]; rfl
      have hbat := bat_of h1
      obtain ⟨hn20, hok⟩ := sunB_of h2
      have H1 := hide h1; have H2 := hide h2; have H3 := hide hok; have H4 := hide hbat
      clear h1 h2 hok hbat
      obtain rfl : lostD f nw u lo X n = r := HR.out
      go_enter Try.func29, Try.ntmps29
      go_wp2_with fail
      refine (spec_bat _ _ _ _ _ H1.out _).mono ?_
      rintro e w1 ⟨rfl, hb1⟩
      obtain ⟨qc1, qf1⟩ := bcell hb1
      have hz1 := hb1.size
      try simp only [World.size_alloc, World.size_setCell, World.size_drew] at hz1
      have hq1 : Below w.heap.size w w1 := below_call (by go_grown) hb1
      try have hl0_1 : w.heap.size < w1.heap.size := by omega
      try have hl1_1 : w.heap.size + 1 < w1.heap.size := by omega
      try have hl2_1 : w.heap.size + 2 < w1.heap.size := by omega
      try have hl3_1 : w.heap.size + 3 < w1.heap.size := by omega
      go_wp2_with fail
      refine (spec_good22v _ _ _ X _ H2.out _ hn (ha.on hq1)).mono ?_
      rintro e w2 ⟨rfl, hb2⟩
      obtain ⟨qc2, qf2⟩ := bcell hb2
      have hz2 := hb2.size
      try simp only [World.size_alloc, World.size_setCell, World.size_drew] at hz2
      have hq2 : Below w.heap.size w w2 := below_call (by go_grown) hb2
      try have hl0_2 : w.heap.size < w2.heap.size := by omega
      try have hl1_2 : w.heap.size + 1 < w2.heap.size := by omega
      try have hl2_2 : w.heap.size + 2 < w2.heap.size := by omega
      try have hl3_2 : w.heap.size + 3 < w2.heap.size := by omega
      try have hn1_2 : w1.heap.size < w2.heap.size := by omega
      go_wp2_with fail
      refine (spec_days _ _ _ X _ _ _ _ _ H4.out hn20 H3.out (ha.on hq2)).mono ?_
      rintro e w3 ⟨v3, rfl, hb3, ho3⟩
      obtain ⟨qc3, qf3⟩ := bcell hb3
      have hz3 := hb3.size
      have hq3 : Below w.heap.size w w3 := below_call (by go_grown) hb3
      have hl0_3 : w.heap.size < w3.heap.size := by omega
      skip
      have HO := hide ho3
      clear ho3
      go_wp2
      go_returns
      exact ⟨rfl, below_al hq3⟩
set_option maxHeartbeats 1000000 in
theorem spec_afterDays (A : Option Addr) (n c : Nat) (X : Nat → Nat → Int) (f nw u lo : Int) (v : Bool) (hv : (batB f nw u lo && sunB n X) = v) (x0 x1 x2 x3 : Int) (q : Nat) (h0 : onlyI v f = x0) (hx1 : onlyI v (levD f nw u lo X n) = x1) (hx2 : onlyI v u = x2) (hx3 : onlyI v lo = x3) (hq : q = onlyN v (badD f nw u lo X n).length) (w : World) (hn : n ≤ 1048576) (ha : Arr w w.heap.size A n 2 (iv X)) :
    Calls Try.prog 15 #[.agg #[.int .i64 f, .int .i64 nw, .int .i64 u, .int .i64 lo], .slice A n c] w fun e w' => ∃ s, e = .returned (.tuple #[.agg #[.int .i64 x0, .int .i64 x1, .int .i64 x2, .int .i64 x3], s, .bool v]) ∧ Below w.heap.size w w' ∧ Own w' w.heap.size 3 1 s q (iv (lf (badD f nw u lo X n))) := by
  have HV := hide hv; have HX0 := hide h0; have HX1 := hide hx1; have HX2 := hide hx2; have HX3 := hide hx3; have HQ := hide hq
  clear hv h0 hx1 hx2 hx3 hq
  have hfa := frozen_al; have hfo := frozen_out
  cases h1 : batB f nw u lo
  · obtain rfl : false = v := by rw [← HV.out, h1]; rfl
    have H1 := hide h1
    clear h1
    obtain rfl : 0 = x0 := HX0.out
    obtain rfl : 0 = x1 := HX1.out
    obtain rfl : 0 = x2 := HX2.out
    obtain rfl : 0 = x3 := HX3.out
    obtain rfl : q = 0 := HQ.out
    go_enter Try.func15, Try.ntmps15
    go_wp2_with fail
    refine (spec_bat _ _ _ _ _ H1.out _).mono ?_
    rintro e w1 ⟨rfl, hb1⟩
    obtain ⟨qc1, qf1⟩ := bcell hb1
    have hz1 := hb1.size
    try simp only [World.size_alloc, World.size_setCell, World.size_drew] at hz1
    have hq1 : Below w.heap.size w w1 := below_call (by go_grown) hb1
    try have hl0_1 : w.heap.size < w1.heap.size := by omega
    try have hl1_1 : w.heap.size + 1 < w1.heap.size := by omega
    try have hl2_1 : w.heap.size + 2 < w1.heap.size := by omega
    try have hl3_1 : w.heap.size + 3 < w1.heap.size := by omega
    go_wp2
    refine bodyPost_ret (v := .tuple #[.agg #[.int .i64 0, .int .i64 0, .int .i64 0, .int .i64 0], .slice (some ⟨w1.heap.size, 0, none⟩) 0 0, .bool false]) (by simp [results, Try.results15, go_sem, qc1, hl0_1, hl1_1]) rfl ⟨_, rfl, ?_, ?_⟩
    · go_grown
    · have hne : w1.heap.size ≠ w.heap.size + 1 := by omega
      refine .inr ⟨w1.heap.size, 0, #[], rfl, hq1.size, ?_, Nat.le_refl _, by unfold maxLen; omega, by simp, fun i j hi => absurd hi (by omega)⟩
      exact blk_new_at _ _ _ _ (by simp only [World.size_setCell])
  · cases h2 : sunB n X
    · obtain rfl : false = v := by rw [← HV.out, h1, h2]; rfl
      have H1 := hide h1; have H2 := hide h2
      clear h1 h2
      obtain rfl : 0 = x0 := HX0.out
      obtain rfl : 0 = x1 := HX1.out
      obtain rfl : 0 = x2 := HX2.out
      obtain rfl : 0 = x3 := HX3.out
      obtain rfl : q = 0 := HQ.out
      go_enter Try.func15, Try.ntmps15
      go_wp2_with fail
      refine (spec_bat _ _ _ _ _ H1.out _).mono ?_
      rintro e w1 ⟨rfl, hb1⟩
      obtain ⟨qc1, qf1⟩ := bcell hb1
      have hz1 := hb1.size
      try simp only [World.size_alloc, World.size_setCell, World.size_drew] at hz1
      have hq1 : Below w.heap.size w w1 := below_call (by go_grown) hb1
      try have hl0_1 : w.heap.size < w1.heap.size := by omega
      try have hl1_1 : w.heap.size + 1 < w1.heap.size := by omega
      try have hl2_1 : w.heap.size + 2 < w1.heap.size := by omega
      try have hl3_1 : w.heap.size + 3 < w1.heap.size := by omega
      go_wp2_with fail
      refine (spec_good22v _ _ _ X _ H2.out _ hn (ha.on hq1)).mono ?_
      rintro e w2 ⟨rfl, hb2⟩
      obtain ⟨qc2, qf2⟩ := bcell hb2
      have hz2 := hb2.size
      try simp only [World.size_alloc, World.size_setCell, World.size_drew] at hz2
      have hq2 : Below w.heap.size w w2 := below_call (by go_grown) hb2
      try have hl0_2 : w.heap.size < w2.heap.size := by omega
      try have hl1_2 : w.heap.size + 1 < w2.heap.size := by omega
      try have hl2_2 : w.heap.size + 2 < w2.heap.size := by omega
      try have hl3_2 : w.heap.size + 3 < w2.heap.size := by omega
      try have hn1_2 : w1.heap.size < w2.heap.size := by omega
      go_wp2
      refine bodyPost_ret (v := .tuple #[.agg #[.int .i64 0, .int .i64 0, .int .i64 0, .int .i64 0], .slice (some ⟨w2.heap.size, 0, none⟩) 0 0, .bool false]) (by simp [results, Try.results15, go_sem, qc2, qc1, hl0_1, hl1_1, hl0_2, hl1_2]) rfl ⟨_, rfl, ?_, ?_⟩
      · go_grown
      · have hne : w2.heap.size ≠ w.heap.size + 1 := by omega
        refine .inr ⟨w2.heap.size, 0, #[], rfl, hq2.size, ?_, Nat.le_refl _, by unfold maxLen; omega, by simp, fun i j hi => absurd hi (by omega)⟩
        exact blk_new_at _ _ _ _ (by simp only [World.size_setCell])
    · obtain rfl : true = v := by rw [← HV.out, h1, h2]; rfl
      have hbat := bat_of h1
      obtain ⟨hn20, hok⟩ := sunB_of h2
      have H1 := hide h1; have H2 := hide h2; have H3 := hide hok; have H4 := hide hbat
      clear h1 h2 hok hbat
      obtain rfl : f = x0 := HX0.out
      obtain rfl : levD f nw u lo X n = x1 := HX1.out
      obtain rfl : u = x2 := HX2.out
      obtain rfl : lo = x3 := HX3.out
      go_enter Try.func15, Try.ntmps15
      go_wp2_with fail
      refine (spec_bat _ _ _ _ _ H1.out _).mono ?_
      rintro e w1 ⟨rfl, hb1⟩
      obtain ⟨qc1, qf1⟩ := bcell hb1
      have hz1 := hb1.size
      try simp only [World.size_alloc, World.size_setCell, World.size_drew] at hz1
      have hq1 : Below w.heap.size w w1 := below_call (by go_grown) hb1
      try have hl0_1 : w.heap.size < w1.heap.size := by omega
      try have hl1_1 : w.heap.size + 1 < w1.heap.size := by omega
      try have hl2_1 : w.heap.size + 2 < w1.heap.size := by omega
      try have hl3_1 : w.heap.size + 3 < w1.heap.size := by omega
      go_wp2_with fail
      refine (spec_good22v _ _ _ X _ H2.out _ hn (ha.on hq1)).mono ?_
      rintro e w2 ⟨rfl, hb2⟩
      obtain ⟨qc2, qf2⟩ := bcell hb2
      have hz2 := hb2.size
      try simp only [World.size_alloc, World.size_setCell, World.size_drew] at hz2
      have hq2 : Below w.heap.size w w2 := below_call (by go_grown) hb2
      try have hl0_2 : w.heap.size < w2.heap.size := by omega
      try have hl1_2 : w.heap.size + 1 < w2.heap.size := by omega
      try have hl2_2 : w.heap.size + 2 < w2.heap.size := by omega
      try have hl3_2 : w.heap.size + 3 < w2.heap.size := by omega
      try have hn1_2 : w1.heap.size < w2.heap.size := by omega
      go_wp2_with fail
      refine (spec_days _ _ _ X _ _ _ _ _ H4.out hn20 H3.out (ha.on hq2)).mono ?_
      rintro e w3 ⟨v3, rfl, hb3, ho3⟩
      obtain ⟨qc3, qf3⟩ := bcell hb3
      have hz3 := hb3.size
      have hq3 : Below w.heap.size w w3 := below_call (by go_grown) hb3
      have hl0_3 : w.heap.size < w3.heap.size := by omega
      have hl1_3 : w.heap.size + 1 < w3.heap.size := by omega
      have HO := hide ho3
      clear ho3
      go_wp2
      refine bodyPost_ret (v := .tuple #[.agg #[.int .i64 f, .int .i64 (levD f nw u lo X n), .int .i64 u, .int .i64 lo], v3, .bool true]) (by simp [results, Try.results15, go_sem, qc3, qc2, qc1, hl0_1, hl1_1, hl0_2, hl1_2, hl0_3, hl1_3]) rfl ⟨_, rfl, ?_, ?_⟩
      · go_grown
      · rw [show q = (badD f nw u lo X n).length from HQ.out]
        have hz2s := hq2.size
        refine Own.base (own_of_il rfl ?_) hz2s
        have hne : ∀ k : Nat, (⟨w.heap.size + 1, k, none⟩ : Addr).block < w2.heap.size := fun _ => hl1_2
        exact (ownsRow_setCell_below (a := ⟨w.heap.size + 1, 3, none⟩) (ownsRow_setCell_below (a := ⟨w.heap.size + 1, 2, none⟩) (ownsRow_setCell_below (a := ⟨w.heap.size + 1, 1, none⟩) (ownsRow_setCell_below (a := ⟨w.heap.size + 1, 0, none⟩) HO.out (hne 0) _) (hne 1) _) (hne 2) _) (hne 3) _).alloc _
set_option maxHeartbeats 1000000 in
theorem impl_lost (A : Option Addr) (n c : Nat) (X : Nat → Nat → Int) (f nw u lo : Int) (v : Bool) (hv : (batB f nw u lo && sunB n X) = v) (r : Int) (hr : onlyI v (lostD f nw u lo X n) = r) (w : World) (hn : n ≤ 1048576) (ha : Arr w w.heap.size A n 2 (iv X)) :
    Calls Try.prog 28 #[.agg #[.int .i64 f, .int .i64 nw, .int .i64 u, .int .i64 lo], .slice A n c] w fun e w' => e = .returned (.tuple #[.int .i64 r, .bool v]) ∧ Below w.heap.size w w' := by
  have HV := hide hv; have HR := hide hr
  clear hv hr
  have hfa := frozen_al; have hfo := frozen_out
  cases h1 : batB f nw u lo
  · obtain rfl : false = v := by rw [← HV.out, h1]; rfl
    have H1 := hide h1
    clear h1
    obtain rfl : 0 = r := HR.out
    go_enter Try.func28, Try.ntmps28
    go_wp2_with fail
    refine (impl_bat _ _ _ _ _ H1.out _).mono ?_
    rintro e w1 ⟨rfl, hb1⟩
    obtain ⟨qc1, qf1⟩ := bcell hb1
    have hz1 := hb1.size
    try simp only [World.size_alloc, World.size_setCell, World.size_drew] at hz1
    have hq1 : Below w.heap.size w w1 := below_call (by go_grown) hb1
    try have hl0_1 : w.heap.size < w1.heap.size := by omega
    try have hl1_1 : w.heap.size + 1 < w1.heap.size := by omega
    try have hl2_1 : w.heap.size + 2 < w1.heap.size := by omega
    try have hl3_1 : w.heap.size + 3 < w1.heap.size := by omega
    go_wp2
    go_returns
    exact ⟨rfl, hq1⟩
  · cases h2 : sunB n X
    · obtain rfl : false = v := by rw [← HV.out, h1, h2]; rfl
      have H1 := hide h1; have H2 := hide h2
      clear h1 h2
      obtain rfl : 0 = r := HR.out
      go_enter Try.func28, Try.ntmps28
      go_wp2_with fail
      refine (impl_bat _ _ _ _ _ H1.out _).mono ?_
      rintro e w1 ⟨rfl, hb1⟩
      obtain ⟨qc1, qf1⟩ := bcell hb1
      have hz1 := hb1.size
      try simp only [World.size_alloc, World.size_setCell, World.size_drew] at hz1
      have hq1 : Below w.heap.size w w1 := below_call (by go_grown) hb1
      try have hl0_1 : w.heap.size < w1.heap.size := by omega
      try have hl1_1 : w.heap.size + 1 < w1.heap.size := by omega
      try have hl2_1 : w.heap.size + 2 < w1.heap.size := by omega
      try have hl3_1 : w.heap.size + 3 < w1.heap.size := by omega
      go_wp2_with fail
      refine (impl_areSunDays _ _ _ X _ H2.out _ hn (ha.on hq1)).mono ?_
      rintro e w2 ⟨rfl, hb2⟩
      obtain ⟨qc2, qf2⟩ := bcell hb2
      have hz2 := hb2.size
      try simp only [World.size_alloc, World.size_setCell, World.size_drew] at hz2
      have hq2 : Below w.heap.size w w2 := below_call (by go_grown) hb2
      try have hl0_2 : w.heap.size < w2.heap.size := by omega
      try have hl1_2 : w.heap.size + 1 < w2.heap.size := by omega
      try have hl2_2 : w.heap.size + 2 < w2.heap.size := by omega
      try have hl3_2 : w.heap.size + 3 < w2.heap.size := by omega
      try have hn1_2 : w1.heap.size < w2.heap.size := by omega
      go_wp2
      go_returns
      exact ⟨rfl, hq2⟩
    · obtain rfl : true = v := by rw [← HV.out, h1, h2]; rfl
      have hbat := bat_of h1
      obtain ⟨hn20, hok⟩ := sunB_of h2
      have H1 := hide h1; have H2 := hide h2; have H3 := hide hok; have H4 := hide hbat
      clear h1 h2 hok hbat
      obtain rfl : lostD f nw u lo X n = r := HR.out
      go_enter Try.func28, Try.ntmps28
      go_wp2_with fail
      refine (impl_bat _ _ _ _ _ H1.out _).mono ?_
      rintro e w1 ⟨rfl, hb1⟩
      obtain ⟨qc1, qf1⟩ := bcell hb1
      have hz1 := hb1.size
      try simp only [World.size_alloc, World.size_setCell, World.size_drew] at hz1
      have hq1 : Below w.heap.size w w1 := below_call (by go_grown) hb1
      try have hl0_1 : w.heap.size < w1.heap.size := by omega
      try have hl1_1 : w.heap.size + 1 < w1.heap.size := by omega
      try have hl2_1 : w.heap.size + 2 < w1.heap.size := by omega
      try have hl3_1 : w.heap.size + 3 < w1.heap.size := by omega
      go_wp2_with fail
      refine (impl_areSunDays _ _ _ X _ H2.out _ hn (ha.on hq1)).mono ?_
      rintro e w2 ⟨rfl, hb2⟩
      obtain ⟨qc2, qf2⟩ := bcell hb2
      have hz2 := hb2.size
      try simp only [World.size_alloc, World.size_setCell, World.size_drew] at hz2
      have hq2 : Below w.heap.size w w2 := below_call (by go_grown) hb2
      try have hl0_2 : w.heap.size < w2.heap.size := by omega
      try have hl1_2 : w.heap.size + 1 < w2.heap.size := by omega
      try have hl2_2 : w.heap.size + 2 < w2.heap.size := by omega
      try have hl3_2 : w.heap.size + 3 < w2.heap.size := by omega
      try have hn1_2 : w1.heap.size < w2.heap.size := by omega
      go_wp2_with fail
      refine (impl_days _ _ _ X _ _ _ _ _ H4.out hn20 H3.out (ha.on hq2)).mono ?_
      rintro e w3 ⟨v3, rfl, hb3, ho3⟩
      obtain ⟨qc3, qf3⟩ := bcell hb3
      have hz3 := hb3.size
      have hq3 : Below w.heap.size w w3 := below_call (by go_grown) hb3
      have hl0_3 : w.heap.size < w3.heap.size := by omega
      skip
      have HO := hide ho3
      clear ho3
      go_wp2
      go_returns
      exact ⟨rfl, below_al hq3⟩
set_option maxHeartbeats 1000000 in
theorem impl_afterDays (A : Option Addr) (n c : Nat) (X : Nat → Nat → Int) (f nw u lo : Int) (v : Bool) (hv : (batB f nw u lo && sunB n X) = v) (x0 x1 x2 x3 : Int) (q : Nat) (h0 : onlyI v f = x0) (hx1 : onlyI v (levD f nw u lo X n) = x1) (hx2 : onlyI v u = x2) (hx3 : onlyI v lo = x3) (hq : q = onlyN v (badD f nw u lo X n).length) (w : World) (hn : n ≤ 1048576) (ha : Arr w w.heap.size A n 2 (iv X)) :
    Calls Try.prog 14 #[.agg #[.int .i64 f, .int .i64 nw, .int .i64 u, .int .i64 lo], .slice A n c] w fun e w' => ∃ s, e = .returned (.tuple #[.agg #[.int .i64 x0, .int .i64 x1, .int .i64 x2, .int .i64 x3], s, .bool v]) ∧ Below w.heap.size w w' ∧ Own w' w.heap.size 3 1 s q (iv (lf (badD f nw u lo X n))) := by
  have HV := hide hv; have HX0 := hide h0; have HX1 := hide hx1; have HX2 := hide hx2; have HX3 := hide hx3; have HQ := hide hq
  clear hv h0 hx1 hx2 hx3 hq
  have hfa := frozen_al; have hfo := frozen_out
  cases h1 : batB f nw u lo
  · obtain rfl : false = v := by rw [← HV.out, h1]; rfl
    have H1 := hide h1
    clear h1
    obtain rfl : 0 = x0 := HX0.out
    obtain rfl : 0 = x1 := HX1.out
    obtain rfl : 0 = x2 := HX2.out
    obtain rfl : 0 = x3 := HX3.out
    obtain rfl : q = 0 := HQ.out
    go_enter Try.func14, Try.ntmps14
    go_wp2_with fail
    refine (impl_bat _ _ _ _ _ H1.out _).mono ?_
    rintro e w1 ⟨rfl, hb1⟩
    obtain ⟨qc1, qf1⟩ := bcell hb1
    have hz1 := hb1.size
    try simp only [World.size_alloc, World.size_setCell, World.size_drew] at hz1
    have hq1 : Below w.heap.size w w1 := below_call (by go_grown) hb1
    try have hl0_1 : w.heap.size < w1.heap.size := by omega
    try have hl1_1 : w.heap.size + 1 < w1.heap.size := by omega
    try have hl2_1 : w.heap.size + 2 < w1.heap.size := by omega
    try have hl3_1 : w.heap.size + 3 < w1.heap.size := by omega
    go_wp2
    refine bodyPost_ret (v := .tuple #[.agg #[.int .i64 0, .int .i64 0, .int .i64 0, .int .i64 0], .slice none 0 0, .bool false]) (by simp [results, Try.results14, go_sem, qc1, hl0_1, hl1_1]) rfl ⟨_, rfl, ?_, ?_⟩
    · go_grown
    · exact .inl ⟨rfl, rfl⟩
  · cases h2 : sunB n X
    · obtain rfl : false = v := by rw [← HV.out, h1, h2]; rfl
      have H1 := hide h1; have H2 := hide h2
      clear h1 h2
      obtain rfl : 0 = x0 := HX0.out
      obtain rfl : 0 = x1 := HX1.out
      obtain rfl : 0 = x2 := HX2.out
      obtain rfl : 0 = x3 := HX3.out
      obtain rfl : q = 0 := HQ.out
      go_enter Try.func14, Try.ntmps14
      go_wp2_with fail
      refine (impl_bat _ _ _ _ _ H1.out _).mono ?_
      rintro e w1 ⟨rfl, hb1⟩
      obtain ⟨qc1, qf1⟩ := bcell hb1
      have hz1 := hb1.size
      try simp only [World.size_alloc, World.size_setCell, World.size_drew] at hz1
      have hq1 : Below w.heap.size w w1 := below_call (by go_grown) hb1
      try have hl0_1 : w.heap.size < w1.heap.size := by omega
      try have hl1_1 : w.heap.size + 1 < w1.heap.size := by omega
      try have hl2_1 : w.heap.size + 2 < w1.heap.size := by omega
      try have hl3_1 : w.heap.size + 3 < w1.heap.size := by omega
      go_wp2_with fail
      refine (impl_areSunDays _ _ _ X _ H2.out _ hn (ha.on hq1)).mono ?_
      rintro e w2 ⟨rfl, hb2⟩
      obtain ⟨qc2, qf2⟩ := bcell hb2
      have hz2 := hb2.size
      try simp only [World.size_alloc, World.size_setCell, World.size_drew] at hz2
      have hq2 : Below w.heap.size w w2 := below_call (by go_grown) hb2
      try have hl0_2 : w.heap.size < w2.heap.size := by omega
      try have hl1_2 : w.heap.size + 1 < w2.heap.size := by omega
      try have hl2_2 : w.heap.size + 2 < w2.heap.size := by omega
      try have hl3_2 : w.heap.size + 3 < w2.heap.size := by omega
      try have hn1_2 : w1.heap.size < w2.heap.size := by omega
      go_wp2
      refine bodyPost_ret (v := .tuple #[.agg #[.int .i64 0, .int .i64 0, .int .i64 0, .int .i64 0], .slice none 0 0, .bool false]) (by simp [results, Try.results14, go_sem, qc2, qc1, hl0_1, hl1_1, hl0_2, hl1_2]) rfl ⟨_, rfl, ?_, ?_⟩
      · go_grown
      · exact .inl ⟨rfl, rfl⟩
    · obtain rfl : true = v := by rw [← HV.out, h1, h2]; rfl
      have hbat := bat_of h1
      obtain ⟨hn20, hok⟩ := sunB_of h2
      have H1 := hide h1; have H2 := hide h2; have H3 := hide hok; have H4 := hide hbat
      clear h1 h2 hok hbat
      obtain rfl : f = x0 := HX0.out
      obtain rfl : levD f nw u lo X n = x1 := HX1.out
      obtain rfl : u = x2 := HX2.out
      obtain rfl : lo = x3 := HX3.out
      go_enter Try.func14, Try.ntmps14
      go_wp2_with fail
      refine (impl_bat _ _ _ _ _ H1.out _).mono ?_
      rintro e w1 ⟨rfl, hb1⟩
      obtain ⟨qc1, qf1⟩ := bcell hb1
      have hz1 := hb1.size
      try simp only [World.size_alloc, World.size_setCell, World.size_drew] at hz1
      have hq1 : Below w.heap.size w w1 := below_call (by go_grown) hb1
      try have hl0_1 : w.heap.size < w1.heap.size := by omega
      try have hl1_1 : w.heap.size + 1 < w1.heap.size := by omega
      try have hl2_1 : w.heap.size + 2 < w1.heap.size := by omega
      try have hl3_1 : w.heap.size + 3 < w1.heap.size := by omega
      go_wp2_with fail
      refine (impl_areSunDays _ _ _ X _ H2.out _ hn (ha.on hq1)).mono ?_
      rintro e w2 ⟨rfl, hb2⟩
      obtain ⟨qc2, qf2⟩ := bcell hb2
      have hz2 := hb2.size
      try simp only [World.size_alloc, World.size_setCell, World.size_drew] at hz2
      have hq2 : Below w.heap.size w w2 := below_call (by go_grown) hb2
      try have hl0_2 : w.heap.size < w2.heap.size := by omega
      try have hl1_2 : w.heap.size + 1 < w2.heap.size := by omega
      try have hl2_2 : w.heap.size + 2 < w2.heap.size := by omega
      try have hl3_2 : w.heap.size + 3 < w2.heap.size := by omega
      try have hn1_2 : w1.heap.size < w2.heap.size := by omega
      go_wp2_with fail
      refine (impl_days _ _ _ X _ _ _ _ _ H4.out hn20 H3.out (ha.on hq2)).mono ?_
      rintro e w3 ⟨v3, rfl, hb3, ho3⟩
      obtain ⟨qc3, qf3⟩ := bcell hb3
      have hz3 := hb3.size
      have hq3 : Below w.heap.size w w3 := below_call (by go_grown) hb3
      have hl0_3 : w.heap.size < w3.heap.size := by omega
      have hl1_3 : w.heap.size + 1 < w3.heap.size := by omega
      have HO := hide ho3
      clear ho3
      go_wp2
      refine bodyPost_ret (v := .tuple #[.agg #[.int .i64 f, .int .i64 (levD f nw u lo X n), .int .i64 u, .int .i64 lo], v3, .bool true]) (by simp [results, Try.results14, go_sem, qc3, qc2, qc1, hl0_1, hl1_1, hl0_2, hl1_2, hl0_3, hl1_3]) rfl ⟨_, rfl, ?_, ?_⟩
      · go_grown
      · rw [show q = (badD f nw u lo X n).length from HQ.out]
        have hz2s := hq2.size
        refine Own.base (own_of_il rfl ?_) hz2s
        have hne : ∀ k : Nat, (⟨w.heap.size + 1, k, none⟩ : Addr).block < w2.heap.size := fun _ => hl1_2
        exact (ownsRow_setCell_below (a := ⟨w.heap.size + 1, 3, none⟩) (ownsRow_setCell_below (a := ⟨w.heap.size + 1, 2, none⟩) (ownsRow_setCell_below (a := ⟨w.heap.size + 1, 1, none⟩) (ownsRow_setCell_below (a := ⟨w.heap.size + 1, 0, none⟩) HO.out (hne 0) _) (hne 1) _) (hne 2) _) (hne 3) _).alloc _
end Go.Proofs.Ytfdgnjnnbhelgaa
