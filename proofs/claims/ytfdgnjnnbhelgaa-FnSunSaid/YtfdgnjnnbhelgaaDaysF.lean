/- Chapter 22: LeastFull, both sides. -/
import Derived.Test.YtfdgnjnnbhelgaaDaysS
namespace Go.Proofs.Ytfdgnjnnbhelgaa
open Go.RowKit
set_option linter.unusedVariables false
set_option linter.unusedSimpArgs false

theorem spec_good22w (A : Option Addr) (n c : Nat) (X : Nat → Nat → Int) (v : Bool) (hv : sunB n X = v) (w : World) (hn : n ≤ 1048576) (ha : Arr w w.heap.size A n 2 (iv X)) :
    Calls Try.prog 79 #[.slice A n c] w fun e w' => e = .returned (.bool v) ∧ Below w.heap.size w w' := by
  subst hv; exact spec_good22 A n c X w hn ha
theorem row_slice {w : World} {base n s : Nat} {E : TypeId} {v : Value} {xs : List Value} (h : w.ownsRow base E s v n xs) : ∃ A c, v = .slice A n c := by
  rcases h.2 with ⟨rfl, rfl⟩ | ⟨g, cap, cur, rfl, _⟩
  · exact ⟨_, _, rfl⟩
  · exact ⟨_, _, rfl⟩
theorem full_bool {nw u full : Int} {X : Nat → Nat → Int} {n q : Nat} {v : Bool} (hv : fullOk nw u X n full = v) (hq : (badD full nw u 0 X n).length = q) : v = decide (q = 0) := by
  rw [← hv, fullOk, hq]
set_option maxHeartbeats 1000000 in
theorem spec_runs (A : Option Addr) (n c : Nat) (X : Nat → Nat → Int) (f nw u lo full : Int) (v : Bool) (hv : fullOk nw u X n full = v) (w : World) (hbat : Bat full nw u 0) (hn : n ≤ 20) (hok : sunAll X n) (ha : Arr w w.heap.size A n 2 (iv X)) :
    Calls Try.prog 86 #[.agg #[.int .i64 f, .int .i64 nw, .int .i64 u, .int .i64 lo], .slice A n c, .int .i64 full] w fun e w' => e = .returned (.bool v) ∧ Below w.heap.size w w' := by
  have H1 := hide hbat; have H2 := hide hok; have HV := hide hv
  clear hbat hok hv
  have hba : Below w.heap.size w (w.alloc (.cells #[.int .i64 f, .int .i64 nw, .int .i64 u, .int .i64 lo] 25)) := below_al (Below.refl _ _)
  go_enter Try.func86, Try.ntmps86
  go_wp2_with fail
  refine (spec_days _ _ _ X _ _ _ _ _ H1.out hn H2.out (ha.on hba)).mono ?_
  rintro e w1 ⟨v1, rfl, hb1, ho1⟩
  obtain ⟨A1, c1, rfl⟩ := row_slice ho1
  obtain ⟨q, hq⟩ : ∃ q, (badD full nw u 0 X n).length = q := ⟨_, rfl⟩
  have hvq := full_bool HV.out hq
  rw [hq]
  clear ho1 hq HV
  by_cases h0 : q = 0
  · subst h0
    obtain rfl : v = true := by simpa using hvq
    clear hvq
    go_wp2
    go_returns
    exact ⟨rfl, below_al (below_call hba hb1)⟩
  · obtain rfl : v = false := by simpa [h0] using hvq
    have h1 : ((q : Int) == 0) = false := by simp; omega
    clear hvq h0
    go_wp2
    go_returns
    exact ⟨rfl, below_al (below_call hba hb1)⟩
def LFv (v : Bool) (nw u : Int) (X : Nat → Nat → Int) (n : Nat) (r : Int) (ok : Bool) : Prop := (v = true → LF nw u X n r ok) ∧ (v = false → r = 0 ∧ ok = false)
theorem LFv.ex (v : Bool) (nw u : Int) (X : Nat → Nat → Int) (n : Nat) : ∃ r ok, LFv v nw u X n r ok := by
  cases v
  · exact ⟨0, false, by simp, fun _ => ⟨rfl, rfl⟩⟩
  · obtain ⟨r, ok, h⟩ := LF.ex nw u X n
    exact ⟨r, ok, fun _ => h, by simp⟩
theorem bat_full {f nw u lo g : Int} (h : Bat f nw u lo) (h1 : max 1 nw ≤ g) (h2 : g ≤ 10000) : Bat g nw u 0 := by
  obtain ⟨f1, f2, n1, n2, u1, u2, l1, l2⟩ := h
  exact ⟨by omega, h2, n1, by omega, u1, u2, by omega, by omega⟩
set_option maxHeartbeats 2000000 in
set_option maxRecDepth 100000 in
theorem spec_leastFull (A : Option Addr) (n c : Nat) (X : Nat → Nat → Int) (f nw u lo : Int) (v : Bool) (hv : (batB f nw u lo && sunB n X) = v) (r : Int) (ok : Bool) (hr : LFv v nw u X n r ok) (w : World) (hn : n ≤ 1048576) (ha : Arr w w.heap.size A n 2 (iv X)) :
    Calls Try.prog 26 #[.agg #[.int .i64 f, .int .i64 nw, .int .i64 u, .int .i64 lo], .slice A n c] w fun e w' => e = .returned (.tuple #[.int .i64 r, .bool ok]) ∧ Below w.heap.size w w' := by
  have HV := hide hv; have HR := hide hr
  clear hv hr
  cases h1 : batB f nw u lo
  · obtain rfl : false = v := by rw [← HV.out, h1]; rfl
    obtain ⟨rfl, rfl⟩ := HR.out.2 rfl
    have H1 := hide h1
    clear h1
    go_enter Try.func26, Try.ntmps26
    go_wp2_with fail
    refine (spec_bat _ _ _ _ _ H1.out _).mono ?_
    rintro e w1 ⟨rfl, hb1⟩
    obtain ⟨qc1, qf1⟩ := bcell hb1
    have hz1 := hb1.size
    try simp only [World.size_alloc, World.size_setCell, World.size_drew] at hz1
    have hq1 : Below w.heap.size w w1 := below_call (by go_grown) hb1
    try have hl0_1 : w.heap.size < w1.heap.size := by omega
    try have hl1_1 : w.heap.size + 1 < w1.heap.size := by omega
    try have hl2_1 : w.heap.size + 2 < w1.heap.size := by omega
    try have hl3_1 : w.heap.size + 3 < w1.heap.size := by omega
    go_wp2
    go_returns
    exact ⟨rfl, hq1⟩
  · cases h2 : sunB n X
    · obtain rfl : false = v := by rw [← HV.out, h1, h2]; rfl
      obtain ⟨rfl, rfl⟩ := HR.out.2 rfl
      have H1 := hide h1; have H2 := hide h2
      clear h1 h2
      go_enter Try.func26, Try.ntmps26
      go_wp2_with fail
      refine (spec_bat _ _ _ _ _ H1.out _).mono ?_
      rintro e w1 ⟨rfl, hb1⟩
      obtain ⟨qc1, qf1⟩ := bcell hb1
      have hz1 := hb1.size
      try simp only [World.size_alloc, World.size_setCell, World.size_drew] at hz1
      have hq1 : Below w.heap.size w w1 := below_call (by go_grown) hb1
      try have hl0_1 : w.heap.size < w1.heap.size := by omega
      try have hl1_1 : w.heap.size + 1 < w1.heap.size := by omega
      try have hl2_1 : w.heap.size + 2 < w1.heap.size := by omega
      try have hl3_1 : w.heap.size + 3 < w1.heap.size := by omega
      go_wp2_with fail
      refine (spec_good22w _ _ _ X _ H2.out _ hn (ha.on hq1)).mono ?_
      rintro e w2 ⟨rfl, hb2⟩
      obtain ⟨qc2, qf2⟩ := bcell hb2
      have hz2 := hb2.size
      try simp only [World.size_alloc, World.size_setCell, World.size_drew] at hz2
      have hq2 : Below w.heap.size w w2 := below_call (by go_grown) hb2
      try have hl0_2 : w.heap.size < w2.heap.size := by omega
      try have hl1_2 : w.heap.size + 1 < w2.heap.size := by omega
      try have hl2_2 : w.heap.size + 2 < w2.heap.size := by omega
      try have hl3_2 : w.heap.size + 3 < w2.heap.size := by omega
      try have hn1_2 : w1.heap.size < w2.heap.size := by omega
      go_wp2
      go_returns
      exact ⟨rfl, hq2⟩
    · obtain rfl : true = v := by rw [← HV.out, h1, h2]; rfl
      have hbat := bat_of h1
      obtain ⟨hn20, hok⟩ := sunB_of h2
      have HL := HR.out.1 rfl
      obtain ⟨f1, f2, n1, n2, u1, u2, l1, l2⟩ := bat_of h1
      have hm1 : max 1 nw ≤ 10000 := by omega
      have H1 := hide h1; have H2 := hide h2; have H3 := hide hok; have H4 := hide hbat; have H5 := hide HL
      clear h1 h2 hok hbat HL
      cases hT : fullOk nw u X n 10000
      · have hLF : LF nw u X n 0 false := .inr ⟨rfl, rfl, fun g g1 g2 => by
          cases hg : fullOk nw u X n g
          · rfl
          · rw [full_mono g2 (by omega) n1 (by omega) H3.out hg] at hT; exact absurd hT (by simp)⟩
        obtain ⟨rfl, rfl⟩ := H5.out.one hLF
        have HT := hide hT
        clear hT hLF
        go_enter Try.func26, Try.ntmps26
        go_wp2_with fail
        refine (spec_bat _ _ _ _ _ H1.out _).mono ?_
        rintro e w1 ⟨rfl, hb1⟩
        obtain ⟨qc1, qf1⟩ := bcell hb1
        have hz1 := hb1.size
        try simp only [World.size_alloc, World.size_setCell, World.size_drew] at hz1
        have hq1 : Below w.heap.size w w1 := below_call (by go_grown) hb1
        try have hl0_1 : w.heap.size < w1.heap.size := by omega
        try have hl1_1 : w.heap.size + 1 < w1.heap.size := by omega
        try have hl2_1 : w.heap.size + 2 < w1.heap.size := by omega
        try have hl3_1 : w.heap.size + 3 < w1.heap.size := by omega
        go_wp2_with fail
        refine (spec_good22w _ _ _ X _ H2.out _ hn (ha.on hq1)).mono ?_
        rintro e w2 ⟨rfl, hb2⟩
        obtain ⟨qc2, qf2⟩ := bcell hb2
        have hz2 := hb2.size
        try simp only [World.size_alloc, World.size_setCell, World.size_drew] at hz2
        have hq2 : Below w.heap.size w w2 := below_call (by go_grown) hb2
        try have hl0_2 : w.heap.size < w2.heap.size := by omega
        try have hl1_2 : w.heap.size + 1 < w2.heap.size := by omega
        try have hl2_2 : w.heap.size + 2 < w2.heap.size := by omega
        try have hl3_2 : w.heap.size + 3 < w2.heap.size := by omega
        try have hn1_2 : w1.heap.size < w2.heap.size := by omega
        go_wp2_with fail
        refine (spec_runs _ _ _ X _ _ _ _ _ _ HT.out _ (bat_full H4.out hm1 (by omega)) hn20 H3.out (ha.on hq2)).mono ?_
        rintro e w3 ⟨rfl, hb3⟩
        obtain ⟨qc3, qf3⟩ := bcell hb3
        have hz3 := hb3.size
        try simp only [World.size_alloc, World.size_setCell, World.size_drew] at hz3
        have hq3 : Below w.heap.size w w3 := below_call (by go_grown) hb3
        try have hl0_3 : w.heap.size < w3.heap.size := by omega
        try have hl1_3 : w.heap.size + 1 < w3.heap.size := by omega
        try have hl2_3 : w.heap.size + 2 < w3.heap.size := by omega
        try have hl3_3 : w.heap.size + 3 < w3.heap.size := by omega
        try have hn1_3 : w1.heap.size < w3.heap.size := by omega
        try have hn2_3 : w2.heap.size < w3.heap.size := by omega
        go_wp2
        go_returns
        exact ⟨rfl, hq3⟩
      · have HT := hide hT
        clear hT
        by_cases hnw : 1 ≤ nw
        all_goals
          go_enter Try.func26, Try.ntmps26
          go_wp2_with fail
          refine (spec_bat _ _ _ _ _ H1.out _).mono ?_
          rintro e w1 ⟨rfl, hb1⟩
          obtain ⟨qc1, qf1⟩ := bcell hb1
          have hz1 := hb1.size
          try simp only [World.size_alloc, World.size_setCell, World.size_drew] at hz1
          have hq1 : Below w.heap.size w w1 := below_call (by go_grown) hb1
          try have hl0_1 : w.heap.size < w1.heap.size := by omega
          try have hl1_1 : w.heap.size + 1 < w1.heap.size := by omega
          try have hl2_1 : w.heap.size + 2 < w1.heap.size := by omega
          try have hl3_1 : w.heap.size + 3 < w1.heap.size := by omega
          go_wp2_with fail
          refine (spec_good22w _ _ _ X _ H2.out _ hn (ha.on hq1)).mono ?_
          rintro e w2 ⟨rfl, hb2⟩
          obtain ⟨qc2, qf2⟩ := bcell hb2
          have hz2 := hb2.size
          try simp only [World.size_alloc, World.size_setCell, World.size_drew] at hz2
          have hq2 : Below w.heap.size w w2 := below_call (by go_grown) hb2
          try have hl0_2 : w.heap.size < w2.heap.size := by omega
          try have hl1_2 : w.heap.size + 1 < w2.heap.size := by omega
          try have hl2_2 : w.heap.size + 2 < w2.heap.size := by omega
          try have hl3_2 : w.heap.size + 3 < w2.heap.size := by omega
          try have hn1_2 : w1.heap.size < w2.heap.size := by omega
          go_wp2_with fail
          refine (spec_runs _ _ _ X _ _ _ _ _ _ HT.out _ (bat_full H4.out hm1 (by omega)) hn20 H3.out (ha.on hq2)).mono ?_
          rintro e w3 ⟨rfl, hb3⟩
          obtain ⟨qc3, qf3⟩ := bcell hb3
          have hz3 := hb3.size
          try simp only [World.size_alloc, World.size_setCell, World.size_drew] at hz3
          have hq3 : Below w.heap.size w w3 := below_call (by go_grown) hb3
          try have hl0_3 : w.heap.size < w3.heap.size := by omega
          try have hl1_3 : w.heap.size + 1 < w3.heap.size := by omega
          try have hl2_3 : w.heap.size + 2 < w3.heap.size := by omega
          try have hl3_3 : w.heap.size + 3 < w3.heap.size := by omega
          try have hn1_3 : w1.heap.size < w3.heap.size := by omega
          try have hn2_3 : w2.heap.size < w3.heap.size := by omega
          go_wp2_with fail
          refine (spec_most _ _ _ rfl _).mono ?_
          rintro e w' ⟨rfl, rfl⟩
          have b0 := qc3 w.heap.size 0 hl0_2; have b1 := qc3 w.heap.size 1 hl0_2; have b2 := qc3 w.heap.size 2 hl0_2; have b3 := qc3 w.heap.size 3 hl0_2
          rw [qc2 w.heap.size _ hl0_1, qc1 w.heap.size _ (by simp)] at b0 b1 b2 b3
          simp at b0 b1 b2 b3
          have ha3 := ha.on hq3
          clear qc1 qc2 qc3 qf1 qf2 qf3 ha
          go_wp2
          go_loopw [6, 7] (fun x y wr => ∃ a b : Int, x = .int .i64 a ∧ y = .int .i64 b ∧ max 1 nw ≤ a ∧ a ≤ b ∧ b ≤ 10000 ∧ fullOk nw u X n b = true ∧ (∀ g, max 1 nw ≤ g → g < a → fullOk nw u X n g = false) ∧ Below w3.heap.size w3 wr) (fun x y _ => (intOf y - intOf x).toNat)
          case atStart => exact ⟨_, _, rfl, rfl, Int.le_refl _, hm1, Int.le_refl _, HT.out, fun g g1 g2 => by omega, Below.refl _ _⟩
          case round =>
            obtain ⟨a, b, rfl, rfl, a1, a2, a3, hfb, hall, hbw⟩ := hrel
            have a0 : 1 ≤ a := by omega
            have HF := hide hfb; have HA := hide hall
            clear hfb hall
            obtain ⟨qcw, qfw⟩ := bcell hbw
            by_cases hlt : a < b
            · cases hM : fullOk nw u X n ((a + b) / 2)
              · have HM := hide hM
                clear hM
                go_wp2_with fail
                refine (spec_runs _ _ _ X _ _ _ _ _ _ HM.out _ (bat_full H4.out (by omega) (by omega)) hn20 H3.out (ha3.on hbw)).mono ?_
                rintro e w4 ⟨rfl, hb4⟩
                go_wp2
                go_roundw
                case rel =>
                  have hno : ∀ g, max 1 nw ≤ g → g < (a + b) / 2 + 1 → fullOk nw u X n g = false := by
                    intro g g1 g2
                    cases hg : fullOk nw u X n g
                    · rfl
                    · have := full_mono (g := (a + b) / 2) (by omega) (by omega) n1 (by omega) H3.out hg
                      rw [HM.out] at this; cases this
                  exact ⟨_, b, rfl, rfl, by omega, by omega, a3, HF.out, hno, below_call hbw hb4⟩
                case measure => simp [intOf]; omega
              · have HM := hide hM
                clear hM
                go_wp2_with fail
                refine (spec_runs _ _ _ X _ _ _ _ _ _ HM.out _ (bat_full H4.out (by omega) (by omega)) hn20 H3.out (ha3.on hbw)).mono ?_
                rintro e w4 ⟨rfl, hb4⟩
                go_wp2
                go_roundw
                case rel => exact ⟨a, _, rfl, rfl, a1, by omega, by omega, HM.out, HA.out, below_call hbw hb4⟩
                case measure => simp [intOf]; omega
            · obtain rfl : a = b := by omega
              have hLF : LF nw u X n a true := .inl ⟨rfl, a1, a3, HF.out, HA.out⟩
              obtain ⟨rfl, rfl⟩ := H5.out.one hLF
              go_wp2
              go_returns
              exact ⟨rfl, below_call hq3 hbw⟩
set_option maxHeartbeats 2000000 in
set_option maxRecDepth 100000 in
theorem impl_leastFull (A : Option Addr) (n c : Nat) (X : Nat → Nat → Int) (f nw u lo : Int) (v : Bool) (hv : (batB f nw u lo && sunB n X) = v) (r : Int) (ok : Bool) (hr : LFv v nw u X n r ok) (w : World) (hn : n ≤ 1048576) (ha : Arr w w.heap.size A n 2 (iv X)) :
    Calls Try.prog 25 #[.agg #[.int .i64 f, .int .i64 nw, .int .i64 u, .int .i64 lo], .slice A n c] w fun e w' => e = .returned (.tuple #[.int .i64 r, .bool ok]) ∧ Below w.heap.size w w' := by
  have HV := hide hv; have HR := hide hr
  clear hv hr
  cases h1 : batB f nw u lo
  · obtain rfl : false = v := by rw [← HV.out, h1]; rfl
    obtain ⟨rfl, rfl⟩ := HR.out.2 rfl
    have H1 := hide h1
    clear h1
    go_enter Try.func25, Try.ntmps25
    go_wp2_with fail
    refine (impl_bat _ _ _ _ _ H1.out _).mono ?_
    rintro e w1 ⟨rfl, hb1⟩
    obtain ⟨qc1, qf1⟩ := bcell hb1
    have hz1 := hb1.size
    try simp only [World.size_alloc, World.size_setCell, World.size_drew] at hz1
    have hq1 : Below w.heap.size w w1 := below_call (by go_grown) hb1
    try have hl0_1 : w.heap.size < w1.heap.size := by omega
    try have hl1_1 : w.heap.size + 1 < w1.heap.size := by omega
    try have hl2_1 : w.heap.size + 2 < w1.heap.size := by omega
    try have hl3_1 : w.heap.size + 3 < w1.heap.size := by omega
    go_wp2
    go_returns
    exact ⟨rfl, hq1⟩
  · cases h2 : sunB n X
    · obtain rfl : false = v := by rw [← HV.out, h1, h2]; rfl
      obtain ⟨rfl, rfl⟩ := HR.out.2 rfl
      have H1 := hide h1; have H2 := hide h2
      clear h1 h2
      go_enter Try.func25, Try.ntmps25
      go_wp2_with fail
      refine (impl_bat _ _ _ _ _ H1.out _).mono ?_
      rintro e w1 ⟨rfl, hb1⟩
      obtain ⟨qc1, qf1⟩ := bcell hb1
      have hz1 := hb1.size
      try simp only [World.size_alloc, World.size_setCell, World.size_drew] at hz1
      have hq1 : Below w.heap.size w w1 := below_call (by go_grown) hb1
      try have hl0_1 : w.heap.size < w1.heap.size := by omega
      try have hl1_1 : w.heap.size + 1 < w1.heap.size := by omega
      try have hl2_1 : w.heap.size + 2 < w1.heap.size := by omega
      try have hl3_1 : w.heap.size + 3 < w1.heap.size := by omega
      go_wp2_with fail
      refine (impl_areSunDays _ _ _ X _ H2.out _ hn (ha.on hq1)).mono ?_
      rintro e w2 ⟨rfl, hb2⟩
      obtain ⟨qc2, qf2⟩ := bcell hb2
      have hz2 := hb2.size
      try simp only [World.size_alloc, World.size_setCell, World.size_drew] at hz2
      have hq2 : Below w.heap.size w w2 := below_call (by go_grown) hb2
      try have hl0_2 : w.heap.size < w2.heap.size := by omega
      try have hl1_2 : w.heap.size + 1 < w2.heap.size := by omega
      try have hl2_2 : w.heap.size + 2 < w2.heap.size := by omega
      try have hl3_2 : w.heap.size + 3 < w2.heap.size := by omega
      try have hn1_2 : w1.heap.size < w2.heap.size := by omega
      go_wp2
      go_returns
      exact ⟨rfl, hq2⟩
    · obtain rfl : true = v := by rw [← HV.out, h1, h2]; rfl
      have hbat := bat_of h1
      obtain ⟨hn20, hok⟩ := sunB_of h2
      have HL := HR.out.1 rfl
      obtain ⟨f1, f2, n1, n2, u1, u2, l1, l2⟩ := bat_of h1
      have hm1 : max 1 nw ≤ 10000 := by omega
      have H1 := hide h1; have H2 := hide h2; have H3 := hide hok; have H4 := hide hbat; have H5 := hide HL
      clear h1 h2 hok hbat HL
      by_cases hnw : 1 < nw
      all_goals
        go_enter Try.func25, Try.ntmps25
        go_wp2_with fail
        refine (impl_bat _ _ _ _ _ H1.out _).mono ?_
        rintro e w1 ⟨rfl, hb1⟩
        obtain ⟨qc1, qf1⟩ := bcell hb1
        have hz1 := hb1.size
        try simp only [World.size_alloc, World.size_setCell, World.size_drew] at hz1
        have hq1 : Below w.heap.size w w1 := below_call (by go_grown) hb1
        try have hl0_1 : w.heap.size < w1.heap.size := by omega
        try have hl1_1 : w.heap.size + 1 < w1.heap.size := by omega
        try have hl2_1 : w.heap.size + 2 < w1.heap.size := by omega
        try have hl3_1 : w.heap.size + 3 < w1.heap.size := by omega
        go_wp2_with fail
        refine (impl_areSunDays _ _ _ X _ H2.out _ hn (ha.on hq1)).mono ?_
        rintro e w2 ⟨rfl, hb2⟩
        obtain ⟨qc2, qf2⟩ := bcell hb2
        have hz2 := hb2.size
        try simp only [World.size_alloc, World.size_setCell, World.size_drew] at hz2
        have hq2 : Below w.heap.size w w2 := below_call (by go_grown) hb2
        try have hl0_2 : w.heap.size < w2.heap.size := by omega
        try have hl1_2 : w.heap.size + 1 < w2.heap.size := by omega
        try have hl2_2 : w.heap.size + 2 < w2.heap.size := by omega
        try have hl3_2 : w.heap.size + 3 < w2.heap.size := by omega
        try have hn1_2 : w1.heap.size < w2.heap.size := by omega
        have b0 := qc2 w.heap.size 0 hl0_1; have b1 := qc2 w.heap.size 1 hl0_1; have b2 := qc2 w.heap.size 2 hl0_1; have b3 := qc2 w.heap.size 3 hl0_1
        rw [qc1 w.heap.size _ (by simp)] at b0 b1 b2 b3
        simp at b0 b1 b2 b3
        have ha3 := ha.on hq2
        clear qc1 qc2 qf1 qf2 ha
        go_wp2
        go_loopw [6] (fun x wr => ∃ a : Int, x = .int .i64 a ∧ max 1 nw ≤ a ∧ a ≤ 10001 ∧ (∀ g, max 1 nw ≤ g → g < a → fullOk nw u X n g = false) ∧ Below w2.heap.size w2 wr) (fun x _ => (10001 - intOf x).toNat)
        case atStart => exact ⟨_, rfl, by omega, by omega, fun g g1 g2 => by omega, Below.refl _ _⟩
        case round =>
          obtain ⟨a, rfl, a1, a2, hall, hbw⟩ := hrel
          have a0 : 1 ≤ a := by omega
          have HA := hide hall
          clear hall
          obtain ⟨qcw, qfw⟩ := bcell hbw
          by_cases hlt : a ≤ 10000
          · obtain ⟨q, hq⟩ : ∃ q, (badD a nw u 0 X n).length = q := ⟨_, rfl⟩
            go_wp2_with fail
            refine (impl_days _ _ _ X _ _ _ _ _ (bat_full H4.out a1 hlt) hn20 H3.out (ha3.on hbw)).mono ?_
            rintro e w4 ⟨v4, rfl, hb4, ho4⟩
            obtain ⟨A4, c4, rfl⟩ := row_slice ho4
            rw [hq]
            have hdec : fullOk nw u X n a = decide (q = 0) := by rw [fullOk, hq]
            have HD := hide hdec
            clear ho4 hq hdec
            by_cases h0 : q = 0
            · subst h0
              have hLF : LF nw u X n a true := .inl ⟨rfl, a1, hlt, HD.out, HA.out⟩
              obtain ⟨rfl, rfl⟩ := H5.out.one hLF
              go_wp2
              go_returns
              exact ⟨rfl, below_al (below_call hq2 (below_call hbw hb4))⟩
            · have h1 : ((q : Int) == 0) = false := by simp; omega
              have hf : fullOk nw u X n a = false := by rw [HD.out]; simp [h0]
              have HF := hide hf
              clear h0 hf
              go_wp2
              go_roundw
              case rel =>
                have hno : ∀ g, max 1 nw ≤ g → g < a + 1 → fullOk nw u X n g = false := by
                  intro g g1 g2
                  by_cases e : g = a
                  · rw [e]; exact HF.out
                  · exact HA.out g g1 (by omega)
                exact ⟨a + 1, rfl, by omega, by omega, hno, below_al (below_call hbw hb4)⟩
              case measure => simp [intOf]; omega
          · have hLF : LF nw u X n 0 false := .inr ⟨rfl, rfl, fun g g1 g2 => HA.out g g1 (by omega)⟩
            obtain ⟨rfl, rfl⟩ := H5.out.one hLF
            go_wp2
            go_returns
            exact ⟨rfl, below_call hq2 hbw⟩
end Go.Proofs.Ytfdgnjnnbhelgaa
