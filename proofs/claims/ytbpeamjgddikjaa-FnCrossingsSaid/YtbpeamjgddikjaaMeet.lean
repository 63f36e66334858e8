/- Chapter 18: do two segments meet? Made by meetgen.py. -/
import Derived.Test.YtbpeamjgddikjaaMeetA
namespace Go.Proofs.Ytbpeamjgddikjaa
open Go.RowKit
set_option linter.unusedVariables false
set_option linter.unusedSimpArgs false

set_option maxHeartbeats 4000000 in
set_option maxRecDepth 100000 in
theorem spec_meet (ax ay bx by' cx cy dx dy : Int) (v : Bool) (hv : meetB ax ay bx by' cx cy dx dy = v) (ha : Pl ax ay) (hb : Pl bx by') (hc : Pl cx cy) (hd : Pl dx dy) (w : World) :
    Calls Try.prog 42 #[.agg #[.int .i64 ax, .int .i64 ay], .agg #[.int .i64 bx, .int .i64 by'], .agg #[.int .i64 cx, .int .i64 cy], .agg #[.int .i64 dx, .int .i64 dy]] w fun e w' => e = .returned (.bool v) ∧ Below w.heap.size w w' := by
  have hfa := frozen_al; have hfo := frozen_out
  unfold meetB at hv
  have bp := side_bd ax ay bx by' cx cy; have bq := side_bd ax ay bx by' dx dy; have br := side_bd cx cy dx dy ax ay; have bs := side_bd cx cy dx dy bx by'
  obtain ⟨p, hp⟩ : ∃ p, sideI ax ay bx by' cx cy = p := ⟨_, rfl⟩
  obtain ⟨q, hq⟩ : ∃ q, sideI ax ay bx by' dx dy = q := ⟨_, rfl⟩
  obtain ⟨r, hr⟩ : ∃ r, sideI cx cy dx dy ax ay = r := ⟨_, rfl⟩
  obtain ⟨s, hs⟩ : ∃ s, sideI cx cy dx dy bx by' = s := ⟨_, rfl⟩
  rw [hp] at hv bp; rw [hq] at hv bq; rw [hr] at hv br; rw [hs] at hv bs
  obtain ⟨m1, m2, m3, m4⟩ := mul_sm bp bq; obtain ⟨n1, n2, n3, n4⟩ := mul_sm br bs
  obtain ⟨o1, ho1⟩ : ∃ o, boxB ax ay bx by' cx cy = o := ⟨_, rfl⟩
  obtain ⟨o2, ho2⟩ : ∃ o, boxB ax ay bx by' dx dy = o := ⟨_, rfl⟩
  obtain ⟨o3, ho3⟩ : ∃ o, boxB cx cy dx dy ax ay = o := ⟨_, rfl⟩
  obtain ⟨o4, ho4⟩ : ∃ o, boxB cx cy dx dy bx by' = o := ⟨_, rfl⟩
  rw [ho1, ho2, ho3, ho4] at hv
  have HP := hide hp; have HQ := hide hq; have HR := hide hr; have HS := hide hs; have HO1 := hide ho1; have HO2 := hide ho2; have HO3 := hide ho3; have HO4 := hide ho4
  have HA := hide ha; have HB := hide hb; have HC := hide hc; have HD := hide hd; have HV := hide hv
  clear hp hq hr hs ho1 ho2 ho3 ho4 ha hb hc hd hv
  have hx := fun (o0 o1 o2 o3 : Obj) => BW.cell (w := ((((w.alloc o0).alloc o1).alloc o2).alloc o3))
  go_enter Try.func42, Try.ntmps42
  go_wp2
  refine wp_region_bw (by kernel_rfl) (by kernel_rfl) ?_
  repeat (go_big_quiet_step ((first | (go_at_call 77; with_reducible exact BW.call (spec_side ax ay bx by' cx cy p HP.out HA.out HB.out HC.out _)) | (go_at_call 77; with_reducible exact BW.call (spec_side ax ay bx by' dx dy q HQ.out HA.out HB.out HD.out _)) | (go_at_call 77; with_reducible exact BW.call (spec_side cx cy dx dy ax ay r HR.out HC.out HD.out HA.out _)) | (go_at_call 77; with_reducible exact BW.call (spec_side cx cy dx dy bx by' s HS.out HC.out HD.out HB.out _)))))
  refine wpQuiet_end fun w1 hb1 => ?_
  clear hx
  have hq1 : Below w.heap.size w w1 := below_call (by go_grown) hb1
  obtain ⟨qc1, qf1⟩ := bcell hb1
  have hz1 := hb1.size
  simp only [World.size_alloc] at hz1
  have hl0_1 : w.heap.size < w1.heap.size := by omega
  have hl1_1 : w.heap.size + 1 < w1.heap.size := by omega
  have hl2_1 : w.heap.size + 2 < w1.heap.size := by omega
  have hl3_1 : w.heap.size + 3 < w1.heap.size := by omega
  by_cases hm : p * q < 0
  · have zp : p ≠ 0 := fun e => by have := m3 e; omega
    have zq : q ≠ 0 := fun e => by have := m4 e; omega
    by_cases hn : r * s < 0
    · skip
      obtain rfl : true = v := by rw [← HV.out]; simp [meetV, hm, hn]
      go_wp2
      go_returns
      exact ⟨rfl, hq1⟩
    · skip
      by_cases zr : r = 0
      · skip
        go_wp2_with fail
        refine (spec_on _ _ _ _ _ _ _ HO3.out _).mono ?_
        rintro e w2 ⟨rfl, hb2⟩
        obtain ⟨qc2, qf2⟩ := bcell hb2
        have hz2 := hb2.size
        try simp only [World.size_alloc, World.size_setCell, World.size_drew] at hz2
        have hq2 : Below w.heap.size w w2 := below_call (by go_grown) hb2
        try have hl0_2 : w.heap.size < w2.heap.size := by omega
        try have hl1_2 : w.heap.size + 1 < w2.heap.size := by omega
        try have hl2_2 : w.heap.size + 2 < w2.heap.size := by omega
        try have hl3_2 : w.heap.size + 3 < w2.heap.size := by omega
        try have hn1_2 : w1.heap.size < w2.heap.size := by omega
        cases o3
        · skip
          by_cases zs : s = 0
          · skip
            go_wp2_with fail
            refine (spec_on _ _ _ _ _ _ _ HO4.out _).mono ?_
            rintro e w3 ⟨rfl, hb3⟩
            obtain ⟨qc3, qf3⟩ := bcell hb3
            have hz3 := hb3.size
            try simp only [World.size_alloc, World.size_setCell, World.size_drew] at hz3
            have hq3 : Below w.heap.size w w3 := below_call (by go_grown) hb3
            try have hl0_3 : w.heap.size < w3.heap.size := by omega
            try have hl1_3 : w.heap.size + 1 < w3.heap.size := by omega
            try have hl2_3 : w.heap.size + 2 < w3.heap.size := by omega
            try have hl3_3 : w.heap.size + 3 < w3.heap.size := by omega
            try have hn1_3 : w1.heap.size < w3.heap.size := by omega
            try have hn2_3 : w2.heap.size < w3.heap.size := by omega
            cases o4
            · skip
              obtain rfl : false = v := by rw [← HV.out]; simp [meetV, hm, hn, zp, zq, zr, zs]
              go_wp2
              go_returns
              exact ⟨rfl, hq3⟩
            · skip
              obtain rfl : true = v := by rw [← HV.out]; simp [meetV, hm, hn, zp, zq, zr, zs]
              go_wp2
              go_returns
              exact ⟨rfl, hq3⟩
          · skip
            obtain rfl : false = v := by rw [← HV.out]; simp [meetV, hm, hn, zp, zq, zr, zs]
            go_wp2
            go_returns
            exact ⟨rfl, hq2⟩
        · skip
          obtain rfl : true = v := by rw [← HV.out]; simp [meetV, hm, hn, zp, zq, zr]
          go_wp2
          go_returns
          exact ⟨rfl, hq2⟩
      · skip
        by_cases zs : s = 0
        · skip
          go_wp2_with fail
          refine (spec_on _ _ _ _ _ _ _ HO4.out _).mono ?_
          rintro e w2 ⟨rfl, hb2⟩
          obtain ⟨qc2, qf2⟩ := bcell hb2
          have hz2 := hb2.size
          try simp only [World.size_alloc, World.size_setCell, World.size_drew] at hz2
          have hq2 : Below w.heap.size w w2 := below_call (by go_grown) hb2
          try have hl0_2 : w.heap.size < w2.heap.size := by omega
          try have hl1_2 : w.heap.size + 1 < w2.heap.size := by omega
          try have hl2_2 : w.heap.size + 2 < w2.heap.size := by omega
          try have hl3_2 : w.heap.size + 3 < w2.heap.size := by omega
          try have hn1_2 : w1.heap.size < w2.heap.size := by omega
          cases o4
          · skip
            obtain rfl : false = v := by rw [← HV.out]; simp [meetV, hm, hn, zp, zq, zr, zs]
            go_wp2
            go_returns
            exact ⟨rfl, hq2⟩
          · skip
            obtain rfl : true = v := by rw [← HV.out]; simp [meetV, hm, hn, zp, zq, zr, zs]
            go_wp2
            go_returns
            exact ⟨rfl, hq2⟩
        · skip
          obtain rfl : false = v := by rw [← HV.out]; simp [meetV, hm, hn, zp, zq, zr, zs]
          go_wp2
          go_returns
          exact ⟨rfl, hq1⟩
  · skip
    by_cases zp : p = 0
    · skip
      go_wp2_with fail
      refine (spec_on _ _ _ _ _ _ _ HO1.out _).mono ?_
      rintro e w2 ⟨rfl, hb2⟩
      obtain ⟨qc2, qf2⟩ := bcell hb2
      have hz2 := hb2.size
      try simp only [World.size_alloc, World.size_setCell, World.size_drew] at hz2
      have hq2 : Below w.heap.size w w2 := below_call (by go_grown) hb2
      try have hl0_2 : w.heap.size < w2.heap.size := by omega
      try have hl1_2 : w.heap.size + 1 < w2.heap.size := by omega
      try have hl2_2 : w.heap.size + 2 < w2.heap.size := by omega
      try have hl3_2 : w.heap.size + 3 < w2.heap.size := by omega
      try have hn1_2 : w1.heap.size < w2.heap.size := by omega
      cases o1
      · skip
        by_cases zq : q = 0
        · skip
          go_wp2_with fail
          refine (spec_on _ _ _ _ _ _ _ HO2.out _).mono ?_
          rintro e w3 ⟨rfl, hb3⟩
          obtain ⟨qc3, qf3⟩ := bcell hb3
          have hz3 := hb3.size
          try simp only [World.size_alloc, World.size_setCell, World.size_drew] at hz3
          have hq3 : Below w.heap.size w w3 := below_call (by go_grown) hb3
          try have hl0_3 : w.heap.size < w3.heap.size := by omega
          try have hl1_3 : w.heap.size + 1 < w3.heap.size := by omega
          try have hl2_3 : w.heap.size + 2 < w3.heap.size := by omega
          try have hl3_3 : w.heap.size + 3 < w3.heap.size := by omega
          try have hn1_3 : w1.heap.size < w3.heap.size := by omega
          try have hn2_3 : w2.heap.size < w3.heap.size := by omega
          cases o2
          · skip
            by_cases zr : r = 0
            · skip
              go_wp2_with fail
              refine (spec_on _ _ _ _ _ _ _ HO3.out _).mono ?_
              rintro e w4 ⟨rfl, hb4⟩
              obtain ⟨qc4, qf4⟩ := bcell hb4
              have hz4 := hb4.size
              try simp only [World.size_alloc, World.size_setCell, World.size_drew] at hz4
              have hq4 : Below w.heap.size w w4 := below_call (by go_grown) hb4
              try have hl0_4 : w.heap.size < w4.heap.size := by omega
              try have hl1_4 : w.heap.size + 1 < w4.heap.size := by omega
              try have hl2_4 : w.heap.size + 2 < w4.heap.size := by omega
              try have hl3_4 : w.heap.size + 3 < w4.heap.size := by omega
              try have hn1_4 : w1.heap.size < w4.heap.size := by omega
              try have hn2_4 : w2.heap.size < w4.heap.size := by omega
              try have hn3_4 : w3.heap.size < w4.heap.size := by omega
              cases o3
              · skip
                by_cases zs : s = 0
                · skip
                  go_wp2_with fail
                  refine (spec_on _ _ _ _ _ _ _ HO4.out _).mono ?_
                  rintro e w5 ⟨rfl, hb5⟩
                  obtain ⟨qc5, qf5⟩ := bcell hb5
                  have hz5 := hb5.size
                  try simp only [World.size_alloc, World.size_setCell, World.size_drew] at hz5
                  have hq5 : Below w.heap.size w w5 := below_call (by go_grown) hb5
                  try have hl0_5 : w.heap.size < w5.heap.size := by omega
                  try have hl1_5 : w.heap.size + 1 < w5.heap.size := by omega
                  try have hl2_5 : w.heap.size + 2 < w5.heap.size := by omega
                  try have hl3_5 : w.heap.size + 3 < w5.heap.size := by omega
                  try have hn1_5 : w1.heap.size < w5.heap.size := by omega
                  try have hn2_5 : w2.heap.size < w5.heap.size := by omega
                  try have hn3_5 : w3.heap.size < w5.heap.size := by omega
                  try have hn4_5 : w4.heap.size < w5.heap.size := by omega
                  cases o4
                  · skip
                    obtain rfl : false = v := by rw [← HV.out]; simp [meetV, hm, zp, zq, zr, zs]
                    go_wp2
                    go_returns
                    exact ⟨rfl, hq5⟩
                  · skip
                    obtain rfl : true = v := by rw [← HV.out]; simp [meetV, hm, zp, zq, zr, zs]
                    go_wp2
                    go_returns
                    exact ⟨rfl, hq5⟩
                · skip
                  obtain rfl : false = v := by rw [← HV.out]; simp [meetV, hm, zp, zq, zr, zs]
                  go_wp2
                  go_returns
                  exact ⟨rfl, hq4⟩
              · skip
                obtain rfl : true = v := by rw [← HV.out]; simp [meetV, hm, zp, zq, zr]
                go_wp2
                go_returns
                exact ⟨rfl, hq4⟩
            · skip
              by_cases zs : s = 0
              · skip
                go_wp2_with fail
                refine (spec_on _ _ _ _ _ _ _ HO4.out _).mono ?_
                rintro e w4 ⟨rfl, hb4⟩
                obtain ⟨qc4, qf4⟩ := bcell hb4
                have hz4 := hb4.size
                try simp only [World.size_alloc, World.size_setCell, World.size_drew] at hz4
                have hq4 : Below w.heap.size w w4 := below_call (by go_grown) hb4
                try have hl0_4 : w.heap.size < w4.heap.size := by omega
                try have hl1_4 : w.heap.size + 1 < w4.heap.size := by omega
                try have hl2_4 : w.heap.size + 2 < w4.heap.size := by omega
                try have hl3_4 : w.heap.size + 3 < w4.heap.size := by omega
                try have hn1_4 : w1.heap.size < w4.heap.size := by omega
                try have hn2_4 : w2.heap.size < w4.heap.size := by omega
                try have hn3_4 : w3.heap.size < w4.heap.size := by omega
                cases o4
                · skip
                  obtain rfl : false = v := by rw [← HV.out]; simp [meetV, hm, zp, zq, zr, zs]
                  go_wp2
                  go_returns
                  exact ⟨rfl, hq4⟩
                · skip
                  obtain rfl : true = v := by rw [← HV.out]; simp [meetV, hm, zp, zq, zr, zs]
                  go_wp2
                  go_returns
                  exact ⟨rfl, hq4⟩
              · skip
                obtain rfl : false = v := by rw [← HV.out]; simp [meetV, hm, zp, zq, zr, zs]
                go_wp2
                go_returns
                exact ⟨rfl, hq3⟩
          · skip
            obtain rfl : true = v := by rw [← HV.out]; simp [meetV, hm, zp, zq]
            go_wp2
            go_returns
            exact ⟨rfl, hq3⟩
        · skip
          by_cases zr : r = 0
          · skip
            go_wp2_with fail
            refine (spec_on _ _ _ _ _ _ _ HO3.out _).mono ?_
            rintro e w3 ⟨rfl, hb3⟩
            obtain ⟨qc3, qf3⟩ := bcell hb3
            have hz3 := hb3.size
            try simp only [World.size_alloc, World.size_setCell, World.size_drew] at hz3
            have hq3 : Below w.heap.size w w3 := below_call (by go_grown) hb3
            try have hl0_3 : w.heap.size < w3.heap.size := by omega
            try have hl1_3 : w.heap.size + 1 < w3.heap.size := by omega
            try have hl2_3 : w.heap.size + 2 < w3.heap.size := by omega
            try have hl3_3 : w.heap.size + 3 < w3.heap.size := by omega
            try have hn1_3 : w1.heap.size < w3.heap.size := by omega
            try have hn2_3 : w2.heap.size < w3.heap.size := by omega
            cases o3
            · skip
              by_cases zs : s = 0
              · skip
                go_wp2_with fail
                refine (spec_on _ _ _ _ _ _ _ HO4.out _).mono ?_
                rintro e w4 ⟨rfl, hb4⟩
                obtain ⟨qc4, qf4⟩ := bcell hb4
                have hz4 := hb4.size
                try simp only [World.size_alloc, World.size_setCell, World.size_drew] at hz4
                have hq4 : Below w.heap.size w w4 := below_call (by go_grown) hb4
                try have hl0_4 : w.heap.size < w4.heap.size := by omega
                try have hl1_4 : w.heap.size + 1 < w4.heap.size := by omega
                try have hl2_4 : w.heap.size + 2 < w4.heap.size := by omega
                try have hl3_4 : w.heap.size + 3 < w4.heap.size := by omega
                try have hn1_4 : w1.heap.size < w4.heap.size := by omega
                try have hn2_4 : w2.heap.size < w4.heap.size := by omega
                try have hn3_4 : w3.heap.size < w4.heap.size := by omega
                cases o4
                · skip
                  obtain rfl : false = v := by rw [← HV.out]; simp [meetV, hm, zp, zq, zr, zs]
                  go_wp2
                  go_returns
                  exact ⟨rfl, hq4⟩
                · skip
                  obtain rfl : true = v := by rw [← HV.out]; simp [meetV, hm, zp, zq, zr, zs]
                  go_wp2
                  go_returns
                  exact ⟨rfl, hq4⟩
              · skip
                obtain rfl : false = v := by rw [← HV.out]; simp [meetV, hm, zp, zq, zr, zs]
                go_wp2
                go_returns
                exact ⟨rfl, hq3⟩
            · skip
              obtain rfl : true = v := by rw [← HV.out]; simp [meetV, hm, zp, zq, zr]
              go_wp2
              go_returns
              exact ⟨rfl, hq3⟩
          · skip
            by_cases zs : s = 0
            · skip
              go_wp2_with fail
              refine (spec_on _ _ _ _ _ _ _ HO4.out _).mono ?_
              rintro e w3 ⟨rfl, hb3⟩
              obtain ⟨qc3, qf3⟩ := bcell hb3
              have hz3 := hb3.size
              try simp only [World.size_alloc, World.size_setCell, World.size_drew] at hz3
              have hq3 : Below w.heap.size w w3 := below_call (by go_grown) hb3
              try have hl0_3 : w.heap.size < w3.heap.size := by omega
              try have hl1_3 : w.heap.size + 1 < w3.heap.size := by omega
              try have hl2_3 : w.heap.size + 2 < w3.heap.size := by omega
              try have hl3_3 : w.heap.size + 3 < w3.heap.size := by omega
              try have hn1_3 : w1.heap.size < w3.heap.size := by omega
              try have hn2_3 : w2.heap.size < w3.heap.size := by omega
              cases o4
              · skip
                obtain rfl : false = v := by rw [← HV.out]; simp [meetV, hm, zp, zq, zr, zs]
                go_wp2
                go_returns
                exact ⟨rfl, hq3⟩
              · skip
                obtain rfl : true = v := by rw [← HV.out]; simp [meetV, hm, zp, zq, zr, zs]
                go_wp2
                go_returns
                exact ⟨rfl, hq3⟩
            · skip
              obtain rfl : false = v := by rw [← HV.out]; simp [meetV, hm, zp, zq, zr, zs]
              go_wp2
              go_returns
              exact ⟨rfl, hq2⟩
      · skip
        obtain rfl : true = v := by rw [← HV.out]; simp [meetV, hm, zp]
        go_wp2
        go_returns
        exact ⟨rfl, hq2⟩
    · skip
      by_cases zq : q = 0
      · skip
        go_wp2_with fail
        refine (spec_on _ _ _ _ _ _ _ HO2.out _).mono ?_
        rintro e w2 ⟨rfl, hb2⟩
        obtain ⟨qc2, qf2⟩ := bcell hb2
        have hz2 := hb2.size
        try simp only [World.size_alloc, World.size_setCell, World.size_drew] at hz2
        have hq2 : Below w.heap.size w w2 := below_call (by go_grown) hb2
        try have hl0_2 : w.heap.size < w2.heap.size := by omega
        try have hl1_2 : w.heap.size + 1 < w2.heap.size := by omega
        try have hl2_2 : w.heap.size + 2 < w2.heap.size := by omega
        try have hl3_2 : w.heap.size + 3 < w2.heap.size := by omega
        try have hn1_2 : w1.heap.size < w2.heap.size := by omega
        cases o2
        · skip
          by_cases zr : r = 0
          · skip
            go_wp2_with fail
            refine (spec_on _ _ _ _ _ _ _ HO3.out _).mono ?_
            rintro e w3 ⟨rfl, hb3⟩
            obtain ⟨qc3, qf3⟩ := bcell hb3
            have hz3 := hb3.size
            try simp only [World.size_alloc, World.size_setCell, World.size_drew] at hz3
            have hq3 : Below w.heap.size w w3 := below_call (by go_grown) hb3
            try have hl0_3 : w.heap.size < w3.heap.size := by omega
            try have hl1_3 : w.heap.size + 1 < w3.heap.size := by omega
            try have hl2_3 : w.heap.size + 2 < w3.heap.size := by omega
            try have hl3_3 : w.heap.size + 3 < w3.heap.size := by omega
            try have hn1_3 : w1.heap.size < w3.heap.size := by omega
            try have hn2_3 : w2.heap.size < w3.heap.size := by omega
            cases o3
            · skip
              by_cases zs : s = 0
              · skip
                go_wp2_with fail
                refine (spec_on _ _ _ _ _ _ _ HO4.out _).mono ?_
                rintro e w4 ⟨rfl, hb4⟩
                obtain ⟨qc4, qf4⟩ := bcell hb4
                have hz4 := hb4.size
                try simp only [World.size_alloc, World.size_setCell, World.size_drew] at hz4
                have hq4 : Below w.heap.size w w4 := below_call (by go_grown) hb4
                try have hl0_4 : w.heap.size < w4.heap.size := by omega
                try have hl1_4 : w.heap.size + 1 < w4.heap.size := by omega
                try have hl2_4 : w.heap.size + 2 < w4.heap.size := by omega
                try have hl3_4 : w.heap.size + 3 < w4.heap.size := by omega
                try have hn1_4 : w1.heap.size < w4.heap.size := by omega
                try have hn2_4 : w2.heap.size < w4.heap.size := by omega
                try have hn3_4 : w3.heap.size < w4.heap.size := by omega
                cases o4
                · skip
                  obtain rfl : false = v := by rw [← HV.out]; simp [meetV, hm, zp, zq, zr, zs]
                  go_wp2
                  go_returns
                  exact ⟨rfl, hq4⟩
                · skip
                  obtain rfl : true = v := by rw [← HV.out]; simp [meetV, hm, zp, zq, zr, zs]
                  go_wp2
                  go_returns
                  exact ⟨rfl, hq4⟩
              · skip
                obtain rfl : false = v := by rw [← HV.out]; simp [meetV, hm, zp, zq, zr, zs]
                go_wp2
                go_returns
                exact ⟨rfl, hq3⟩
            · skip
              obtain rfl : true = v := by rw [← HV.out]; simp [meetV, hm, zp, zq, zr]
              go_wp2
              go_returns
              exact ⟨rfl, hq3⟩
          · skip
            by_cases zs : s = 0
            · skip
              go_wp2_with fail
              refine (spec_on _ _ _ _ _ _ _ HO4.out _).mono ?_
              rintro e w3 ⟨rfl, hb3⟩
              obtain ⟨qc3, qf3⟩ := bcell hb3
              have hz3 := hb3.size
              try simp only [World.size_alloc, World.size_setCell, World.size_drew] at hz3
              have hq3 : Below w.heap.size w w3 := below_call (by go_grown) hb3
              try have hl0_3 : w.heap.size < w3.heap.size := by omega
              try have hl1_3 : w.heap.size + 1 < w3.heap.size := by omega
              try have hl2_3 : w.heap.size + 2 < w3.heap.size := by omega
              try have hl3_3 : w.heap.size + 3 < w3.heap.size := by omega
              try have hn1_3 : w1.heap.size < w3.heap.size := by omega
              try have hn2_3 : w2.heap.size < w3.heap.size := by omega
              cases o4
              · skip
                obtain rfl : false = v := by rw [← HV.out]; simp [meetV, hm, zp, zq, zr, zs]
                go_wp2
                go_returns
                exact ⟨rfl, hq3⟩
              · skip
                obtain rfl : true = v := by rw [← HV.out]; simp [meetV, hm, zp, zq, zr, zs]
                go_wp2
                go_returns
                exact ⟨rfl, hq3⟩
            · skip
              obtain rfl : false = v := by rw [← HV.out]; simp [meetV, hm, zp, zq, zr, zs]
              go_wp2
              go_returns
              exact ⟨rfl, hq2⟩
        · skip
          obtain rfl : true = v := by rw [← HV.out]; simp [meetV, hm, zp, zq]
          go_wp2
          go_returns
          exact ⟨rfl, hq2⟩
      · skip
        by_cases zr : r = 0
        · skip
          go_wp2_with fail
          refine (spec_on _ _ _ _ _ _ _ HO3.out _).mono ?_
          rintro e w2 ⟨rfl, hb2⟩
          obtain ⟨qc2, qf2⟩ := bcell hb2
          have hz2 := hb2.size
          try simp only [World.size_alloc, World.size_setCell, World.size_drew] at hz2
          have hq2 : Below w.heap.size w w2 := below_call (by go_grown) hb2
          try have hl0_2 : w.heap.size < w2.heap.size := by omega
          try have hl1_2 : w.heap.size + 1 < w2.heap.size := by omega
          try have hl2_2 : w.heap.size + 2 < w2.heap.size := by omega
          try have hl3_2 : w.heap.size + 3 < w2.heap.size := by omega
          try have hn1_2 : w1.heap.size < w2.heap.size := by omega
          cases o3
          · skip
            by_cases zs : s = 0
            · skip
              go_wp2_with fail
              refine (spec_on _ _ _ _ _ _ _ HO4.out _).mono ?_
              rintro e w3 ⟨rfl, hb3⟩
              obtain ⟨qc3, qf3⟩ := bcell hb3
              have hz3 := hb3.size
              try simp only [World.size_alloc, World.size_setCell, World.size_drew] at hz3
              have hq3 : Below w.heap.size w w3 := below_call (by go_grown) hb3
              try have hl0_3 : w.heap.size < w3.heap.size := by omega
              try have hl1_3 : w.heap.size + 1 < w3.heap.size := by omega
              try have hl2_3 : w.heap.size + 2 < w3.heap.size := by omega
              try have hl3_3 : w.heap.size + 3 < w3.heap.size := by omega
              try have hn1_3 : w1.heap.size < w3.heap.size := by omega
              try have hn2_3 : w2.heap.size < w3.heap.size := by omega
              cases o4
              · skip
                obtain rfl : false = v := by rw [← HV.out]; simp [meetV, hm, zp, zq, zr, zs]
                go_wp2
                go_returns
                exact ⟨rfl, hq3⟩
              · skip
                obtain rfl : true = v := by rw [← HV.out]; simp [meetV, hm, zp, zq, zr, zs]
                go_wp2
                go_returns
                exact ⟨rfl, hq3⟩
            · skip
              obtain rfl : false = v := by rw [← HV.out]; simp [meetV, hm, zp, zq, zr, zs]
              go_wp2
              go_returns
              exact ⟨rfl, hq2⟩
          · skip
            obtain rfl : true = v := by rw [← HV.out]; simp [meetV, hm, zp, zq, zr]
            go_wp2
            go_returns
            exact ⟨rfl, hq2⟩
        · skip
          by_cases zs : s = 0
          · skip
            go_wp2_with fail
            refine (spec_on _ _ _ _ _ _ _ HO4.out _).mono ?_
            rintro e w2 ⟨rfl, hb2⟩
            obtain ⟨qc2, qf2⟩ := bcell hb2
            have hz2 := hb2.size
            try simp only [World.size_alloc, World.size_setCell, World.size_drew] at hz2
            have hq2 : Below w.heap.size w w2 := below_call (by go_grown) hb2
            try have hl0_2 : w.heap.size < w2.heap.size := by omega
            try have hl1_2 : w.heap.size + 1 < w2.heap.size := by omega
            try have hl2_2 : w.heap.size + 2 < w2.heap.size := by omega
            try have hl3_2 : w.heap.size + 3 < w2.heap.size := by omega
            try have hn1_2 : w1.heap.size < w2.heap.size := by omega
            cases o4
            · skip
              obtain rfl : false = v := by rw [← HV.out]; simp [meetV, hm, zp, zq, zr, zs]
              go_wp2
              go_returns
              exact ⟨rfl, hq2⟩
            · skip
              obtain rfl : true = v := by rw [← HV.out]; simp [meetV, hm, zp, zq, zr, zs]
              go_wp2
              go_returns
              exact ⟨rfl, hq2⟩
          · skip
            obtain rfl : false = v := by rw [← HV.out]; simp [meetV, hm, zp, zq, zr, zs]
            go_wp2
            go_returns
            exact ⟨rfl, hq1⟩
set_option maxHeartbeats 2000000 in
theorem impl_on (ax ay bx by' px py : Int) (s : Int) (o1 : Bool) (v : Bool) (hs : sideI ax ay bx by' px py = s) (ho : boxB ax ay bx by' px py = o1) (hv : (decide (s = 0) && o1) = v) (ha : Pl ax ay) (hb : Pl bx by') (hp : Pl px py) (w : World) :
    Calls Try.prog 79 #[.agg #[.int .i64 ax, .int .i64 ay], .agg #[.int .i64 bx, .int .i64 by'], .agg #[.int .i64 px, .int .i64 py]] w fun e w' => e = .returned (.bool v) ∧ Below w.heap.size w w' := by
  have hfa := frozen_al; have hfo := frozen_out
  have HS := hide hs; have HO := hide ho; have HV := hide hv; have HA := hide ha; have HB := hide hb; have HP := hide hp
  clear hs ho hv ha hb hp
  by_cases hz : s = 0
  · obtain rfl : o1 = v := by rw [← HV.out]; simp [hz]
    go_enter Try.func79, Try.ntmps79
    go_wp2_with fail
    refine (impl_side _ _ _ _ _ _ _ HS.out HA.out HB.out HP.out _).mono ?_
    rintro e w1 ⟨rfl, hb1⟩
    obtain ⟨qc1, qf1⟩ := bcell hb1
    have hz1 := hb1.size
    try simp only [World.size_alloc, World.size_setCell, World.size_drew] at hz1
    have hq1 : Below w.heap.size w w1 := below_call (by go_grown) hb1
    try have hl0_1 : w.heap.size < w1.heap.size := by omega
    try have hl1_1 : w.heap.size + 1 < w1.heap.size := by omega
    try have hl2_1 : w.heap.size + 2 < w1.heap.size := by omega
    try have hl3_1 : w.heap.size + 3 < w1.heap.size := by omega
    go_wp2_with fail
    refine (impl_boxed _ _ _ _ _ _ _ HO.out _).mono ?_
    rintro e w2 ⟨rfl, hb2⟩
    obtain ⟨qc2, qf2⟩ := bcell hb2
    have hz2 := hb2.size
    try simp only [World.size_alloc, World.size_setCell, World.size_drew] at hz2
    have hq2 : Below w.heap.size w w2 := below_call (by go_grown) hb2
    try have hl0_2 : w.heap.size < w2.heap.size := by omega
    try have hl1_2 : w.heap.size + 1 < w2.heap.size := by omega
    try have hl2_2 : w.heap.size + 2 < w2.heap.size := by omega
    try have hl3_2 : w.heap.size + 3 < w2.heap.size := by omega
    try have hn1_2 : w1.heap.size < w2.heap.size := by omega
    go_wp2
    go_returns
    exact ⟨rfl, hq2⟩
  · obtain rfl : false = v := by rw [← HV.out]; simp [hz]
    go_enter Try.func79, Try.ntmps79
    go_wp2_with fail
    refine (impl_side _ _ _ _ _ _ _ HS.out HA.out HB.out HP.out _).mono ?_
    rintro e w1 ⟨rfl, hb1⟩
    obtain ⟨qc1, qf1⟩ := bcell hb1
    have hz1 := hb1.size
    try simp only [World.size_alloc, World.size_setCell, World.size_drew] at hz1
    have hq1 : Below w.heap.size w w1 := below_call (by go_grown) hb1
    try have hl0_1 : w.heap.size < w1.heap.size := by omega
    try have hl1_1 : w.heap.size + 1 < w1.heap.size := by omega
    try have hl2_1 : w.heap.size + 2 < w1.heap.size := by omega
    try have hl3_1 : w.heap.size + 3 < w1.heap.size := by omega
    go_wp2
    go_returns
    exact ⟨rfl, hq1⟩
set_option maxHeartbeats 4000000 in
set_option maxRecDepth 100000 in
theorem impl_meet (ax ay bx by' cx cy dx dy : Int) (v : Bool) (hv : meetB ax ay bx by' cx cy dx dy = v) (ha : Pl ax ay) (hb : Pl bx by') (hc : Pl cx cy) (hd : Pl dx dy) (w : World) :
    Calls Try.prog 44 #[.agg #[.int .i64 ax, .int .i64 ay], .agg #[.int .i64 bx, .int .i64 by'], .agg #[.int .i64 cx, .int .i64 cy], .agg #[.int .i64 dx, .int .i64 dy]] w fun e w' => e = .returned (.bool v) ∧ Below w.heap.size w w' := by
  have hfa := frozen_al; have hfo := frozen_out
  unfold meetB at hv
  have bp := side_bd ax ay bx by' cx cy; have bq := side_bd ax ay bx by' dx dy; have br := side_bd cx cy dx dy ax ay; have bs := side_bd cx cy dx dy bx by'
  obtain ⟨p, hp⟩ : ∃ p, sideI ax ay bx by' cx cy = p := ⟨_, rfl⟩
  obtain ⟨q, hq⟩ : ∃ q, sideI ax ay bx by' dx dy = q := ⟨_, rfl⟩
  obtain ⟨r, hr⟩ : ∃ r, sideI cx cy dx dy ax ay = r := ⟨_, rfl⟩
  obtain ⟨s, hs⟩ : ∃ s, sideI cx cy dx dy bx by' = s := ⟨_, rfl⟩
  rw [hp] at hv bp; rw [hq] at hv bq; rw [hr] at hv br; rw [hs] at hv bs
  obtain ⟨m1, m2, m3, m4⟩ := mul_sm bp bq; obtain ⟨n1, n2, n3, n4⟩ := mul_sm br bs
  obtain ⟨o1, ho1⟩ : ∃ o, boxB ax ay bx by' cx cy = o := ⟨_, rfl⟩
  obtain ⟨o2, ho2⟩ : ∃ o, boxB ax ay bx by' dx dy = o := ⟨_, rfl⟩
  obtain ⟨o3, ho3⟩ : ∃ o, boxB cx cy dx dy ax ay = o := ⟨_, rfl⟩
  obtain ⟨o4, ho4⟩ : ∃ o, boxB cx cy dx dy bx by' = o := ⟨_, rfl⟩
  rw [ho1, ho2, ho3, ho4] at hv
  have HP := hide hp; have HQ := hide hq; have HR := hide hr; have HS := hide hs; have HO1 := hide ho1; have HO2 := hide ho2; have HO3 := hide ho3; have HO4 := hide ho4
  have HA := hide ha; have HB := hide hb; have HC := hide hc; have HD := hide hd; have HV := hide hv
  clear hp hq hr hs ho1 ho2 ho3 ho4 ha hb hc hd hv
  obtain ⟨u0, hu0⟩ : ∃ u, (decide (p = 0) && o1) = u := ⟨_, rfl⟩
  have HU0 := hide hu0
  have hv0 : u0 = (decide (p = 0) && o1) := hu0.symm
  clear hu0
  obtain ⟨u1, hu1⟩ : ∃ u, (decide (q = 0) && o2) = u := ⟨_, rfl⟩
  have HU1 := hide hu1
  have hv1 : u1 = (decide (q = 0) && o2) := hu1.symm
  clear hu1
  obtain ⟨u2, hu2⟩ : ∃ u, (decide (r = 0) && o3) = u := ⟨_, rfl⟩
  have HU2 := hide hu2
  have hv2 : u2 = (decide (r = 0) && o3) := hu2.symm
  clear hu2
  obtain ⟨u3, hu3⟩ : ∃ u, (decide (s = 0) && o4) = u := ⟨_, rfl⟩
  have HU3 := hide hu3
  have hv3 : u3 = (decide (s = 0) && o4) := hu3.symm
  clear hu3
  have HVV : (((u0 || u1) || u2) || u3 || (decide (p * q < 0) && decide (r * s < 0))) = v := by rw [← HV.out, hv0, hv1, hv2, hv3]; simp [meetV]
  have HW := hide HVV
  clear HVV hv0 hv1 hv2 hv3
  go_enter Try.func44, Try.ntmps44
  go_wp2_with fail
  refine (impl_on _ _ _ _ _ _ _ _ _ HP.out HO1.out HU0.out HA.out HB.out HC.out _).mono ?_
  rintro e w1 ⟨rfl, hb1⟩
  obtain ⟨qc1, qf1⟩ := bcell hb1
  have hz1 := hb1.size
  try simp only [World.size_alloc, World.size_setCell, World.size_drew] at hz1
  have hq1 : Below w.heap.size w w1 := below_call (by go_grown) hb1
  try have hl0_1 : w.heap.size < w1.heap.size := by omega
  try have hl1_1 : w.heap.size + 1 < w1.heap.size := by omega
  try have hl2_1 : w.heap.size + 2 < w1.heap.size := by omega
  try have hl3_1 : w.heap.size + 3 < w1.heap.size := by omega
  cases u0
  · skip
    go_wp2_with fail
    refine (impl_on _ _ _ _ _ _ _ _ _ HQ.out HO2.out HU1.out HA.out HB.out HD.out _).mono ?_
    rintro e w2 ⟨rfl, hb2⟩
    obtain ⟨qc2, qf2⟩ := bcell hb2
    have hz2 := hb2.size
    try simp only [World.size_alloc, World.size_setCell, World.size_drew] at hz2
    have hq2 : Below w.heap.size w w2 := below_call (by go_grown) hb2
    try have hl0_2 : w.heap.size < w2.heap.size := by omega
    try have hl1_2 : w.heap.size + 1 < w2.heap.size := by omega
    try have hl2_2 : w.heap.size + 2 < w2.heap.size := by omega
    try have hl3_2 : w.heap.size + 3 < w2.heap.size := by omega
    try have hn1_2 : w1.heap.size < w2.heap.size := by omega
    cases u1
    · skip
      go_wp2_with fail
      refine (impl_on _ _ _ _ _ _ _ _ _ HR.out HO3.out HU2.out HC.out HD.out HA.out _).mono ?_
      rintro e w3 ⟨rfl, hb3⟩
      obtain ⟨qc3, qf3⟩ := bcell hb3
      have hz3 := hb3.size
      try simp only [World.size_alloc, World.size_setCell, World.size_drew] at hz3
      have hq3 : Below w.heap.size w w3 := below_call (by go_grown) hb3
      try have hl0_3 : w.heap.size < w3.heap.size := by omega
      try have hl1_3 : w.heap.size + 1 < w3.heap.size := by omega
      try have hl2_3 : w.heap.size + 2 < w3.heap.size := by omega
      try have hl3_3 : w.heap.size + 3 < w3.heap.size := by omega
      try have hn1_3 : w1.heap.size < w3.heap.size := by omega
      try have hn2_3 : w2.heap.size < w3.heap.size := by omega
      cases u2
      · skip
        go_wp2_with fail
        refine (impl_on _ _ _ _ _ _ _ _ _ HS.out HO4.out HU3.out HC.out HD.out HB.out _).mono ?_
        rintro e w4 ⟨rfl, hb4⟩
        obtain ⟨qc4, qf4⟩ := bcell hb4
        have hz4 := hb4.size
        try simp only [World.size_alloc, World.size_setCell, World.size_drew] at hz4
        have hq4 : Below w.heap.size w w4 := below_call (by go_grown) hb4
        try have hl0_4 : w.heap.size < w4.heap.size := by omega
        try have hl1_4 : w.heap.size + 1 < w4.heap.size := by omega
        try have hl2_4 : w.heap.size + 2 < w4.heap.size := by omega
        try have hl3_4 : w.heap.size + 3 < w4.heap.size := by omega
        try have hn1_4 : w1.heap.size < w4.heap.size := by omega
        try have hn2_4 : w2.heap.size < w4.heap.size := by omega
        try have hn3_4 : w3.heap.size < w4.heap.size := by omega
        cases u3
        · skip
          by_cases hm : p * q < 0
          · have hm1 : decide (p * q < 0) = true := decide_eq_true hm
            by_cases hn : r * s < 0
            · have hn1 : decide (r * s < 0) = true := decide_eq_true hn
              obtain rfl : true = v := by rw [← HW.out]; simp [hm, hn]
              have hx := BW.cell (w := w4)
              go_wp2
              refine wp_region_bw (by kernel_rfl) (by kernel_rfl) ?_
              repeat (go_big_quiet_step ((first | (go_at_call 80; with_reducible exact BW.call (impl_side ax ay bx by' cx cy p HP.out HA.out HB.out HC.out _)) | (go_at_call 80; with_reducible exact BW.call (impl_side ax ay bx by' dx dy q HQ.out HA.out HB.out HD.out _)) | (go_at_call 80; with_reducible exact BW.call (impl_side cx cy dx dy ax ay r HR.out HC.out HD.out HA.out _)) | (go_at_call 80; with_reducible exact BW.call (impl_side cx cy dx dy bx by' s HS.out HC.out HD.out HB.out _)))))
              refine wpQuiet_end fun w1 hb1 => ?_
              clear hx
              go_wp2
              go_returns
              exact ⟨ret_bool (by simp [hm, hn] <;> rfl), below_call hq4 hb1⟩
            · have hn1 : decide (r * s < 0) = false := decide_eq_false hn
              obtain rfl : false = v := by rw [← HW.out]; simp [hm, hn]
              have hx := BW.cell (w := w4)
              go_wp2
              refine wp_region_bw (by kernel_rfl) (by kernel_rfl) ?_
              repeat (go_big_quiet_step ((first | (go_at_call 80; with_reducible exact BW.call (impl_side ax ay bx by' cx cy p HP.out HA.out HB.out HC.out _)) | (go_at_call 80; with_reducible exact BW.call (impl_side ax ay bx by' dx dy q HQ.out HA.out HB.out HD.out _)) | (go_at_call 80; with_reducible exact BW.call (impl_side cx cy dx dy ax ay r HR.out HC.out HD.out HA.out _)) | (go_at_call 80; with_reducible exact BW.call (impl_side cx cy dx dy bx by' s HS.out HC.out HD.out HB.out _)))))
              refine wpQuiet_end fun w1 hb1 => ?_
              clear hx
              go_wp2
              go_returns
              exact ⟨ret_bool (by simp [hm, hn] <;> rfl), below_call hq4 hb1⟩
          · have hm1 : decide (p * q < 0) = false := decide_eq_false hm
            obtain rfl : false = v := by rw [← HW.out]; simp [hm]
            have hx := BW.cell (w := w4)
            go_wp2
            refine wp_region_bw (by kernel_rfl) (by kernel_rfl) ?_
            repeat (go_big_quiet_step ((first | (go_at_call 80; with_reducible exact BW.call (impl_side ax ay bx by' cx cy p HP.out HA.out HB.out HC.out _)) | (go_at_call 80; with_reducible exact BW.call (impl_side ax ay bx by' dx dy q HQ.out HA.out HB.out HD.out _)) | (go_at_call 80; with_reducible exact BW.call (impl_side cx cy dx dy ax ay r HR.out HC.out HD.out HA.out _)) | (go_at_call 80; with_reducible exact BW.call (impl_side cx cy dx dy bx by' s HS.out HC.out HD.out HB.out _)))))
            refine wpQuiet_end fun w1 hb1 => ?_
            clear hx
            go_wp2
            go_returns
            exact ⟨ret_bool (by simp [hm] <;> rfl), below_call hq4 hb1⟩
        · skip
          obtain rfl : true = v := by rw [← HW.out]; simp [Bool.true_or]
          go_wp2
          go_returns
          exact ⟨rfl, hq4⟩
      · skip
        obtain rfl : true = v := by rw [← HW.out]; simp [Bool.true_or]
        go_wp2
        go_returns
        exact ⟨rfl, hq3⟩
    · skip
      obtain rfl : true = v := by rw [← HW.out]; simp [Bool.true_or]
      go_wp2
      go_returns
      exact ⟨rfl, hq2⟩
  · skip
    obtain rfl : true = v := by rw [← HW.out]; simp [Bool.true_or]
    go_wp2
    go_returns
    exact ⟨rfl, hq1⟩
set_option maxHeartbeats 2000000 in
theorem spec_segs (ax ay bx by' cx cy dx dy : Int) (ok : Bool) (hok : (segB ax ay bx by' && segB cx cy dx dy) = ok) (v : Bool) (hv : (ok && meetB ax ay bx by' cx cy dx dy) = v) (w : World) :
    Calls Try.prog 11 #[.agg #[.int .i64 ax, .int .i64 ay], .agg #[.int .i64 bx, .int .i64 by'], .agg #[.int .i64 cx, .int .i64 cy], .agg #[.int .i64 dx, .int .i64 dy]] w fun e w' => e = .returned (.tuple #[.bool v, .bool ok]) ∧ Below w.heap.size w w' := by
  have hfa := frozen_al; have hfo := frozen_out
  have HK := hide hok; have HV := hide hv
  clear hok hv
  cases h1 : segB ax ay bx by'
  · obtain rfl : false = ok := by rw [← HK.out, h1]; rfl
    obtain rfl : false = v := HV.out
    have H1 := hide h1; clear h1
    go_enter Try.func11, Try.ntmps11
    go_wp2_with fail
    refine (spec_seg _ _ _ _ _ H1.out _).mono ?_
    rintro e w1 ⟨rfl, hb1⟩
    obtain ⟨qc1, qf1⟩ := bcell hb1
    have hz1 := hb1.size
    try simp only [World.size_alloc, World.size_setCell, World.size_drew] at hz1
    have hq1 : Below w.heap.size w w1 := below_call (by go_grown) hb1
    try have hl0_1 : w.heap.size < w1.heap.size := by omega
    try have hl1_1 : w.heap.size + 1 < w1.heap.size := by omega
    try have hl2_1 : w.heap.size + 2 < w1.heap.size := by omega
    try have hl3_1 : w.heap.size + 3 < w1.heap.size := by omega
    go_wp2
    go_returns
    exact ⟨rfl, hq1⟩
  · cases h2 : segB cx cy dx dy
    · obtain rfl : false = ok := by rw [← HK.out, h1, h2]; rfl
      obtain rfl : false = v := HV.out
      have H1 := hide h1; have H2 := hide h2; clear h1 h2
      go_enter Try.func11, Try.ntmps11
      go_wp2_with fail
      refine (spec_seg _ _ _ _ _ H1.out _).mono ?_
      rintro e w1 ⟨rfl, hb1⟩
      obtain ⟨qc1, qf1⟩ := bcell hb1
      have hz1 := hb1.size
      try simp only [World.size_alloc, World.size_setCell, World.size_drew] at hz1
      have hq1 : Below w.heap.size w w1 := below_call (by go_grown) hb1
      try have hl0_1 : w.heap.size < w1.heap.size := by omega
      try have hl1_1 : w.heap.size + 1 < w1.heap.size := by omega
      try have hl2_1 : w.heap.size + 2 < w1.heap.size := by omega
      try have hl3_1 : w.heap.size + 3 < w1.heap.size := by omega
      go_wp2_with fail
      refine (spec_seg _ _ _ _ _ H2.out _).mono ?_
      rintro e w2 ⟨rfl, hb2⟩
      obtain ⟨qc2, qf2⟩ := bcell hb2
      have hz2 := hb2.size
      try simp only [World.size_alloc, World.size_setCell, World.size_drew] at hz2
      have hq2 : Below w.heap.size w w2 := below_call (by go_grown) hb2
      try have hl0_2 : w.heap.size < w2.heap.size := by omega
      try have hl1_2 : w.heap.size + 1 < w2.heap.size := by omega
      try have hl2_2 : w.heap.size + 2 < w2.heap.size := by omega
      try have hl3_2 : w.heap.size + 3 < w2.heap.size := by omega
      try have hn1_2 : w1.heap.size < w2.heap.size := by omega
      go_wp2
      go_returns
      exact ⟨rfl, hq2⟩
    · obtain rfl : true = ok := by rw [← HK.out, h1, h2]; rfl
      have hr : meetB ax ay bx by' cx cy dx dy = v := HV.out
      obtain ⟨ha, hb⟩ := seg_of h1
      obtain ⟨hc, hd⟩ := seg_of h2
      have H1 := hide h1; have H2 := hide h2; have H3 := hide hr; have HA := hide ha; have HB := hide hb; have HC := hide hc; have HD := hide hd; clear h1 h2 hr ha hb hc hd
      go_enter Try.func11, Try.ntmps11
      go_wp2_with fail
      refine (spec_seg _ _ _ _ _ H1.out _).mono ?_
      rintro e w1 ⟨rfl, hb1⟩
      obtain ⟨qc1, qf1⟩ := bcell hb1
      have hz1 := hb1.size
      try simp only [World.size_alloc, World.size_setCell, World.size_drew] at hz1
      have hq1 : Below w.heap.size w w1 := below_call (by go_grown) hb1
      try have hl0_1 : w.heap.size < w1.heap.size := by omega
      try have hl1_1 : w.heap.size + 1 < w1.heap.size := by omega
      try have hl2_1 : w.heap.size + 2 < w1.heap.size := by omega
      try have hl3_1 : w.heap.size + 3 < w1.heap.size := by omega
      go_wp2_with fail
      refine (spec_seg _ _ _ _ _ H2.out _).mono ?_
      rintro e w2 ⟨rfl, hb2⟩
      obtain ⟨qc2, qf2⟩ := bcell hb2
      have hz2 := hb2.size
      try simp only [World.size_alloc, World.size_setCell, World.size_drew] at hz2
      have hq2 : Below w.heap.size w w2 := below_call (by go_grown) hb2
      try have hl0_2 : w.heap.size < w2.heap.size := by omega
      try have hl1_2 : w.heap.size + 1 < w2.heap.size := by omega
      try have hl2_2 : w.heap.size + 2 < w2.heap.size := by omega
      try have hl3_2 : w.heap.size + 3 < w2.heap.size := by omega
      try have hn1_2 : w1.heap.size < w2.heap.size := by omega
      go_wp2_with fail
      refine (spec_meet _ _ _ _ _ _ _ _ _ H3.out HA.out HB.out HC.out HD.out _).mono ?_
      rintro e w3 ⟨rfl, hb3⟩
      obtain ⟨qc3, qf3⟩ := bcell hb3
      have hz3 := hb3.size
      try simp only [World.size_alloc, World.size_setCell, World.size_drew] at hz3
      have hq3 : Below w.heap.size w w3 := below_call (by go_grown) hb3
      try have hl0_3 : w.heap.size < w3.heap.size := by omega
      try have hl1_3 : w.heap.size + 1 < w3.heap.size := by omega
      try have hl2_3 : w.heap.size + 2 < w3.heap.size := by omega
      try have hl3_3 : w.heap.size + 3 < w3.heap.size := by omega
      try have hn1_3 : w1.heap.size < w3.heap.size := by omega
      try have hn2_3 : w2.heap.size < w3.heap.size := by omega
      go_wp2
      go_returns
      exact ⟨rfl, hq3⟩
set_option maxHeartbeats 2000000 in
theorem impl_segs (ax ay bx by' cx cy dx dy : Int) (ok : Bool) (hok : (segB ax ay bx by' && segB cx cy dx dy) = ok) (v : Bool) (hv : (ok && meetB ax ay bx by' cx cy dx dy) = v) (w : World) :
    Calls Try.prog 13 #[.agg #[.int .i64 ax, .int .i64 ay], .agg #[.int .i64 bx, .int .i64 by'], .agg #[.int .i64 cx, .int .i64 cy], .agg #[.int .i64 dx, .int .i64 dy]] w fun e w' => e = .returned (.tuple #[.bool v, .bool ok]) ∧ Below w.heap.size w w' := by
  have hfa := frozen_al; have hfo := frozen_out
  have HK := hide hok; have HV := hide hv
  clear hok hv
  cases h1 : segB ax ay bx by'
  · obtain rfl : false = ok := by rw [← HK.out, h1]; rfl
    obtain rfl : false = v := HV.out
    have H1 := hide h1; clear h1
    go_enter Try.func13, Try.ntmps13
    go_wp2_with fail
    refine (impl_seg _ _ _ _ _ H1.out _).mono ?_
    rintro e w1 ⟨rfl, hb1⟩
    obtain ⟨qc1, qf1⟩ := bcell hb1
    have hz1 := hb1.size
    try simp only [World.size_alloc, World.size_setCell, World.size_drew] at hz1
    have hq1 : Below w.heap.size w w1 := below_call (by go_grown) hb1
    try have hl0_1 : w.heap.size < w1.heap.size := by omega
    try have hl1_1 : w.heap.size + 1 < w1.heap.size := by omega
    try have hl2_1 : w.heap.size + 2 < w1.heap.size := by omega
    try have hl3_1 : w.heap.size + 3 < w1.heap.size := by omega
    go_wp2
    go_returns
    exact ⟨rfl, hq1⟩
  · cases h2 : segB cx cy dx dy
    · obtain rfl : false = ok := by rw [← HK.out, h1, h2]; rfl
      obtain rfl : false = v := HV.out
      have H1 := hide h1; have H2 := hide h2; clear h1 h2
      go_enter Try.func13, Try.ntmps13
      go_wp2_with fail
      refine (impl_seg _ _ _ _ _ H1.out _).mono ?_
      rintro e w1 ⟨rfl, hb1⟩
      obtain ⟨qc1, qf1⟩ := bcell hb1
      have hz1 := hb1.size
      try simp only [World.size_alloc, World.size_setCell, World.size_drew] at hz1
      have hq1 : Below w.heap.size w w1 := below_call (by go_grown) hb1
      try have hl0_1 : w.heap.size < w1.heap.size := by omega
      try have hl1_1 : w.heap.size + 1 < w1.heap.size := by omega
      try have hl2_1 : w.heap.size + 2 < w1.heap.size := by omega
      try have hl3_1 : w.heap.size + 3 < w1.heap.size := by omega
      go_wp2_with fail
      refine (impl_seg _ _ _ _ _ H2.out _).mono ?_
      rintro e w2 ⟨rfl, hb2⟩
      obtain ⟨qc2, qf2⟩ := bcell hb2
      have hz2 := hb2.size
      try simp only [World.size_alloc, World.size_setCell, World.size_drew] at hz2
      have hq2 : Below w.heap.size w w2 := below_call (by go_grown) hb2
      try have hl0_2 : w.heap.size < w2.heap.size := by omega
      try have hl1_2 : w.heap.size + 1 < w2.heap.size := by omega
      try have hl2_2 : w.heap.size + 2 < w2.heap.size := by omega
      try have hl3_2 : w.heap.size + 3 < w2.heap.size := by omega
      try have hn1_2 : w1.heap.size < w2.heap.size := by omega
      go_wp2
      go_returns
      exact ⟨rfl, hq2⟩
    · obtain rfl : true = ok := by rw [← HK.out, h1, h2]; rfl
      have hr : meetB ax ay bx by' cx cy dx dy = v := HV.out
      obtain ⟨ha, hb⟩ := seg_of h1
      obtain ⟨hc, hd⟩ := seg_of h2
      have H1 := hide h1; have H2 := hide h2; have H3 := hide hr; have HA := hide ha; have HB := hide hb; have HC := hide hc; have HD := hide hd; clear h1 h2 hr ha hb hc hd
      go_enter Try.func13, Try.ntmps13
      go_wp2_with fail
      refine (impl_seg _ _ _ _ _ H1.out _).mono ?_
      rintro e w1 ⟨rfl, hb1⟩
      obtain ⟨qc1, qf1⟩ := bcell hb1
      have hz1 := hb1.size
      try simp only [World.size_alloc, World.size_setCell, World.size_drew] at hz1
      have hq1 : Below w.heap.size w w1 := below_call (by go_grown) hb1
      try have hl0_1 : w.heap.size < w1.heap.size := by omega
      try have hl1_1 : w.heap.size + 1 < w1.heap.size := by omega
      try have hl2_1 : w.heap.size + 2 < w1.heap.size := by omega
      try have hl3_1 : w.heap.size + 3 < w1.heap.size := by omega
      go_wp2_with fail
      refine (impl_seg _ _ _ _ _ H2.out _).mono ?_
      rintro e w2 ⟨rfl, hb2⟩
      obtain ⟨qc2, qf2⟩ := bcell hb2
      have hz2 := hb2.size
      try simp only [World.size_alloc, World.size_setCell, World.size_drew] at hz2
      have hq2 : Below w.heap.size w w2 := below_call (by go_grown) hb2
      try have hl0_2 : w.heap.size < w2.heap.size := by omega
      try have hl1_2 : w.heap.size + 1 < w2.heap.size := by omega
      try have hl2_2 : w.heap.size + 2 < w2.heap.size := by omega
      try have hl3_2 : w.heap.size + 3 < w2.heap.size := by omega
      try have hn1_2 : w1.heap.size < w2.heap.size := by omega
      go_wp2_with fail
      refine (impl_meet _ _ _ _ _ _ _ _ _ H3.out HA.out HB.out HC.out HD.out _).mono ?_
      rintro e w3 ⟨rfl, hb3⟩
      obtain ⟨qc3, qf3⟩ := bcell hb3
      have hz3 := hb3.size
      try simp only [World.size_alloc, World.size_setCell, World.size_drew] at hz3
      have hq3 : Below w.heap.size w w3 := below_call (by go_grown) hb3
      try have hl0_3 : w.heap.size < w3.heap.size := by omega
      try have hl1_3 : w.heap.size + 1 < w3.heap.size := by omega
      try have hl2_3 : w.heap.size + 2 < w3.heap.size := by omega
      try have hl3_3 : w.heap.size + 3 < w3.heap.size := by omega
      try have hn1_3 : w1.heap.size < w3.heap.size := by omega
      try have hn2_3 : w2.heap.size < w3.heap.size := by omega
      go_wp2
      go_returns
      exact ⟨rfl, hq3⟩
end Go.Proofs.Ytbpeamjgddikjaa
