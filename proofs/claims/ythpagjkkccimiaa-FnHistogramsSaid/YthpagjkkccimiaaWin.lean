/- Chapter 20: WindowCounts, BusiestWindow: made by wingen.py. -/
import Derived.Test.YthpagjkkccimiaaLarg
import Derived.IntWalk
namespace Go.Proofs.Ythpagjkkccimiaa
open Go.RowKit
set_option linter.unusedVariables false
set_option linter.unusedSimpArgs false

def winP (X : Nat → Nat → Int) (wd : Int) (i k : Nat) : Bool := inB (X k 0 - X i 0) 0 wd
def winN (X : Nat → Nat → Int) (wd : Int) (n i : Nat) : Nat := (selL (winP X wd i) n).length
def winI (X : Nat → Nat → Int) (wd : Int) (n i : Nat) : Int := winN X wd n i
theorem winI_bd (X : Nat → Nat → Int) (wd : Int) (n i : Nat) : 0 ≤ winI X wd n i ∧ winI X wd n i ≤ n := by
  have := selL_len (winP X wd i) n
  unfold winI winN; omega
def oneC (f : Nat → Int) (x : Nat) : List Value := [.int .i64 (f x)]
theorem range_snoc (f : Nat → Int) (k : Nat) : (List.range k).flatMap (oneC f) ++ [.int .i64 (f k)] = (List.range (k + 1)).flatMap (oneC f) := by
  rw [List.range_succ, List.flatMap_append]; simp [oneC]
theorem own_of_range {w : World} {base n : Nat} {E : TypeId} {v : Value} {f : Nat → Int} (h : w.ownsRow base E 1 v n ((List.range n).flatMap (oneC f))) : Own w base E 1 v n (iv fun i _ => f i) :=
  own_of_rows (k := 1) (by simp) (fun x => rfl) (fun i j hi hj => by
    obtain rfl : j = 0 := by omega
    simp [oneC, iv]) h
theorem spec_winned (A : Option Addr) (n c : Nat) (X : Nat → Nat → Int) (s : Int) (v : Bool) (hv : (catB n X && inB s 0 100000) = v) (w : World) (hn : n ≤ 1048576) (ha : Arr w w.heap.size A n 4 (iv X)) :
    Calls Try.prog 114 #[.slice A n c, .int .i64 s] w fun e w' => e = .returned (.bool v) ∧ Below w.heap.size w w' := by
  have HV := hide hv
  clear hv
  cases h0 : catB n X
  · skip
    obtain rfl : false = v := by rw [← HV.out]; simp [h0]
    have H0 := hide h0; clear h0
    go_enter Try.func114, Try.ntmps114
    go_wp2_with fail
    refine (spec_good16 _ _ _ X _ H0.out _ hn ha).mono ?_
    rintro e w1 ⟨rfl, hb1⟩
    obtain ⟨qc1, qf1⟩ := bcell hb1
    have hz1 := hb1.size
    try simp only [World.size_alloc, World.size_setCell, World.size_drew] at hz1
    have hq1 : Below w.heap.size w w1 := below_call (by go_grown) hb1
    try have hl0_1 : w.heap.size < w1.heap.size := by omega
    try have hl1_1 : w.heap.size + 1 < w1.heap.size := by omega
    try have hl2_1 : w.heap.size + 2 < w1.heap.size := by omega
    try have hl3_1 : w.heap.size + 3 < w1.heap.size := by omega
    go_wp2
    go_returns
    exact ⟨rfl, hq1⟩
  · skip
    cases h1 : inB s 0 100000
    · skip
      obtain rfl : false = v := by rw [← HV.out]; simp [h0, h1]
      have H0 := hide h0; clear h0
      have H1 := hide h1; clear h1
      go_enter Try.func114, Try.ntmps114
      go_wp2_with fail
      refine (spec_good16 _ _ _ X _ H0.out _ hn ha).mono ?_
      rintro e w1 ⟨rfl, hb1⟩
      obtain ⟨qc1, qf1⟩ := bcell hb1
      have hz1 := hb1.size
      try simp only [World.size_alloc, World.size_setCell, World.size_drew] at hz1
      have hq1 : Below w.heap.size w w1 := below_call (by go_grown) hb1
      try have hl0_1 : w.heap.size < w1.heap.size := by omega
      try have hl1_1 : w.heap.size + 1 < w1.heap.size := by omega
      try have hl2_1 : w.heap.size + 2 < w1.heap.size := by omega
      try have hl3_1 : w.heap.size + 3 < w1.heap.size := by omega
      go_wp2_with fail
      refine (spec_in _ _ _ _ H1.out _).mono ?_
      rintro e w1' ⟨rfl, rfl⟩
      go_wp2
      go_returns
      exact ⟨rfl, hq1⟩
    · skip
      obtain rfl : true = v := by rw [← HV.out]; simp [h0, h1]
      have H0 := hide h0; clear h0
      have H1 := hide h1; clear h1
      go_enter Try.func114, Try.ntmps114
      go_wp2_with fail
      refine (spec_good16 _ _ _ X _ H0.out _ hn ha).mono ?_
      rintro e w1 ⟨rfl, hb1⟩
      obtain ⟨qc1, qf1⟩ := bcell hb1
      have hz1 := hb1.size
      try simp only [World.size_alloc, World.size_setCell, World.size_drew] at hz1
      have hq1 : Below w.heap.size w w1 := below_call (by go_grown) hb1
      try have hl0_1 : w.heap.size < w1.heap.size := by omega
      try have hl1_1 : w.heap.size + 1 < w1.heap.size := by omega
      try have hl2_1 : w.heap.size + 2 < w1.heap.size := by omega
      try have hl3_1 : w.heap.size + 3 < w1.heap.size := by omega
      go_wp2_with fail
      refine (spec_in _ _ _ _ H1.out _).mono ?_
      rintro e w1' ⟨rfl, rfl⟩
      go_wp2
      go_returns
      exact ⟨rfl, hq1⟩
set_option maxHeartbeats 2000000 in
set_option maxRecDepth 100000 in
theorem spec_wins (A : Option Addr) (n c : Nat) (X : Nat → Nat → Int) (wd : Int) (w : World) (hn : n ≤ 10) (hX : catIn n X) (ha : Arr w w.heap.size A n 4 (iv X)) :
    Calls Try.prog 115 #[.slice A n c, .int .i64 wd] w fun e w' => ∃ v, e = .returned v ∧ Below w.heap.size w w' ∧ Own w' w.heap.size 3 1 v n (iv fun i _ => winI X wd n i) := by
  obtain ⟨i0, hi0, hy0, hy1, hy2⟩ := info_parts info_int
  have HX := hide hX
  clear hX
  go_enter Try.func115, Try.ntmps115
  go_wp2
  go_loopw [5, 6] (fun v i wr => ∃ k : Nat, k ≤ n ∧ i = .int .i64 k ∧ Below w.heap.size w wr ∧ wr.ownsRow w.heap.size 3 1 v k ((List.range k).flatMap (oneC (winI X wd n)))) (fun _ i _ => n - (intOf i).toNat)
  case atStart => exact ⟨0, Nat.zero_le _, rfl, by go_grown, World.ownsRow_made _ #[] 0 (Nat.le_refl _) (Nat.zero_le _) (by simp)⟩
  case round =>
    obtain ⟨k, hk, rfl, hbw, hown⟩ := hrel
    have HO := hide hown
    clear hown
    by_cases hlt : k < n
    · obtain ⟨b, off, rfl, hbb, hc⟩ := ha (by omega)
      have hsw := hbw.size
      obtain ⟨_, ku, kt, _⟩ := (⟨trivial, HX.out k hlt⟩ : True ∧ _)
      have HCC := hide hc
      clear hc ha
      go_wp2
      go_loopw [7, 8] (fun x j wq => ∃ q z : Nat, q ≤ n ∧ z ≤ q ∧ j = .int .i64 q ∧ x = .int .i64 z ∧ z = (selL (winP X wd k) q).length ∧ Below wr.heap.size wr wq) (fun _ j _ => n - (intOf j).toNat)
      case atStart => exact ⟨0, 0, Nat.zero_le _, Nat.le_refl _, rfl, rfl, rfl, Below.refl _ _⟩
      case round =>
        obtain ⟨q, z, hq, hzq, rfl, rfl, hz, hbq⟩ := hrel
        have HZ := hide hz
        clear hz
        by_cases hlq : q < n
        · have d0 := (hbq.cell (p := ⟨b, _, none⟩) (by show b < _; omega)).trans ((hbw.cell (p := ⟨b, _, none⟩) hbb).trans (HCC.out q 0 hlq (by omega)))
          have e0 := (hbq.cell (p := ⟨b, _, none⟩) (by show b < _; omega)).trans ((hbw.cell (p := ⟨b, _, none⟩) hbb).trans (HCC.out k 0 hlt (by omega)))
          simp only [Nat.add_zero, iv] at d0 e0
          obtain ⟨u0, t0, _⟩ := HX.out q hlq
          have hbl : b < wr.heap.size := by have := hbq.size; omega
          have hx := BW.cell (w := wr)
          have hw0 : IntKind.i64.wrap (X q 0 - X k 0) = X q 0 - X k 0 := IntWalk.i64_in _ (by omega)
          cases hin : winP X wd k q
          · have hs := selL_no hin
            have HI := hide hin; have HS := hide hs
            clear hin hs
            go_wp2
            refine wp_region_bw (by kernel_rfl) (by kernel_rfl) ?_
            repeat (go_big_quiet_step ((first | (go_at_call 110; exact BW.call0 (spec_in _ _ _ _ HI.out _)))))
            refine wpQuiet_end fun w1 hb1 => ?_
            clear hx hw0
            go_wp2
            go_roundw
            case rel => exact ⟨q + 1, z, by omega, by omega, by go_num, rfl, by rw [HS.out]; exact HZ.out, hbq.trans (hb1.mono hbq.size)⟩
            case measure => simp [intOf]; omega
          · have hs := selL_yes hin
            have HI := hide hin; have HS := hide hs
            clear hin hs
            go_wp2
            refine wp_region_bw (by kernel_rfl) (by kernel_rfl) ?_
            repeat (go_big_quiet_step ((first | (go_at_call 110; exact BW.call0 (spec_in _ _ _ _ HI.out _)))))
            refine wpQuiet_end fun w1 hb1 => ?_
            clear hx hw0
            go_wp2
            go_roundw
            case rel => exact ⟨q + 1, z + 1, by omega, by omega, by go_num, by go_num, by rw [HS.out]; simp; exact HZ.out, hbq.trans (hb1.mono hbq.size)⟩
            case measure => simp [intOf]; omega
        · obtain rfl : q = n := by omega
          have hown1 := row_below HO.out hbq
          have hbw1 : Below w.heap.size w wr := hbw.trans (hbq.mono hsw)
          have hze : (z : Int) = winI X wd q k := by rw [winI, winN, ← HZ.out]
          have HE := hide hze
          clear hze
          go_wp2_with (at_builtin; refine wpList_append_far _ rfl _ _ 37 rfl w.heap.size 3 i0 (.int .i64 0) 1 8 Try.underlying37 hi0 hy0 hy1 hy2 rfl (by decide) _ _ _ rfl (hown1.alloc _) ⟨wr.heap.size, 0, none⟩ 1 1 [.int .i64 (z : Int)] rfl rfl ?c1 ?c2 ?c3 ?c4 ?c5 ?_)
          case c1 => exact cell_one_at _ _ _ _ rfl
          case c2 => intro u hu; simp only [List.mem_singleton] at hu; subst hu; rfl
          case c3 => unfold maxLen; omega
          case c4 => omega
          case c5 => have := hbw1.size; simp only [World.size_alloc]; omega
          intro v1 w1 hown2 hgrow2 _
          have hlt2 := hown1.lt
          rw [HE.out, range_snoc] at hown2
          have hsw1 := hbw1.size
          have HO2 := hide hown2; have HG := hide hgrow2; have HL := hide hlt2
          clear hown1 hown2 hgrow2 hlt2
          go_wp2
          go_roundw
          case rel => exact ⟨k + 1, by omega, by go_num, (below_al hbw1).grown HG.out (by simp only [World.size_alloc]; omega) (fun g hg => (HL.out g hg).1), HO2.out⟩
          case measure => simp [intOf]; omega
    · obtain rfl : k = n := by omega
      go_wp2
      go_ret
      exact ⟨_, rfl, hbw, own_of_range HO.out⟩
theorem ask_win (n i : Nat) (X : Nat → Nat → Int) (wd : Int) (bq bw : Nat) (w : World) (hX : catIn n X) (hi : i < n) (hbq : bq < w.heap.size) (hq : w.cell? ⟨bq, 0, none⟩ = some (.int .i64 (X i 0))) (hbw : bw < w.heap.size) (hw : w.cell? ⟨bw, 0, none⟩ = some (.int .i64 wd)) :
    AskQW (.pointer (some ⟨bq, 0, none⟩)) (.pointer (some ⟨bw, 0, none⟩)) n X (winP X wd i) w := by
  intro k hk wr hb
  have hq' := (hb.cell (p := ⟨bq, 0, none⟩) hbq).trans hq
  have hw' := (hb.cell (p := ⟨bw, 0, none⟩) hbw).trans hw
  have hbl : bq < wr.heap.size := by have := hb.size; omega
  have hbl2 : bw < wr.heap.size := by have := hb.size; omega
  obtain ⟨u0, t0, _⟩ := hX i hi
  obtain ⟨u1, t1, _⟩ := hX k hk
  obtain ⟨v, hv⟩ : ∃ v, winP X wd i k = v := ⟨_, rfl⟩
  have HV := hide hv
  rw [hv]
  clear hq hw hv hX
  go_enter Try.func134, Try.ntmps134
  go_wp2_with fail
  refine (impl_in _ _ _ _ HV.out _).mono ?_
  rintro e w1 ⟨rfl, rfl⟩
  go_wp2
  go_returns
  exact ⟨rfl, by go_grown⟩
set_option maxHeartbeats 2000000 in
set_option maxRecDepth 100000 in
theorem impl_wins (A : Option Addr) (n c : Nat) (X : Nat → Nat → Int) (wd : Int) (w : World) (hn : n ≤ 10) (hX : catIn n X) (ha : Arr w w.heap.size A n 4 (iv X)) :
    Calls Try.prog 113 #[.slice A n c, .int .i64 wd] w fun e w' => ∃ v, e = .returned v ∧ Below w.heap.size w w' ∧ Own w' w.heap.size 3 1 v n (iv fun i _ => winI X wd n i) := by
  obtain ⟨i0, hi0, hy0, hy1, hy2⟩ := info_parts info_int
  have HX := hide hX; have HAA := hide ha
  clear hX ha
  go_enter Try.func113, Try.ntmps113
  go_wp2
  go_loopw [5, 11] (fun v i wr => ∃ k : Nat, k ≤ n ∧ i = .int .i64 k ∧ Below w.heap.size w wr ∧ w.heap.size + 1 ≤ wr.heap.size ∧ wr.cell? ⟨w.heap.size, 0, none⟩ = some (.int .i64 wd) ∧ wr.ownsRow (w.heap.size + 1) 3 1 v k ((List.range k).flatMap (oneC (winI X wd n)))) (fun _ i _ => n - (intOf i).toNat)
  case atStart => exact ⟨0, Nat.zero_le _, rfl, by go_grown, by simp only [World.size_alloc]; omega, by simp [go_sem], row_new_at _ _ _ _ _ (by simp only [World.size_alloc]) (by simp only [World.size_alloc]; omega)⟩
  case round =>
    obtain ⟨k, hk, rfl, hbw, hsz, hbox, hown⟩ := hrel
    have HO := hide hown
    clear hown
    by_cases hlt : k < n
    · obtain ⟨b, off, hA, hbb, hc⟩ := HAA.out (by omega)
      have HA' := hide hA
      obtain ⟨q1, q2⟩ := bcell hbw
      have c0 := hc k 0 hlt (by omega); have c1 := hc k 1 hlt (by omega); have c2 := hc k 2 hlt (by omega); have c3 := hc k 3 hlt (by omega)
      simp only [Nat.add_zero, iv] at c0 c1 c2 c3
      subst hA
      clear hc
      go_wp2_with fail
      refine (filter_quakeW _ _ _ _ _ X (winP X wd k) _ (by omega) (HAA.out.on (below_al hbw)) (ask_win n k X wd wr.heap.size w.heap.size _ HX.out hlt (by simp) (by simp [go_sem]) (by simp only [World.size_alloc]; omega) ((World.cell?_alloc_lt wr _ ⟨w.heap.size, 0, none⟩ (by show w.heap.size < _; omega)).trans hbox))).mono ?_
      rintro e w1 ⟨v1, rfl, hb1, ho1⟩
      obtain ⟨z, hz⟩ : ∃ z, (selL (winP X wd k) n).length = z := ⟨_, rfl⟩
      rw [hz] at ho1
      obtain ⟨A1, c1', rfl, hc1', _⟩ := ho1.arr
      have hze : (z : Int) = winI X wd n k := by rw [winI, winN, hz]
      have hzn : z ≤ n := by rw [← hz]; exact selL_len _ _
      have HE := hide hze
      have hbw1 : Below w.heap.size w w1 := below_call (below_al hbw) hb1
      have hown1 := row_below (HO.out.alloc (.cells #[.int .i64 (X k 0), .int .i64 (X k 1), .int .i64 (X k 2), .int .i64 (X k 3)] 60)) hb1
      have hz1 := hb1.size
      simp only [World.size_alloc] at hz1
      have hbox1 := ((hb1.cell (p := ⟨w.heap.size, 0, none⟩) (by simp only [World.size_alloc]; omega)).trans (World.cell?_alloc_lt wr _ ⟨w.heap.size, 0, none⟩ (by show w.heap.size < _; omega))).trans hbox
      have HB := hide hbox1
      clear ho1 hz hze hbox hbox1
      go_wp2_with (at_builtin; refine wpList_append_far _ rfl _ _ 37 rfl (w.heap.size + 1) 3 i0 (.int .i64 0) 1 8 Try.underlying37 hi0 hy0 hy1 hy2 rfl (by decide) _ _ _ rfl (hown1.alloc _) ⟨w1.heap.size, 0, none⟩ 1 1 [.int .i64 (z : Int)] rfl rfl ?c1 ?c2 ?c3 ?c4 ?c5 ?_)
      case c1 => exact cell_one_at _ _ _ _ rfl
      case c2 => intro u hu; simp only [List.mem_singleton] at hu; subst hu; rfl
      case c3 => unfold maxLen; omega
      case c4 => omega
      case c5 => simp only [World.size_alloc]; omega
      intro v2 w2 hown2 hgrow2 _
      have hlt2 := hown1.lt
      rw [HE.out, range_snoc] at hown2
      have hbw2 := (below_al (o := .cells #[.int .i64 (z : Int)] 3) hbw1).grown hgrow2 (by simp only [World.size_alloc]; omega) (fun g hg => by have := (hlt2 g hg).1; omega)
      have hsz2 := hgrow2.size
      simp only [World.size_alloc] at hsz2
      have hbox2 : w2.cell? ⟨w.heap.size, 0, none⟩ = some (.int .i64 wd) := ((grown_cell hgrow2 (b := w.heap.size) (o := 0) (by simp only [World.size_alloc]; omega) (fun g hg => by have := (hlt2 g hg).1; omega)).trans (World.cell?_alloc_lt w1 _ ⟨w.heap.size, 0, none⟩ (by show w.heap.size < _; omega))).trans HB.out
      have HO2 := hide hown2; have HB2 := hide hbw2; have HX2 := hide hbox2
      clear hown1 hown2 hgrow2 hlt2 hbw2 hbox2
      go_wp2
      go_roundw
      case rel => exact ⟨k + 1, by omega, by go_num, HB2.out, by omega, HX2.out, HO2.out⟩
      case measure => simp [intOf]; omega
    · obtain rfl : k = n := by omega
      go_wp2
      go_returns
      exact ⟨_, rfl, hbw, Own.base (own_of_range HO.out) (by omega)⟩
theorem and_l1 {a b : Bool} (h : (a && b) = true) : a = true := by cases a <;> simp_all
set_option maxHeartbeats 1000000 in
theorem spec_winC (A : Option Addr) (n c : Nat) (X : Nat → Nat → Int) (s : Int) (v : Bool) (hv : (catB n X && inB s 0 100000) = v) (q : Nat) (hq : q = onlyN v n) (w : World) (hn : n ≤ 1048576) (ha : Arr w w.heap.size A n 4 (iv X)) :
    Calls Try.prog 56 #[.slice A n c, .int .i64 s] w fun e w' => ∃ v1, e = .returned (.tuple #[v1, .bool v]) ∧ Below w.heap.size w w' ∧ Own w' w.heap.size 3 1 v1 q (iv fun i _ => winI X s n i) := by
  have HV := hide hv; have HQ := hide hq
  clear hv hq
  cases h1 : (catB n X && inB s 0 100000)
  · skip
    obtain rfl : false = v := by rw [← HV.out]; simp [*]
    obtain rfl : q = 0 := HQ.out
    have H1 := hide h1
    clear h1
    go_enter Try.func56, Try.ntmps56
    go_wp2_with fail
    refine (spec_winned _ _ _ X _ _ H1.out _ hn ha).mono ?_
    rintro e w1 ⟨rfl, hb1⟩
    obtain ⟨qc1, qf1⟩ := bcell hb1
    have hz1 := hb1.size
    try simp only [World.size_alloc, World.size_setCell, World.size_drew] at hz1
    have hq1 : Below w.heap.size w w1 := below_call (by go_grown) hb1
    try have hl0_1 : w.heap.size < w1.heap.size := by omega
    try have hl1_1 : w.heap.size + 1 < w1.heap.size := by omega
    try have hl2_1 : w.heap.size + 2 < w1.heap.size := by omega
    try have hl3_1 : w.heap.size + 3 < w1.heap.size := by omega
    go_wp2
    go_returns
    exact ⟨_, rfl, below_al hq1, own_new hq1.size⟩
  · skip
    obtain rfl : true = v := by rw [← HV.out]; simp [h1]
    obtain rfl : q = n := HQ.out
    obtain ⟨h10, hcat⟩ := catB_of (and_l1 h1)
    have HC := hide (catIn_of hcat)
    clear hcat
    have H1 := hide h1
    clear h1
    go_enter Try.func56, Try.ntmps56
    go_wp2_with fail
    refine (spec_winned _ _ _ X _ _ H1.out _ hn ha).mono ?_
    rintro e w1 ⟨rfl, hb1⟩
    obtain ⟨qc1, qf1⟩ := bcell hb1
    have hz1 := hb1.size
    try simp only [World.size_alloc, World.size_setCell, World.size_drew] at hz1
    have hq1 : Below w.heap.size w w1 := below_call (by go_grown) hb1
    try have hl0_1 : w.heap.size < w1.heap.size := by omega
    try have hl1_1 : w.heap.size + 1 < w1.heap.size := by omega
    try have hl2_1 : w.heap.size + 2 < w1.heap.size := by omega
    try have hl3_1 : w.heap.size + 3 < w1.heap.size := by omega
    go_wp2_with fail
    refine (spec_wins _ _ _ X _ _ h10 HC.out (ha.on hq1)).mono ?_
    rintro e w2 ⟨v2, rfl, hb2, ho2⟩
    have hq2 : Below w.heap.size w w2 := below_call hq1 hb2
    have HO := hide ho2
    clear ho2
    go_wp2
    go_returns
    exact ⟨_, rfl, hq2, HO.out.base hq1.size⟩
set_option maxHeartbeats 2000000 in
set_option maxRecDepth 100000 in
theorem spec_busy (A : Option Addr) (n c : Nat) (X : Nat → Nat → Int) (s : Int) (v : Bool) (hv : (catB n X && inB s 0 100000 && decide (n ≠ 0)) = v) (r1 r2 : Int) (hr1 : onlyI v (X (bestI (winI X s n) n) 0) = r1) (hr2 : onlyI v (winI X s n (bestI (winI X s n) n)) = r2) (w : World) (hn : n ≤ 1048576) (ha : Arr w w.heap.size A n 4 (iv X)) :
    Calls Try.prog 58 #[.slice A n c, .int .i64 s] w fun e w' => e = .returned (.tuple #[.int .i64 r1, .int .i64 r2, .bool v]) ∧ Below w.heap.size w w' := by
  have HV := hide hv; have HR1 := hide hr1; have HR2 := hide hr2
  clear hv hr1 hr2
  cases h1 : (catB n X && inB s 0 100000)
  · skip
    obtain rfl : false = v := by rw [← HV.out]; simp [*]
    obtain rfl : 0 = r1 := HR1.out
    obtain rfl : 0 = r2 := HR2.out
    have H1 := hide h1
    clear h1
    go_enter Try.func58, Try.ntmps58
    go_wp2_with fail
    refine (spec_winned _ _ _ X _ _ H1.out _ hn ha).mono ?_
    rintro e w1 ⟨rfl, hb1⟩
    obtain ⟨qc1, qf1⟩ := bcell hb1
    have hz1 := hb1.size
    try simp only [World.size_alloc, World.size_setCell, World.size_drew] at hz1
    have hq1 : Below w.heap.size w w1 := below_call (by go_grown) hb1
    try have hl0_1 : w.heap.size < w1.heap.size := by omega
    try have hl1_1 : w.heap.size + 1 < w1.heap.size := by omega
    try have hl2_1 : w.heap.size + 2 < w1.heap.size := by omega
    try have hl3_1 : w.heap.size + 3 < w1.heap.size := by omega
    go_wp2
    go_returns
    exact ⟨rfl, hq1⟩
  · skip
    by_cases h0 : n = 0
    · skip
      subst h0
      obtain rfl : false = v := by rw [← HV.out]; simp
      obtain rfl : 0 = r1 := HR1.out
      obtain rfl : 0 = r2 := HR2.out
      have H1 := hide h1
      clear h1
      go_enter Try.func58, Try.ntmps58
      go_wp2_with fail
      refine (spec_winned _ _ _ X _ _ H1.out _ hn ha).mono ?_
      rintro e w1 ⟨rfl, hb1⟩
      obtain ⟨qc1, qf1⟩ := bcell hb1
      have hz1 := hb1.size
      try simp only [World.size_alloc, World.size_setCell, World.size_drew] at hz1
      have hq1 : Below w.heap.size w w1 := below_call (by go_grown) hb1
      try have hl0_1 : w.heap.size < w1.heap.size := by omega
      try have hl1_1 : w.heap.size + 1 < w1.heap.size := by omega
      try have hl2_1 : w.heap.size + 2 < w1.heap.size := by omega
      try have hl3_1 : w.heap.size + 3 < w1.heap.size := by omega
      go_wp2
      go_returns
      exact ⟨rfl, hq1⟩
    · skip
      obtain rfl : true = v := by rw [← HV.out]; simp [h1, h0]
      obtain ⟨h10, hcat⟩ := catB_of (and_l1 h1)
      have HC := hide (catIn_of hcat)
      have hn0 : ((n : Int) == 0) = false := by simp; omega
      clear hcat
      have H1 := hide h1
      clear h1
      obtain ⟨f, hf⟩ : ∃ f : Nat → Int, winI X s n = f := ⟨_, rfl⟩
      have hfb : ∀ i, 0 ≤ f i ∧ f i ≤ 10 := fun i => by have := winI_bd X s n i; rw [hf] at this; omega
      have e1 : X (bestI f n) 0 = r1 := by have := HR1.out; simp only [onlyI, if_true] at this; rw [hf] at this; exact this
      have e2 : f (bestI f n) = r2 := by have := HR2.out; simp only [onlyI, if_true] at this; rw [hf] at this; exact this
      have E1 := hide e1; have E2 := hide e2; have HF := hide hf; have HFB := hide hfb
      clear e1 e2 hf hfb
      go_enter Try.func58, Try.ntmps58
      go_wp2_with fail
      refine (spec_winned _ _ _ X _ _ H1.out _ hn ha).mono ?_
      rintro e w1 ⟨rfl, hb1⟩
      obtain ⟨qc1, qf1⟩ := bcell hb1
      have hz1 := hb1.size
      try simp only [World.size_alloc, World.size_setCell, World.size_drew] at hz1
      have hq1 : Below w.heap.size w w1 := below_call (by go_grown) hb1
      try have hl0_1 : w.heap.size < w1.heap.size := by omega
      try have hl1_1 : w.heap.size + 1 < w1.heap.size := by omega
      try have hl2_1 : w.heap.size + 2 < w1.heap.size := by omega
      try have hl3_1 : w.heap.size + 3 < w1.heap.size := by omega
      clear hn0
      go_wp2_with fail
      refine (spec_wins _ _ _ X _ _ h10 HC.out (ha.on hq1)).mono ?_
      rintro e w2 ⟨v2, rfl, hb2, ho2⟩
      rw [HF.out] at ho2
      obtain ⟨A2, c2, rfl, hc2, ha2⟩ := ho2.arr
      have hq2 : Below w.heap.size w w2 := below_call hq1 hb2
      have haw := ha.on hq2
      have HAW := hide haw
      clear ho2 qc1 qf1 ha haw
      obtain ⟨b, off, rfl, hbb, hc⟩ := ha2 (by omega)
      clear ha2
      go_wp2
      go_loopw [8, 9] (fun b i wr => ∃ k z : Nat, k ≤ n ∧ 1 ≤ k ∧ i = .int .i64 k ∧ z = bestI f k ∧ b = .int .i64 z ∧ z < n ∧ Below w2.heap.size w2 wr) (fun _ i _ => n - (intOf i).toNat)
      case atStart => exact ⟨1, 0, by omega, by omega, rfl, by rw [bestI_one], rfl, by omega, Below.refl _ _⟩
      case round =>
        obtain ⟨k, z, hk, hk1, rfl, hz, rfl, hzn, hb⟩ := hrel
        have hzn' : (z : Int) < (n : Int) := by omega
        have HZ := hide hz
        clear hz
        obtain ⟨q1, q2⟩ := bcell hb
        have dz := hc z 0 hzn (by omega)
        simp only [Nat.add_zero, Nat.mul_one, iv] at dz
        have hbl : b < wr.heap.size := by have := hb.size; omega
        have hx := BW.cell (w := wr)
        by_cases hlt : k < n
        · have dk := hc k 0 hlt (by omega)
          simp only [Nat.add_zero, Nat.mul_one, iv] at dk
          have hlt' : (k : Int) < (n : Int) := by omega
          have HCC := hide hc
          clear hc
          by_cases hg : f z < f k
          · have hbe : k = bestI f (k + 1) := by rw [bestI, ← HZ.out, if_pos hg]
            have HBE := hide hbe
            clear hbe
            go_wp2
            refine wp_region_bw (by kernel_rfl) (by kernel_rfl) ?_
            repeat (go_big_quiet_step (fail))
            refine wpQuiet_end fun w3 hb3 => ?_
            go_wp2
            go_roundw
            case rel => exact ⟨k + 1, k, by omega, by omega, by go_num, HBE.out, rfl, hlt, hb.trans (hb3.mono hb.size)⟩
            case measure => simp [intOf]; omega
          · have hbe : z = bestI f (k + 1) := by rw [bestI, ← HZ.out, if_neg hg]
            have HBE := hide hbe
            clear hbe
            go_wp2
            refine wp_region_bw (by kernel_rfl) (by kernel_rfl) ?_
            repeat (go_big_quiet_step (fail))
            refine wpQuiet_end fun w3 hb3 => ?_
            go_wp2
            go_roundw
            case rel => exact ⟨k + 1, z, by omega, by omega, by go_num, HBE.out, rfl, hzn, hb.trans (hb3.mono hb.size)⟩
            case measure => simp [intOf]; omega
        · obtain rfl : k = n := by omega
          obtain rfl : X z 0 = r1 := by rw [← E1.out, HZ.out]
          obtain rfl : f z = r2 := by rw [← E2.out, HZ.out]
          obtain ⟨bb, oo, hA, hbo, hcx⟩ := HAW.out (by omega)
          have xz := hcx z 0 hzn (by omega)
          simp only [Nat.add_zero, iv] at xz
          have hbl2 : bb < wr.heap.size := by have := hb.size; omega
          subst hA
          clear hc hcx
          go_wp2
          refine wp_region_bw (by kernel_rfl) (by kernel_rfl) ?_
          repeat (go_big_quiet_step (fail))
          refine wpQuiet_end fun w3 hb3 => ?_
          go_wp2
          go_returns
          exact ⟨rfl, hq2.trans ((hb.trans (hb3.mono hb.size)).mono hq2.size)⟩
set_option maxHeartbeats 1000000 in
theorem impl_winC (A : Option Addr) (n c : Nat) (X : Nat → Nat → Int) (s : Int) (v : Bool) (hv : (catB n X && inB s 0 100000) = v) (q : Nat) (hq : q = onlyN v n) (w : World) (hn : n ≤ 1048576) (ha : Arr w w.heap.size A n 4 (iv X)) :
    Calls Try.prog 55 #[.slice A n c, .int .i64 s] w fun e w' => ∃ v1, e = .returned (.tuple #[v1, .bool v]) ∧ Below w.heap.size w w' ∧ Own w' w.heap.size 3 1 v1 q (iv fun i _ => winI X s n i) := by
  have HV := hide hv; have HQ := hide hq
  clear hv hq
  cases h1 : catB n X
  · skip
    obtain rfl : false = v := by rw [← HV.out]; simp [*]
    obtain rfl : q = 0 := HQ.out
    have H1 := hide h1
    clear h1
    go_enter Try.func55, Try.ntmps55
    go_wp2_with fail
    refine (impl_cat _ _ _ X _ H1.out _ hn ha).mono ?_
    rintro e w1 ⟨rfl, hb1⟩
    obtain ⟨qc1, qf1⟩ := bcell hb1
    have hz1 := hb1.size
    try simp only [World.size_alloc, World.size_setCell, World.size_drew] at hz1
    have hq1 : Below w.heap.size w w1 := below_call (by go_grown) hb1
    try have hl0_1 : w.heap.size < w1.heap.size := by omega
    try have hl1_1 : w.heap.size + 1 < w1.heap.size := by omega
    try have hl2_1 : w.heap.size + 2 < w1.heap.size := by omega
    try have hl3_1 : w.heap.size + 3 < w1.heap.size := by omega
    go_wp2
    go_returns
    exact ⟨_, rfl, hq1, own_nil _ _ _ _ _⟩
  · cases h2 : inB s 0 100000
    · skip
      obtain rfl : false = v := by rw [← HV.out]; simp [*]
      obtain rfl : q = 0 := HQ.out
      have H1 := hide h1
      have H2 := hide h2
      clear h1 h2
      go_enter Try.func55, Try.ntmps55
      go_wp2_with fail
      refine (impl_cat _ _ _ X _ H1.out _ hn ha).mono ?_
      rintro e w1 ⟨rfl, hb1⟩
      obtain ⟨qc1, qf1⟩ := bcell hb1
      have hz1 := hb1.size
      try simp only [World.size_alloc, World.size_setCell, World.size_drew] at hz1
      have hq1 : Below w.heap.size w w1 := below_call (by go_grown) hb1
      try have hl0_1 : w.heap.size < w1.heap.size := by omega
      try have hl1_1 : w.heap.size + 1 < w1.heap.size := by omega
      try have hl2_1 : w.heap.size + 2 < w1.heap.size := by omega
      try have hl3_1 : w.heap.size + 3 < w1.heap.size := by omega
      go_wp2_with fail
      refine (impl_in _ _ _ _ H2.out _).mono ?_
      rintro e u ⟨rfl, rfl⟩
      go_wp2
      go_returns
      exact ⟨_, rfl, hq1, own_nil _ _ _ _ _⟩
    · skip
      obtain rfl : true = v := by rw [← HV.out]; simp [h1, h2]
      obtain rfl : q = n := HQ.out
      obtain ⟨h10, hcat⟩ := catB_of (h1)
      have HC := hide (catIn_of hcat)
      clear hcat
      have H1 := hide h1
      have H2 := hide h2
      clear h1 h2
      go_enter Try.func55, Try.ntmps55
      go_wp2_with fail
      refine (impl_cat _ _ _ X _ H1.out _ hn ha).mono ?_
      rintro e w1 ⟨rfl, hb1⟩
      obtain ⟨qc1, qf1⟩ := bcell hb1
      have hz1 := hb1.size
      try simp only [World.size_alloc, World.size_setCell, World.size_drew] at hz1
      have hq1 : Below w.heap.size w w1 := below_call (by go_grown) hb1
      try have hl0_1 : w.heap.size < w1.heap.size := by omega
      try have hl1_1 : w.heap.size + 1 < w1.heap.size := by omega
      try have hl2_1 : w.heap.size + 2 < w1.heap.size := by omega
      try have hl3_1 : w.heap.size + 3 < w1.heap.size := by omega
      go_wp2_with fail
      refine (impl_in _ _ _ _ H2.out _).mono ?_
      rintro e u ⟨rfl, rfl⟩
      go_wp2_with fail
      refine (impl_wins _ _ _ X _ _ h10 HC.out (ha.on hq1)).mono ?_
      rintro e w2 ⟨v2, rfl, hb2, ho2⟩
      have hq2 : Below w.heap.size w w2 := below_call hq1 hb2
      have HO := hide ho2
      clear ho2
      go_wp2
      go_returns
      exact ⟨_, rfl, hq2, HO.out.base hq1.size⟩
set_option maxHeartbeats 2000000 in
set_option maxRecDepth 100000 in
theorem impl_busy (A : Option Addr) (n c : Nat) (X : Nat → Nat → Int) (s : Int) (v : Bool) (hv : (catB n X && inB s 0 100000 && decide (n ≠ 0)) = v) (r1 r2 : Int) (hr1 : onlyI v (X (bestI (winI X s n) n) 0) = r1) (hr2 : onlyI v (winI X s n (bestI (winI X s n) n)) = r2) (w : World) (hn : n ≤ 1048576) (ha : Arr w w.heap.size A n 4 (iv X)) :
    Calls Try.prog 57 #[.slice A n c, .int .i64 s] w fun e w' => e = .returned (.tuple #[.int .i64 r1, .int .i64 r2, .bool v]) ∧ Below w.heap.size w w' := by
  have HV := hide hv; have HR1 := hide hr1; have HR2 := hide hr2
  clear hv hr1 hr2
  cases h1 : catB n X
  · skip
    obtain rfl : false = v := by rw [← HV.out]; simp [*]
    obtain rfl : 0 = r1 := HR1.out
    obtain rfl : 0 = r2 := HR2.out
    have H1 := hide h1
    clear h1
    go_enter Try.func57, Try.ntmps57
    go_wp2_with fail
    refine (impl_cat _ _ _ X _ H1.out _ hn ha).mono ?_
    rintro e w1 ⟨rfl, hb1⟩
    obtain ⟨qc1, qf1⟩ := bcell hb1
    have hz1 := hb1.size
    try simp only [World.size_alloc, World.size_setCell, World.size_drew] at hz1
    have hq1 : Below w.heap.size w w1 := below_call (by go_grown) hb1
    try have hl0_1 : w.heap.size < w1.heap.size := by omega
    try have hl1_1 : w.heap.size + 1 < w1.heap.size := by omega
    try have hl2_1 : w.heap.size + 2 < w1.heap.size := by omega
    try have hl3_1 : w.heap.size + 3 < w1.heap.size := by omega
    go_wp2
    go_returns
    exact ⟨rfl, hq1⟩
  · cases h2 : inB s 0 100000
    · skip
      obtain rfl : false = v := by rw [← HV.out]; simp [*]
      obtain rfl : 0 = r1 := HR1.out
      obtain rfl : 0 = r2 := HR2.out
      have H1 := hide h1
      have H2 := hide h2
      clear h1 h2
      go_enter Try.func57, Try.ntmps57
      go_wp2_with fail
      refine (impl_cat _ _ _ X _ H1.out _ hn ha).mono ?_
      rintro e w1 ⟨rfl, hb1⟩
      obtain ⟨qc1, qf1⟩ := bcell hb1
      have hz1 := hb1.size
      try simp only [World.size_alloc, World.size_setCell, World.size_drew] at hz1
      have hq1 : Below w.heap.size w w1 := below_call (by go_grown) hb1
      try have hl0_1 : w.heap.size < w1.heap.size := by omega
      try have hl1_1 : w.heap.size + 1 < w1.heap.size := by omega
      try have hl2_1 : w.heap.size + 2 < w1.heap.size := by omega
      try have hl3_1 : w.heap.size + 3 < w1.heap.size := by omega
      go_wp2_with fail
      refine (impl_in _ _ _ _ H2.out _).mono ?_
      rintro e u ⟨rfl, rfl⟩
      go_wp2
      go_returns
      exact ⟨rfl, hq1⟩
    · skip
      by_cases h0 : n = 0
      · skip
        subst h0
        obtain rfl : false = v := by rw [← HV.out]; simp
        obtain rfl : 0 = r1 := HR1.out
        obtain rfl : 0 = r2 := HR2.out
        have H1 := hide h1
        have H2 := hide h2
        clear h1 h2
        go_enter Try.func57, Try.ntmps57
        go_wp2_with fail
        refine (impl_cat _ _ _ X _ H1.out _ hn ha).mono ?_
        rintro e w1 ⟨rfl, hb1⟩
        obtain ⟨qc1, qf1⟩ := bcell hb1
        have hz1 := hb1.size
        try simp only [World.size_alloc, World.size_setCell, World.size_drew] at hz1
        have hq1 : Below w.heap.size w w1 := below_call (by go_grown) hb1
        try have hl0_1 : w.heap.size < w1.heap.size := by omega
        try have hl1_1 : w.heap.size + 1 < w1.heap.size := by omega
        try have hl2_1 : w.heap.size + 2 < w1.heap.size := by omega
        try have hl3_1 : w.heap.size + 3 < w1.heap.size := by omega
        go_wp2_with fail
        refine (impl_in _ _ _ _ H2.out _).mono ?_
        rintro e u ⟨rfl, rfl⟩
        go_wp2
        go_returns
        exact ⟨rfl, hq1⟩
      · skip
        obtain rfl : true = v := by rw [← HV.out]; simp [h1, h2, h0]
        obtain ⟨h10, hcat⟩ := catB_of (h1)
        have HC := hide (catIn_of hcat)
        have hn0 : ((n : Int) == 0) = false := by simp; omega
        clear hcat
        have H1 := hide h1
        have H2 := hide h2
        clear h1 h2
        obtain ⟨f, hf⟩ : ∃ f : Nat → Int, winI X s n = f := ⟨_, rfl⟩
        have hfb : ∀ i, 0 ≤ f i ∧ f i ≤ 10 := fun i => by have := winI_bd X s n i; rw [hf] at this; omega
        have e1 : X (bestI f n) 0 = r1 := by have := HR1.out; simp only [onlyI, if_true] at this; rw [hf] at this; exact this
        have e2 : f (bestI f n) = r2 := by have := HR2.out; simp only [onlyI, if_true] at this; rw [hf] at this; exact this
        have E1 := hide e1; have E2 := hide e2; have HF := hide hf; have HFB := hide hfb
        clear e1 e2 hf hfb
        go_enter Try.func57, Try.ntmps57
        go_wp2_with fail
        refine (impl_cat _ _ _ X _ H1.out _ hn ha).mono ?_
        rintro e w1 ⟨rfl, hb1⟩
        obtain ⟨qc1, qf1⟩ := bcell hb1
        have hz1 := hb1.size
        try simp only [World.size_alloc, World.size_setCell, World.size_drew] at hz1
        have hq1 : Below w.heap.size w w1 := below_call (by go_grown) hb1
        try have hl0_1 : w.heap.size < w1.heap.size := by omega
        try have hl1_1 : w.heap.size + 1 < w1.heap.size := by omega
        try have hl2_1 : w.heap.size + 2 < w1.heap.size := by omega
        try have hl3_1 : w.heap.size + 3 < w1.heap.size := by omega
        go_wp2_with fail
        refine (impl_in _ _ _ _ H2.out _).mono ?_
        rintro e u ⟨rfl, rfl⟩
        clear hn0
        go_wp2_with fail
        refine (impl_wins _ _ _ X _ _ h10 HC.out (ha.on hq1)).mono ?_
        rintro e w2 ⟨v2, rfl, hb2, ho2⟩
        rw [HF.out] at ho2
        obtain ⟨A2, c2, rfl, hc2, ha2⟩ := ho2.arr
        have hq2 : Below w.heap.size w w2 := below_call hq1 hb2
        have haw := ha.on hq2
        have HAW := hide haw
        clear ho2 qc1 qf1 ha haw
        obtain ⟨b, off, rfl, hbb, hc⟩ := ha2 (by omega)
        clear ha2
        go_wp2
        go_loopw [7, 29] (fun b i wr => ∃ k z : Nat, k ≤ n ∧ i = .int .i64 k ∧ z = bestI f k ∧ b = .int .i64 z ∧ z < n ∧ Below w2.heap.size w2 wr) (fun _ i _ => n - (intOf i).toNat)
        case atStart => exact ⟨0, 0, by omega, rfl, rfl, rfl, by omega, Below.refl _ _⟩
        case round =>
          obtain ⟨k, z, hk, rfl, hz, rfl, hzn, hb⟩ := hrel
          have hzn' : (z : Int) < (n : Int) := by omega
          have HZ := hide hz
          clear hz
          obtain ⟨q1, q2⟩ := bcell hb
          have dz := hc z 0 hzn (by omega)
          simp only [Nat.add_zero, Nat.mul_one, iv] at dz
          have hbl : b < wr.heap.size := by have := hb.size; omega
          have hx := BW.cell (w := wr)
          by_cases hlt : k < n
          · have dk := hc k 0 hlt (by omega)
            simp only [Nat.add_zero, Nat.mul_one, iv] at dk
            have hlt' : (k : Int) < (n : Int) := by omega
            have HCC := hide hc
            clear hc
            by_cases hg : f z < f k
            · have hbe : k = bestI f (k + 1) := by rw [bestI, ← HZ.out, if_pos hg]
              have HBE := hide hbe
              clear hbe
              go_wp2
              go_roundw
              case rel => exact ⟨k + 1, k, by omega, by go_num, HBE.out, rfl, hlt, hb⟩
              case measure => simp [intOf]; omega
            · have hbe : z = bestI f (k + 1) := by rw [bestI, ← HZ.out, if_neg hg]
              have HBE := hide hbe
              clear hbe
              go_wp2
              go_roundw
              case rel => exact ⟨k + 1, z, by omega, by go_num, HBE.out, rfl, hzn, hb⟩
              case measure => simp [intOf]; omega
          · obtain rfl : k = n := by omega
            obtain rfl : X z 0 = r1 := by rw [← E1.out, HZ.out]
            obtain rfl : f z = r2 := by rw [← E2.out, HZ.out]
            obtain ⟨bb, oo, hA, hbo, hcx⟩ := HAW.out (by omega)
            have xz := hcx z 0 hzn (by omega)
            simp only [Nat.add_zero, iv] at xz
            have hbl2 : bb < wr.heap.size := by have := hb.size; omega
            subst hA
            clear hc hcx
            go_wp2
            refine wp_region_bw (by kernel_rfl) (by kernel_rfl) ?_
            repeat (go_big_quiet_step (fail))
            refine wpQuiet_end fun w3 hb3 => ?_
            go_wp2
            go_returns
            exact ⟨rfl, hq2.trans ((hb.trans (hb3.mono hb.size)).mono hq2.size)⟩
end Go.Proofs.Ythpagjkkccimiaa
