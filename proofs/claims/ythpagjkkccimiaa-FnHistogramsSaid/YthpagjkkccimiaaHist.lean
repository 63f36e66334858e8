/- Chapter 20: histograms, both sides. -/
import Derived.Test.YthpagjkkccimiaaRateM
import Derived.Test.YthpagjkkccimiaaQuakeC
import Derived.Test.YthpagjkkccimiaaList
namespace Go.Proofs.Ythpagjkkccimiaa
open Go.RowKit
set_option linter.unusedVariables false
set_option linter.unusedSimpArgs false

theorem made12 (r : Nat) (hr : r < 12) : (madeCells (Value.int .i64 0).cells 12)[r]? = some (.int .i64 0) := by
  change (madeCells #[.int .i64 0] 12)[r]? = _
  rw [Array.getElem?_eq_getElem (by simpa [madeCells] using hr)]
  simp [madeCells, Nat.mod_one]
theorem mk12 : ∀ W : World, (Instr.makeSlice 37 (.int .i64 12) (.int .i64 12)).run Try.prog W = .ok (.slice (some ⟨W.heap.size, 0, none⟩) 12 12) (W.alloc (.cells (madeCells (Value.int .i64 0).cells 12) 3)) :=
  fun W => mk_row (P := Try.prog) _ _ _ Try.underlying37 info_int 12 (by omega) (by omega) W
theorem hst_set {X : Nat → Nat → Int} {wd : Int} {k q : Nat} {cur : Array Value} (hs : cur.size = 12) (hq : q < 12) (hb : binI X wd k = q) (h : ∀ r, r < 12 → cur[r]? = some (.int .i64 (hst X wd k r))) :
    ∀ r, r < 12 → (cur.setIfInBounds q (.int .i64 (hst X wd k q + 1)))[r]? = some (.int .i64 (hst X wd (k + 1) r)) := by
  intro r hr
  rw [Array.getElem?_setIfInBounds]
  by_cases e : q = r
  · subst e
    rw [if_pos rfl, if_pos (by omega), hst, if_pos hb]
  · rw [if_neg e, h r hr, hst, if_neg (by omega)]
    simp
/-- Twelve numbers in a block. -/
def Bin12 (f : Nat → Int) (g : Nat) (w : World) : Prop := ∃ cur : Array Value, Blk w g 3 cur ∧ cur.size = 12 ∧ ∀ r, r < 12 → cur[r]? = some (.int .i64 (f r))
theorem Bin12.own {f : Nat → Int} {g base : Nat} {w : World} (h : Bin12 f g w) (hb : base ≤ g) : Own w base 3 1 (.slice (some ⟨g, 0, none⟩) 12 12) 12 (iv fun i _ => f i) := by
  obtain ⟨cur, h1, h2, h3⟩ := h
  refine .inr ⟨g, 12, cur, rfl, hb, h1, Nat.le_refl _, by unfold maxLen; omega, by rw [h2], fun i j hi hj => ?_⟩
  obtain rfl : j = 0 := by omega
  rw [Nat.mul_one, Nat.add_zero]
  exact h3 i hi
theorem Bin12.cell {f : Nat → Int} {g : Nat} {w : World} (h : Bin12 f g w) {r : Nat} (hr : r < 12) : w.cell? ⟨g, r, none⟩ = some (.int .i64 (f r)) := by
  obtain ⟨cur, h1, h2, h3⟩ := h
  rw [h1.cell, h3 r hr]
theorem Bin12.frozen {f : Nat → Int} {g : Nat} {w : World} (h : Bin12 f g w) (r : Nat) : w.frozen? ⟨g, r, none⟩ = false := by
  obtain ⟨cur, h1, h2, h3⟩ := h
  exact h1.frozen r
theorem Bin12.lt {f : Nat → Int} {g : Nat} {w : World} (h : Bin12 f g w) : g < w.heap.size := by
  obtain ⟨cur, h1, h2, h3⟩ := h
  exact h1.lt
theorem Bin12.set {f f' : Nat → Int} {g : Nat} {w : World} (h : Bin12 f g w) {q : Nat} {z : Int} (hq : q < 12) (hz : f' q = z) (he : ∀ r, r ≠ q → f' r = f r) : Bin12 f' g (w.setCell ⟨g, q, none⟩ (.int .i64 z)) := by
  obtain ⟨cur, h1, h2, h3⟩ := h
  refine ⟨_, h1.set_ q _, by simpa using h2, fun r hr => ?_⟩
  rw [Array.getElem?_setIfInBounds]
  by_cases e : q = r
  · subst e
    rw [if_pos rfl, if_pos (by omega), hz]
  · rw [if_neg e, h3 r hr, he r (Ne.symm e)]
theorem Bin12.alloc {f : Nat → Int} {g : Nat} {w : World} (h : Bin12 f g w) (o : Obj) : Bin12 f g (w.alloc o) := by
  obtain ⟨cur, h1, h2⟩ := h
  exact ⟨cur, h1.alloc o, h2⟩
theorem Bin12.below {f : Nat → Int} {g B : Nat} {w w' : World} (h : Bin12 f g w) (hb : Below B w w') (hg : g < B) : Bin12 f g w' := by
  obtain ⟨cur, h1, h2⟩ := h
  exact ⟨cur, h1.below hb hg, h2⟩
theorem Bin12.arr {f : Nat → Int} {g : Nat} {w : World} (h : Bin12 f g w) : Arr w w.heap.size (some ⟨g, 0, none⟩) 12 1 (iv fun i _ => f i) := (h.own (base := 0) (Nat.zero_le _)).arr1
def HistAt (X : Nat → Nat → Int) (wd : Int) (n : Nat) (w : World) (e : Ending) (w' : World) : Prop :=
  e = .returned (.slice (some ⟨w.heap.size, 0, none⟩) 12 12) ∧ Below w.heap.size w w' ∧ Bin12 (hst X wd n) w.heap.size w'
theorem bin_made (w : World) (wd : Int) (X : Nat → Nat → Int) : Bin12 (hst X wd 0) w.heap.size (w.alloc (.cells (madeCells (Value.int .i64 0).cells 12) 3)) :=
  ⟨_, Blk.new _ _ _, by simp [madeCells], fun r hr => by rw [made12 r hr]; simp [hst]⟩
theorem hst_other {X : Nat → Nat → Int} {wd : Int} {k q r : Nat} (hb : binI X wd k = q) (hr : r ≠ q) : hst X wd (k + 1) r = hst X wd k r := by
  rw [hst, if_neg (by omega)]; simp
theorem hst_that {X : Nat → Nat → Int} {wd : Int} {k q : Nat} (hb : binI X wd k = q) : hst X wd (k + 1) q = hst X wd k q + 1 := by
  rw [hst, if_pos hb]

set_option maxHeartbeats 1000000 in
theorem spec_bins (A : Option Addr) (n c : Nat) (X : Nat → Nat → Int) (wd : Int) (w : World) (hn : n ≤ 10) (hX : catIn n X) (h1 : 1 ≤ wd) (h2 : wd ≤ 50) (ha : Arr w w.heap.size A n 4 (iv X)) :
    Calls Try.prog 119 #[.slice A n c, .int .i64 wd] w (HistAt X wd n w) := by
  have hmk := mk12
  go_enter Try.func119, Try.ntmps119
  go_wp2
  clear hmk
  have HO := hide hX
  clear hX
  go_loopw [6] (fun i wr => ∃ k : Nat, k ≤ n ∧ i = .int .i64 k ∧ Below w.heap.size w wr ∧ Bin12 (hst X wd k) w.heap.size wr) (fun i _ => n - (intOf i).toNat)
  case atStart => exact ⟨0, Nat.zero_le _, rfl, below_al (Below.refl _ _), bin_made _ _ _⟩
  case round =>
    obtain ⟨k, hk, rfl, hb, hbin⟩ := hrel
    by_cases hlt : k < n
    · obtain ⟨b, off, rfl, hbb, hc⟩ := ha (by omega)
      obtain ⟨q1, q2⟩ := bcell hb
      have c3 := hc k 3 hlt (by omega)
      simp only [iv] at c3
      obtain ⟨_, _, _, _, _, _, s1, s2⟩ := HO.out k hlt
      obtain ⟨b1, b2⟩ := bin_bd HO.out h1 hlt
      obtain ⟨q, hq⟩ : ∃ q : Nat, binI X wd k = q := ⟨(binI X wd k).toNat, by omega⟩
      have hq12 : q < 12 := by omega
      have hq12' : (q : Int) < 12 := by omega
      have hm : min 11 ((X k 3 + 20) / wd) = (q : Int) := hq
      obtain ⟨r1, r2⟩ := hst_bd X wd k q
      have d0 := hbin.cell hq12; have f0 := hbin.frozen q
      have hw1 := hbin.lt
      have HB := hide hbin; have HQ := hide hq; have HM := hide hm
      clear hbin hq hm hc ha b1 b2
      go_wp2_with (go_at_call 121; refine (spec_least _ _ _ HM.out _).mono ?_; rintro e w' ⟨rfl, rfl⟩)
      go_roundw
      case rel => exact ⟨k + 1, by omega, by go_num, hb.setCell (p := ⟨w.heap.size, q, none⟩) (Nat.le_refl _) _, HB.out.set hq12 (hst_that HQ.out) (fun r hr => hst_other HQ.out hr)⟩
      case measure => simp [intOf]; omega
    · obtain rfl : k = n := by omega
      go_wp2
      go_returns
      exact ⟨rfl, hb, hbin⟩
set_option maxHeartbeats 1000000 in
theorem impl_bins (A : Option Addr) (n c : Nat) (X : Nat → Nat → Int) (wd : Int) (w : World) (hn : n ≤ 10) (hX : catIn n X) (h1 : 1 ≤ wd) (h2 : wd ≤ 50) (ha : Arr w w.heap.size A n 4 (iv X)) :
    Calls Try.prog 117 #[.slice A n c, .int .i64 wd] w (HistAt X wd n w) := by
  have hmk := mk12
  go_enter Try.func117, Try.ntmps117
  go_wp2
  clear hmk
  have HO := hide hX
  clear hX
  go_loopw [11] (fun i wr => ∃ k : Nat, k ≤ n ∧ i = .int .i64 k ∧ Below w.heap.size w wr ∧ Bin12 (hst X wd k) w.heap.size wr) (fun i _ => n - (intOf i).toNat)
  case atStart => exact ⟨0, Nat.zero_le _, rfl, below_al (Below.refl _ _), bin_made _ _ _⟩
  case round =>
    obtain ⟨k, hk, rfl, hb, hbin⟩ := hrel
    by_cases hlt : k < n
    · obtain ⟨b, off, rfl, hbb, hc⟩ := ha (by omega)
      obtain ⟨q1, q2⟩ := bcell hb
      have c0 := hc k 0 hlt (by omega); have c1 := hc k 1 hlt (by omega); have c2 := hc k 2 hlt (by omega); have c3 := hc k 3 hlt (by omega)
      simp only [Nat.add_zero, iv] at c0 c1 c2 c3
      obtain ⟨_, _, _, _, _, _, s1, s2⟩ := HO.out k hlt
      obtain ⟨b1, b2⟩ := bin_bd HO.out h1 hlt
      obtain ⟨q, hq⟩ : ∃ q : Nat, binI X wd k = q := ⟨(binI X wd k).toNat, by omega⟩
      have hq12 : q < 12 := by omega
      have hq12' : (q : Int) < 12 := by omega
      have hm : min 11 ((X k 3 + 20) / wd) = (q : Int) := hq
      obtain ⟨r1, r2⟩ := hst_bd X wd k q
      have d0 := hbin.cell hq12; have f0 := hbin.frozen q
      have hw1 := hbin.lt
      have hfa := frozen_al; have hfo := frozen_out
      have HB := hide hbin; have HQ := hide hq
      clear hbin hq hc ha b1 b2
      by_cases hle : (X k 3 + 20) / wd ≤ 11
      · have hqe : (X k 3 + 20) / wd = (q : Int) := by omega
        clear hm hle
        go_wp2
        go_roundw
        case rel => exact ⟨k + 1, by omega, by go_num, below_al (hb.setCell (p := ⟨w.heap.size, q, none⟩) (Nat.le_refl _) _), (HB.out.set hq12 (hst_that HQ.out) (fun r hr => hst_other HQ.out hr)).alloc _⟩
        case measure => simp [intOf]; omega
      · obtain rfl : q = 11 := by omega
        clear hm
        go_wp2
        go_roundw
        case rel => exact ⟨k + 1, by omega, by go_num, below_al (hb.setCell (p := ⟨w.heap.size, 11, none⟩) (Nat.le_refl _) _), (HB.out.set hq12 (hst_that HQ.out) (fun r hr => hst_other HQ.out hr)).alloc _⟩
        case measure => simp [intOf]; omega
    · obtain rfl : k = n := by omega
      go_wp2
      go_returns
      exact ⟨rfl, hb, hbin⟩

theorem spec_asked20 (A : Option Addr) (n c : Nat) (X : Nat → Nat → Int) (wd : Int) (v : Bool) (hv : (catB n X && inB wd 1 50) = v) (w : World) (hn : n ≤ 1048576) (ha : Arr w w.heap.size A n 4 (iv X)) :
    Calls Try.prog 118 #[.slice A n c, .int .i64 wd] w fun e w' => e = .returned (.bool v) ∧ Below w.heap.size w w' := by
  have HV := hide hv
  clear hv
  cases h0 : catB n X
  · skip
    obtain rfl : false = v := by rw [← HV.out]; simp [h0]
    have H0 := hide h0; clear h0
    go_enter Try.func118, Try.ntmps118
    go_wp2_with fail
    refine (spec_good16 _ _ _ X _ H0.out _ hn ha).mono ?_
    rintro e w1 ⟨rfl, hb1⟩
    obtain ⟨qc1, qf1⟩ := bcell hb1
    have hz1 := hb1.size
    try simp only [World.size_alloc, World.size_setCell, World.size_drew] at hz1
    have hq1 : Below w.heap.size w w1 := below_call (by go_grown) hb1
    try have hl0_1 : w.heap.size < w1.heap.size := by omega
    try have hl1_1 : w.heap.size + 1 < w1.heap.size := by omega
    try have hl2_1 : w.heap.size + 2 < w1.heap.size := by omega
    try have hl3_1 : w.heap.size + 3 < w1.heap.size := by omega
    go_wp2
    go_returns
    exact ⟨rfl, hq1⟩
  · skip
    cases h1 : inB wd 1 50
    · skip
      obtain rfl : false = v := by rw [← HV.out]; simp [h0, h1]
      have H0 := hide h0; clear h0
      have H1 := hide h1; clear h1
      go_enter Try.func118, Try.ntmps118
      go_wp2_with fail
      refine (spec_good16 _ _ _ X _ H0.out _ hn ha).mono ?_
      rintro e w1 ⟨rfl, hb1⟩
      obtain ⟨qc1, qf1⟩ := bcell hb1
      have hz1 := hb1.size
      try simp only [World.size_alloc, World.size_setCell, World.size_drew] at hz1
      have hq1 : Below w.heap.size w w1 := below_call (by go_grown) hb1
      try have hl0_1 : w.heap.size < w1.heap.size := by omega
      try have hl1_1 : w.heap.size + 1 < w1.heap.size := by omega
      try have hl2_1 : w.heap.size + 2 < w1.heap.size := by omega
      try have hl3_1 : w.heap.size + 3 < w1.heap.size := by omega
      go_wp2_with fail
      refine (spec_in _ _ _ _ H1.out _).mono ?_
      rintro e w1' ⟨rfl, rfl⟩
      go_wp2
      go_returns
      exact ⟨rfl, hq1⟩
    · skip
      obtain rfl : true = v := by rw [← HV.out]; simp [h0, h1]
      have H0 := hide h0; clear h0
      have H1 := hide h1; clear h1
      go_enter Try.func118, Try.ntmps118
      go_wp2_with fail
      refine (spec_good16 _ _ _ X _ H0.out _ hn ha).mono ?_
      rintro e w1 ⟨rfl, hb1⟩
      obtain ⟨qc1, qf1⟩ := bcell hb1
      have hz1 := hb1.size
      try simp only [World.size_alloc, World.size_setCell, World.size_drew] at hz1
      have hq1 : Below w.heap.size w w1 := below_call (by go_grown) hb1
      try have hl0_1 : w.heap.size < w1.heap.size := by omega
      try have hl1_1 : w.heap.size + 1 < w1.heap.size := by omega
      try have hl2_1 : w.heap.size + 2 < w1.heap.size := by omega
      try have hl3_1 : w.heap.size + 3 < w1.heap.size := by omega
      go_wp2_with fail
      refine (spec_in _ _ _ _ H1.out _).mono ?_
      rintro e w1' ⟨rfl, rfl⟩
      go_wp2
      go_returns
      exact ⟨rfl, hq1⟩
theorem impl_asked20 (A : Option Addr) (n c : Nat) (X : Nat → Nat → Int) (wd : Int) (v : Bool) (hv : (catB n X && inB wd 1 50) = v) (w : World) (hn : n ≤ 1048576) (ha : Arr w w.heap.size A n 4 (iv X)) :
    Calls Try.prog 116 #[.slice A n c, .int .i64 wd] w fun e w' => e = .returned (.bool v) ∧ Below w.heap.size w w' := by
  have HV := hide hv
  clear hv
  cases h0 : catB n X
  · skip
    obtain rfl : false = v := by rw [← HV.out]; simp [h0]
    have H0 := hide h0; clear h0
    go_enter Try.func116, Try.ntmps116
    go_wp2_with fail
    refine (impl_cat _ _ _ X _ H0.out _ hn ha).mono ?_
    rintro e w1 ⟨rfl, hb1⟩
    obtain ⟨qc1, qf1⟩ := bcell hb1
    have hz1 := hb1.size
    try simp only [World.size_alloc, World.size_setCell, World.size_drew] at hz1
    have hq1 : Below w.heap.size w w1 := below_call (by go_grown) hb1
    try have hl0_1 : w.heap.size < w1.heap.size := by omega
    try have hl1_1 : w.heap.size + 1 < w1.heap.size := by omega
    try have hl2_1 : w.heap.size + 2 < w1.heap.size := by omega
    try have hl3_1 : w.heap.size + 3 < w1.heap.size := by omega
    go_wp2
    go_returns
    exact ⟨rfl, hq1⟩
  · skip
    cases h1 : inB wd 1 50
    · skip
      obtain rfl : false = v := by rw [← HV.out]; simp [h0, h1]
      have H0 := hide h0; clear h0
      have H1 := hide h1; clear h1
      go_enter Try.func116, Try.ntmps116
      go_wp2_with fail
      refine (impl_cat _ _ _ X _ H0.out _ hn ha).mono ?_
      rintro e w1 ⟨rfl, hb1⟩
      obtain ⟨qc1, qf1⟩ := bcell hb1
      have hz1 := hb1.size
      try simp only [World.size_alloc, World.size_setCell, World.size_drew] at hz1
      have hq1 : Below w.heap.size w w1 := below_call (by go_grown) hb1
      try have hl0_1 : w.heap.size < w1.heap.size := by omega
      try have hl1_1 : w.heap.size + 1 < w1.heap.size := by omega
      try have hl2_1 : w.heap.size + 2 < w1.heap.size := by omega
      try have hl3_1 : w.heap.size + 3 < w1.heap.size := by omega
      go_wp2_with fail
      refine (impl_in _ _ _ _ H1.out _).mono ?_
      rintro e w1' ⟨rfl, rfl⟩
      go_wp2
      go_returns
      exact ⟨rfl, hq1⟩
    · skip
      obtain rfl : true = v := by rw [← HV.out]; simp [h0, h1]
      have H0 := hide h0; clear h0
      have H1 := hide h1; clear h1
      go_enter Try.func116, Try.ntmps116
      go_wp2_with fail
      refine (impl_cat _ _ _ X _ H0.out _ hn ha).mono ?_
      rintro e w1 ⟨rfl, hb1⟩
      obtain ⟨qc1, qf1⟩ := bcell hb1
      have hz1 := hb1.size
      try simp only [World.size_alloc, World.size_setCell, World.size_drew] at hz1
      have hq1 : Below w.heap.size w w1 := below_call (by go_grown) hb1
      try have hl0_1 : w.heap.size < w1.heap.size := by omega
      try have hl1_1 : w.heap.size + 1 < w1.heap.size := by omega
      try have hl2_1 : w.heap.size + 2 < w1.heap.size := by omega
      try have hl3_1 : w.heap.size + 3 < w1.heap.size := by omega
      go_wp2_with fail
      refine (impl_in _ _ _ _ H1.out _).mono ?_
      rintro e w1' ⟨rfl, rfl⟩
      go_wp2
      go_returns
      exact ⟨rfl, hq1⟩
structure Bnd (n : Nat) (X : Nat → Nat → Int) (wd : Int) : Prop where
  n10 : n ≤ 10
  cat : catIn n X
  w1 : 1 ≤ wd
  w2 : wd ≤ 50
theorem bnd_of {n : Nat} {X : Nat → Nat → Int} {wd : Int} (h : (catB n X && inB wd 1 50) = true) : Bnd n X wd := by
  rw [Bool.and_eq_true] at h
  obtain ⟨h1, h2⟩ := catB_of h.1
  obtain ⟨h3, h4⟩ := inB_of h.2
  exact ⟨h1, catIn_of h2, h3, h4⟩
theorem spec_hist (A : Option Addr) (n c : Nat) (X : Nat → Nat → Int) (wd : Int) (v : Bool) (hv : (catB n X && inB wd 1 50) = v) (q : Nat) (hq : q = onlyN v 12) (w : World) (hn : n ≤ 1048576) (ha : Arr w w.heap.size A n 4 (iv X)) :
    Calls Try.prog 65 #[.slice A n c, .int .i64 wd] w fun e w' => ∃ s, e = .returned (.tuple #[s, .bool v]) ∧ Below w.heap.size w w' ∧ Own w' w.heap.size 3 1 s q (iv fun i _ => hst X wd n i) := by
  subst hq
  have HV := hide hv
  clear hv
  cases v
  · go_enter Try.func65, Try.ntmps65
    go_wp2_with fail
    refine (spec_asked20 _ _ _ X _ _ HV.out _ hn ha).mono ?_
    rintro e w1 ⟨rfl, hb1⟩
    obtain ⟨qc1, qf1⟩ := bcell hb1
    have hz1 := hb1.size
    try simp only [World.size_alloc, World.size_setCell, World.size_drew] at hz1
    have hq1 : Below w.heap.size w w1 := below_call (by go_grown) hb1
    try have hl0_1 : w.heap.size < w1.heap.size := by omega
    try have hl1_1 : w.heap.size + 1 < w1.heap.size := by omega
    try have hl2_1 : w.heap.size + 2 < w1.heap.size := by omega
    try have hl3_1 : w.heap.size + 3 < w1.heap.size := by omega
    go_wp2
    go_returns
    exact ⟨_, rfl, below_al hq1, own_new hq1.size⟩
  · have B := bnd_of HV.out
    go_enter Try.func65, Try.ntmps65
    go_wp2_with fail
    refine (spec_asked20 _ _ _ X _ _ HV.out _ hn ha).mono ?_
    rintro e w1 ⟨rfl, hb1⟩
    obtain ⟨qc1, qf1⟩ := bcell hb1
    have hz1 := hb1.size
    try simp only [World.size_alloc, World.size_setCell, World.size_drew] at hz1
    have hq1 : Below w.heap.size w w1 := below_call (by go_grown) hb1
    try have hl0_1 : w.heap.size < w1.heap.size := by omega
    try have hl1_1 : w.heap.size + 1 < w1.heap.size := by omega
    try have hl2_1 : w.heap.size + 2 < w1.heap.size := by omega
    try have hl3_1 : w.heap.size + 3 < w1.heap.size := by omega
    go_wp2_with fail
    refine (spec_bins _ _ _ X _ _ B.n10 B.cat B.w1 B.w2 (ha.on hq1)).mono ?_
    rintro e w2 ⟨rfl, hb2, hbin⟩
    obtain ⟨qc2, qf2⟩ := bcell hb2
    have hz2 := hb2.size
    try simp only [World.size_alloc, World.size_setCell, World.size_drew] at hz2
    have hq2 : Below w.heap.size w w2 := below_call (by go_grown) hb2
    try have hl0_2 : w.heap.size < w2.heap.size := by omega
    try have hl1_2 : w.heap.size + 1 < w2.heap.size := by omega
    try have hl2_2 : w.heap.size + 2 < w2.heap.size := by omega
    try have hl3_2 : w.heap.size + 3 < w2.heap.size := by omega
    try have hn1_2 : w1.heap.size < w2.heap.size := by omega
    have HB := hide hbin
    clear hbin
    go_wp2
    go_returns
    exact ⟨_, rfl, hq2, HB.out.own hq1.size⟩
theorem impl_hist (A : Option Addr) (n c : Nat) (X : Nat → Nat → Int) (wd : Int) (v : Bool) (hv : (catB n X && inB wd 1 50) = v) (q : Nat) (hq : q = onlyN v 12) (w : World) (hn : n ≤ 1048576) (ha : Arr w w.heap.size A n 4 (iv X)) :
    Calls Try.prog 64 #[.slice A n c, .int .i64 wd] w fun e w' => ∃ s, e = .returned (.tuple #[s, .bool v]) ∧ Below w.heap.size w w' ∧ Own w' w.heap.size 3 1 s q (iv fun i _ => hst X wd n i) := by
  subst hq
  have HV := hide hv
  clear hv
  cases v
  · go_enter Try.func64, Try.ntmps64
    go_wp2_with fail
    refine (impl_asked20 _ _ _ X _ _ HV.out _ hn ha).mono ?_
    rintro e w1 ⟨rfl, hb1⟩
    obtain ⟨qc1, qf1⟩ := bcell hb1
    have hz1 := hb1.size
    try simp only [World.size_alloc, World.size_setCell, World.size_drew] at hz1
    have hq1 : Below w.heap.size w w1 := below_call (by go_grown) hb1
    try have hl0_1 : w.heap.size < w1.heap.size := by omega
    try have hl1_1 : w.heap.size + 1 < w1.heap.size := by omega
    try have hl2_1 : w.heap.size + 2 < w1.heap.size := by omega
    try have hl3_1 : w.heap.size + 3 < w1.heap.size := by omega
    go_wp2
    go_returns
    exact ⟨_, rfl, hq1, own_nil _ _ _ _ _⟩
  · have B := bnd_of HV.out
    go_enter Try.func64, Try.ntmps64
    go_wp2_with fail
    refine (impl_asked20 _ _ _ X _ _ HV.out _ hn ha).mono ?_
    rintro e w1 ⟨rfl, hb1⟩
    obtain ⟨qc1, qf1⟩ := bcell hb1
    have hz1 := hb1.size
    try simp only [World.size_alloc, World.size_setCell, World.size_drew] at hz1
    have hq1 : Below w.heap.size w w1 := below_call (by go_grown) hb1
    try have hl0_1 : w.heap.size < w1.heap.size := by omega
    try have hl1_1 : w.heap.size + 1 < w1.heap.size := by omega
    try have hl2_1 : w.heap.size + 2 < w1.heap.size := by omega
    try have hl3_1 : w.heap.size + 3 < w1.heap.size := by omega
    go_wp2_with fail
    refine (impl_bins _ _ _ X _ _ B.n10 B.cat B.w1 B.w2 (ha.on hq1)).mono ?_
    rintro e w2 ⟨rfl, hb2, hbin⟩
    obtain ⟨qc2, qf2⟩ := bcell hb2
    have hz2 := hb2.size
    try simp only [World.size_alloc, World.size_setCell, World.size_drew] at hz2
    have hq2 : Below w.heap.size w w2 := below_call (by go_grown) hb2
    try have hl0_2 : w.heap.size < w2.heap.size := by omega
    try have hl1_2 : w.heap.size + 1 < w2.heap.size := by omega
    try have hl2_2 : w.heap.size + 2 < w2.heap.size := by omega
    try have hl3_2 : w.heap.size + 3 < w2.heap.size := by omega
    try have hn1_2 : w1.heap.size < w2.heap.size := by omega
    have HB := hide hbin
    clear hbin
    go_wp2
    go_returns
    exact ⟨_, rfl, hq2, HB.out.own hq1.size⟩

/-! Sums from each bin on. -/
def sufT (f : Nat → Int) (d r : Nat) : Int := if 11 - d ≤ r then sufI f r else f r
theorem sufT_zero (f : Nat → Int) {r : Nat} (hr : r < 12) : sufT f 0 r = f r := by
  unfold sufT; split
  · obtain rfl : r = 11 := by omega
    exact sufI_last f
  · rfl
theorem sufT_step (f : Nat → Int) {d k r : Nat} (hk : k + d = 10) (hr : r ≠ k) : sufT f (d + 1) r = sufT f d r := by
  unfold sufT; split <;> split <;> first | rfl | omega
theorem sufT_that (f : Nat → Int) {d k : Nat} (hk : k + d = 10) : sufT f (d + 1) k = sufT f d k + sufT f d (k + 1) := by
  have h := sufI_step f (i := k) (by omega)
  unfold sufT; rw [if_pos (by omega), if_neg (by omega), if_pos (by omega)]; omega
theorem sufT_end (f : Nat → Int) (r : Nat) : sufT f 11 r = sufI f r := by unfold sufT; rw [if_pos (by omega)]
theorem sufD_bd {f : Nat → Int} {m : Int} (h0 : 0 ≤ m) (h : ∀ r, 0 ≤ f r ∧ f r ≤ m) : ∀ d, 0 ≤ sufD f d ∧ sufD f d ≤ (d + 1) * m
  | 0 => by have := h 11; simp [sufD]; omega
  | d + 1 => by
    have h1 := sufD_bd h0 h d
    have h2 := h (10 - d)
    have e : ((d + 1 : Nat) + 1 : Int) * m = ((d : Int) + 1) * m + m := by rw [Int.add_mul]; simp
    rw [e, sufD]; omega
theorem sufT_bd {n : Nat} {X : Nat → Nat → Int} {wd : Int} (hn : n ≤ 10) (d : Nat) {r : Nat} (hr : r < 12) : 0 ≤ sufT (hst X wd n) d r ∧ sufT (hst X wd n) d r ≤ 120 := by
  have h1 := hst_bd X wd n r
  have h2 := sufD_bd (f := hst X wd n) (m := 10) (by omega) (fun r => by have := hst_bd X wd n r; omega) (11 - r)
  unfold sufT sufI
  split <;> omega
set_option maxHeartbeats 1000000 in
theorem spec_counts (A : Option Addr) (n c : Nat) (X : Nat → Nat → Int) (wd : Int) (v : Bool) (hv : (catB n X && inB wd 1 50) = v) (q : Nat) (hq : q = onlyN v 12) (w : World) (hn : n ≤ 1048576) (ha : Arr w w.heap.size A n 4 (iv X)) :
    Calls Try.prog 68 #[.slice A n c, .int .i64 wd] w fun e w' => ∃ s, e = .returned (.tuple #[s, .bool v]) ∧ Below w.heap.size w w' ∧ Own w' w.heap.size 3 1 s q (iv fun i _ => sufI (hst X wd n) i) := by
  subst hq
  have HV := hide hv
  clear hv
  cases v
  · go_enter Try.func68, Try.ntmps68
    go_wp2_with fail
    refine (spec_asked20 _ _ _ X _ _ HV.out _ hn ha).mono ?_
    rintro e w1 ⟨rfl, hb1⟩
    obtain ⟨qc1, qf1⟩ := bcell hb1
    have hz1 := hb1.size
    try simp only [World.size_alloc, World.size_setCell, World.size_drew] at hz1
    have hq1 : Below w.heap.size w w1 := below_call (by go_grown) hb1
    try have hl0_1 : w.heap.size < w1.heap.size := by omega
    try have hl1_1 : w.heap.size + 1 < w1.heap.size := by omega
    try have hl2_1 : w.heap.size + 2 < w1.heap.size := by omega
    try have hl3_1 : w.heap.size + 3 < w1.heap.size := by omega
    go_wp2
    go_returns
    exact ⟨_, rfl, below_al hq1, own_new hq1.size⟩
  · have B := bnd_of HV.out
    go_enter Try.func68, Try.ntmps68
    go_wp2_with fail
    refine (spec_asked20 _ _ _ X _ _ HV.out _ hn ha).mono ?_
    rintro e w1 ⟨rfl, hb1⟩
    obtain ⟨qc1, qf1⟩ := bcell hb1
    have hz1 := hb1.size
    try simp only [World.size_alloc, World.size_setCell, World.size_drew] at hz1
    have hq1 : Below w.heap.size w w1 := below_call (by go_grown) hb1
    try have hl0_1 : w.heap.size < w1.heap.size := by omega
    try have hl1_1 : w.heap.size + 1 < w1.heap.size := by omega
    try have hl2_1 : w.heap.size + 2 < w1.heap.size := by omega
    try have hl3_1 : w.heap.size + 3 < w1.heap.size := by omega
    go_wp2_with fail
    refine (spec_bins _ _ _ X _ _ B.n10 B.cat B.w1 B.w2 (ha.on hq1)).mono ?_
    rintro e w2 ⟨rfl, hb2, hbin⟩
    obtain ⟨qc2, qf2⟩ := bcell hb2
    have hz2 := hb2.size
    try simp only [World.size_alloc, World.size_setCell, World.size_drew] at hz2
    have hq2 : Below w.heap.size w w2 := below_call (by go_grown) hb2
    try have hl0_2 : w.heap.size < w2.heap.size := by omega
    try have hl1_2 : w.heap.size + 1 < w2.heap.size := by omega
    try have hl2_2 : w.heap.size + 2 < w2.heap.size := by omega
    try have hl3_2 : w.heap.size + 3 < w2.heap.size := by omega
    try have hn1_2 : w1.heap.size < w2.heap.size := by omega
    have HB := hide hbin
    have hwl := hbin.lt
    have hws := hq1.size
    clear hbin qc1 qf1 qc2 qf2 ha
    go_wp2
    go_loopw [7] (fun i wr => ∃ d : Nat, d ≤ 11 ∧ i = .int .i64 (10 - (d : Int)) ∧ Below w.heap.size w wr ∧ Bin12 (sufT (hst X wd n) d) w1.heap.size wr) (fun i _ => ((intOf i) + 1).toNat)
    case atStart =>
      obtain ⟨cur, k1, k2, k3⟩ := HB.out
      exact ⟨0, Nat.zero_le _, rfl, hq2, cur, k1, k2, fun r hr => by rw [sufT_zero _ hr]; exact k3 r hr⟩
    case round =>
      obtain ⟨d, hd, rfl, hb, hbin⟩ := hrel
      by_cases hlt : d < 11
      · obtain ⟨k, hk⟩ : ∃ k : Nat, k + d = 10 := ⟨10 - d, by omega⟩
        have hke : (10 : Int) - (d : Int) = (k : Int) := by omega
        rw [hke]
        have d0 := hbin.cell (r := k) (by omega); have d1 := hbin.cell (r := k + 1) (by omega); have f0 := hbin.frozen k
        obtain ⟨b0, b1⟩ := sufT_bd (n := n) (X := X) (wd := wd) B.n10 d (r := k) (by omega)
        obtain ⟨b2, b3⟩ := sufT_bd (n := n) (X := X) (wd := wd) B.n10 d (r := k + 1) (by omega)
        have hw1 := hbin.lt
        have hk10 : k ≤ 10 := by omega
        have hk10' : (k : Int) ≤ 10 := by omega
        have hk11 : (k : Int) + 1 < 12 := by omega
        have ht1 : ((k : Int) + 1).toNat = k + 1 := by omega
        have HK := hide hk; have HB' := hide hbin; have HE := hide hke
        clear hbin hk hke
        go_wp2
        go_region
        clear ht1
        go_wp2
        go_roundw
        case rel =>
          refine ⟨d + 1, by omega, ?_, (hb.setCell (p := ⟨w1.heap.size, k, none⟩) hws _).drew, (HB'.out.set (by omega) (sufT_that _ HK.out) (fun r hr => sufT_step _ HK.out hr))⟩
          have := HE.out
          congr 1 <;> omega
        case measure => simp [intOf] <;> omega
      · obtain rfl : d = 11 := by omega
        have HB' := hide hbin
        clear hbin
        go_wp2
        go_returns
        refine ⟨_, rfl, hb, Bin12.own ?_ hws⟩
        obtain ⟨cur, k1, k2, k3⟩ := HB'.out
        exact ⟨cur, k1, k2, fun r hr => by rw [k3 r hr, sufT_end]⟩
set_option maxHeartbeats 1000000 in
theorem impl_counts (A : Option Addr) (n c : Nat) (X : Nat → Nat → Int) (wd : Int) (v : Bool) (hv : (catB n X && inB wd 1 50) = v) (q : Nat) (hq : q = onlyN v 12) (w : World) (hn : n ≤ 1048576) (ha : Arr w w.heap.size A n 4 (iv X)) :
    Calls Try.prog 67 #[.slice A n c, .int .i64 wd] w fun e w' => ∃ s, e = .returned (.tuple #[s, .bool v]) ∧ Below w.heap.size w w' ∧ Own w' w.heap.size 3 1 s q (iv fun i _ => sufI (hst X wd n) i) := by
  subst hq
  have HV := hide hv
  clear hv
  cases v
  · go_enter Try.func67, Try.ntmps67
    go_wp2_with fail
    refine (impl_asked20 _ _ _ X _ _ HV.out _ hn ha).mono ?_
    rintro e w1 ⟨rfl, hb1⟩
    obtain ⟨qc1, qf1⟩ := bcell hb1
    have hz1 := hb1.size
    try simp only [World.size_alloc, World.size_setCell, World.size_drew] at hz1
    have hq1 : Below w.heap.size w w1 := below_call (by go_grown) hb1
    try have hl0_1 : w.heap.size < w1.heap.size := by omega
    try have hl1_1 : w.heap.size + 1 < w1.heap.size := by omega
    try have hl2_1 : w.heap.size + 2 < w1.heap.size := by omega
    try have hl3_1 : w.heap.size + 3 < w1.heap.size := by omega
    go_wp2
    go_returns
    exact ⟨_, rfl, hq1, own_nil _ _ _ _ _⟩
  · have B := bnd_of HV.out
    go_enter Try.func67, Try.ntmps67
    go_wp2_with fail
    refine (impl_asked20 _ _ _ X _ _ HV.out _ hn ha).mono ?_
    rintro e w1 ⟨rfl, hb1⟩
    obtain ⟨qc1, qf1⟩ := bcell hb1
    have hz1 := hb1.size
    try simp only [World.size_alloc, World.size_setCell, World.size_drew] at hz1
    have hq1 : Below w.heap.size w w1 := below_call (by go_grown) hb1
    try have hl0_1 : w.heap.size < w1.heap.size := by omega
    try have hl1_1 : w.heap.size + 1 < w1.heap.size := by omega
    try have hl2_1 : w.heap.size + 2 < w1.heap.size := by omega
    try have hl3_1 : w.heap.size + 3 < w1.heap.size := by omega
    go_wp2_with fail
    refine (impl_bins _ _ _ X _ _ B.n10 B.cat B.w1 B.w2 (ha.on hq1)).mono ?_
    rintro e w2 ⟨rfl, hb2, hbin⟩
    obtain ⟨qc2, qf2⟩ := bcell hb2
    have hz2 := hb2.size
    try simp only [World.size_alloc, World.size_setCell, World.size_drew] at hz2
    have hq2 : Below w.heap.size w w2 := below_call (by go_grown) hb2
    try have hl0_2 : w.heap.size < w2.heap.size := by omega
    try have hl1_2 : w.heap.size + 1 < w2.heap.size := by omega
    try have hl2_2 : w.heap.size + 2 < w2.heap.size := by omega
    try have hl3_2 : w.heap.size + 3 < w2.heap.size := by omega
    try have hn1_2 : w1.heap.size < w2.heap.size := by omega
    have HB := hide hbin
    have hwl := hbin.lt
    have hws := hq1.size
    clear hbin qc1 qf1 qc2 qf2 ha
    go_wp2
    go_loopw [7] (fun i wr => ∃ d : Nat, d ≤ 11 ∧ i = .int .i64 (10 - (d : Int)) ∧ Below w.heap.size w wr ∧ Bin12 (sufT (hst X wd n) d) w1.heap.size wr) (fun i _ => ((intOf i) + 1).toNat)
    case atStart =>
      obtain ⟨cur, k1, k2, k3⟩ := HB.out
      exact ⟨0, Nat.zero_le _, rfl, hq2, cur, k1, k2, fun r hr => by rw [sufT_zero _ hr]; exact k3 r hr⟩
    case round =>
      obtain ⟨d, hd, rfl, hb, hbin⟩ := hrel
      by_cases hlt : d < 11
      · obtain ⟨k, hk⟩ : ∃ k : Nat, k + d = 10 := ⟨10 - d, by omega⟩
        have hke : (10 : Int) - (d : Int) = (k : Int) := by omega
        rw [hke]
        have d0 := hbin.cell (r := k) (by omega); have d1 := hbin.cell (r := k + 1) (by omega); have f0 := hbin.frozen k
        obtain ⟨b0, b1⟩ := sufT_bd (n := n) (X := X) (wd := wd) B.n10 d (r := k) (by omega)
        obtain ⟨b2, b3⟩ := sufT_bd (n := n) (X := X) (wd := wd) B.n10 d (r := k + 1) (by omega)
        have hw1 := hbin.lt
        have hk10 : k ≤ 10 := by omega
        have hk10' : (k : Int) ≤ 10 := by omega
        have hk11 : (k : Int) + 1 < 12 := by omega
        have ht1 : ((k : Int) + 1).toNat = k + 1 := by omega
        have HK := hide hk; have HB' := hide hbin; have HE := hide hke
        clear hbin hk hke
        go_wp2
        go_region
        clear ht1
        go_wp2
        go_roundw
        case rel =>
          refine ⟨d + 1, by omega, ?_, (hb.setCell (p := ⟨w1.heap.size, k, none⟩) hws _).drew, (HB'.out.set (by omega) (sufT_that _ HK.out) (fun r hr => sufT_step _ HK.out hr))⟩
          have := HE.out
          congr 1 <;> omega
        case measure => simp [intOf] <;> omega
      · obtain rfl : d = 11 := by omega
        have HB' := hide hbin
        clear hbin
        go_wp2
        go_returns
        refine ⟨_, rfl, hb, Bin12.own ?_ hws⟩
        obtain ⟨cur, k1, k2, k3⟩ := HB'.out
        exact ⟨cur, k1, k2, fun r hr => by rw [k3 r hr, sufT_end]⟩
set_option maxHeartbeats 1000000 in
theorem spec_complete (A : Option Addr) (n c : Nat) (X : Nat → Nat → Int) (wd : Int) (v : Bool) (hv : (catB n X && inB wd 1 50 && decide (n ≠ 0)) = v) (r : Int) (hr : onlyI v (bestI (hst X wd n) 12 * wd - 20) = r) (w : World) (hn : n ≤ 1048576) (ha : Arr w w.heap.size A n 4 (iv X)) :
    Calls Try.prog 71 #[.slice A n c, .int .i64 wd] w fun e w' => e = .returned (.tuple #[.int .i64 r, .bool v]) ∧ Below w.heap.size w w' := by
  have HV := hide hv; have HR := hide hr
  clear hv hr
  cases h1 : (catB n X && inB wd 1 50)
  · obtain rfl : false = v := by rw [← HV.out, h1]; rfl
    obtain rfl : 0 = r := HR.out
    have H1 := hide h1
    clear h1
    go_enter Try.func71, Try.ntmps71
    go_wp2_with fail
    refine (spec_asked20 _ _ _ X _ _ H1.out _ hn ha).mono ?_
    rintro e w1 ⟨rfl, hb1⟩
    obtain ⟨qc1, qf1⟩ := bcell hb1
    have hz1 := hb1.size
    try simp only [World.size_alloc, World.size_setCell, World.size_drew] at hz1
    have hq1 : Below w.heap.size w w1 := below_call (by go_grown) hb1
    try have hl0_1 : w.heap.size < w1.heap.size := by omega
    try have hl1_1 : w.heap.size + 1 < w1.heap.size := by omega
    try have hl2_1 : w.heap.size + 2 < w1.heap.size := by omega
    try have hl3_1 : w.heap.size + 3 < w1.heap.size := by omega
    go_wp2
    go_returns
    exact ⟨rfl, hq1⟩
  · have B := bnd_of h1
    by_cases h0 : n = 0
    · obtain rfl : false = v := by rw [← HV.out, h1, h0]; rfl
      obtain rfl : 0 = r := HR.out
      have H1 := hide h1
      clear h1
      subst h0
      go_enter Try.func71, Try.ntmps71
      go_wp2_with fail
      refine (spec_asked20 _ _ _ X _ _ H1.out _ hn ha).mono ?_
      rintro e w1 ⟨rfl, hb1⟩
      obtain ⟨qc1, qf1⟩ := bcell hb1
      have hz1 := hb1.size
      try simp only [World.size_alloc, World.size_setCell, World.size_drew] at hz1
      have hq1 : Below w.heap.size w w1 := below_call (by go_grown) hb1
      try have hl0_1 : w.heap.size < w1.heap.size := by omega
      try have hl1_1 : w.heap.size + 1 < w1.heap.size := by omega
      try have hl2_1 : w.heap.size + 2 < w1.heap.size := by omega
      try have hl3_1 : w.heap.size + 3 < w1.heap.size := by omega
      go_wp2
      go_returns
      exact ⟨rfl, hq1⟩
    · obtain rfl : true = v := by rw [← HV.out, h1]; simp [h0]
      have H1 := hide h1
      have hn0 : ((n : Int) == 0) = false := by simp; omega
      clear h1
      go_enter Try.func71, Try.ntmps71
      go_wp2_with fail
      refine (spec_asked20 _ _ _ X _ _ H1.out _ hn ha).mono ?_
      rintro e w1 ⟨rfl, hb1⟩
      obtain ⟨qc1, qf1⟩ := bcell hb1
      have hz1 := hb1.size
      try simp only [World.size_alloc, World.size_setCell, World.size_drew] at hz1
      have hq1 : Below w.heap.size w w1 := below_call (by go_grown) hb1
      try have hl0_1 : w.heap.size < w1.heap.size := by omega
      try have hl1_1 : w.heap.size + 1 < w1.heap.size := by omega
      try have hl2_1 : w.heap.size + 2 < w1.heap.size := by omega
      try have hl3_1 : w.heap.size + 3 < w1.heap.size := by omega
      go_wp2_with fail
      refine (spec_bins _ _ _ X _ _ B.n10 B.cat B.w1 B.w2 (ha.on hq1)).mono ?_
      rintro e w2 ⟨rfl, hb2, hbin⟩
      obtain ⟨qc2, qf2⟩ := bcell hb2
      have hz2 := hb2.size
      try simp only [World.size_alloc, World.size_setCell, World.size_drew] at hz2
      have hq2 : Below w.heap.size w w2 := below_call (by go_grown) hb2
      try have hl0_2 : w.heap.size < w2.heap.size := by omega
      try have hl1_2 : w.heap.size + 1 < w2.heap.size := by omega
      try have hl2_2 : w.heap.size + 2 < w2.heap.size := by omega
      try have hl3_2 : w.heap.size + 3 < w2.heap.size := by omega
      try have hn1_2 : w1.heap.size < w2.heap.size := by omega
      have HB := hide hbin
      have hwl := hbin.lt
      have hws := hq1.size
      clear hbin qc1 qf1 qc2 qf2 ha hn0
      go_wp2
      go_loopw [7, 8] (fun b i wr => ∃ k z : Nat, k ≤ 12 ∧ 1 ≤ k ∧ i = .int .i64 k ∧ z = bestI (hst X wd n) k ∧ b = .int .i64 z ∧ z < 12 ∧ Below w2.heap.size w2 wr) (fun _ i _ => 12 - (intOf i).toNat)
      case atStart => exact ⟨1, 0, by omega, by omega, rfl, by rw [bestI_one], rfl, by omega, Below.refl _ _⟩
      case round =>
        obtain ⟨k, z, hk, hk1, rfl, hz, rfl, hz12, hb⟩ := hrel
        have hz12' : (z : Int) < 12 := by omega
        have hbk := HB.out.below hb hwl
        have HZ := hide hz
        clear hz
        by_cases hlt : k < 12
        · have d0 := hbk.cell (r := k) hlt; have d1 := hbk.cell (r := z) hz12
          have hlt' : (k : Int) < 12 := by omega
          have hx := BW.cell (w := wr)
          have hwr := hbk.lt
          clear hbk
          by_cases hg : hst X wd n z < hst X wd n k
          · have hbe : k = bestI (hst X wd n) (k + 1) := by rw [bestI, ← HZ.out, if_pos hg]
            have HBE := hide hbe
            clear hbe
            go_wp2
            refine wp_region_bw (by kernel_rfl) (by kernel_rfl) ?_
            repeat (go_big_quiet_step ((first | fail)))
            refine wpQuiet_end fun w1 hb1 => ?_
            go_wp2
            go_roundw
            case rel => exact ⟨k + 1, k, by omega, by omega, by go_num, HBE.out, rfl, hlt, hb.trans (hb1.mono hb.size)⟩
            case measure => simp [intOf]; omega
          · have hbe : z = bestI (hst X wd n) (k + 1) := by rw [bestI, ← HZ.out, if_neg hg]
            have HBE := hide hbe
            clear hbe
            go_wp2
            refine wp_region_bw (by kernel_rfl) (by kernel_rfl) ?_
            repeat (go_big_quiet_step ((first | fail)))
            refine wpQuiet_end fun w1 hb1 => ?_
            go_wp2
            go_roundw
            case rel => exact ⟨k + 1, z, by omega, by omega, by go_num, HBE.out, rfl, hz12, hb.trans (hb1.mono hb.size)⟩
            case measure => simp [intOf]; omega
        · obtain rfl : k = 12 := by omega
          have hres : (z : Int) * wd - 20 = r := by have := HR.out; simp only [onlyI, if_true] at this; rw [HZ.out]; exact this
          have hm0 : 0 ≤ (z : Int) * wd := Int.mul_nonneg (by omega) (by have := B.w1; omega)
          have hm1 : (z : Int) * wd ≤ 12 * 50 := Int.mul_le_mul (by omega) B.w2 (by have := B.w1; omega) (by omega)
          clear hbk
          subst hres
          go_wp2
          go_returns
          exact ⟨rfl, below_call hq2 hb⟩
set_option maxHeartbeats 1000000 in
theorem impl_complete (A : Option Addr) (n c : Nat) (X : Nat → Nat → Int) (wd : Int) (v : Bool) (hv : (catB n X && inB wd 1 50 && decide (n ≠ 0)) = v) (r : Int) (hr : onlyI v (bestI (hst X wd n) 12 * wd - 20) = r) (w : World) (hn : n ≤ 1048576) (ha : Arr w w.heap.size A n 4 (iv X)) :
    Calls Try.prog 70 #[.slice A n c, .int .i64 wd] w fun e w' => e = .returned (.tuple #[.int .i64 r, .bool v]) ∧ Below w.heap.size w w' := by
  have HV := hide hv; have HR := hide hr
  clear hv hr
  cases h1 : (catB n X && inB wd 1 50)
  · obtain rfl : false = v := by rw [← HV.out, h1]; rfl
    obtain rfl : 0 = r := HR.out
    have H1 := hide h1
    clear h1
    go_enter Try.func70, Try.ntmps70
    go_wp2_with fail
    refine (impl_asked20 _ _ _ X _ _ H1.out _ hn ha).mono ?_
    rintro e w1 ⟨rfl, hb1⟩
    obtain ⟨qc1, qf1⟩ := bcell hb1
    have hz1 := hb1.size
    try simp only [World.size_alloc, World.size_setCell, World.size_drew] at hz1
    have hq1 : Below w.heap.size w w1 := below_call (by go_grown) hb1
    try have hl0_1 : w.heap.size < w1.heap.size := by omega
    try have hl1_1 : w.heap.size + 1 < w1.heap.size := by omega
    try have hl2_1 : w.heap.size + 2 < w1.heap.size := by omega
    try have hl3_1 : w.heap.size + 3 < w1.heap.size := by omega
    go_wp2
    go_returns
    exact ⟨rfl, hq1⟩
  · have B := bnd_of h1
    by_cases h0 : n = 0
    · obtain rfl : false = v := by rw [← HV.out, h1, h0]; rfl
      obtain rfl : 0 = r := HR.out
      have H1 := hide h1
      clear h1
      subst h0
      go_enter Try.func70, Try.ntmps70
      go_wp2_with fail
      refine (impl_asked20 _ _ _ X _ _ H1.out _ hn ha).mono ?_
      rintro e w1 ⟨rfl, hb1⟩
      obtain ⟨qc1, qf1⟩ := bcell hb1
      have hz1 := hb1.size
      try simp only [World.size_alloc, World.size_setCell, World.size_drew] at hz1
      have hq1 : Below w.heap.size w w1 := below_call (by go_grown) hb1
      try have hl0_1 : w.heap.size < w1.heap.size := by omega
      try have hl1_1 : w.heap.size + 1 < w1.heap.size := by omega
      try have hl2_1 : w.heap.size + 2 < w1.heap.size := by omega
      try have hl3_1 : w.heap.size + 3 < w1.heap.size := by omega
      go_wp2
      go_returns
      exact ⟨rfl, hq1⟩
    · obtain rfl : true = v := by rw [← HV.out, h1]; simp [h0]
      have H1 := hide h1
      have hn0 : ((n : Int) == 0) = false := by simp; omega
      clear h1
      go_enter Try.func70, Try.ntmps70
      go_wp2_with fail
      refine (impl_asked20 _ _ _ X _ _ H1.out _ hn ha).mono ?_
      rintro e w1 ⟨rfl, hb1⟩
      obtain ⟨qc1, qf1⟩ := bcell hb1
      have hz1 := hb1.size
      try simp only [World.size_alloc, World.size_setCell, World.size_drew] at hz1
      have hq1 : Below w.heap.size w w1 := below_call (by go_grown) hb1
      try have hl0_1 : w.heap.size < w1.heap.size := by omega
      try have hl1_1 : w.heap.size + 1 < w1.heap.size := by omega
      try have hl2_1 : w.heap.size + 2 < w1.heap.size := by omega
      try have hl3_1 : w.heap.size + 3 < w1.heap.size := by omega
      go_wp2_with fail
      refine (impl_bins _ _ _ X _ _ B.n10 B.cat B.w1 B.w2 (ha.on hq1)).mono ?_
      rintro e w2 ⟨rfl, hb2, hbin⟩
      obtain ⟨qc2, qf2⟩ := bcell hb2
      have hz2 := hb2.size
      try simp only [World.size_alloc, World.size_setCell, World.size_drew] at hz2
      have hq2 : Below w.heap.size w w2 := below_call (by go_grown) hb2
      try have hl0_2 : w.heap.size < w2.heap.size := by omega
      try have hl1_2 : w.heap.size + 1 < w2.heap.size := by omega
      try have hl2_2 : w.heap.size + 2 < w2.heap.size := by omega
      try have hl3_2 : w.heap.size + 3 < w2.heap.size := by omega
      try have hn1_2 : w1.heap.size < w2.heap.size := by omega
      have HB := hide hbin
      have hwl := hbin.lt
      have hws := hq1.size
      clear hbin qc1 qf1 qc2 qf2 ha hn0
      go_wp2
      go_loopw [6, 24] (fun b i wr => ∃ k z : Nat, k ≤ 12 ∧ i = .int .i64 k ∧ z = bestI (hst X wd n) k ∧ b = .int .i64 z ∧ z < 12 ∧ Below w2.heap.size w2 wr) (fun _ i _ => 12 - (intOf i).toNat)
      case atStart => exact ⟨0, 0, by omega, rfl, rfl, rfl, by omega, Below.refl _ _⟩
      case round =>
        obtain ⟨k, z, hk, rfl, hz, rfl, hz12, hb⟩ := hrel
        have hz12' : (z : Int) < 12 := by omega
        have hbk := HB.out.below hb hwl
        have HZ := hide hz
        clear hz
        by_cases hlt : k < 12
        · have d0 := hbk.cell (r := k) hlt; have d1 := hbk.cell (r := z) hz12
          have hlt' : (k : Int) < 12 := by omega
          have hx := BW.cell (w := wr)
          have hwr := hbk.lt
          clear hbk
          by_cases hg : hst X wd n z < hst X wd n k
          · have hbe : k = bestI (hst X wd n) (k + 1) := by rw [bestI, ← HZ.out, if_pos hg]
            have HBE := hide hbe
            clear hbe
            go_wp2
            go_roundw
            case rel => exact ⟨k + 1, k, by omega, by go_num, HBE.out, rfl, hlt, hb⟩
            case measure => simp [intOf]; omega
          · have hbe : z = bestI (hst X wd n) (k + 1) := by rw [bestI, ← HZ.out, if_neg hg]
            have HBE := hide hbe
            clear hbe
            go_wp2
            go_roundw
            case rel => exact ⟨k + 1, z, by omega, by go_num, HBE.out, rfl, hz12, hb⟩
            case measure => simp [intOf]; omega
        · obtain rfl : k = 12 := by omega
          have hres : (z : Int) * wd - 20 = r := by have := HR.out; simp only [onlyI, if_true] at this; rw [HZ.out]; exact this
          have hm0 : 0 ≤ (z : Int) * wd := Int.mul_nonneg (by omega) (by have := B.w1; omega)
          have hm1 : (z : Int) * wd ≤ 12 * 50 := Int.mul_le_mul (by omega) B.w2 (by have := B.w1; omega) (by omega)
          clear hbk
          obtain rfl : -20 + (z : Int) * wd = r := by omega
          clear hres
          go_wp2
          go_returns
          exact ⟨rfl, below_call hq2 hb⟩
end Go.Proofs.Ythpagjkkccimiaa
