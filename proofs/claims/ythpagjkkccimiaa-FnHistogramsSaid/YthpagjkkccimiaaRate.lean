/- Chapter 20: LargerThan, QuietSpan, MeanSize, RateOf: made by rategen.py. -/
import Derived.Test.YthpagjkkccimiaaLarg
import Derived.Test.YthpagjkkccimiaaGcd
import Derived.IntWalk
namespace Go.Proofs.Ythpagjkkccimiaa
open Go.RowKit
set_option linter.unusedVariables false
set_option linter.unusedSimpArgs false

theorem spec_sized (A : Option Addr) (n c : Nat) (X : Nat → Nat → Int) (s : Int) (v : Bool) (hv : (catB n X && inB s (-20) 95) = v) (w : World) (hn : n ≤ 1048576) (ha : Arr w w.heap.size A n 4 (iv X)) :
    Calls Try.prog 107 #[.slice A n c, .int .i64 s] w fun e w' => e = .returned (.bool v) ∧ Below w.heap.size w w' := by
  have HV := hide hv
  clear hv
  cases h0 : catB n X
  · skip
    obtain rfl : false = v := by rw [← HV.out]; simp [h0]
    have H0 := hide h0; clear h0
    go_enter Try.func107, Try.ntmps107
    go_wp2_with fail
    refine (spec_good16 _ _ _ X _ H0.out _ hn ha).mono ?_
    rintro e w1 ⟨rfl, hb1⟩
    obtain ⟨qc1, qf1⟩ := bcell hb1
    have hz1 := hb1.size
    try simp only [World.size_alloc, World.size_setCell, World.size_drew] at hz1
    have hq1 : Below w.heap.size w w1 := below_call (by go_grown) hb1
    try have hl0_1 : w.heap.size < w1.heap.size := by omega
    try have hl1_1 : w.heap.size + 1 < w1.heap.size := by omega
    try have hl2_1 : w.heap.size + 2 < w1.heap.size := by omega
    try have hl3_1 : w.heap.size + 3 < w1.heap.size := by omega
    go_wp2
    go_returns
    exact ⟨rfl, hq1⟩
  · skip
    cases h1 : inB s (-20) 95
    · skip
      obtain rfl : false = v := by rw [← HV.out]; simp [h0, h1]
      have H0 := hide h0; clear h0
      have H1 := hide h1; clear h1
      go_enter Try.func107, Try.ntmps107
      go_wp2_with fail
      refine (spec_good16 _ _ _ X _ H0.out _ hn ha).mono ?_
      rintro e w1 ⟨rfl, hb1⟩
      obtain ⟨qc1, qf1⟩ := bcell hb1
      have hz1 := hb1.size
      try simp only [World.size_alloc, World.size_setCell, World.size_drew] at hz1
      have hq1 : Below w.heap.size w w1 := below_call (by go_grown) hb1
      try have hl0_1 : w.heap.size < w1.heap.size := by omega
      try have hl1_1 : w.heap.size + 1 < w1.heap.size := by omega
      try have hl2_1 : w.heap.size + 2 < w1.heap.size := by omega
      try have hl3_1 : w.heap.size + 3 < w1.heap.size := by omega
      go_wp2_with fail
      refine (spec_in _ _ _ _ H1.out _).mono ?_
      rintro e w1' ⟨rfl, rfl⟩
      go_wp2
      go_returns
      exact ⟨rfl, hq1⟩
    · skip
      obtain rfl : true = v := by rw [← HV.out]; simp [h0, h1]
      have H0 := hide h0; clear h0
      have H1 := hide h1; clear h1
      go_enter Try.func107, Try.ntmps107
      go_wp2_with fail
      refine (spec_good16 _ _ _ X _ H0.out _ hn ha).mono ?_
      rintro e w1 ⟨rfl, hb1⟩
      obtain ⟨qc1, qf1⟩ := bcell hb1
      have hz1 := hb1.size
      try simp only [World.size_alloc, World.size_setCell, World.size_drew] at hz1
      have hq1 : Below w.heap.size w w1 := below_call (by go_grown) hb1
      try have hl0_1 : w.heap.size < w1.heap.size := by omega
      try have hl1_1 : w.heap.size + 1 < w1.heap.size := by omega
      try have hl2_1 : w.heap.size + 2 < w1.heap.size := by omega
      try have hl3_1 : w.heap.size + 3 < w1.heap.size := by omega
      go_wp2_with fail
      refine (spec_in _ _ _ _ H1.out _).mono ?_
      rintro e w1' ⟨rfl, rfl⟩
      go_wp2
      go_returns
      exact ⟨rfl, hq1⟩
theorem impl_sized (A : Option Addr) (n c : Nat) (X : Nat → Nat → Int) (s : Int) (v : Bool) (hv : (catB n X && inB s (-20) 95) = v) (w : World) (hn : n ≤ 1048576) (ha : Arr w w.heap.size A n 4 (iv X)) :
    Calls Try.prog 101 #[.slice A n c, .int .i64 s] w fun e w' => e = .returned (.bool v) ∧ Below w.heap.size w w' := by
  have HV := hide hv
  clear hv
  cases h0 : catB n X
  · skip
    obtain rfl : false = v := by rw [← HV.out]; simp [h0]
    have H0 := hide h0; clear h0
    go_enter Try.func101, Try.ntmps101
    go_wp2_with fail
    refine (impl_cat _ _ _ X _ H0.out _ hn ha).mono ?_
    rintro e w1 ⟨rfl, hb1⟩
    obtain ⟨qc1, qf1⟩ := bcell hb1
    have hz1 := hb1.size
    try simp only [World.size_alloc, World.size_setCell, World.size_drew] at hz1
    have hq1 : Below w.heap.size w w1 := below_call (by go_grown) hb1
    try have hl0_1 : w.heap.size < w1.heap.size := by omega
    try have hl1_1 : w.heap.size + 1 < w1.heap.size := by omega
    try have hl2_1 : w.heap.size + 2 < w1.heap.size := by omega
    try have hl3_1 : w.heap.size + 3 < w1.heap.size := by omega
    go_wp2
    go_returns
    exact ⟨rfl, hq1⟩
  · skip
    cases h1 : inB s (-20) 95
    · skip
      obtain rfl : false = v := by rw [← HV.out]; simp [h0, h1]
      have H0 := hide h0; clear h0
      have H1 := hide h1; clear h1
      go_enter Try.func101, Try.ntmps101
      go_wp2_with fail
      refine (impl_cat _ _ _ X _ H0.out _ hn ha).mono ?_
      rintro e w1 ⟨rfl, hb1⟩
      obtain ⟨qc1, qf1⟩ := bcell hb1
      have hz1 := hb1.size
      try simp only [World.size_alloc, World.size_setCell, World.size_drew] at hz1
      have hq1 : Below w.heap.size w w1 := below_call (by go_grown) hb1
      try have hl0_1 : w.heap.size < w1.heap.size := by omega
      try have hl1_1 : w.heap.size + 1 < w1.heap.size := by omega
      try have hl2_1 : w.heap.size + 2 < w1.heap.size := by omega
      try have hl3_1 : w.heap.size + 3 < w1.heap.size := by omega
      go_wp2_with fail
      refine (impl_qsize _ _ H1.out _).mono ?_
      rintro e w1' ⟨rfl, rfl⟩
      go_wp2
      go_returns
      exact ⟨rfl, hq1⟩
    · skip
      obtain rfl : true = v := by rw [← HV.out]; simp [h0, h1]
      have H0 := hide h0; clear h0
      have H1 := hide h1; clear h1
      go_enter Try.func101, Try.ntmps101
      go_wp2_with fail
      refine (impl_cat _ _ _ X _ H0.out _ hn ha).mono ?_
      rintro e w1 ⟨rfl, hb1⟩
      obtain ⟨qc1, qf1⟩ := bcell hb1
      have hz1 := hb1.size
      try simp only [World.size_alloc, World.size_setCell, World.size_drew] at hz1
      have hq1 : Below w.heap.size w w1 := below_call (by go_grown) hb1
      try have hl0_1 : w.heap.size < w1.heap.size := by omega
      try have hl1_1 : w.heap.size + 1 < w1.heap.size := by omega
      try have hl2_1 : w.heap.size + 2 < w1.heap.size := by omega
      try have hl3_1 : w.heap.size + 3 < w1.heap.size := by omega
      go_wp2_with fail
      refine (impl_qsize _ _ H1.out _).mono ?_
      rintro e w1' ⟨rfl, rfl⟩
      go_wp2
      go_returns
      exact ⟨rfl, hq1⟩
/-- The chosen quakes are a valid catalogue's too, number by number. -/
theorem sel_in {n : Nat} {X : Nat → Nat → Int} {P : Nat → Bool} {l : List Nat} {m : Nat} (h : catB n X = true) (hl : selL P n = l) (hm : l.length = m) : catIn m (selX X l) ∧ m ≤ 10 := by
  obtain ⟨h10, hc⟩ := catB_of h
  have hi := catIn_of hc
  refine ⟨fun i hi' => ?_, ?_⟩
  · subst hl hm
    exact hi _ (selL_get hi').1
  · have := selL_len P n
    rw [hl, hm] at this
    omega
theorem and_l {a b : Bool} (h : (a && b) = true) : a = true := by cases a <;> simp_all
theorem and_r {a b : Bool} (h : (a && b) = true) : b = true := by cases a <;> simp_all
/-- How a walk names the chosen quakes. -/
structure Sel (X : Nat → Nat → Int) (s : Int) (n : Nat) (l : List Nat) (m : Nat) (Z : Nat → Nat → Int) : Prop where
  el : selL (szP X s) n = l
  em : l.length = m
  eZ : selX X l = Z
theorem Sel.ex (X : Nat → Nat → Int) (s : Int) (n : Nat) : ∃ l m Z, Sel X s n l m Z := ⟨_, _, _, rfl, rfl, rfl⟩
theorem Sel.le {X : Nat → Nat → Int} {s : Int} {n : Nat} {l : List Nat} {m : Nat} {Z : Nat → Nat → Int} (h : Sel X s n l m Z) : m ≤ n := by
  have := selL_len (szP X s) n
  rw [h.el, h.em] at this
  exact this
theorem spec_fromS {A : Option Addr} {n c : Nat} {X : Nat → Nat → Int} {s : Int} {l : List Nat} {m : Nat} {Z : Nat → Nat → Int} (S : Sel X s n l m Z) (w : World) (hn : n ≤ 1048576) (ha : Arr w w.heap.size A n 4 (iv X)) :
    Calls Try.prog 109 #[.slice A n c, .int .i64 s] w fun e w' => ∃ v, e = .returned v ∧ Below w.heap.size w w' ∧ Own w' w.heap.size 60 4 v m (iv Z) := by
  have h := spec_from A n c X s w hn ha
  rw [S.el, S.em, S.eZ] at h
  exact h
theorem impl_largerS {A : Option Addr} {n c : Nat} {X : Nat → Nat → Int} {s : Int} {l : List Nat} {m : Nat} {Z : Nat → Nat → Int} (S : Sel X s n l m Z) (w : World) (hn : n ≤ 1048576) (ha : Arr w w.heap.size A n 4 (iv X)) :
    Calls Try.prog 104 #[.slice A n c, .int .i64 s] w fun e w' => ∃ v, e = .returned v ∧ Below w.heap.size w w' ∧ Own w' w.heap.size 60 4 v m (iv Z) := by
  have h := impl_larger A n c X s w hn ha
  rw [S.el, S.em, S.eZ] at h
  exact h

set_option maxHeartbeats 1000000 in
theorem spec_larger' (A : Option Addr) (n c : Nat) (X : Nat → Nat → Int) (s : Int) (v : Bool) (hv : (catB n X && inB s (-20) 95) = v) (r : Int) (hr : onlyI v (selL (szP X s) n).length = r) (w : World) (hn : n ≤ 1048576) (ha : Arr w w.heap.size A n 4 (iv X)) :
    Calls Try.prog 73 #[.slice A n c, .int .i64 s] w fun e w' => e = .returned (.tuple #[.int .i64 r, .bool v]) ∧ Below w.heap.size w w' := by
  have HV := hide hv; have HR := hide hr
  clear hv hr
  cases v
  · obtain rfl : 0 = r := HR.out
    go_enter Try.func73, Try.ntmps73
    go_wp2_with fail
    refine (spec_sized _ _ _ X _ _ HV.out _ hn ha).mono ?_
    rintro e w1 ⟨rfl, hb1⟩
    obtain ⟨qc1, qf1⟩ := bcell hb1
    have hz1 := hb1.size
    try simp only [World.size_alloc, World.size_setCell, World.size_drew] at hz1
    have hq1 : Below w.heap.size w w1 := below_call (by go_grown) hb1
    try have hl0_1 : w.heap.size < w1.heap.size := by omega
    try have hl1_1 : w.heap.size + 1 < w1.heap.size := by omega
    try have hl2_1 : w.heap.size + 2 < w1.heap.size := by omega
    try have hl3_1 : w.heap.size + 3 < w1.heap.size := by omega
    go_wp2
    go_returns
    exact ⟨rfl, hq1⟩
  · obtain ⟨l, m, Z, S⟩ := Sel.ex X s n
    obtain rfl : (m : Int) = r := by have := HR.out; rw [S.el, S.em] at this; exact this
    go_enter Try.func73, Try.ntmps73
    go_wp2_with fail
    refine (spec_sized _ _ _ X _ _ HV.out _ hn ha).mono ?_
    rintro e w1 ⟨rfl, hb1⟩
    obtain ⟨qc1, qf1⟩ := bcell hb1
    have hz1 := hb1.size
    try simp only [World.size_alloc, World.size_setCell, World.size_drew] at hz1
    have hq1 : Below w.heap.size w w1 := below_call (by go_grown) hb1
    try have hl0_1 : w.heap.size < w1.heap.size := by omega
    try have hl1_1 : w.heap.size + 1 < w1.heap.size := by omega
    try have hl2_1 : w.heap.size + 2 < w1.heap.size := by omega
    try have hl3_1 : w.heap.size + 3 < w1.heap.size := by omega
    go_wp2_with fail
    refine (spec_fromS S _ hn (ha.on hq1)).mono ?_
    rintro e w2 ⟨v2, rfl, hb2, ho2⟩
    obtain ⟨A2, c2, rfl, hc2, ha2⟩ := ho2.arr
    obtain ⟨qc2, qf2⟩ := bcell hb2
    have hz2 := hb2.size
    have hq2 : Below w.heap.size w w2 := below_call hq1 hb2
    clear ho2
    go_wp2
    go_returns
    exact ⟨rfl, hq2⟩
set_option maxHeartbeats 1000000 in
theorem impl_larger' (A : Option Addr) (n c : Nat) (X : Nat → Nat → Int) (s : Int) (v : Bool) (hv : (catB n X && inB s (-20) 95) = v) (r : Int) (hr : onlyI v (selL (szP X s) n).length = r) (w : World) (hn : n ≤ 1048576) (ha : Arr w w.heap.size A n 4 (iv X)) :
    Calls Try.prog 62 #[.slice A n c, .int .i64 s] w fun e w' => e = .returned (.tuple #[.int .i64 r, .bool v]) ∧ Below w.heap.size w w' := by
  have HV := hide hv; have HR := hide hr
  clear hv hr
  cases v
  · obtain rfl : 0 = r := HR.out
    go_enter Try.func62, Try.ntmps62
    go_wp2_with fail
    refine (impl_sized _ _ _ X _ _ HV.out _ hn ha).mono ?_
    rintro e w1 ⟨rfl, hb1⟩
    obtain ⟨qc1, qf1⟩ := bcell hb1
    have hz1 := hb1.size
    try simp only [World.size_alloc, World.size_setCell, World.size_drew] at hz1
    have hq1 : Below w.heap.size w w1 := below_call (by go_grown) hb1
    try have hl0_1 : w.heap.size < w1.heap.size := by omega
    try have hl1_1 : w.heap.size + 1 < w1.heap.size := by omega
    try have hl2_1 : w.heap.size + 2 < w1.heap.size := by omega
    try have hl3_1 : w.heap.size + 3 < w1.heap.size := by omega
    go_wp2
    go_returns
    exact ⟨rfl, hq1⟩
  · obtain ⟨l, m, Z, S⟩ := Sel.ex X s n
    obtain rfl : (m : Int) = r := by have := HR.out; rw [S.el, S.em] at this; exact this
    go_enter Try.func62, Try.ntmps62
    go_wp2_with fail
    refine (impl_sized _ _ _ X _ _ HV.out _ hn ha).mono ?_
    rintro e w1 ⟨rfl, hb1⟩
    obtain ⟨qc1, qf1⟩ := bcell hb1
    have hz1 := hb1.size
    try simp only [World.size_alloc, World.size_setCell, World.size_drew] at hz1
    have hq1 : Below w.heap.size w w1 := below_call (by go_grown) hb1
    try have hl0_1 : w.heap.size < w1.heap.size := by omega
    try have hl1_1 : w.heap.size + 1 < w1.heap.size := by omega
    try have hl2_1 : w.heap.size + 2 < w1.heap.size := by omega
    try have hl3_1 : w.heap.size + 3 < w1.heap.size := by omega
    go_wp2_with fail
    refine (impl_largerS S _ hn (ha.on hq1)).mono ?_
    rintro e w2 ⟨v2, rfl, hb2, ho2⟩
    obtain ⟨A2, c2, rfl, hc2, ha2⟩ := ho2.arr
    obtain ⟨qc2, qf2⟩ := bcell hb2
    have hz2 := hb2.size
    have hq2 : Below w.heap.size w w2 := below_call hq1 hb2
    clear ho2
    go_wp2
    go_returns
    exact ⟨rfl, hq2⟩
/-! the widest span -/
def quB (f : Nat → Int) : Nat → Nat
  | 0 => 1
  | k + 1 => if 1 ≤ k ∧ f (quB f k) - f (quB f k - 1) < f k - f (k - 1) then k else quB f k
theorem quB_two (f : Nat → Int) : quB f 1 = 1 ∧ quB f 2 = 1 := by simp [quB]
theorem quB_yes {f : Nat → Int} {p y : Nat} (hy : y + 1 = quB f (p + 1)) (h : f (y + 1) - f y < f (p + 1) - f p) : p + 1 = quB f (p + 2) := by
  rw [quB, ← hy, if_pos ⟨by omega, by simpa using h⟩]
theorem quB_no {f : Nat → Int} {p y : Nat} (hy : y + 1 = quB f (p + 1)) (h : ¬ f (y + 1) - f y < f (p + 1) - f p) : y + 1 = quB f (p + 2) := by
  rw [quB, ← hy, if_neg (fun c => h (by simpa using c.2))]
def spanOk (X : Nat → Nat → Int) (s : Int) (n : Nat) : Bool := catB n X && inB s (-20) 95 && decide (2 ≤ (selL (szP X s) n).length)
def tkS (X : Nat → Nat → Int) (s : Int) (n i : Nat) : Int := selX X (selL (szP X s) n) i 0
def spanA (X : Nat → Nat → Int) (s : Int) (n : Nat) : Int := tkS X s n (quB (tkS X s n) (selL (szP X s) n).length - 1)
def spanB (X : Nat → Nat → Int) (s : Int) (n : Nat) : Int := tkS X s n (quB (tkS X s n) (selL (szP X s) n).length)
set_option maxHeartbeats 2000000 in
set_option maxRecDepth 100000 in
theorem spec_span (A : Option Addr) (n c : Nat) (X : Nat → Nat → Int) (s : Int) (v : Bool) (hv : spanOk X s n = v) (r1 r2 : Int) (hr1 : onlyI v (spanA X s n) = r1) (hr2 : onlyI v (spanB X s n) = r2) (w : World) (hn : n ≤ 1048576) (ha : Arr w w.heap.size A n 4 (iv X)) :
    Calls Try.prog 61 #[.slice A n c, .int .i64 s] w fun e w' => e = .returned (.tuple #[.int .i64 r1, .int .i64 r2, .bool v]) ∧ Below w.heap.size w w' := by
  obtain ⟨l, m, Z, S⟩ := Sel.ex X s n
  have HV := hide hv; have HR1 := hide hr1; have HR2 := hide hr2
  clear hv hr1 hr2
  cases h1 : (catB n X && inB s (-20) 95)
  · obtain rfl : false = v := by rw [← HV.out, spanOk, h1]; rfl
    obtain rfl : 0 = r1 := HR1.out
    obtain rfl : 0 = r2 := HR2.out
    have H1 := hide h1
    clear h1
    go_enter Try.func61, Try.ntmps61
    go_wp2_with fail
    refine (spec_fromS S _ hn ha).mono ?_
    rintro e w1 ⟨v1, rfl, hb1, ho1⟩
    obtain ⟨A1, c1, rfl, hc1, ha1⟩ := ho1.arr
    obtain ⟨qc1, qf1⟩ := bcell hb1
    have hz1 := hb1.size
    have hq1 : Below w.heap.size w w1 := hb1
    go_wp2_with fail
    refine (spec_sized _ _ _ X _ _ H1.out _ hn (ha.on hq1)).mono ?_
    rintro e w2 ⟨rfl, hb2⟩
    obtain ⟨qc2, qf2⟩ := bcell hb2
    have hz2 := hb2.size
    try simp only [World.size_alloc, World.size_setCell, World.size_drew] at hz2
    have hq2 : Below w.heap.size w w2 := below_call (by go_grown) hb2
    try have hl0_2 : w.heap.size < w2.heap.size := by omega
    try have hl1_2 : w.heap.size + 1 < w2.heap.size := by omega
    try have hl2_2 : w.heap.size + 2 < w2.heap.size := by omega
    try have hl3_2 : w.heap.size + 3 < w2.heap.size := by omega
    try have hn1_2 : w1.heap.size < w2.heap.size := by omega
    clear ho1
    go_wp2
    go_returns
    exact ⟨rfl, hq2⟩
  · by_cases hm2 : (m : Int) < 2
    · obtain rfl : false = v := by rw [← HV.out, spanOk, h1, S.el, S.em]; simp; omega
      obtain rfl : 0 = r1 := HR1.out
      obtain rfl : 0 = r2 := HR2.out
      have H1 := hide h1
      clear h1
      go_enter Try.func61, Try.ntmps61
      go_wp2_with fail
      refine (spec_fromS S _ hn ha).mono ?_
      rintro e w1 ⟨v1, rfl, hb1, ho1⟩
      obtain ⟨A1, c1, rfl, hc1, ha1⟩ := ho1.arr
      obtain ⟨qc1, qf1⟩ := bcell hb1
      have hz1 := hb1.size
      have hq1 : Below w.heap.size w w1 := hb1
      go_wp2_with fail
      refine (spec_sized _ _ _ X _ _ H1.out _ hn (ha.on hq1)).mono ?_
      rintro e w2 ⟨rfl, hb2⟩
      obtain ⟨qc2, qf2⟩ := bcell hb2
      have hz2 := hb2.size
      try simp only [World.size_alloc, World.size_setCell, World.size_drew] at hz2
      have hq2 : Below w.heap.size w w2 := below_call (by go_grown) hb2
      try have hl0_2 : w.heap.size < w2.heap.size := by omega
      try have hl1_2 : w.heap.size + 1 < w2.heap.size := by omega
      try have hl2_2 : w.heap.size + 2 < w2.heap.size := by omega
      try have hl3_2 : w.heap.size + 3 < w2.heap.size := by omega
      try have hn1_2 : w1.heap.size < w2.heap.size := by omega
      clear ho1
      go_wp2
      go_returns
      exact ⟨rfl, hq2⟩
    · obtain rfl : true = v := by rw [← HV.out, spanOk, h1, S.el, S.em]; simp; omega
      obtain ⟨hcat0, h10⟩ := sel_in (and_l h1) S.el S.em
      rw [S.eZ] at hcat0
      have H1 := hide h1; have HC := hide hcat0
      clear h1 hcat0
      obtain ⟨f, hf⟩ : ∃ f : Nat → Int, f = fun i => Z i 0 := ⟨_, rfl⟩
      have hfe : ∀ i, Z i 0 = f i := fun i => by rw [hf]
      have htk : tkS X s n = f := by rw [hf]; funext i; simp only [tkS]; rw [S.el, S.eZ]
      have HF := hide hfe
      have e1 : f (quB f m - 1) = r1 := by have := HR1.out; simp only [onlyI, if_true, spanA] at this; rw [htk, S.el, S.em] at this; exact this
      have e2 : f (quB f m) = r2 := by have := HR2.out; simp only [onlyI, if_true, spanB] at this; rw [htk, S.el, S.em] at this; exact this
      have E1 := hide e1; have E2 := hide e2
      clear hf hfe htk e1 e2
      go_enter Try.func61, Try.ntmps61
      go_wp2_with fail
      refine (spec_fromS S _ hn ha).mono ?_
      rintro e w1 ⟨v1, rfl, hb1, ho1⟩
      obtain ⟨A1, c1, rfl, hc1, ha1⟩ := ho1.arr
      obtain ⟨qc1, qf1⟩ := bcell hb1
      have hz1 := hb1.size
      have hq1 : Below w.heap.size w w1 := hb1
      go_wp2_with fail
      refine (spec_sized _ _ _ X _ _ H1.out _ hn (ha.on hq1)).mono ?_
      rintro e w2 ⟨rfl, hb2⟩
      obtain ⟨qc2, qf2⟩ := bcell hb2
      have hz2 := hb2.size
      try simp only [World.size_alloc, World.size_setCell, World.size_drew] at hz2
      have hq2 : Below w.heap.size w w2 := below_call (by go_grown) hb2
      try have hl0_2 : w.heap.size < w2.heap.size := by omega
      try have hl1_2 : w.heap.size + 1 < w2.heap.size := by omega
      try have hl2_2 : w.heap.size + 2 < w2.heap.size := by omega
      try have hl3_2 : w.heap.size + 3 < w2.heap.size := by omega
      try have hn1_2 : w1.heap.size < w2.heap.size := by omega
      have ha2 := ha1.on hb2
      clear ho1 qc1 qf1 qc2 qf2 ha ha1

      go_wp2
      go_loopw [8, 9] (fun b i wr => ∃ k y : Nat, 1 ≤ k ∧ k + 1 ≤ m ∧ y + 1 ≤ k ∧ i = .int .i64 ((k : Int) + 1) ∧ b = .int .i64 ((y : Int) + 1) ∧ y + 1 = quB f (k + 1) ∧ Below w2.heap.size w2 wr) (fun _ i _ => m - (intOf i).toNat)
      case atStart => exact ⟨1, 0, by omega, by omega, by omega, rfl, rfl, by rw [(quB_two f).2], Below.refl _ _⟩
      case round =>
        obtain ⟨k, y, hk1, hkm, hyk, rfl, rfl, hy, hb⟩ := hrel
        have HY := hide hy
        clear hy
        obtain ⟨b, off, rfl, hbb, hc⟩ := ha2 (by omega)
        obtain ⟨q1, q2⟩ := bcell hb
        have d2 := hc (y + 1) 0 (by omega) (by omega); have d3 := hc y 0 (by omega) (by omega)
        obtain ⟨u2, t2, _⟩ := HC.out (y + 1) (by omega); obtain ⟨u3, t3, _⟩ := HC.out y (by omega)
        simp only [Nat.add_zero, iv, HF.out] at d2 d3 u2 t2 u3 t3
        have hbl : b < wr.heap.size := by have := hb.size; omega
        have hx := BW.cell (w := wr)
        by_cases hlt : k + 1 < m
        · have d0 := hc (k + 1) 0 hlt (by omega); have d1 := hc k 0 (by omega) (by omega)
          obtain ⟨u0, t0, _⟩ := HC.out (k + 1) (by omega); obtain ⟨u1, t1, _⟩ := HC.out k (by omega)
          simp only [Nat.add_zero, iv, HF.out] at d0 d1 u0 t0 u1 t1
          have hn1 : ((k : Int) + 1).toNat = k + 1 := by omega
          have hn2 : ((y : Int) + 1).toNat = y + 1 := by omega
          have hw0 : IntKind.i64.wrap ((k : Int) + 1 - 1) = (k : Int) := by rw [IntWalk.i64_in _ (by omega)]; omega
          have hw1 : IntKind.i64.wrap ((y : Int) + 1 - 1) = (y : Int) := by rw [IntWalk.i64_in _ (by omega)]; omega
          have hw2 : IntKind.i64.wrap (f (k + 1) - f k) = f (k + 1) - f k := IntWalk.i64_in _ (by omega)
          have hw3 : IntKind.i64.wrap (f (y + 1) - f y) = f (y + 1) - f y := IntWalk.i64_in _ (by omega)
          have hlt' : (k : Int) + 1 < (m : Int) := by omega
          have hlt2 : (y : Int) + 1 < (m : Int) := by omega
          have hlt3 : (k : Int) < (m : Int) := by omega
          have hlt4 : (y : Int) < (m : Int) := by omega
          clear hc ha2
          by_cases hg : f (y + 1) - f y < f (k + 1) - f k
          · have hqe := quB_yes HY.out hg
            have HQ := hide hqe
            clear hqe
            go_wp2
            refine wp_region_bw (by kernel_rfl) (by kernel_rfl) ?_
            repeat (go_big_quiet_step (fail))
            refine wpQuiet_end fun w1' hb1' => ?_
            clear hx hw0 hw1 hw2 hw3 hn1 hn2
            go_wp2
            go_roundw
            case rel => exact ⟨k + 1, k, by omega, by omega, by omega, by go_num, rfl, HQ.out, hb.trans (hb1'.mono hb.size)⟩
            case measure => simp [intOf]; omega
          · have hqe := quB_no HY.out hg
            have HQ := hide hqe
            clear hqe
            go_wp2
            refine wp_region_bw (by kernel_rfl) (by kernel_rfl) ?_
            repeat (go_big_quiet_step (fail))
            refine wpQuiet_end fun w1' hb1' => ?_
            clear hx hw0 hw1 hw2 hw3 hn1 hn2
            go_wp2
            go_roundw
            case rel => exact ⟨k + 1, y, by omega, by omega, by omega, by go_num, rfl, HQ.out, hb.trans (hb1'.mono hb.size)⟩
            case measure => simp [intOf]; omega
        · obtain rfl : k + 1 = m := by omega
          obtain rfl : f y = r1 := by rw [← E1.out, ← HY.out]; rfl
          obtain rfl : f (y + 1) = r2 := by rw [← E2.out, ← HY.out]
          have hn2 : ((y : Int) + 1).toNat = y + 1 := by omega
          have hw1 : IntKind.i64.wrap ((y : Int) + 1 - 1) = (y : Int) := by rw [IntWalk.i64_in _ (by omega)]; omega
          have hlt2 : (y : Int) + 1 < (((k + 1 : Nat)) : Int) := by omega
          have hlt4 : (y : Int) < (((k + 1 : Nat)) : Int) := by omega
          clear hc ha2
          go_wp2
          refine wp_region_bw (by kernel_rfl) (by kernel_rfl) ?_
          repeat (go_big_quiet_step (fail))
          refine wpQuiet_end fun w1' hb1' => ?_
          clear hx hw1 hn2
          go_wp2
          go_returns
          exact ⟨rfl, hq2.trans ((hb.trans (hb1'.mono hb.size)).mono hq2.size)⟩
set_option maxHeartbeats 2000000 in
set_option maxRecDepth 100000 in
theorem impl_span (A : Option Addr) (n c : Nat) (X : Nat → Nat → Int) (s : Int) (v : Bool) (hv : spanOk X s n = v) (r1 r2 : Int) (hr1 : onlyI v (spanA X s n) = r1) (hr2 : onlyI v (spanB X s n) = r2) (w : World) (hn : n ≤ 1048576) (ha : Arr w w.heap.size A n 4 (iv X)) :
    Calls Try.prog 60 #[.slice A n c, .int .i64 s] w fun e w' => e = .returned (.tuple #[.int .i64 r1, .int .i64 r2, .bool v]) ∧ Below w.heap.size w w' := by
  obtain ⟨l, m, Z, S⟩ := Sel.ex X s n
  have HV := hide hv; have HR1 := hide hr1; have HR2 := hide hr2
  clear hv hr1 hr2
  cases h1 : (catB n X && inB s (-20) 95)
  · obtain rfl : false = v := by rw [← HV.out, spanOk, h1]; rfl
    obtain rfl : 0 = r1 := HR1.out
    obtain rfl : 0 = r2 := HR2.out
    have H1 := hide h1
    clear h1
    go_enter Try.func60, Try.ntmps60
    go_wp2_with fail
    refine (impl_largerS S _ hn ha).mono ?_
    rintro e w1 ⟨v1, rfl, hb1, ho1⟩
    obtain ⟨A1, c1, rfl, hc1, ha1⟩ := ho1.arr
    obtain ⟨qc1, qf1⟩ := bcell hb1
    have hz1 := hb1.size
    have hq1 : Below w.heap.size w w1 := hb1
    go_wp2_with fail
    refine (impl_sized _ _ _ X _ _ H1.out _ hn (ha.on hq1)).mono ?_
    rintro e w2 ⟨rfl, hb2⟩
    obtain ⟨qc2, qf2⟩ := bcell hb2
    have hz2 := hb2.size
    try simp only [World.size_alloc, World.size_setCell, World.size_drew] at hz2
    have hq2 : Below w.heap.size w w2 := below_call (by go_grown) hb2
    try have hl0_2 : w.heap.size < w2.heap.size := by omega
    try have hl1_2 : w.heap.size + 1 < w2.heap.size := by omega
    try have hl2_2 : w.heap.size + 2 < w2.heap.size := by omega
    try have hl3_2 : w.heap.size + 3 < w2.heap.size := by omega
    try have hn1_2 : w1.heap.size < w2.heap.size := by omega
    clear ho1
    go_wp2
    go_returns
    exact ⟨rfl, hq2⟩
  · by_cases hm2 : (m : Int) < 2
    · obtain rfl : false = v := by rw [← HV.out, spanOk, h1, S.el, S.em]; simp; omega
      obtain rfl : 0 = r1 := HR1.out
      obtain rfl : 0 = r2 := HR2.out
      have H1 := hide h1
      clear h1
      go_enter Try.func60, Try.ntmps60
      go_wp2_with fail
      refine (impl_largerS S _ hn ha).mono ?_
      rintro e w1 ⟨v1, rfl, hb1, ho1⟩
      obtain ⟨A1, c1, rfl, hc1, ha1⟩ := ho1.arr
      obtain ⟨qc1, qf1⟩ := bcell hb1
      have hz1 := hb1.size
      have hq1 : Below w.heap.size w w1 := hb1
      go_wp2_with fail
      refine (impl_sized _ _ _ X _ _ H1.out _ hn (ha.on hq1)).mono ?_
      rintro e w2 ⟨rfl, hb2⟩
      obtain ⟨qc2, qf2⟩ := bcell hb2
      have hz2 := hb2.size
      try simp only [World.size_alloc, World.size_setCell, World.size_drew] at hz2
      have hq2 : Below w.heap.size w w2 := below_call (by go_grown) hb2
      try have hl0_2 : w.heap.size < w2.heap.size := by omega
      try have hl1_2 : w.heap.size + 1 < w2.heap.size := by omega
      try have hl2_2 : w.heap.size + 2 < w2.heap.size := by omega
      try have hl3_2 : w.heap.size + 3 < w2.heap.size := by omega
      try have hn1_2 : w1.heap.size < w2.heap.size := by omega
      clear ho1
      go_wp2
      go_returns
      exact ⟨rfl, hq2⟩
    · obtain rfl : true = v := by rw [← HV.out, spanOk, h1, S.el, S.em]; simp; omega
      obtain ⟨hcat0, h10⟩ := sel_in (and_l h1) S.el S.em
      rw [S.eZ] at hcat0
      have H1 := hide h1; have HC := hide hcat0
      clear h1 hcat0
      obtain ⟨f, hf⟩ : ∃ f : Nat → Int, f = fun i => Z i 0 := ⟨_, rfl⟩
      have hfe : ∀ i, Z i 0 = f i := fun i => by rw [hf]
      have htk : tkS X s n = f := by rw [hf]; funext i; simp only [tkS]; rw [S.el, S.eZ]
      have HF := hide hfe
      have e1 : f (quB f m - 1) = r1 := by have := HR1.out; simp only [onlyI, if_true, spanA] at this; rw [htk, S.el, S.em] at this; exact this
      have e2 : f (quB f m) = r2 := by have := HR2.out; simp only [onlyI, if_true, spanB] at this; rw [htk, S.el, S.em] at this; exact this
      have E1 := hide e1; have E2 := hide e2
      clear hf hfe htk e1 e2
      go_enter Try.func60, Try.ntmps60
      go_wp2_with fail
      refine (impl_largerS S _ hn ha).mono ?_
      rintro e w1 ⟨v1, rfl, hb1, ho1⟩
      obtain ⟨A1, c1, rfl, hc1, ha1⟩ := ho1.arr
      obtain ⟨qc1, qf1⟩ := bcell hb1
      have hz1 := hb1.size
      have hq1 : Below w.heap.size w w1 := hb1
      go_wp2_with fail
      refine (impl_sized _ _ _ X _ _ H1.out _ hn (ha.on hq1)).mono ?_
      rintro e w2 ⟨rfl, hb2⟩
      obtain ⟨qc2, qf2⟩ := bcell hb2
      have hz2 := hb2.size
      try simp only [World.size_alloc, World.size_setCell, World.size_drew] at hz2
      have hq2 : Below w.heap.size w w2 := below_call (by go_grown) hb2
      try have hl0_2 : w.heap.size < w2.heap.size := by omega
      try have hl1_2 : w.heap.size + 1 < w2.heap.size := by omega
      try have hl2_2 : w.heap.size + 2 < w2.heap.size := by omega
      try have hl3_2 : w.heap.size + 3 < w2.heap.size := by omega
      try have hn1_2 : w1.heap.size < w2.heap.size := by omega
      have ha2 := ha1.on hb2
      clear ho1 qc1 qf1 qc2 qf2 ha ha1

      obtain ⟨b, off, rfl, hbb, hc⟩ := ha2 (by omega)
      have HCC := hide hc
      have s0 := hc 0 0 (by omega) (by omega); have s1 := hc 1 0 (by omega) (by omega)
      simp only [Nat.add_zero, iv, HF.out, Nat.zero_mul, Nat.one_mul] at s0 s1
      have hx := BW.cell (w := w2)
      have hm0 : (0 : Int) < (m : Int) := by omega
      have hm1 : (1 : Int) < (m : Int) := by omega
      clear hc ha2
      go_wp2
      refine wp_region_bw (by kernel_rfl) (by kernel_rfl) ?_
      repeat (go_big_quiet_step (fail))
      refine wpQuiet_end fun w3 hb3 => ?_
      clear hx
      have hbb1 : b < w3.heap.size := by have := hb3.size; omega
      have s0' := (hb3.cell (p := ⟨b, off, none⟩) hbb).trans s0
      clear s0 s1 s0'
      go_wp2
      go_loopw [8, 9, 10] (fun x0 x1 i wr => ∃ k y : Nat, k + 1 ≤ m ∧ (y + 1 ≤ k ∨ y = 0) ∧ i = .int .i64 ((k : Int) + 1) ∧ x0 = .int .i64 (f y) ∧ x1 = .int .i64 (f (y + 1)) ∧ y + 1 = quB f (k + 1) ∧ Below w3.heap.size w3 wr) (fun _ _ i _ => m - (intOf i).toNat)
      case atStart => exact ⟨0, 0, by omega, .inr rfl, rfl, rfl, rfl, by rw [(quB_two f).1], Below.refl _ _⟩
      case round =>
        obtain ⟨k, y, hkm, hyk, rfl, rfl, rfl, hy, hb⟩ := hrel
        have HY := hide hy
        clear hy
        have hcx : ∀ o, wr.cell? ⟨b, o, none⟩ = w2.cell? ⟨b, o, none⟩ := fun o => (hb.cell (p := ⟨b, o, none⟩) hbb1).trans (hb3.cell (p := ⟨b, o, none⟩) hbb)
        obtain ⟨u2, t2, _⟩ := HC.out (y + 1) (by omega); obtain ⟨u3, t3, _⟩ := HC.out y (by omega)
        simp only [HF.out] at u2 t2 u3 t3
        have hbl : b < wr.heap.size := by have := hb.size; omega
        by_cases hlt : k + 1 < m
        · have d0 := (hcx _).trans (HCC.out (k + 1) 0 hlt (by omega)); have d1 := (hcx _).trans (HCC.out k 0 (by omega) (by omega))
          obtain ⟨u0, t0, _⟩ := HC.out (k + 1) (by omega); obtain ⟨u1, t1, _⟩ := HC.out k (by omega)
          simp only [Nat.add_zero, iv, HF.out] at d0 d1 u0 t0 u1 t1
          have hx := BW.cell (w := wr)
          have hn1 : ((k : Int) + 1).toNat = k + 1 := by omega
          have hw0 : IntKind.i64.wrap ((k : Int) + 1 - 1) = (k : Int) := by rw [IntWalk.i64_in _ (by omega)]; omega
          have hlt' : (k : Int) + 1 < (m : Int) := by omega
          have hlt3 : (k : Int) < (m : Int) := by omega
          clear hcx
          by_cases hg : f (y + 1) - f y < f (k + 1) - f k
          · have hqe := quB_yes HY.out hg
            have HQ := hide hqe
            clear hqe
            go_wp2
            refine wp_region_bw (by kernel_rfl) (by kernel_rfl) ?_
            repeat (go_big_quiet_step (fail))
            refine wpQuiet_end fun w1' hb1' => ?_
            clear hx hw0 hn1
            go_wp2
            go_roundw
            case rel => exact ⟨k + 1, k, by omega, by omega, by go_num, rfl, rfl, HQ.out, hb.trans (hb1'.mono hb.size)⟩
            case measure => simp [intOf]; omega
          · have hqe := quB_no HY.out hg
            have HQ := hide hqe
            clear hqe
            go_wp2
            refine wp_region_bw (by kernel_rfl) (by kernel_rfl) ?_
            repeat (go_big_quiet_step (fail))
            refine wpQuiet_end fun w1' hb1' => ?_
            clear hx hw0 hn1
            go_wp2
            go_roundw
            case rel => exact ⟨k + 1, y, by omega, by omega, by go_num, rfl, rfl, HQ.out, hb.trans (hb1'.mono hb.size)⟩
            case measure => simp [intOf]; omega
        · obtain rfl : k + 1 = m := by omega
          obtain rfl : f y = r1 := by rw [← E1.out, ← HY.out]; rfl
          obtain rfl : f (y + 1) = r2 := by rw [← E2.out, ← HY.out]
          clear hcx
          go_wp2
          go_returns
          exact ⟨rfl, hq2.trans ((hb3.trans (hb.mono hb3.size)).mono hq2.size)⟩
/-! the mean of sizes -/
def totZ (Z : Nat → Nat → Int) : Nat → Int
  | 0 => 0
  | k + 1 => totZ Z k + Z k 3
theorem totZ_bd {m : Nat} {Z : Nat → Nat → Int} (h : catIn m Z) : ∀ k, k ≤ m → -20 * (k : Int) ≤ totZ Z k ∧ totZ Z k ≤ 95 * k
  | 0, _ => by simp [totZ]
  | k + 1, hk => by
    have h1 := totZ_bd h k (by omega)
    have h2 := h k (by omega)
    simp only [totZ]; omega
def meanOk (X : Nat → Nat → Int) (s : Int) (n : Nat) : Bool := catB n X && inB s (-20) 95 && decide (0 < (selL (szP X s) n).length)
def meanT (X : Nat → Nat → Int) (s : Int) (n : Nat) : Int := totZ (selX X (selL (szP X s) n)) (selL (szP X s) n).length
def meanA (X : Nat → Nat → Int) (s : Int) (n : Nat) : Int := (meanT X s n).tdiv (fracG (meanT X s n) (selL (szP X s) n).length)
def meanB (X : Nat → Nat → Int) (s : Int) (n : Nat) : Int := ((selL (szP X s) n).length : Int) / fracG (meanT X s n) (selL (szP X s) n).length
set_option maxHeartbeats 2000000 in
set_option maxRecDepth 100000 in
theorem spec_meanS (A : Option Addr) (n c : Nat) (X : Nat → Nat → Int) (s : Int) (v : Bool) (hv : meanOk X s n = v) (r1 r2 : Int) (hr1 : onlyI v (meanA X s n) = r1) (hr2 : onlyI v (meanB X s n) = r2) (w : World) (hn : n ≤ 1048576) (ha : Arr w w.heap.size A n 4 (iv X)) :
    Calls Try.prog 75 #[.slice A n c, .int .i64 s] w fun e w' => e = .returned (.tuple #[.int .i64 r1, .int .i64 r2, .bool v]) ∧ Below w.heap.size w w' := by
  obtain ⟨l, m, Z, S⟩ := Sel.ex X s n
  have HV := hide hv; have HR1 := hide hr1; have HR2 := hide hr2
  clear hv hr1 hr2
  have hmn := S.le
  cases h1 : (catB n X && inB s (-20) 95)
  · obtain rfl : false = v := by rw [← HV.out, meanOk, h1]; rfl
    obtain rfl : 0 = r1 := HR1.out
    obtain rfl : 0 = r2 := HR2.out
    have H1 := hide h1
    clear h1
    go_enter Try.func75, Try.ntmps75
    go_wp2_with fail
    refine (spec_fromS S _ hn ha).mono ?_
    rintro e w1 ⟨v1, rfl, hb1, ho1⟩
    obtain ⟨A1, c1, rfl, hc1, ha1⟩ := ho1.arr
    obtain ⟨qc1, qf1⟩ := bcell hb1
    have hz1 := hb1.size
    have hq1 : Below w.heap.size w w1 := hb1
    go_wp2_with fail
    refine (spec_sized _ _ _ X _ _ H1.out _ hn (ha.on hq1)).mono ?_
    rintro e w2 ⟨rfl, hb2⟩
    obtain ⟨qc2, qf2⟩ := bcell hb2
    have hz2 := hb2.size
    try simp only [World.size_alloc, World.size_setCell, World.size_drew] at hz2
    have hq2 : Below w.heap.size w w2 := below_call (by go_grown) hb2
    try have hl0_2 : w.heap.size < w2.heap.size := by omega
    try have hl1_2 : w.heap.size + 1 < w2.heap.size := by omega
    try have hl2_2 : w.heap.size + 2 < w2.heap.size := by omega
    try have hl3_2 : w.heap.size + 3 < w2.heap.size := by omega
    try have hn1_2 : w1.heap.size < w2.heap.size := by omega
    clear ho1
    go_wp2
    go_returns
    exact ⟨rfl, hq2⟩
  · by_cases hm0 : m = 0
    · subst hm0
      obtain rfl : false = v := by rw [← HV.out, meanOk, h1, S.el, S.em]; rfl
      obtain rfl : 0 = r1 := HR1.out
      obtain rfl : 0 = r2 := HR2.out
      have H1 := hide h1
      clear h1
      go_enter Try.func75, Try.ntmps75
      go_wp2_with fail
      refine (spec_fromS S _ hn ha).mono ?_
      rintro e w1 ⟨v1, rfl, hb1, ho1⟩
      obtain ⟨A1, c1, rfl, hc1, ha1⟩ := ho1.arr
      obtain ⟨qc1, qf1⟩ := bcell hb1
      have hz1 := hb1.size
      have hq1 : Below w.heap.size w w1 := hb1
      go_wp2_with fail
      refine (spec_sized _ _ _ X _ _ H1.out _ hn (ha.on hq1)).mono ?_
      rintro e w2 ⟨rfl, hb2⟩
      obtain ⟨qc2, qf2⟩ := bcell hb2
      have hz2 := hb2.size
      try simp only [World.size_alloc, World.size_setCell, World.size_drew] at hz2
      have hq2 : Below w.heap.size w w2 := below_call (by go_grown) hb2
      try have hl0_2 : w.heap.size < w2.heap.size := by omega
      try have hl1_2 : w.heap.size + 1 < w2.heap.size := by omega
      try have hl2_2 : w.heap.size + 2 < w2.heap.size := by omega
      try have hl3_2 : w.heap.size + 3 < w2.heap.size := by omega
      try have hn1_2 : w1.heap.size < w2.heap.size := by omega
      clear ho1
      go_wp2
      go_returns
      exact ⟨rfl, hq2⟩
    · obtain rfl : true = v := by rw [← HV.out, meanOk, h1, S.el, S.em]; simp; omega
      obtain ⟨hcat0, h10⟩ := sel_in (and_l h1) S.el S.em
      rw [S.eZ] at hcat0
      have H1 := hide h1; have HC := hide hcat0
      have hmz : ((m : Int) == 0) = false := by simp; omega
      have hms : meanT X s n = totZ Z m := by rw [meanT, S.el, S.em, S.eZ]
      have e1 : (totZ Z m).tdiv (fracG (totZ Z m) m) = r1 := by have := HR1.out; simp only [onlyI, if_true, meanA] at this; rw [hms, S.el, S.em] at this; exact this
      have e2 : (m : Int) / (fracG (totZ Z m) m) = r2 := by have := HR2.out; simp only [onlyI, if_true, meanB] at this; rw [hms, S.el, S.em] at this; exact this
      have E1 := hide e1; have E2 := hide e2
      clear h1 hcat0 hms e1 e2
      go_enter Try.func75, Try.ntmps75
      go_wp2_with fail
      refine (spec_fromS S _ hn ha).mono ?_
      rintro e w1 ⟨v1, rfl, hb1, ho1⟩
      obtain ⟨A1, c1, rfl, hc1, ha1⟩ := ho1.arr
      obtain ⟨qc1, qf1⟩ := bcell hb1
      have hz1 := hb1.size
      have hq1 : Below w.heap.size w w1 := hb1
      go_wp2_with fail
      refine (spec_sized _ _ _ X _ _ H1.out _ hn (ha.on hq1)).mono ?_
      rintro e w2 ⟨rfl, hb2⟩
      obtain ⟨qc2, qf2⟩ := bcell hb2
      have hz2 := hb2.size
      try simp only [World.size_alloc, World.size_setCell, World.size_drew] at hz2
      have hq2 : Below w.heap.size w w2 := below_call (by go_grown) hb2
      try have hl0_2 : w.heap.size < w2.heap.size := by omega
      try have hl1_2 : w.heap.size + 1 < w2.heap.size := by omega
      try have hl2_2 : w.heap.size + 2 < w2.heap.size := by omega
      try have hl3_2 : w.heap.size + 3 < w2.heap.size := by omega
      try have hn1_2 : w1.heap.size < w2.heap.size := by omega
      have ha2 := ha1.on hb2
      clear ho1 qc1 qf1 qc2 qf2 ha ha1
      go_wp2
      clear hmz
      go_loop [8, 9] (fun t i => ∃ (k : Nat) (z : Int), k ≤ m ∧ i = .int .i64 k ∧ t = .int .i64 z ∧ z = totZ Z k) (fun _ i => m - (intOf i).toNat)
      case atStart => exact ⟨0, 0, Nat.zero_le _, rfl, rfl, rfl⟩
      case round =>
        obtain ⟨k, z, hk, rfl, rfl, hz⟩ := hrel
        obtain ⟨z1, z2⟩ := totZ_bd HC.out k hk
        rw [← hz] at z1 z2
        have HZ := hide hz
        clear hz
        by_cases hlt : k < m
        · obtain ⟨b, off, rfl, hbb, hc⟩ := ha2 (by omega)
          have c3 := hc k 3 hlt (by omega)
          simp only [iv] at c3
          obtain ⟨_, _, _, _, _, _, s1, s2⟩ := HC.out k hlt
          clear hc ha2
          go_wp2
          go_round
          case rel => exact ⟨k + 1, _, by omega, by go_num, rfl, by rw [totZ, HZ.out]⟩
          case measure => simp [intOf]; omega
        · obtain rfl : k = m := by omega
          have hfr : fracG z k = fracG (totZ Z k) k := by rw [HZ.out]
          have HFR := hide hfr
          clear hfr
          obtain rfl : z.tdiv (fracG z k) = r1 := by rw [← E1.out, HFR.out, HZ.out]
          obtain rfl : (k : Int) / (fracG z k) = r2 := by rw [← E2.out, HFR.out]
          go_wp2_with fail
          refine (spec_reduce z k _ rfl (by omega) (by omega) (by omega) (by omega) _).mono ?_
          rintro e w3 ⟨rfl, hb3⟩
          go_wp2
          go_returns
          exact ⟨rfl, below_call hq2 hb3⟩
set_option maxHeartbeats 2000000 in
set_option maxRecDepth 100000 in
theorem impl_meanS (A : Option Addr) (n c : Nat) (X : Nat → Nat → Int) (s : Int) (v : Bool) (hv : meanOk X s n = v) (r1 r2 : Int) (hr1 : onlyI v (meanA X s n) = r1) (hr2 : onlyI v (meanB X s n) = r2) (w : World) (hn : n ≤ 1048576) (ha : Arr w w.heap.size A n 4 (iv X)) :
    Calls Try.prog 74 #[.slice A n c, .int .i64 s] w fun e w' => e = .returned (.tuple #[.int .i64 r1, .int .i64 r2, .bool v]) ∧ Below w.heap.size w w' := by
  obtain ⟨l, m, Z, S⟩ := Sel.ex X s n
  have HV := hide hv; have HR1 := hide hr1; have HR2 := hide hr2
  clear hv hr1 hr2
  have hmn := S.le
  cases h1 : (catB n X && inB s (-20) 95)
  · obtain rfl : false = v := by rw [← HV.out, meanOk, h1]; rfl
    obtain rfl : 0 = r1 := HR1.out
    obtain rfl : 0 = r2 := HR2.out
    have H1 := hide h1
    clear h1
    go_enter Try.func74, Try.ntmps74
    go_wp2_with fail
    refine (impl_largerS S _ hn ha).mono ?_
    rintro e w1 ⟨v1, rfl, hb1, ho1⟩
    obtain ⟨A1, c1, rfl, hc1, ha1⟩ := ho1.arr
    obtain ⟨qc1, qf1⟩ := bcell hb1
    have hz1 := hb1.size
    have hq1 : Below w.heap.size w w1 := hb1
    clear ho1
    go_wp2
    go_loopw [8, 18] (fun t i wr => ∃ (k : Nat) (z : Int), k ≤ m ∧ i = .int .i64 k ∧ t = .int .i64 z ∧ Below w1.heap.size w1 wr) (fun _ i _ => m - (intOf i).toNat)
    case atStart => exact ⟨0, 0, Nat.zero_le _, rfl, rfl, Below.refl _ _⟩
    case round =>
      obtain ⟨k, z, hk, rfl, rfl, hb⟩ := hrel
      by_cases hlt : k < m
      · obtain ⟨b, off, rfl, hbb, hc⟩ := ha1 (by omega)
        obtain ⟨q1, q2⟩ := bcell hb
        have c0 := hc k 0 hlt (by omega); have c1' := hc k 1 hlt (by omega); have c2 := hc k 2 hlt (by omega); have c3 := hc k 3 hlt (by omega)
        simp only [Nat.add_zero, iv] at c0 c1' c2 c3
        clear hc ha1
        go_wp2
        go_roundw
        case rel => exact ⟨k + 1, _, by omega, by go_num, rfl, below_al hb⟩
        case measure => simp [intOf]; omega
      · have hqr : Below w.heap.size w wr := hq1.trans (hb.mono hq1.size)
        clear qc1 qf1
        go_wp2_with fail
        refine (impl_sized _ _ _ X _ _ H1.out _ hn (ha.on hqr)).mono ?_
        rintro e w2 ⟨rfl, hb2⟩
        go_wp2
        go_returns
        exact ⟨rfl, below_call hqr hb2⟩
  · by_cases hm0 : m = 0
    · subst hm0
      obtain rfl : false = v := by rw [← HV.out, meanOk, h1, S.el, S.em]; rfl
      obtain rfl : 0 = r1 := HR1.out
      obtain rfl : 0 = r2 := HR2.out
      have H1 := hide h1
      clear h1
      go_enter Try.func74, Try.ntmps74
      go_wp2_with fail
      refine (impl_largerS S _ hn ha).mono ?_
      rintro e w1 ⟨v1, rfl, hb1, ho1⟩
      obtain ⟨A1, c1, rfl, hc1, ha1⟩ := ho1.arr
      obtain ⟨qc1, qf1⟩ := bcell hb1
      have hz1 := hb1.size
      have hq1 : Below w.heap.size w w1 := hb1
      clear ho1 ha1
      go_wp2
      go_loop [8, 18] (fun t i => i = .int .i64 0 ∧ t = .int .i64 0) (fun _ _ => 0)
      case atStart => exact ⟨rfl, rfl⟩
      case round =>
        obtain ⟨rfl, rfl⟩ := hrel
        go_wp2_with fail
        refine (impl_sized _ _ _ X _ _ H1.out _ hn (ha.on hq1)).mono ?_
        rintro e w2 ⟨rfl, hb2⟩
        go_wp2
        go_returns
        exact ⟨rfl, below_call hq1 hb2⟩
    · obtain rfl : true = v := by rw [← HV.out, meanOk, h1, S.el, S.em]; simp; omega
      obtain ⟨hcat0, h10⟩ := sel_in (and_l h1) S.el S.em
      rw [S.eZ] at hcat0
      have H1 := hide h1; have HC := hide hcat0
      have hmz : ((m : Int) == 0) = false := by simp; omega
      have hms : meanT X s n = totZ Z m := by rw [meanT, S.el, S.em, S.eZ]
      have e1 : (totZ Z m).tdiv (fracG (totZ Z m) m) = r1 := by have := HR1.out; simp only [onlyI, if_true, meanA] at this; rw [hms, S.el, S.em] at this; exact this
      have e2 : (m : Int) / (fracG (totZ Z m) m) = r2 := by have := HR2.out; simp only [onlyI, if_true, meanB] at this; rw [hms, S.el, S.em] at this; exact this
      have E1 := hide e1; have E2 := hide e2
      clear h1 hcat0 hms e1 e2
      go_enter Try.func74, Try.ntmps74
      go_wp2_with fail
      refine (impl_largerS S _ hn ha).mono ?_
      rintro e w1 ⟨v1, rfl, hb1, ho1⟩
      obtain ⟨A1, c1, rfl, hc1, ha1⟩ := ho1.arr
      obtain ⟨qc1, qf1⟩ := bcell hb1
      have hz1 := hb1.size
      have hq1 : Below w.heap.size w w1 := hb1
      clear ho1 qc1 qf1
      go_wp2
      go_loopw [8, 18] (fun t i wr => ∃ (k : Nat) (z : Int), k ≤ m ∧ i = .int .i64 k ∧ t = .int .i64 z ∧ z = totZ Z k ∧ Below w1.heap.size w1 wr) (fun _ i _ => m - (intOf i).toNat)
      case atStart => exact ⟨0, 0, Nat.zero_le _, rfl, rfl, rfl, Below.refl _ _⟩
      case round =>
        obtain ⟨k, z, hk, rfl, rfl, hz, hb⟩ := hrel
        obtain ⟨z1, z2⟩ := totZ_bd HC.out k hk
        rw [← hz] at z1 z2
        have HZ := hide hz
        clear hz
        by_cases hlt : k < m
        · obtain ⟨b, off, rfl, hbb, hc⟩ := ha1 (by omega)
          obtain ⟨q1, q2⟩ := bcell hb
          have c0 := hc k 0 hlt (by omega); have c1' := hc k 1 hlt (by omega); have c2 := hc k 2 hlt (by omega); have c3 := hc k 3 hlt (by omega)
          simp only [Nat.add_zero, iv] at c0 c1' c2 c3
          obtain ⟨_, _, _, _, _, _, s1, s2⟩ := HC.out k hlt
          clear hc ha1
          go_wp2
          go_roundw
          case rel => exact ⟨k + 1, _, by omega, by go_num, rfl, by rw [totZ, HZ.out], below_al hb⟩
          case measure => simp [intOf]; omega
        · obtain rfl : k = m := by omega
          have hqr : Below w.heap.size w wr := hq1.trans (hb.mono hq1.size)
          have hfr : fracG z k = fracG (totZ Z k) k := by rw [HZ.out]
          have HFR := hide hfr
          clear hfr
          obtain rfl : z.tdiv (fracG z k) = r1 := by rw [← E1.out, HFR.out, HZ.out]
          obtain rfl : (k : Int) / (fracG z k) = r2 := by rw [← E2.out, HFR.out]
          go_wp2_with fail
          refine (impl_sized _ _ _ X _ _ H1.out _ hn (ha.on hqr)).mono ?_
          rintro e w2 ⟨rfl, hb2⟩
          have hq2 : Below w.heap.size w w2 := below_call hqr hb2
          clear ha1
          go_wp2_with fail
          refine (impl_fraction z k _ rfl (by omega) (by omega) (by omega) (by omega) _).mono ?_
          rintro e w3 ⟨rfl, hb3⟩
          go_wp2
          go_returns
          exact ⟨rfl, below_call hq2 hb3⟩
/-! the rate -/
def inP (Z : Nat → Nat → Int) (f t : Int) (i : Nat) : Bool := inB (Z i 0) f t
theorem ask_in (n : Nat) (X : Nat → Nat → Int) (f t : Int) (bf bt : Nat) (w : World) (hbf : bf < w.heap.size) (hf : w.cell? ⟨bf, 0, none⟩ = some (.int .i64 f)) (hbt : bt < w.heap.size) (ht : w.cell? ⟨bt, 0, none⟩ = some (.int .i64 t)) :
    AskQR (.pointer (some ⟨bf, 0, none⟩)) (.pointer (some ⟨bt, 0, none⟩)) n X (inP X f t) w := by
  intro k hk wr hb
  have hf' := (hb.cell (p := ⟨bf, 0, none⟩) hbf).trans hf
  have ht' := (hb.cell (p := ⟨bt, 0, none⟩) hbt).trans ht
  have hbl : bf < wr.heap.size := by have := hb.size; omega
  have hbl2 : bt < wr.heap.size := by have := hb.size; omega
  obtain ⟨v, hv⟩ : ∃ v, inP X f t k = v := ⟨_, rfl⟩
  have HV := hide hv
  rw [hv]
  clear hf ht hv
  go_enter Try.func105, Try.ntmps105
  go_wp2_with fail
  refine (impl_in _ _ _ _ HV.out _).mono ?_
  rintro e w1 ⟨rfl, rfl⟩
  go_wp2
  go_returns
  exact ⟨rfl, by go_grown⟩
def rateOk (X : Nat → Nat → Int) (s f t : Int) (n : Nat) : Bool := (catB n X && inB s (-20) 95) && inB f 0 1000000 && inB t 0 1000000 && decide (f ≤ t)
def rateN (X : Nat → Nat → Int) (s f t : Int) (n : Nat) : Nat := (selL (inP (selX X (selL (szP X s) n)) f t) (selL (szP X s) n).length).length
def rateA (X : Nat → Nat → Int) (s f t : Int) (n : Nat) : Int := (rateN X s f t n : Int).tdiv (fracG (rateN X s f t n) (t - f + 1))
def rateB (X : Nat → Nat → Int) (s f t : Int) (n : Nat) : Int := (t - f + 1) / (fracG (rateN X s f t n) (t - f + 1))
set_option maxHeartbeats 2000000 in
set_option maxRecDepth 100000 in
theorem spec_rate (A : Option Addr) (n c : Nat) (X : Nat → Nat → Int) (s : Int) (f t : Int) (v : Bool) (hv : rateOk X s f t n = v) (r1 r2 : Int) (hr1 : onlyI v (rateA X s f t n) = r1) (hr2 : onlyI v (rateB X s f t n) = r2) (w : World) (hn : n ≤ 1048576) (ha : Arr w w.heap.size A n 4 (iv X)) :
    Calls Try.prog 53 #[.slice A n c, .int .i64 s, .int .i64 f, .int .i64 t] w fun e w' => e = .returned (.tuple #[.int .i64 r1, .int .i64 r2, .bool v]) ∧ Below w.heap.size w w' := by
  obtain ⟨l, m, Z, S⟩ := Sel.ex X s n
  have HV := hide hv; have HR1 := hide hr1; have HR2 := hide hr2
  clear hv hr1 hr2
  have hmn := S.le
  cases h1 : (catB n X && inB s (-20) 95)
  · obtain rfl : false = v := by rw [← HV.out, rateOk]; simp only [h1]; rfl
    obtain rfl : 0 = r1 := HR1.out
    obtain rfl : 0 = r2 := HR2.out
    have H1 := hide h1
    clear h1
    skip
    skip
    go_enter Try.func53, Try.ntmps53
    go_wp2_with fail
    refine (spec_sized _ _ _ X _ _ H1.out _ hn ha).mono ?_
    rintro e w1 ⟨rfl, hb1⟩
    obtain ⟨qc1, qf1⟩ := bcell hb1
    have hz1 := hb1.size
    try simp only [World.size_alloc, World.size_setCell, World.size_drew] at hz1
    have hq1 : Below w.heap.size w w1 := below_call (by go_grown) hb1
    try have hl0_1 : w.heap.size < w1.heap.size := by omega
    try have hl1_1 : w.heap.size + 1 < w1.heap.size := by omega
    try have hl2_1 : w.heap.size + 2 < w1.heap.size := by omega
    try have hl3_1 : w.heap.size + 3 < w1.heap.size := by omega
    go_wp2
    go_returns
    exact ⟨rfl, hq1⟩
  · skip
    cases h2 : inB f 0 1000000
    · obtain rfl : false = v := by rw [← HV.out, rateOk]; simp only [h1, h2]; rfl
      obtain rfl : 0 = r1 := HR1.out
      obtain rfl : 0 = r2 := HR2.out
      have H1 := hide h1; have H2 := hide h2
      clear h1 h2
      skip
      skip
      go_enter Try.func53, Try.ntmps53
      go_wp2_with fail
      refine (spec_sized _ _ _ X _ _ H1.out _ hn ha).mono ?_
      rintro e w1 ⟨rfl, hb1⟩
      obtain ⟨qc1, qf1⟩ := bcell hb1
      have hz1 := hb1.size
      try simp only [World.size_alloc, World.size_setCell, World.size_drew] at hz1
      have hq1 : Below w.heap.size w w1 := below_call (by go_grown) hb1
      try have hl0_1 : w.heap.size < w1.heap.size := by omega
      try have hl1_1 : w.heap.size + 1 < w1.heap.size := by omega
      try have hl2_1 : w.heap.size + 2 < w1.heap.size := by omega
      try have hl3_1 : w.heap.size + 3 < w1.heap.size := by omega
      go_wp2_with fail
      refine (spec_tick _ _ H2.out _).mono ?_
      rintro e u2 ⟨rfl, rfl⟩
      go_wp2
      go_returns
      exact ⟨rfl, hq1⟩
    · skip
      cases h3 : inB t 0 1000000
      · obtain rfl : false = v := by rw [← HV.out, rateOk]; simp only [h1, h2, h3]; rfl
        obtain rfl : 0 = r1 := HR1.out
        obtain rfl : 0 = r2 := HR2.out
        have H1 := hide h1; have H2 := hide h2; have H3 := hide h3
        clear h1 h2 h3
        skip
        skip
        go_enter Try.func53, Try.ntmps53
        go_wp2_with fail
        refine (spec_sized _ _ _ X _ _ H1.out _ hn ha).mono ?_
        rintro e w1 ⟨rfl, hb1⟩
        obtain ⟨qc1, qf1⟩ := bcell hb1
        have hz1 := hb1.size
        try simp only [World.size_alloc, World.size_setCell, World.size_drew] at hz1
        have hq1 : Below w.heap.size w w1 := below_call (by go_grown) hb1
        try have hl0_1 : w.heap.size < w1.heap.size := by omega
        try have hl1_1 : w.heap.size + 1 < w1.heap.size := by omega
        try have hl2_1 : w.heap.size + 2 < w1.heap.size := by omega
        try have hl3_1 : w.heap.size + 3 < w1.heap.size := by omega
        go_wp2_with fail
        refine (spec_tick _ _ H2.out _).mono ?_
        rintro e u2 ⟨rfl, rfl⟩
        go_wp2_with fail
        refine (spec_tick _ _ H3.out _).mono ?_
        rintro e u3 ⟨rfl, rfl⟩
        go_wp2
        go_returns
        exact ⟨rfl, hq1⟩
      · skip
        cases h4 : decide (f ≤ t)
        · obtain rfl : false = v := by rw [← HV.out, rateOk]; simp only [h1, h2, h3, h4]; rfl
          obtain rfl : 0 = r1 := HR1.out
          obtain rfl : 0 = r2 := HR2.out
          have H1 := hide h1; have H2 := hide h2; have H3 := hide h3
          clear h1 h2 h3
          have h5 : t < f := by simpa using h4
          clear h4
          go_enter Try.func53, Try.ntmps53
          go_wp2_with fail
          refine (spec_sized _ _ _ X _ _ H1.out _ hn ha).mono ?_
          rintro e w1 ⟨rfl, hb1⟩
          obtain ⟨qc1, qf1⟩ := bcell hb1
          have hz1 := hb1.size
          try simp only [World.size_alloc, World.size_setCell, World.size_drew] at hz1
          have hq1 : Below w.heap.size w w1 := below_call (by go_grown) hb1
          try have hl0_1 : w.heap.size < w1.heap.size := by omega
          try have hl1_1 : w.heap.size + 1 < w1.heap.size := by omega
          try have hl2_1 : w.heap.size + 2 < w1.heap.size := by omega
          try have hl3_1 : w.heap.size + 3 < w1.heap.size := by omega
          go_wp2_with fail
          refine (spec_tick _ _ H2.out _).mono ?_
          rintro e u2 ⟨rfl, rfl⟩
          go_wp2_with fail
          refine (spec_tick _ _ H3.out _).mono ?_
          rintro e u3 ⟨rfl, rfl⟩
          go_wp2
          go_returns
          exact ⟨rfl, hq1⟩
        · skip
          obtain rfl : true = v := by rw [← HV.out, rateOk, h1, h2, h3, h4]; rfl
          obtain ⟨hcat0, h10⟩ := sel_in (and_l h1) S.el S.em
          rw [S.eZ] at hcat0
          have h5 : f ≤ t := by simpa using h4
          obtain ⟨f0, f1⟩ := inB_of h2
          obtain ⟨t0, t1⟩ := inB_of h3
          obtain ⟨N, hN⟩ : ∃ N, rateN X s f t n = N := ⟨_, rfl⟩
          have hN' : (selL (inP Z f t) m).length = N := by rw [← hN, rateN, S.el, S.em, S.eZ]
          have hNm : N ≤ m := by rw [← hN']; exact selL_len _ _
          have e1 : (N : Int).tdiv (fracG N (t - f + 1)) = r1 := by have := HR1.out; simp only [onlyI, if_true, rateA] at this; rw [hN] at this; exact this
          have e2 : (t - f + 1) / (fracG N (t - f + 1)) = r2 := by have := HR2.out; simp only [onlyI, if_true, rateB] at this; rw [hN] at this; exact this
          have H1 := hide h1; have H2 := hide h2; have H3 := hide h3; have HC := hide hcat0; have HN := hide hN'; have E1 := hide e1; have E2 := hide e2
          clear h1 h2 h3 h4 hcat0 hN' hN e1 e2
          go_enter Try.func53, Try.ntmps53
          go_wp2_with fail
          refine (spec_sized _ _ _ X _ _ H1.out _ hn ha).mono ?_
          rintro e w1 ⟨rfl, hb1⟩
          obtain ⟨qc1, qf1⟩ := bcell hb1
          have hz1 := hb1.size
          try simp only [World.size_alloc, World.size_setCell, World.size_drew] at hz1
          have hq1 : Below w.heap.size w w1 := below_call (by go_grown) hb1
          try have hl0_1 : w.heap.size < w1.heap.size := by omega
          try have hl1_1 : w.heap.size + 1 < w1.heap.size := by omega
          try have hl2_1 : w.heap.size + 2 < w1.heap.size := by omega
          try have hl3_1 : w.heap.size + 3 < w1.heap.size := by omega
          go_wp2_with fail
          refine (spec_tick _ _ H2.out _).mono ?_
          rintro e u2 ⟨rfl, rfl⟩
          go_wp2_with fail
          refine (spec_tick _ _ H3.out _).mono ?_
          rintro e u3 ⟨rfl, rfl⟩
          go_wp2_with fail
          refine (spec_fromS S _ hn (ha.on hq1)).mono ?_
          rintro e w2 ⟨v2, rfl, hb2, ho2⟩
          obtain ⟨A2, c2, rfl, hc2, ha2⟩ := ho2.arr
          obtain ⟨qc2, qf2⟩ := bcell hb2
          have hz2 := hb2.size
          have hq2 : Below w.heap.size w w2 := below_call hq1 hb2
          clear ho2 qc1 qf1 qc2 qf2 ha
          go_wp2
          go_loop [11, 13] (fun x i => ∃ k q : Nat, k ≤ m ∧ q ≤ k ∧ i = .int .i64 k ∧ x = .int .i64 q ∧ q = (selL (inP Z f t) k).length) (fun _ i => m - (intOf i).toNat)
          case atStart => exact ⟨0, 0, Nat.zero_le _, Nat.le_refl _, rfl, rfl, rfl⟩
          case round =>
            obtain ⟨k, q, hk, hqk, rfl, rfl, hq⟩ := hrel
            have HQ := hide hq
            clear hq
            by_cases hlt : k < m
            · obtain ⟨b, off, rfl, hbb, hc⟩ := ha2 (by omega)
              have c0 := hc k 0 hlt (by omega)
              simp only [Nat.add_zero, iv] at c0
              clear hc ha2
              cases hin : inP Z f t k
              · have hs := selL_no hin
                have HI := hide hin; have HS := hide hs
                clear hin hs
                go_wp2_with fail
                refine (spec_in _ _ _ _ HI.out _).mono ?_
                rintro e u ⟨rfl, rfl⟩
                go_wp2
                go_round
                case rel => exact ⟨k + 1, q, by omega, by omega, by go_num, rfl, by rw [HS.out]; exact HQ.out⟩
                case measure => simp [intOf]; omega
              · have hs := selL_yes hin
                have HI := hide hin; have HS := hide hs
                clear hin hs
                go_wp2_with fail
                refine (spec_in _ _ _ _ HI.out _).mono ?_
                rintro e u ⟨rfl, rfl⟩
                go_wp2
                go_round
                case rel => exact ⟨k + 1, q + 1, by omega, by omega, by go_num, by go_num, by rw [HS.out]; simp; exact HQ.out⟩
                case measure => simp [intOf]; omega
            · obtain rfl : k = m := by omega
              obtain rfl : q = N := by rw [← HN.out]; exact HQ.out
              obtain rfl := E1.out
              obtain rfl := E2.out
              clear ha2
              go_wp2_with fail
              refine (spec_reduce q (t - f + 1) _ rfl (by omega) (by omega) (by omega) (by omega) _).mono ?_
              rintro e w3 ⟨rfl, hb3⟩
              go_wp2
              go_returns
              exact ⟨rfl, below_call hq2 hb3⟩
set_option maxHeartbeats 2000000 in
set_option maxRecDepth 100000 in
theorem impl_rate (A : Option Addr) (n c : Nat) (X : Nat → Nat → Int) (s : Int) (f t : Int) (v : Bool) (hv : rateOk X s f t n = v) (r1 r2 : Int) (hr1 : onlyI v (rateA X s f t n) = r1) (hr2 : onlyI v (rateB X s f t n) = r2) (w : World) (hn : n ≤ 1048576) (ha : Arr w w.heap.size A n 4 (iv X)) :
    Calls Try.prog 52 #[.slice A n c, .int .i64 s, .int .i64 f, .int .i64 t] w fun e w' => e = .returned (.tuple #[.int .i64 r1, .int .i64 r2, .bool v]) ∧ Below w.heap.size w w' := by
  obtain ⟨l, m, Z, S⟩ := Sel.ex X s n
  have HV := hide hv; have HR1 := hide hr1; have HR2 := hide hr2
  clear hv hr1 hr2
  have hmn := S.le
  cases h1 : (catB n X && inB s (-20) 95)
  · obtain rfl : false = v := by rw [← HV.out, rateOk]; simp only [h1]; rfl
    obtain rfl : 0 = r1 := HR1.out
    obtain rfl : 0 = r2 := HR2.out
    have H1 := hide h1
    clear h1
    skip
    skip
    go_enter Try.func52, Try.ntmps52
    go_wp2_with fail
    refine (impl_sized _ _ _ X _ _ H1.out _ hn (ha.on (below_al (below_al (Below.refl _ _))))).mono ?_
    rintro e w1 ⟨rfl, hb1⟩
    obtain ⟨qc1, qf1⟩ := bcell hb1
    have hz1 := hb1.size
    try simp only [World.size_alloc, World.size_setCell, World.size_drew] at hz1
    have hq1 : Below w.heap.size w w1 := below_call (by go_grown) hb1
    try have hl0_1 : w.heap.size < w1.heap.size := by omega
    try have hl1_1 : w.heap.size + 1 < w1.heap.size := by omega
    try have hl2_1 : w.heap.size + 2 < w1.heap.size := by omega
    try have hl3_1 : w.heap.size + 3 < w1.heap.size := by omega
    go_wp2
    go_returns
    exact ⟨rfl, hq1⟩
  · skip
    cases h2 : inB f 0 1000000
    · obtain rfl : false = v := by rw [← HV.out, rateOk]; simp only [h1, h2]; rfl
      obtain rfl : 0 = r1 := HR1.out
      obtain rfl : 0 = r2 := HR2.out
      have H1 := hide h1; have H2 := hide h2
      clear h1 h2
      skip
      skip
      go_enter Try.func52, Try.ntmps52
      go_wp2_with fail
      refine (impl_sized _ _ _ X _ _ H1.out _ hn (ha.on (below_al (below_al (Below.refl _ _))))).mono ?_
      rintro e w1 ⟨rfl, hb1⟩
      obtain ⟨qc1, qf1⟩ := bcell hb1
      have hz1 := hb1.size
      try simp only [World.size_alloc, World.size_setCell, World.size_drew] at hz1
      have hq1 : Below w.heap.size w w1 := below_call (by go_grown) hb1
      try have hl0_1 : w.heap.size < w1.heap.size := by omega
      try have hl1_1 : w.heap.size + 1 < w1.heap.size := by omega
      try have hl2_1 : w.heap.size + 2 < w1.heap.size := by omega
      try have hl3_1 : w.heap.size + 3 < w1.heap.size := by omega
      go_wp2_with fail
      refine (impl_tick _ _ H2.out _).mono ?_
      rintro e u2 ⟨rfl, rfl⟩
      go_wp2
      go_returns
      exact ⟨rfl, hq1⟩
    · skip
      cases h3 : inB t 0 1000000
      · obtain rfl : false = v := by rw [← HV.out, rateOk]; simp only [h1, h2, h3]; rfl
        obtain rfl : 0 = r1 := HR1.out
        obtain rfl : 0 = r2 := HR2.out
        have H1 := hide h1; have H2 := hide h2; have H3 := hide h3
        clear h1 h2 h3
        skip
        skip
        go_enter Try.func52, Try.ntmps52
        go_wp2_with fail
        refine (impl_sized _ _ _ X _ _ H1.out _ hn (ha.on (below_al (below_al (Below.refl _ _))))).mono ?_
        rintro e w1 ⟨rfl, hb1⟩
        obtain ⟨qc1, qf1⟩ := bcell hb1
        have hz1 := hb1.size
        try simp only [World.size_alloc, World.size_setCell, World.size_drew] at hz1
        have hq1 : Below w.heap.size w w1 := below_call (by go_grown) hb1
        try have hl0_1 : w.heap.size < w1.heap.size := by omega
        try have hl1_1 : w.heap.size + 1 < w1.heap.size := by omega
        try have hl2_1 : w.heap.size + 2 < w1.heap.size := by omega
        try have hl3_1 : w.heap.size + 3 < w1.heap.size := by omega
        go_wp2_with fail
        refine (impl_tick _ _ H2.out _).mono ?_
        rintro e u2 ⟨rfl, rfl⟩
        go_wp2_with fail
        refine (impl_tick _ _ H3.out _).mono ?_
        rintro e u3 ⟨rfl, rfl⟩
        go_wp2
        go_returns
        exact ⟨rfl, hq1⟩
      · skip
        cases h4 : decide (f ≤ t)
        · obtain rfl : false = v := by rw [← HV.out, rateOk]; simp only [h1, h2, h3, h4]; rfl
          obtain rfl : 0 = r1 := HR1.out
          obtain rfl : 0 = r2 := HR2.out
          have H1 := hide h1; have H2 := hide h2; have H3 := hide h3
          clear h1 h2 h3
          have h5 : t < f := by simpa using h4
          clear h4
          go_enter Try.func52, Try.ntmps52
          go_wp2_with fail
          refine (impl_sized _ _ _ X _ _ H1.out _ hn (ha.on (below_al (below_al (Below.refl _ _))))).mono ?_
          rintro e w1 ⟨rfl, hb1⟩
          obtain ⟨qc1, qf1⟩ := bcell hb1
          have hz1 := hb1.size
          try simp only [World.size_alloc, World.size_setCell, World.size_drew] at hz1
          have hq1 : Below w.heap.size w w1 := below_call (by go_grown) hb1
          try have hl0_1 : w.heap.size < w1.heap.size := by omega
          try have hl1_1 : w.heap.size + 1 < w1.heap.size := by omega
          try have hl2_1 : w.heap.size + 2 < w1.heap.size := by omega
          try have hl3_1 : w.heap.size + 3 < w1.heap.size := by omega
          go_wp2_with fail
          refine (impl_tick _ _ H2.out _).mono ?_
          rintro e u2 ⟨rfl, rfl⟩
          go_wp2_with fail
          refine (impl_tick _ _ H3.out _).mono ?_
          rintro e u3 ⟨rfl, rfl⟩
          go_wp2
          go_returns
          exact ⟨rfl, hq1⟩
        · skip
          obtain rfl : true = v := by rw [← HV.out, rateOk, h1, h2, h3, h4]; rfl
          obtain ⟨hcat0, h10⟩ := sel_in (and_l h1) S.el S.em
          rw [S.eZ] at hcat0
          have h5 : f ≤ t := by simpa using h4
          obtain ⟨f0, f1⟩ := inB_of h2
          obtain ⟨t0, t1⟩ := inB_of h3
          obtain ⟨N, hN⟩ : ∃ N, rateN X s f t n = N := ⟨_, rfl⟩
          have hN' : (selL (inP Z f t) m).length = N := by rw [← hN, rateN, S.el, S.em, S.eZ]
          have hNm : N ≤ m := by rw [← hN']; exact selL_len _ _
          have e1 : (N : Int).tdiv (fracG N (t - f + 1)) = r1 := by have := HR1.out; simp only [onlyI, if_true, rateA] at this; rw [hN] at this; exact this
          have e2 : (t - f + 1) / (fracG N (t - f + 1)) = r2 := by have := HR2.out; simp only [onlyI, if_true, rateB] at this; rw [hN] at this; exact this
          have H1 := hide h1; have H2 := hide h2; have H3 := hide h3; have HC := hide hcat0; have HN := hide hN'; have E1 := hide e1; have E2 := hide e2
          clear h1 h2 h3 h4 hcat0 hN' hN e1 e2
          go_enter Try.func52, Try.ntmps52
          go_wp2_with fail
          refine (impl_sized _ _ _ X _ _ H1.out _ hn (ha.on (below_al (below_al (Below.refl _ _))))).mono ?_
          rintro e w1 ⟨rfl, hb1⟩
          obtain ⟨qc1, qf1⟩ := bcell hb1
          have hz1 := hb1.size
          try simp only [World.size_alloc, World.size_setCell, World.size_drew] at hz1
          have hq1 : Below w.heap.size w w1 := below_call (by go_grown) hb1
          try have hl0_1 : w.heap.size < w1.heap.size := by omega
          try have hl1_1 : w.heap.size + 1 < w1.heap.size := by omega
          try have hl2_1 : w.heap.size + 2 < w1.heap.size := by omega
          try have hl3_1 : w.heap.size + 3 < w1.heap.size := by omega
          go_wp2_with fail
          refine (impl_tick _ _ H2.out _).mono ?_
          rintro e u2 ⟨rfl, rfl⟩
          go_wp2_with fail
          refine (impl_tick _ _ H3.out _).mono ?_
          rintro e u3 ⟨rfl, rfl⟩
          have bf := qc1 w.heap.size 0 (by simp only [World.size_alloc]; omega)
          have bt := qc1 (w.heap.size + 1) 0 (by simp only [World.size_alloc]; omega)
          have bf' : w1.cell? ⟨w.heap.size, 0, none⟩ = some (.int .i64 f) := by rw [bf]; simp [go_sem]
          have bt' : w1.cell? ⟨w.heap.size + 1, 0, none⟩ = some (.int .i64 t) := by rw [bt]; simp [go_sem]
          clear bf bt qc1 qf1
          go_wp2_with fail
          refine (impl_largerS S _ hn (ha.on hq1)).mono ?_
          rintro e w2 ⟨v2, rfl, hb2, ho2⟩
          obtain ⟨A2, c2, rfl, hc2, ha2⟩ := ho2.arr
          obtain ⟨qc2, qf2⟩ := bcell hb2
          have hz2 := hb2.size
          have hq2 : Below w.heap.size w w2 := below_call hq1 hb2
          have gf := (qc2 w.heap.size 0 (by omega)).trans bf'
          have gt := (qc2 (w.heap.size + 1) 0 (by omega)).trans bt'
          have hg1 : w.heap.size < w2.heap.size := by omega
          have hg2 : w.heap.size + 1 < w2.heap.size := by omega
          clear ho2 bf' bt' ha qc2 qf2
          go_wp2_with fail
          refine (filter_quakeR _ _ _ _ _ Z (inP Z f t) _ (by omega) ha2 (ask_in m Z f t w.heap.size (w.heap.size + 1) _ hg1 gf hg2 gt)).mono ?_
          rintro e w3 ⟨v3, rfl, hb3, ho3⟩
          rw [HN.out] at ho3
          obtain ⟨A3, c3, rfl, hc3, _⟩ := ho3.arr
          obtain ⟨qc3, qf3⟩ := bcell hb3
          have kf := (qc3 w.heap.size 0 hg1).trans gf
          have kt := (qc3 (w.heap.size + 1) 0 hg2).trans gt
          have hq3 : Below w.heap.size w w3 := below_call hq2 hb3
          obtain rfl := E1.out
          obtain rfl := E2.out
          clear ho3 qc3 qf3 gf gt ha2
          go_wp2_with fail
          refine (impl_fraction N (t - f + 1) _ rfl (by omega) (by omega) (by omega) (by omega) _).mono ?_
          rintro e w4 ⟨rfl, hb4⟩
          go_wp2
          go_returns
          exact ⟨rfl, below_call hq3 hb4⟩
end Go.Proofs.Ythpagjkkccimiaa
