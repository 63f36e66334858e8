/- Chapter 19: ClusterNumbers, both sides. -/
import Derived.Test.YthpagjkkccimiaaNumb
namespace Go.Proofs.Ythpagjkkccimiaa
open Go.RowKit
set_option linter.unusedVariables false
set_option linter.unusedSimpArgs false

theorem impl_clN (A : Option Addr) (n c : Nat) (X : Nat → Nat → Int) (t f g : Int) (v : Bool) (hv : (catB n X && linkB t f g) = v) (q : Nat) (hq : q = onlyN v n) (w : World) (hn : n ≤ 1048576) (ha : Arr w w.heap.size A n 4 (iv X)) :
    Calls Try.prog 36 #[.slice A n c, .agg #[.int .i64 t, .int .i64 f, .int .i64 g]] w fun e w' => ∃ s, e = .returned (.tuple #[s, .bool v]) ∧ Below w.heap.size w w' ∧ Own w' w.heap.size 3 1 s q (iv fun i _ => (numN n (rchX t f g X) i : Nat)) := by
  subst hq
  have HV := hide hv
  clear hv
  have hba : Below w.heap.size w (w.alloc (.cells #[.int .i64 t, .int .i64 f, .int .i64 g] 30)) := below_al (Below.refl _ _)
  have hcx : Cells (w.alloc (.cells #[.int .i64 t, .int .i64 f, .int .i64 g] 30)) w.heap.size [.int .i64 t, .int .i64 f, .int .i64 g] := Cells.new w _ _ _ rfl
  cases v
  · go_enter Try.func36, Try.ntmps36
    go_wp2_with fail
    refine (impl_asked19 _ _ _ X _ _ _ _ HV.out _ hn (ha.on hba)).mono ?_
    rintro e w1 ⟨rfl, hb1⟩
    obtain ⟨qc1, qf1⟩ := bcell hb1
    have hz1 := hb1.size
    try simp only [World.size_alloc, World.size_setCell, World.size_drew] at hz1
    have hq1 : Below w.heap.size w w1 := below_call (by go_grown) hb1
    try have hl0_1 : w.heap.size < w1.heap.size := by omega
    try have hl1_1 : w.heap.size + 1 < w1.heap.size := by omega
    try have hl2_1 : w.heap.size + 2 < w1.heap.size := by omega
    try have hl3_1 : w.heap.size + 3 < w1.heap.size := by omega
    go_wp2
    go_returns
    exact ⟨_, rfl, hq1, own_nil _ _ _ _ _⟩
  · have CX := catX_of (and_lx HV.out)
    have HL := hide (link_of (and_rx HV.out))
    go_enter Try.func36, Try.ntmps36
    go_wp2_with fail
    refine (impl_asked19 _ _ _ X _ _ _ _ HV.out _ hn (ha.on hba)).mono ?_
    rintro e w1 ⟨rfl, hb1⟩
    obtain ⟨qc1, qf1⟩ := bcell hb1
    have hz1 := hb1.size
    try simp only [World.size_alloc, World.size_setCell, World.size_drew] at hz1
    have hq1 : Below w.heap.size w w1 := below_call (by go_grown) hb1
    try have hl0_1 : w.heap.size < w1.heap.size := by omega
    try have hl1_1 : w.heap.size + 1 < w1.heap.size := by omega
    try have hl2_1 : w.heap.size + 2 < w1.heap.size := by omega
    try have hl3_1 : w.heap.size + 3 < w1.heap.size := by omega
    have hcx1 := hcx.on hb1
    have l0 := hcx1.2 0 _ rfl; have l1 := hcx1.2 1 _ rfl; have l2 := hcx1.2 2 _ rfl
    have l3 := hcx1.1
    clear qc1 qf1
    go_wp2_with fail
    refine (impl_nums _ _ _ X _ _ _ _ CX HL.out (ha.on hq1)).mono ?_
    rintro e w2 ⟨s, rfl, hb2, ho2⟩
    have hq2 : Below w.heap.size w w2 := below_call hq1 hb2
    have HO := hide ho2
    clear ho2
    go_wp2
    go_returns
    exact ⟨_, rfl, hq2, HO.out.base hq1.size⟩
theorem spec_clN (A : Option Addr) (n c : Nat) (X : Nat → Nat → Int) (t f g : Int) (v : Bool) (hv : (catB n X && linkB t f g) = v) (q : Nat) (hq : q = onlyN v n) (w : World) (hn : n ≤ 1048576) (ha : Arr w w.heap.size A n 4 (iv X)) :
    Calls Try.prog 37 #[.slice A n c, .agg #[.int .i64 t, .int .i64 f, .int .i64 g]] w fun e w' => ∃ s, e = .returned (.tuple #[s, .bool v]) ∧ Below w.heap.size w w' ∧ Own w' w.heap.size 3 1 s q (iv fun i _ => (numN n (rchX t f g X) i : Nat)) := by
  subst hq
  have HV := hide hv
  clear hv
  have hba : Below w.heap.size w (w.alloc (.cells #[.int .i64 t, .int .i64 f, .int .i64 g] 30)) := below_al (Below.refl _ _)
  have hcx : Cells (w.alloc (.cells #[.int .i64 t, .int .i64 f, .int .i64 g] 30)) w.heap.size [.int .i64 t, .int .i64 f, .int .i64 g] := Cells.new w _ _ _ rfl
  cases v
  · go_enter Try.func37, Try.ntmps37
    go_wp2_with fail
    refine (spec_asked19 _ _ _ X _ _ _ _ HV.out _ hn (ha.on hba)).mono ?_
    rintro e w1 ⟨rfl, hb1⟩
    obtain ⟨qc1, qf1⟩ := bcell hb1
    have hz1 := hb1.size
    try simp only [World.size_alloc, World.size_setCell, World.size_drew] at hz1
    have hq1 : Below w.heap.size w w1 := below_call (by go_grown) hb1
    try have hl0_1 : w.heap.size < w1.heap.size := by omega
    try have hl1_1 : w.heap.size + 1 < w1.heap.size := by omega
    try have hl2_1 : w.heap.size + 2 < w1.heap.size := by omega
    try have hl3_1 : w.heap.size + 3 < w1.heap.size := by omega
    go_wp2
    go_returns
    exact ⟨_, rfl, below_al hq1, own_new hq1.size⟩
  · have CX := catX_of (and_lx HV.out)
    have HL := hide (link_of (and_rx HV.out))
    go_enter Try.func37, Try.ntmps37
    go_wp2_with fail
    refine (spec_asked19 _ _ _ X _ _ _ _ HV.out _ hn (ha.on hba)).mono ?_
    rintro e w1 ⟨rfl, hb1⟩
    obtain ⟨qc1, qf1⟩ := bcell hb1
    have hz1 := hb1.size
    try simp only [World.size_alloc, World.size_setCell, World.size_drew] at hz1
    have hq1 : Below w.heap.size w w1 := below_call (by go_grown) hb1
    try have hl0_1 : w.heap.size < w1.heap.size := by omega
    try have hl1_1 : w.heap.size + 1 < w1.heap.size := by omega
    try have hl2_1 : w.heap.size + 2 < w1.heap.size := by omega
    try have hl3_1 : w.heap.size + 3 < w1.heap.size := by omega
    have hcx1 := hcx.on hb1
    have l0 := hcx1.2 0 _ rfl; have l1 := hcx1.2 1 _ rfl; have l2 := hcx1.2 2 _ rfl
    have l3 := hcx1.1
    clear qc1 qf1
    go_wp2_with fail
    refine (spec_nums _ _ _ X _ _ _ _ CX HL.out (ha.on hq1)).mono ?_
    rintro e w2 ⟨s, rfl, hb2, ho2⟩
    have hq2 : Below w.heap.size w w2 := below_call hq1 hb2
    have HO := hide ho2
    clear ho2
    go_wp2
    go_returns
    exact ⟨_, rfl, hq2, HO.out.base hq1.size⟩
end Go.Proofs.Ythpagjkkccimiaa
