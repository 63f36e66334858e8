/- Chapter 18: the length of a fault: made by faulgen.py. -/
import Derived.Test.YtbpeamjgddikjaaFauQ
import Derived.RegionTactic
import Derived.BigRegion
namespace Go.Proofs.Ytbpeamjgddikjaa
open Go.RowKit
set_option linter.unusedVariables false
set_option linter.unusedSimpArgs false

def sqI (a b x y : Int) : Int := (a - x) * (a - x) + (b - y) * (b - y)
theorem sq_nn {a : Int} : 0 ≤ a * a := by
  rcases Int.le_total 0 a with h | h
  · exact Int.mul_nonneg h h
  · have := Int.mul_nonneg (Int.neg_nonneg.2 h) (Int.neg_nonneg.2 h)
    rwa [Int.neg_mul_neg] at this
theorem sqI_bd {a b x y : Int} (h : Pl a b) (h' : Pl x y) : 0 ≤ sqI a b x y ∧ sqI a b x y ≤ 1996002 := by
  obtain ⟨a1, a2, a3, a4⟩ := h; obtain ⟨b1, b2, b3, b4⟩ := h'
  have m1 := mul_bd (a := a - x) (b := a - x) (by omega) (by omega) (by omega) (by omega)
  have m2 := mul_bd (a := b - y) (b := b - y) (by omega) (by omega) (by omega) (by omega)
  have n1 := sq_nn (a := a - x); have n2 := sq_nn (a := b - y)
  unfold sqI; omega
def stepR (X : Nat → Nat → Int) (i : Nat) : Nat := rt (sqI (X i 0) (X i 1) (X (i + 1) 0) (X (i + 1) 1)).toNat
def lenF (X : Nat → Nat → Int) : Nat → Nat
  | 0 => 0
  | k + 1 => lenF X k + stepR X k
theorem stepR_le {X : Nat → Nat → Int} {i : Nat} (h : Pl (X i 0) (X i 1)) (h' : Pl (X (i + 1) 0) (X (i + 1) 1)) : stepR X i ≤ 1414 := by
  have := sqI_bd h h'
  exact rt_le rfl (by omega)
theorem seg_pl {X : Nat → Nat → Int} {i : Nat} (h : segX X i = true) : Pl (X i 0) (X i 1) ∧ Pl (X (i + 1) 0) (X (i + 1) 1) := seg_of h
theorem lenF_le {X : Nat → Nat → Int} : ∀ {k : Nat}, (∀ i, i < k → segX X i = true) → lenF X k ≤ 1414 * k
  | 0, _ => Nat.le_refl _
  | k + 1, h => by
    have h1 := lenF_le (k := k) (fun i hi => h i (by omega))
    have h2 := stepR_le (seg_pl (h k (by omega))).1 (seg_pl (h k (by omega))).2
    rw [lenF]; omega
set_option maxHeartbeats 1000000 in
theorem spec_sq (ax ay bx by' : Int) (ha : Pl ax ay) (hb : Pl bx by') (w : World) :
    Calls Try.prog 55 #[.agg #[.int .i64 ax, .int .i64 ay], .agg #[.int .i64 bx, .int .i64 by']] w fun e w' => e = .returned (.int .i64 (sqI ax ay bx by')) ∧ Below w.heap.size w w' := by
  obtain ⟨a1, a2, a3, a4⟩ := ha; obtain ⟨b1, b2, b3, b4⟩ := hb
  have m1 := mul_bd (a := ax - bx) (b := ax - bx) (by omega) (by omega) (by omega) (by omega)
  have m2 := mul_bd (a := ay - by') (b := ay - by') (by omega) (by omega) (by omega) (by omega)
  have hx := fun (o0 o1 : Obj) => BW.cell (w := ((w.alloc o0).alloc o1))
  unfold sqI
  go_enter Try.func55, Try.ntmps55
  go_wp2
  first | (go_returns; exact ⟨rfl, by go_grown⟩) | (refine wp_region_bw (by kernel_rfl) (by kernel_rfl) ?_; (repeat (go_big_quiet_step (fail))); (refine wpQuiet_end fun w1 hb1 => ?_); clear hx; go_wp2; go_ret; exact ⟨rfl, below_call (by go_grown) hb1⟩)
theorem impl_sq (dx dy : Int) (h1 : -999 ≤ dx ∧ dx ≤ 999) (h2 : -999 ≤ dy ∧ dy ≤ 999) (w : World) :
    Calls Try.prog 57 #[.int .i64 dx, .int .i64 dy] w fun e w' => e = .returned (.int .i64 (dx * dx + dy * dy)) ∧ w = w' := by
  have m1 := mul_bd (a := dx) (b := dx) (by omega) (by omega) (by omega) (by omega)
  have m2 := mul_bd (a := dy) (b := dy) (by omega) (by omega) (by omega) (by omega)
  go_enter Try.func57, Try.ntmps57
  go_wp2
  go_ret
  exact ⟨rfl, rfl⟩

set_option maxHeartbeats 4000000 in
set_option maxRecDepth 100000 in
theorem spec_len (x0 : Int) (s : ByteArray) (A : Option Addr) (n c : Nat) (X : Nat → Nat → Int) (x3 : Int) (v : Bool) (hv : fauB x0 s n X x3 = v) (r : Int) (hr : onlyI v (lenF X (n - 1) : Nat) = r) (w : World) (hs : s.size ≤ 1048576) (hn : n ≤ 1048576) (ha : Arr w w.heap.size A n 2 (iv X)) :
    Calls Try.prog 21 #[.agg #[.int .i64 x0, .string s, .slice A n c, .int .i64 x3]] w fun e w' => e = .returned (.tuple #[.int .i64 r, .bool v]) ∧ Below w.heap.size w w' := by
  have HR := hide hr
  clear hr
  have hcx0 : Cells (w.alloc (.cells #[.int .i64 x0, .string s, .slice A n c, .int .i64 x3] 36)) w.heap.size [.int .i64 x0, .string s, .slice A n c, .int .i64 x3] := Cells.new w _ _ _ rfl
  have hb0 : Below w.heap.size w (w.alloc (.cells #[.int .i64 x0, .string s, .slice A n c, .int .i64 x3] 36)) := below_al (Below.refl _ _)
  have HG := hide hv
  cases v
  · obtain rfl : 0 = r := HR.out
    clear hv
    go_enter Try.func21, Try.ntmps21
    go_wp2_with fail
    refine (spec_fau _ _ _ _ _ X _ _ HG.out _ hs hn (ha.on hb0)).mono ?_
    rintro e w1 ⟨rfl, hb1⟩
    obtain ⟨qc1, qf1⟩ := bcell hb1
    have hz1 := hb1.size
    try simp only [World.size_alloc, World.size_setCell, World.size_drew] at hz1
    have hq1 : Below w.heap.size w w1 := below_call (by go_grown) hb1
    try have hl0_1 : w.heap.size < w1.heap.size := by omega
    try have hl1_1 : w.heap.size + 1 < w1.heap.size := by omega
    try have hl2_1 : w.heap.size + 2 < w1.heap.size := by omega
    try have hl3_1 : w.heap.size + 3 < w1.heap.size := by omega
    have hcx1 := hcx0.on hb1
    have l0 := hcx1.2 0 _ rfl; have l1 := hcx1.2 1 _ rfl; have l2 := hcx1.2 2 _ rfl; have l3 := hcx1.2 3 _ rfl; have l5 := hcx1.1
    clear qc1 qf1 hcx0 hb0
    go_wp2
    go_returns
    exact ⟨rfl, hq1⟩
  · obtain ⟨hseg, n2, n8, _, _⟩ := fau_of hv
    have HS := hide hseg
    clear hv hseg
    go_enter Try.func21, Try.ntmps21
    go_wp2_with fail
    refine (spec_fau _ _ _ _ _ X _ _ HG.out _ hs hn (ha.on hb0)).mono ?_
    rintro e w1 ⟨rfl, hb1⟩
    obtain ⟨qc1, qf1⟩ := bcell hb1
    have hz1 := hb1.size
    try simp only [World.size_alloc, World.size_setCell, World.size_drew] at hz1
    have hq1 : Below w.heap.size w w1 := below_call (by go_grown) hb1
    try have hl0_1 : w.heap.size < w1.heap.size := by omega
    try have hl1_1 : w.heap.size + 1 < w1.heap.size := by omega
    try have hl2_1 : w.heap.size + 2 < w1.heap.size := by omega
    try have hl3_1 : w.heap.size + 3 < w1.heap.size := by omega
    have hcx1 := hcx0.on hb1
    have l0 := hcx1.2 0 _ rfl; have l1 := hcx1.2 1 _ rfl; have l2 := hcx1.2 2 _ rfl; have l3 := hcx1.2 3 _ rfl; have l5 := hcx1.1
    clear qc1 qf1 hcx0 hb0
    have haw := ha.on hq1
    clear ha l0 l1 l2 l3
    go_wp2
    go_loopw [4, 5] (fun t y wr => ∃ p : Nat, p + 1 ≤ n ∧ y = .int .i64 ((p : Int) + 1) ∧ t = .int .i64 (lenF X p : Nat) ∧ Below w1.heap.size w1 wr ∧ Cells wr w.heap.size [.int .i64 x0, .string s, .slice A n c, .int .i64 x3]) (fun _ y _ => n - (intOf y).toNat)
    case atStart => exact ⟨0, by omega, rfl, rfl, Below.refl _ _, hcx1⟩
    case round =>
      clear hcx1 l5
      obtain ⟨p, hp, rfl, rfl, hbw, hcx⟩ := hrel
      have l0 := hcx.2 0 _ rfl; have l1 := hcx.2 1 _ rfl; have l2 := hcx.2 2 _ rfl; have l3 := hcx.2 3 _ rfl; have l5 := hcx.1
      have hsw := hbw.size
      by_cases hlt : p + 1 < n
      · obtain ⟨b, off, rfl, hbb, hc⟩ := haw (by omega)
        have hseg := HS.out p hlt
        obtain ⟨pa, pb⟩ := seg_pl hseg
        have hsb := sqI_bd pa pb
        have hle := stepR_le pa pb
        have hlf := lenF_le (X := X) (k := p) (fun i hi => HS.out i (by omega))
        obtain ⟨q1, q2⟩ := bcell hbw
        have c0 := hc p 0 (by omega) (by omega); have c1 := hc p 1 (by omega) (by omega); have d0 := hc (p + 1) 0 hlt (by omega); have d1 := hc (p + 1) 1 hlt (by omega)
        simp only [Nat.add_zero, iv] at c0 c1 d0 d1
        have hbl : b < wr.heap.size := by omega
        obtain ⟨z, hz⟩ : ∃ z : Nat, sqI (X p 0) (X p 1) (X (p + 1) 0) (X (p + 1) 1) = (z : Int) := ⟨_, (Int.toNat_of_nonneg hsb.1).symm⟩
        have hzr : rt z = stepR X p := by unfold stepR; rw [hz]; simp
        have hl1 : lenF X (p + 1) = lenF X p + stepR X p := rfl
        obtain ⟨u, hu⟩ : ∃ u, stepR X p = u := ⟨_, rfl⟩
        obtain ⟨t, ht⟩ : ∃ t, lenF X p = t := ⟨_, rfl⟩
        rw [hu] at hzr hl1 hle
        rw [ht] at hl1 hlf
        rw [ht]
        have HSQ := hide (fun W => (spec_sq _ _ _ _ pa pb W : Calls Try.prog 55 _ _ _))
        rw [hz] at HSQ
        have HZ := hide hz; have HRT := hide hzr; have HL1 := hide hl1
        have hz2 : z ≤ 2000000 := by omega
        clear hz hzr hl1 hu ht hc hseg haw hsb
        have hx := BW.cell (w := wr)
        go_wp2
        refine wp_region_bw (by kernel_rfl) (by kernel_rfl) ?_
        repeat (go_big_quiet_step ((first | (go_at_call 55; exact BW.call (HSQ.out _)) | (go_at_call 54; exact BW.call0 (spec_root _ _ HRT.out hz2 _)))))
        refine wpQuiet_end fun w1 hb1 => ?_
        clear hx
        have hbw2 := below_call hbw hb1
        have hcx2 := hcx.on hb1
        go_wp2
        go_roundw
        case rel => exact ⟨p + 1, by omega, by go_num, by rw [HL1.out]; go_num, hbw2, hcx2⟩
        case measure => simp [intOf]; omega
      · obtain rfl : n = p + 1 := by omega
        obtain rfl : ((lenF X p : Nat) : Int) = r := HR.out
        clear haw
        go_wp2
        go_returns
        exact ⟨rfl, hq1.trans (hbw.mono hq1.size)⟩
set_option maxHeartbeats 4000000 in
set_option maxRecDepth 100000 in
theorem impl_len (x0 : Int) (s : ByteArray) (A : Option Addr) (n c : Nat) (X : Nat → Nat → Int) (x3 : Int) (v : Bool) (hv : fauB x0 s n X x3 = v) (r : Int) (hr : onlyI v (lenF X (n - 1) : Nat) = r) (w : World) (hs : s.size ≤ 1048576) (hn : n ≤ 1048576) (ha : Arr w w.heap.size A n 2 (iv X)) :
    Calls Try.prog 22 #[.agg #[.int .i64 x0, .string s, .slice A n c, .int .i64 x3]] w fun e w' => e = .returned (.tuple #[.int .i64 r, .bool v]) ∧ Below w.heap.size w w' := by
  have HR := hide hr
  clear hr
  have hcx0 : Cells (w.alloc (.cells #[.int .i64 x0, .string s, .slice A n c, .int .i64 x3] 36)) w.heap.size [.int .i64 x0, .string s, .slice A n c, .int .i64 x3] := Cells.new w _ _ _ rfl
  have hb0 : Below w.heap.size w (w.alloc (.cells #[.int .i64 x0, .string s, .slice A n c, .int .i64 x3] 36)) := below_al (Below.refl _ _)
  have HG := hide hv
  cases v
  · obtain rfl : 0 = r := HR.out
    clear hv
    go_enter Try.func22, Try.ntmps22
    go_wp2_with fail
    refine (impl_isFau _ _ _ _ _ X _ _ HG.out _ hs hn (ha.on hb0)).mono ?_
    rintro e w1 ⟨rfl, hb1⟩
    obtain ⟨qc1, qf1⟩ := bcell hb1
    have hz1 := hb1.size
    try simp only [World.size_alloc, World.size_setCell, World.size_drew] at hz1
    have hq1 : Below w.heap.size w w1 := below_call (by go_grown) hb1
    try have hl0_1 : w.heap.size < w1.heap.size := by omega
    try have hl1_1 : w.heap.size + 1 < w1.heap.size := by omega
    try have hl2_1 : w.heap.size + 2 < w1.heap.size := by omega
    try have hl3_1 : w.heap.size + 3 < w1.heap.size := by omega
    have hcx1 := hcx0.on hb1
    have l0 := hcx1.2 0 _ rfl; have l1 := hcx1.2 1 _ rfl; have l2 := hcx1.2 2 _ rfl; have l3 := hcx1.2 3 _ rfl; have l5 := hcx1.1
    clear qc1 qf1 hcx0 hb0
    go_wp2
    go_returns
    exact ⟨rfl, hq1⟩
  · obtain ⟨hseg, n2, n8, _, _⟩ := fau_of hv
    have HS := hide hseg
    clear hv hseg
    go_enter Try.func22, Try.ntmps22
    go_wp2_with fail
    refine (impl_isFau _ _ _ _ _ X _ _ HG.out _ hs hn (ha.on hb0)).mono ?_
    rintro e w1 ⟨rfl, hb1⟩
    obtain ⟨qc1, qf1⟩ := bcell hb1
    have hz1 := hb1.size
    try simp only [World.size_alloc, World.size_setCell, World.size_drew] at hz1
    have hq1 : Below w.heap.size w w1 := below_call (by go_grown) hb1
    try have hl0_1 : w.heap.size < w1.heap.size := by omega
    try have hl1_1 : w.heap.size + 1 < w1.heap.size := by omega
    try have hl2_1 : w.heap.size + 2 < w1.heap.size := by omega
    try have hl3_1 : w.heap.size + 3 < w1.heap.size := by omega
    have hcx1 := hcx0.on hb1
    have l0 := hcx1.2 0 _ rfl; have l1 := hcx1.2 1 _ rfl; have l2 := hcx1.2 2 _ rfl; have l3 := hcx1.2 3 _ rfl; have l5 := hcx1.1
    clear qc1 qf1 hcx0 hb0
    have haw := ha.on hq1
    clear ha l0 l1 l2 l3
    go_wp2
    go_loopw [4, 5] (fun t y wr => ∃ p : Nat, p + 1 ≤ n ∧ y = .int .i64 ((p : Int) + 1) ∧ t = .int .i64 (lenF X p : Nat) ∧ Below w1.heap.size w1 wr ∧ Cells wr w.heap.size [.int .i64 x0, .string s, .slice A n c, .int .i64 x3]) (fun _ y _ => n - (intOf y).toNat)
    case atStart => exact ⟨0, by omega, rfl, rfl, Below.refl _ _, hcx1⟩
    case round =>
      clear hcx1 l5
      obtain ⟨p, hp, rfl, rfl, hbw, hcx⟩ := hrel
      have l0 := hcx.2 0 _ rfl; have l1 := hcx.2 1 _ rfl; have l2 := hcx.2 2 _ rfl; have l3 := hcx.2 3 _ rfl; have l5 := hcx.1
      have hsw := hbw.size
      by_cases hlt : p + 1 < n
      · obtain ⟨b, off, rfl, hbb, hc⟩ := haw (by omega)
        have hseg := HS.out p hlt
        obtain ⟨pa, pb⟩ := seg_pl hseg
        have hsb := sqI_bd pa pb
        have hle := stepR_le pa pb
        have hlf := lenF_le (X := X) (k := p) (fun i hi => HS.out i (by omega))
        obtain ⟨q1, q2⟩ := bcell hbw
        have c0 := hc p 0 (by omega) (by omega); have c1 := hc p 1 (by omega) (by omega); have d0 := hc (p + 1) 0 hlt (by omega); have d1 := hc (p + 1) 1 hlt (by omega)
        simp only [Nat.add_zero, iv] at c0 c1 d0 d1
        have hbl : b < wr.heap.size := by omega
        obtain ⟨z, hz⟩ : ∃ z : Nat, sqI (X p 0) (X p 1) (X (p + 1) 0) (X (p + 1) 1) = (z : Int) := ⟨_, (Int.toNat_of_nonneg hsb.1).symm⟩
        have hzr : rt z = stepR X p := by unfold stepR; rw [hz]; simp
        have hl1 : lenF X (p + 1) = lenF X p + stepR X p := rfl
        obtain ⟨u, hu⟩ : ∃ u, stepR X p = u := ⟨_, rfl⟩
        obtain ⟨t, ht⟩ : ∃ t, lenF X p = t := ⟨_, rfl⟩
        rw [hu] at hzr hl1 hle
        rw [ht] at hl1 hlf
        rw [ht]
        have HZ := hide hz; have HRT := hide hzr; have HL1 := hide hl1
        have hz2 : z ≤ 2000000 := by omega
        clear hz hzr hl1 hu ht hc hseg haw hsb
        obtain ⟨a1, a2, a3, a4⟩ := pa; obtain ⟨b1, b2, b3, b4⟩ := pb
        go_wp2
        go_region
        all_goals
          have hbw2 := hbw
          go_wp2_with (first | (go_at_call 57; refine (impl_sq _ _ (by omega) (by omega) _).mono ?_; rintro e w' ⟨rfl, rfl⟩; rw [show (X p 0 - X (p + 1) 0) * (X p 0 - X (p + 1) 0) + (X p 1 - X (p + 1) 1) * (X p 1 - X (p + 1) 1) = (z : Int) from HZ.out]) | (go_at_call 56; refine (impl_root _ _ HRT.out hz2 _).mono ?_; rintro e w' ⟨bb, rfl, rfl⟩))
          go_wp2
          go_roundw
          case rel => exact ⟨p + 1, by omega, by go_num, by rw [HL1.out]; go_num, by go_grown, hcx.on (by go_grown)⟩
          case measure => simp [intOf]; omega
      · obtain rfl : n = p + 1 := by omega
        obtain rfl : ((lenF X p : Nat) : Int) = r := HR.out
        clear haw
        go_wp2
        go_returns
        exact ⟨rfl, hq1.trans (hbw.mono hq1.size)⟩
end Go.Proofs.Ytbpeamjgddikjaa
