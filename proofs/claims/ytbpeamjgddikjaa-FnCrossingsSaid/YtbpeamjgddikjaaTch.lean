/- Chapter 18: two faults touch: made by tchgen.py. -/
import Derived.Test.YtbpeamjgddikjaaMeet
import Derived.Test.YtbpeamjgddikjaaFauS
import Derived.RegionTactic
import Derived.BigRegion
namespace Go.Proofs.Ytbpeamjgddikjaa
open Go.RowKit
set_option linter.unusedVariables false
set_option linter.unusedSimpArgs false

def tchP (Y Z : Nat → Nat → Int) (i k : Nat) : Bool := meetB (Y i 0) (Y i 1) (Y (i + 1) 0) (Y (i + 1) 1) (Z k 0) (Z k 1) (Z (k + 1) 0) (Z (k + 1) 1)
def touchB (Y : Nat → Nat → Int) (m : Nat) (Z : Nat → Nat → Int) (l : Nat) : Bool := decide (∃ i, i < m - 1 ∧ ∃ k, k < l - 1 ∧ tchP Y Z i k = true)
theorem touch_yes {Y Z : Nat → Nat → Int} {m l i k : Nat} (hi : i + 1 < m) (hk : k + 1 < l) (h : tchP Y Z i k = true) : touchB Y m Z l = true := decide_eq_true ⟨i, by omega, k, by omega, h⟩
theorem touch_no {Y Z : Nat → Nat → Int} {m l : Nat} (h : ∀ i, i + 1 < m → ∀ k, k + 1 < l → tchP Y Z i k = false) : touchB Y m Z l = false := decide_eq_false fun ⟨i, hi, k, hk, e⟩ => by rw [h i (by omega) k (by omega)] at e; cases e
set_option maxHeartbeats 4000000 in
set_option maxRecDepth 100000 in
theorem spec_touch (x0 : Int) (s : ByteArray) (A : Option Addr) (m c : Nat) (Y : Nat → Nat → Int) (x3 y0 : Int) (t : ByteArray) (B : Option Addr) (l d : Nat) (Z : Nat → Nat → Int) (y3 : Int) (v : Bool) (hv : touchB Y m Z l = v) (w : World) (hm : 2 ≤ m ∧ m ≤ 1048576) (hl : 2 ≤ l ∧ l ≤ 1048576) (hY : ∀ i, i < m → Pl (Y i 0) (Y i 1)) (hZ : ∀ i, i < l → Pl (Z i 0) (Z i 1)) (ha : Arr w w.heap.size A m 2 (iv Y)) (hb : Arr w w.heap.size B l 2 (iv Z)) :
    Calls Try.prog 68 #[.agg #[.int .i64 x0, .string s, .slice A m c, .int .i64 x3], .agg #[.int .i64 y0, .string t, .slice B l d, .int .i64 y3]] w fun e w' => e = .returned (.bool v) ∧ Below w.heap.size w w' := by
  have HV := hide hv; have HY := hide hY; have HZ := hide hZ; have HA := hide ha; have HB := hide hb
  obtain ⟨hm1, hm2⟩ := hm; obtain ⟨hl1, hl2⟩ := hl
  clear hv hY hZ ha hb
  have hcx0 : Cells (w.alloc (.cells #[.int .i64 x0, .string s, .slice A m c, .int .i64 x3] 36)) w.heap.size [.int .i64 x0, .string s, .slice A m c, .int .i64 x3] := Cells.new w _ _ _ rfl
  have hcx1 : Cells ((w.alloc (.cells #[.int .i64 x0, .string s, .slice A m c, .int .i64 x3] 36)).alloc (.cells #[.int .i64 y0, .string t, .slice B l d, .int .i64 y3] 36)) w.heap.size [.int .i64 x0, .string s, .slice A m c, .int .i64 x3] := hcx0.on (below_al (Below.refl _ _))
  have hcz1 : Cells ((w.alloc (.cells #[.int .i64 x0, .string s, .slice A m c, .int .i64 x3] 36)).alloc (.cells #[.int .i64 y0, .string t, .slice B l d, .int .i64 y3] 36)) (w.heap.size + 1) [.int .i64 y0, .string t, .slice B l d, .int .i64 y3] := Cells.new (w.alloc (.cells #[.int .i64 x0, .string s, .slice A m c, .int .i64 x3] 36)) (w.heap.size + 1) [.int .i64 y0, .string t, .slice B l d, .int .i64 y3] 36 (by simp)
  have hb0 : Below w.heap.size w ((w.alloc (.cells #[.int .i64 x0, .string s, .slice A m c, .int .i64 x3] 36)).alloc (.cells #[.int .i64 y0, .string t, .slice B l d, .int .i64 y3] 36)) := below_al (below_al (Below.refl _ _))
  have HCX := hide hcx1; have HCZ := hide hcz1; have HB0 := hide hb0
  clear hcx0 hcx1 hcz1 hb0
  go_enter Try.func68, Try.ntmps68
  go_wp2
  go_loopw [4, 5] (fun b y wr => ∃ p : Nat, p + 1 ≤ m ∧ b = .bool false ∧ y = .int .i64 ((p : Int) + 1) ∧ (∀ i, i < p → ∀ k, k + 1 < l → tchP Y Z i k = false) ∧ Below w.heap.size w wr ∧ Cells wr w.heap.size [.int .i64 x0, .string s, .slice A m c, .int .i64 x3] ∧ Cells wr (w.heap.size + 1) [.int .i64 y0, .string t, .slice B l d, .int .i64 y3]) (fun _ y _ => m - (intOf y).toNat)
  case atStart => exact ⟨0, by omega, rfl, rfl, fun i hi => absurd hi (by omega), HB0.out, HCX.out, HCZ.out⟩
  case round =>
    obtain ⟨p, hp, rfl, rfl, hno, hbw, hcx, hcz⟩ := hrel
    have HNO := hide hno
    clear hno HCX HCZ HB0
    have l2 := hcx.2 2 _ rfl; have l5 := hcx.1; have z2 := hcz.2 2 _ rfl; have z5 := hcz.1
    have hsw := hbw.size
    by_cases hlt : p + 1 < m
    · obtain ⟨wo, rfl⟩ : ∃ x, x = wr := ⟨_, rfl⟩
      have HCX := hide hcx; have HCZ := hide hcz; have HBW := hide hbw
      go_wp2
      go_loopw [4, 6] (fun b y wr => ∃ k : Nat, k + 1 ≤ l ∧ b = .bool false ∧ y = .int .i64 ((k : Int) + 1) ∧ (∀ j, j < k → tchP Y Z p j = false) ∧ Below w.heap.size w wr ∧ Cells wr w.heap.size [.int .i64 x0, .string s, .slice A m c, .int .i64 x3] ∧ Cells wr (w.heap.size + 1) [.int .i64 y0, .string t, .slice B l d, .int .i64 y3]) (fun _ y _ => l - (intOf y).toNat)
      case atStart => exact ⟨0, by omega, rfl, rfl, fun i hi => absurd hi (by omega), HBW.out, HCX.out, HCZ.out⟩
      case round =>
        clear hcx hcz hbw l2 l5 z2 z5 hsw HCX HCZ HBW
        obtain ⟨k, hk, rfl, rfl, hno, hbw, hcx, hcz⟩ := hrel
        have HNK := hide hno
        clear hno
        have l2 := hcx.2 2 _ rfl; have l5 := hcx.1; have z2 := hcz.2 2 _ rfl; have z5 := hcz.1
        have hsw := hbw.size
        by_cases hkt : k + 1 < l
        · obtain ⟨b1, o1, rfl, hbb1, hc1⟩ := (HA.out.on hbw) (by omega)
          obtain ⟨b2, o2, rfl, hbb2, hc2⟩ := (HB.out.on hbw) (by omega)
          have c0 := hc1 p 0 (by omega) (by omega); have c1 := hc1 p 1 (by omega) (by omega); have d0 := hc1 (p + 1) 0 hlt (by omega); have d1 := hc1 (p + 1) 1 hlt (by omega)
          have e0 := hc2 k 0 (by omega) (by omega); have e1 := hc2 k 1 (by omega) (by omega); have f0 := hc2 (k + 1) 0 hkt (by omega); have f1 := hc2 (k + 1) 1 hkt (by omega)
          simp only [Nat.add_zero, iv] at c0 c1 d0 d1 e0 e1 f0 f1
          obtain ⟨u, hu⟩ : ∃ u, tchP Y Z p k = u := ⟨_, rfl⟩
          have HU := hide hu
          have HMT := hide (fun W => (spec_meet _ _ _ _ _ _ _ _ u hu (HY.out p (by omega)) (HY.out (p + 1) hlt) (HZ.out k (by omega)) (HZ.out (k + 1) hkt) W : Calls Try.prog 42 _ _ _))
          have HCX := hide hcx; have HCZ := hide hcz; have HBW := hide hbw
          clear hc1 hc2 hu hbw hcx hcz
          have hx := BW.cell (w := wr)
          go_wp2
          refine wp_region_bw (by kernel_rfl) (by kernel_rfl) ?_
          repeat (go_big_quiet_step ((first | (go_at_call 42; exact BW.call (HMT.out _)))))
          refine wpQuiet_end fun w1 hb1 => ?_
          clear hx
          have hbw2 := below_call HBW.out hb1
          have hcx2 := HCX.out.on hb1
          have hcz2 := HCZ.out.on hb1
          cases u
          · go_wp2
            go_roundw
            case rel => exact ⟨k + 1, by omega, rfl, by go_num, fun j hj => by
              by_cases e : j = k
              · rw [e]; exact HU.out
              · exact HNK.out j (by omega), hbw2, hcx2, hcz2⟩
            case measure => simp [intOf]; omega
          · go_wp2
            go_returns
            exact ⟨ret_bool (by rw [← HV.out, touch_yes hlt hkt HU.out]; try rfl), hbw2⟩
        · go_wp2
          go_roundw
          case rel => exact ⟨p + 1, by omega, rfl, by go_num, fun i hi j hj => by
            by_cases e : i = p
            · rw [e]; exact HNK.out j (by omega)
            · exact HNO.out i (by omega) j hj, hbw, hcx, hcz⟩
          case measure => simp [intOf]; omega
    · go_wp2
      go_returns
      exact ⟨ret_bool (by rw [← HV.out, touch_no (fun i hi => HNO.out i (by omega))]; try rfl), hbw⟩
set_option maxHeartbeats 4000000 in
set_option maxRecDepth 100000 in
theorem impl_touch (x0 : Int) (s : ByteArray) (A : Option Addr) (m c : Nat) (Y : Nat → Nat → Int) (x3 y0 : Int) (t : ByteArray) (B : Option Addr) (l d : Nat) (Z : Nat → Nat → Int) (y3 : Int) (v : Bool) (hv : touchB Y m Z l = v) (w : World) (hm : 2 ≤ m ∧ m ≤ 1048576) (hl : 2 ≤ l ∧ l ≤ 1048576) (hY : ∀ i, i < m → Pl (Y i 0) (Y i 1)) (hZ : ∀ i, i < l → Pl (Z i 0) (Z i 1)) (ha : Arr w w.heap.size A m 2 (iv Y)) (hb : Arr w w.heap.size B l 2 (iv Z)) :
    Calls Try.prog 67 #[.agg #[.int .i64 x0, .string s, .slice A m c, .int .i64 x3], .agg #[.int .i64 y0, .string t, .slice B l d, .int .i64 y3]] w fun e w' => e = .returned (.bool v) ∧ Below w.heap.size w w' := by
  have HV := hide hv; have HY := hide hY; have HZ := hide hZ; have HA := hide ha; have HB := hide hb
  obtain ⟨hm1, hm2⟩ := hm; obtain ⟨hl1, hl2⟩ := hl
  clear hv hY hZ ha hb
  have hcx0 : Cells (w.alloc (.cells #[.int .i64 x0, .string s, .slice A m c, .int .i64 x3] 36)) w.heap.size [.int .i64 x0, .string s, .slice A m c, .int .i64 x3] := Cells.new w _ _ _ rfl
  have hcx1 : Cells ((w.alloc (.cells #[.int .i64 x0, .string s, .slice A m c, .int .i64 x3] 36)).alloc (.cells #[.int .i64 y0, .string t, .slice B l d, .int .i64 y3] 36)) w.heap.size [.int .i64 x0, .string s, .slice A m c, .int .i64 x3] := hcx0.on (below_al (Below.refl _ _))
  have hcz1 : Cells ((w.alloc (.cells #[.int .i64 x0, .string s, .slice A m c, .int .i64 x3] 36)).alloc (.cells #[.int .i64 y0, .string t, .slice B l d, .int .i64 y3] 36)) (w.heap.size + 1) [.int .i64 y0, .string t, .slice B l d, .int .i64 y3] := Cells.new (w.alloc (.cells #[.int .i64 x0, .string s, .slice A m c, .int .i64 x3] 36)) (w.heap.size + 1) [.int .i64 y0, .string t, .slice B l d, .int .i64 y3] 36 (by simp)
  have hb0 : Below w.heap.size w ((w.alloc (.cells #[.int .i64 x0, .string s, .slice A m c, .int .i64 x3] 36)).alloc (.cells #[.int .i64 y0, .string t, .slice B l d, .int .i64 y3] 36)) := below_al (below_al (Below.refl _ _))
  have HCX := hide hcx1; have HCZ := hide hcz1; have HB0 := hide hb0
  clear hcx0 hcx1 hcz1 hb0
  go_enter Try.func67, Try.ntmps67
  go_wp2
  go_loopw [4, 5] (fun b y wr => ∃ p : Nat, p + 1 ≤ m ∧ b = .bool false ∧ y = .int .i64 ((p : Int) + 1) ∧ (∀ i, i < p → ∀ k, k + 1 < l → tchP Y Z i k = false) ∧ Below w.heap.size w wr ∧ Cells wr w.heap.size [.int .i64 x0, .string s, .slice A m c, .int .i64 x3] ∧ Cells wr (w.heap.size + 1) [.int .i64 y0, .string t, .slice B l d, .int .i64 y3]) (fun _ y _ => m - (intOf y).toNat)
  case atStart => exact ⟨0, by omega, rfl, rfl, fun i hi => absurd hi (by omega), HB0.out, HCX.out, HCZ.out⟩
  case round =>
    obtain ⟨p, hp, rfl, rfl, hno, hbw, hcx, hcz⟩ := hrel
    have HNO := hide hno
    clear hno HCX HCZ HB0
    have l2 := hcx.2 2 _ rfl; have l5 := hcx.1; have z2 := hcz.2 2 _ rfl; have z5 := hcz.1
    have hsw := hbw.size
    by_cases hlt : p + 1 < m
    · obtain ⟨wo, rfl⟩ : ∃ x, x = wr := ⟨_, rfl⟩
      have HCX := hide hcx; have HCZ := hide hcz; have HBW := hide hbw
      go_wp2
      go_loopw [4, 6] (fun b y wr => ∃ k : Nat, k + 1 ≤ l ∧ b = .bool false ∧ y = .int .i64 ((k : Int) + 1) ∧ (∀ j, j < k → tchP Y Z p j = false) ∧ Below w.heap.size w wr ∧ Cells wr w.heap.size [.int .i64 x0, .string s, .slice A m c, .int .i64 x3] ∧ Cells wr (w.heap.size + 1) [.int .i64 y0, .string t, .slice B l d, .int .i64 y3]) (fun _ y _ => l - (intOf y).toNat)
      case atStart => exact ⟨0, by omega, rfl, rfl, fun i hi => absurd hi (by omega), HBW.out, HCX.out, HCZ.out⟩
      case round =>
        clear hcx hcz hbw l2 l5 z2 z5 hsw HCX HCZ HBW
        obtain ⟨k, hk, rfl, rfl, hno, hbw, hcx, hcz⟩ := hrel
        have HNK := hide hno
        clear hno
        have l2 := hcx.2 2 _ rfl; have l5 := hcx.1; have z2 := hcz.2 2 _ rfl; have z5 := hcz.1
        have hsw := hbw.size
        by_cases hkt : k + 1 < l
        · obtain ⟨b1, o1, rfl, hbb1, hc1⟩ := (HA.out.on hbw) (by omega)
          obtain ⟨b2, o2, rfl, hbb2, hc2⟩ := (HB.out.on hbw) (by omega)
          have c0 := hc1 p 0 (by omega) (by omega); have c1 := hc1 p 1 (by omega) (by omega); have d0 := hc1 (p + 1) 0 hlt (by omega); have d1 := hc1 (p + 1) 1 hlt (by omega)
          have e0 := hc2 k 0 (by omega) (by omega); have e1 := hc2 k 1 (by omega) (by omega); have f0 := hc2 (k + 1) 0 hkt (by omega); have f1 := hc2 (k + 1) 1 hkt (by omega)
          simp only [Nat.add_zero, iv] at c0 c1 d0 d1 e0 e1 f0 f1
          obtain ⟨u, hu⟩ : ∃ u, tchP Y Z p k = u := ⟨_, rfl⟩
          have HU := hide hu
          have HMT := hide (fun W => (impl_meet _ _ _ _ _ _ _ _ u hu (HY.out p (by omega)) (HY.out (p + 1) hlt) (HZ.out k (by omega)) (HZ.out (k + 1) hkt) W : Calls Try.prog 44 _ _ _))
          have HCX := hide hcx; have HCZ := hide hcz; have HBW := hide hbw
          clear hc1 hc2 hu hbw hcx hcz
          have hx := BW.cell (w := wr)
          go_wp2
          refine wp_region_bw (by kernel_rfl) (by kernel_rfl) ?_
          repeat (go_big_quiet_step ((first | (go_at_call 44; exact BW.call (HMT.out _)))))
          refine wpQuiet_end fun w1 hb1 => ?_
          clear hx
          have hbw2 := below_call HBW.out hb1
          have hcx2 := HCX.out.on hb1
          have hcz2 := HCZ.out.on hb1
          cases u
          · go_wp2
            go_roundw
            case rel => exact ⟨k + 1, by omega, rfl, by go_num, fun j hj => by
              by_cases e : j = k
              · rw [e]; exact HU.out
              · exact HNK.out j (by omega), hbw2, hcx2, hcz2⟩
            case measure => simp [intOf]; omega
          · go_wp2
            go_returns
            exact ⟨ret_bool (by rw [← HV.out, touch_yes hlt hkt HU.out]; try rfl), hbw2⟩
        · go_wp2
          go_roundw
          case rel => exact ⟨p + 1, by omega, rfl, by go_num, fun i hi j hj => by
            by_cases e : i = p
            · rw [e]; exact HNK.out j (by omega)
            · exact HNO.out i (by omega) j hj, hbw, hcx, hcz⟩
          case measure => simp [intOf]; omega
    · go_wp2
      go_returns
      exact ⟨ret_bool (by rw [← HV.out, touch_no (fun i hi => HNO.out i (by omega))]; try rfl), hbw⟩
end Go.Proofs.Ytbpeamjgddikjaa
