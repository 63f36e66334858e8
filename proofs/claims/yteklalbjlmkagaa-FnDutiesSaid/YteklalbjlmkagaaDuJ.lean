/- Chapter 17: the hours of somebody. -/
import Derived.Test.YteklalbjlmkagaaDuF
namespace Go.Proofs.Yteklalbjlmkagaa
open Go.RowKit
set_option linter.unusedVariables false
set_option linter.unusedSimpArgs false

def hrsD (D : Nat → Du) (x : Int) : Nat → Int
  | 0 => 0
  | k + 1 => if (D k).who = x then hrsD D x k + ((D k).fin - (D k).beg) else hrsD D x k
theorem hrsD_bd {D : Nat → Du} {x : Int} : ∀ {k : Nat}, (∀ i, i < k → OneD (D i)) → 0 ≤ hrsD D x k ∧ hrsD D x k ≤ 12 * k
  | 0, _ => ⟨Int.le_refl _, by simp [hrsD]⟩
  | k + 1, h => by
    have ih := hrsD_bd (x := x) (k := k) fun i hi => h i (by omega)
    have hd := h k (Nat.lt_succ_self _)
    have h1 := hd.bf; have h2 := hd.l12
    rw [hrsD]; split <;> omega
/-- Nobody has hours without a duty. -/
theorem hrsD_zero {D : Nat → Du} {x : Int} : ∀ {k : Nat}, (∀ i, i < k → OneD (D i)) → (hrsD D x k = 0 ↔ ∀ i, i < k → (D i).who ≠ x)
  | 0, _ => ⟨fun _ i hi => absurd hi (by omega), fun _ => rfl⟩
  | k + 1, h => by
    have ih := hrsD_zero (x := x) (k := k) fun i hi => h i (by omega)
    have hb := hrsD_bd (x := x) (k := k) fun i hi => h i (by omega)
    have hd := h k (Nat.lt_succ_self _)
    have h1 := hd.bf
    rw [hrsD]
    constructor
    · intro e i hi
      split at e
      · omega
      · next hn =>
        by_cases f : i = k
        · subst f; exact hn
        · exact (ih.1 e) i (by omega)
    · intro hall
      rw [if_neg (hall k (Nat.lt_succ_self _))]
      exact ih.2 fun i hi => hall i (by omega)
set_option maxHeartbeats 2000000 in
theorem spec_hrs (A : Option Addr) (n c : Nat) (D : Nat → Du) (x : Int) (r : Int) (hr : hrsD D x n = r) (w : World) (hn : n ≤ 14) (ha : Arr w w.heap.size A n 4 (dv D)) (hD : ∀ i, i < n → OneD (D i)) :
    Calls Try.prog 46 #[.slice A n c, .int .i64 x] w fun e w' => e = .returned (.int .i64 r) ∧ Below w.heap.size w w' := by
  have HA := hide ha; have HD := hide hD; have HR := hide hr
  clear ha hD hr
  go_enter Try.func46, Try.ntmps46
  go_wp2
  go_loopw [5, 6] (fun s y wr => ∃ (k : Nat) (z : Int), k ≤ n ∧ y = .int .i64 k ∧ s = .int .i64 z ∧ z = hrsD D x k ∧ Below w.heap.size w wr) (fun _ y _ => n - (intOf y).toNat)
  case atStart => exact ⟨0, 0, Nat.zero_le _, rfl, rfl, rfl, by go_grown⟩
  case round =>
    obtain ⟨k, z, hk, rfl, rfl, hz, hbw⟩ := hrel
    have hbd := hrsD_bd (x := x) (k := k) (fun i hi => HD.out i (by omega))
    rw [← hz] at hbd
    have HZ := hide hz
    clear hz
    by_cases hlt : k < n
    · obtain ⟨b, off, hA, hbb, hc⟩ := (HA.out.on hbw) (by omega)
      subst hA
      obtain ⟨c0, c1, c2, c3⟩ := load4 hlt hc
      rw [dv0] at c0; rw [dv1] at c1; rw [dv2] at c2; rw [dv3] at c3
      obtain ⟨a1, a2, a3, a4, a5, a6⟩ := HD.out k hlt
      obtain ⟨fw, hfw⟩ : ∃ v, (D k).who = v := ⟨_, rfl⟩
      obtain ⟨fb, hfb⟩ : ∃ v, (D k).beg = v := ⟨_, rfl⟩
      obtain ⟨ff, hff⟩ : ∃ v, (D k).fin = v := ⟨_, rfl⟩
      rw [hfw] at c0; rw [hfb] at c1; rw [hff] at c2
      rw [hfb] at a3 a4 a6; rw [hff] at a4 a5 a6
      have HW := hide hfw; have HB := hide hfb; have HF := hide hff
      have hx := BW.cell (w := wr)
      clear hc hfw hfb hff a1 a2
      by_cases hw : fw = x
      · subst hw
        have HN := hide (show hrsD D fw (k + 1) = z + ff - fb by rw [hrsD, if_pos HW.out, ← HZ.out, HF.out, HB.out]; omega)
        go_wp2
        refine wp_region_bw (by kernel_rfl) (by kernel_rfl) ?_
        repeat (go_big_quiet_step ((first | fail)))
        refine wpQuiet_end fun w1 hb1 => ?_
        clear hx
        have hbw1 := below_call hbw hb1
        go_wp2
        go_roundw
        case rel => exact ⟨k + 1, _, by omega, by go_num, rfl, HN.out.symm, hbw1⟩
        case measure => simp [intOf]; omega
      · have hwb : (fw == x) = false := by simp [hw]
        have HN := hide (show hrsD D x (k + 1) = z by rw [hrsD, if_neg (by rw [HW.out]; exact hw), ← HZ.out])
        clear hx
        go_wp2
        go_roundw
        case rel => exact ⟨k + 1, z, by omega, by go_num, rfl, HN.out.symm, hbw⟩
        case measure => simp [intOf]; omega
    · obtain rfl : k = n := by omega
      go_wp2
      go_returns
      exact ⟨by rw [← HR.out, ← HZ.out]; rfl, hbw⟩
set_option maxHeartbeats 2000000 in
theorem impl_hrs (A : Option Addr) (n c : Nat) (D : Nat → Du) (x : Int) (r : Int) (hr : hrsD D x n = r) (w : World) (hn : n ≤ 14) (ha : Arr w w.heap.size A n 4 (dv D)) (hD : ∀ i, i < n → OneD (D i)) :
    Calls Try.prog 52 #[.slice A n c, .int .i64 x] w fun e w' => e = .returned (.int .i64 r) ∧ Below w.heap.size w w' := by
  have hfa := frozen_al; have hfo := frozen_out
  have HA := hide ha; have HD := hide hD; have HR := hide hr
  clear ha hD hr
  go_enter Try.func52, Try.ntmps52
  go_wp2
  go_loopw [5, 10] (fun s y wr => ∃ (k : Nat) (z : Int), k ≤ n ∧ y = .int .i64 k ∧ s = .int .i64 z ∧ z = hrsD D x k ∧ Below w.heap.size w wr) (fun _ y _ => n - (intOf y).toNat)
  case atStart => exact ⟨0, 0, Nat.zero_le _, rfl, rfl, rfl, by go_grown⟩
  case round =>
    obtain ⟨k, z, hk, rfl, rfl, hz, hbw⟩ := hrel
    have hbd := hrsD_bd (x := x) (k := k) (fun i hi => HD.out i (by omega))
    rw [← hz] at hbd
    have HZ := hide hz
    clear hz
    by_cases hlt : k < n
    · obtain ⟨b, off, hA, hbb, hc⟩ := (HA.out.on hbw) (by omega)
      subst hA
      obtain ⟨c0, c1, c2, c3⟩ := load4 hlt hc
      rw [dv0] at c0; rw [dv1] at c1; rw [dv2] at c2; rw [dv3] at c3
      obtain ⟨a1, a2, a3, a4, a5, a6⟩ := HD.out k hlt
      obtain ⟨fw, hfw⟩ : ∃ v, (D k).who = v := ⟨_, rfl⟩
      obtain ⟨fb, hfb⟩ : ∃ v, (D k).beg = v := ⟨_, rfl⟩
      obtain ⟨ff, hff⟩ : ∃ v, (D k).fin = v := ⟨_, rfl⟩
      rw [hfw] at c0; rw [hfb] at c1; rw [hff] at c2
      rw [hfb] at a3 a4 a6; rw [hff] at a4 a5 a6
      have HW := hide hfw; have HB := hide hfb; have HF := hide hff
      have hbx := below_al (o := .cells #[.int .i64 fw, .int .i64 fb, .int .i64 ff, .bool (D k).chief] 39) hbw
      clear hc hfw hfb hff a1 a2
      by_cases hw : fw = x
      · subst hw
        have HN := hide (show hrsD D fw (k + 1) = z + (ff - fb) by rw [hrsD, if_pos HW.out, ← HZ.out, HF.out, HB.out])
        go_wp2
        go_roundw
        case rel => exact ⟨k + 1, _, by omega, by go_num, rfl, HN.out.symm, hbx⟩
        case measure => simp [intOf]; omega
      · have hwb : (fw == x) = false := by simp [hw]
        have HN := hide (show hrsD D x (k + 1) = z by rw [hrsD, if_neg (by rw [HW.out]; exact hw), ← HZ.out])
        go_wp2
        go_roundw
        case rel => exact ⟨k + 1, z, by omega, by go_num, rfl, HN.out.symm, hbx⟩
        case measure => simp [intOf]; omega
    · obtain rfl : k = n := by omega
      go_wp2
      go_returns
      exact ⟨by rw [← HR.out, ← HZ.out]; rfl, hbw⟩
def hrsOk (n : Nat) (D : Nat → Du) (x : Int) : Bool := goodB n D && inB x 1 50
set_option maxHeartbeats 2000000 in
theorem impl_hours (A : Option Addr) (n c : Nat) (D : Nat → Du) (x : Int) (ok : Bool) (hk : hrsOk n D x = ok) (r : Int) (hr : (if ok = true then hrsD D x n else 0) = r) (w : World) (hn : n ≤ 1048576) (hnc : n ≤ c) (hcm : c ≤ maxLen) (ha : Arr w w.heap.size A n 4 (dv D)) :
    Calls Try.prog 16 #[.slice A n c, .int .i64 x] w fun e w' => e = .returned (.tuple #[.int .i64 r, .bool ok]) ∧ Below w.heap.size w w' := by
  have hfa := frozen_al; have hfo := frozen_out
  have HA := hide ha; have HK := hide hk; have HR := hide hr
  clear ha hk hr
  cases hg : goodB n D
  · obtain rfl : false = ok := by rw [← HK.out, hrsOk, hg]; rfl
    obtain rfl : 0 = r := HR.out
    have HG := hide hg
    clear hg
    go_enter Try.func16, Try.ntmps16
    go_wp2_with fail
    refine (impl_good17 A n c D _ HG.out _ hn hnc hcm (HA.out.on (by go_grown))).mono ?_
    rintro e w1 ⟨rfl, hb1⟩
    obtain ⟨qc1, qf1⟩ := bcell hb1
    have hz1 := hb1.size
    try simp only [World.size_alloc, World.size_setCell, World.size_drew] at hz1
    have hq1 : Below w.heap.size w w1 := below_call (by go_grown) hb1
    try have hl0_1 : w.heap.size < w1.heap.size := by omega
    try have hl1_1 : w.heap.size + 1 < w1.heap.size := by omega
    try have hl2_1 : w.heap.size + 2 < w1.heap.size := by omega
    try have hl3_1 : w.heap.size + 3 < w1.heap.size := by omega
    go_wp2
    go_returns
    exact ⟨rfl, hq1⟩
  · have HG := hide hg
    cases hi : inB x 1 50
    · obtain rfl : false = ok := by rw [← HK.out, hrsOk, hg, hi]; rfl
      obtain rfl : 0 = r := HR.out
      clear hg
      go_enter Try.func16, Try.ntmps16
      go_wp2_with fail
      refine (impl_good17 A n c D _ HG.out _ hn hnc hcm (HA.out.on (by go_grown))).mono ?_
      rintro e w1 ⟨rfl, hb1⟩
      obtain ⟨qc1, qf1⟩ := bcell hb1
      have hz1 := hb1.size
      try simp only [World.size_alloc, World.size_setCell, World.size_drew] at hz1
      have hq1 : Below w.heap.size w w1 := below_call (by go_grown) hb1
      try have hl0_1 : w.heap.size < w1.heap.size := by omega
      try have hl1_1 : w.heap.size + 1 < w1.heap.size := by omega
      try have hl2_1 : w.heap.size + 2 < w1.heap.size := by omega
      try have hl3_1 : w.heap.size + 3 < w1.heap.size := by omega
      go_wp2_with (go_at_call 51; refine (impl_who _ _ (by assumption) _).mono ?_; rintro e w' ⟨rfl, rfl⟩)
      go_returns
      exact ⟨rfl, hq1⟩
    · obtain rfl : true = ok := by rw [← HK.out, hrsOk, hg, hi]; rfl
      obtain rfl : hrsD D x n = r := HR.out
      obtain ⟨hn12, hok⟩ := good_of hg
      have HD := hide (fun i hi => (hok i hi).1)
      clear hg hok
      go_enter Try.func16, Try.ntmps16
      go_wp2_with fail
      refine (impl_good17 A n c D _ HG.out _ hn hnc hcm (HA.out.on (by go_grown))).mono ?_
      rintro e w1 ⟨rfl, hb1⟩
      obtain ⟨qc1, qf1⟩ := bcell hb1
      have hz1 := hb1.size
      try simp only [World.size_alloc, World.size_setCell, World.size_drew] at hz1
      have hq1 : Below w.heap.size w w1 := below_call (by go_grown) hb1
      try have hl0_1 : w.heap.size < w1.heap.size := by omega
      try have hl1_1 : w.heap.size + 1 < w1.heap.size := by omega
      try have hl2_1 : w.heap.size + 2 < w1.heap.size := by omega
      try have hl3_1 : w.heap.size + 3 < w1.heap.size := by omega
      go_wp2_with (go_at_call 51; refine (impl_who _ _ (by assumption) _).mono ?_; rintro e w' ⟨rfl, rfl⟩)
      refine (impl_hrs A n c D x _ rfl _ (by omega) (HA.out.on hq1) HD.out).mono ?_
      rintro e w2 ⟨rfl, hb2⟩
      have hq2 := below_call hq1 hb2
      clear hb2
      go_wp2
      go_returns
      exact ⟨rfl, hq2⟩
end Go.Proofs.Yteklalbjlmkagaa
