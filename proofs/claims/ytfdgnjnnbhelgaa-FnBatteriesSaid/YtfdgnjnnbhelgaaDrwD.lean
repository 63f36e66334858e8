/- The draws of chapter 22's arguments: made by drdgen.py. -/
import Derived.Test.YtfdgnjnnbhelgaaDrwB
namespace Go.Proofs.Ytfdgnjnnbhelgaa
open Go.RowKit
set_option linter.unusedVariables false
set_option linter.unusedSimpArgs false

/-- The code that a law is given. -/
def CodeOk (w : World) (A : Option Addr) (n : Nat) (C : Nat → Int) : Prop := n ≤ 65536 ∧ Arr w w.heap.size A n 1 (bv C) ∧ ∀ i, i < n → 0 ≤ C i ∧ C i ≤ 255
theorem CodeOk.on {w w' : World} {A : Option Addr} {n : Nat} {C : Nat → Int} (h : CodeOk w A n C) (hb : Below w.heap.size w w') : CodeOk w' A n C := ⟨h.1, h.2.1.on hb, h.2.2⟩
theorem cur_new {w : World} {A : Option Addr} {n c : Nat} {C : Nat → Int} (h : CodeOk w A n C) (g : Nat) (hg : g = w.heap.size) : Cur (w.alloc (.cells #[.slice A n c, .int .i64 0, .int .u64 0] 85)) g ⟨A, n, c, C⟩ 0 := by
  subst hg
  refine ⟨⟨h.1, fun hn => ?_, h.2.2⟩, 0, 0, Nat.le_refl _, Blk.new _ _ _⟩
  obtain ⟨b, off, e, hb, hc⟩ := h.2.1 hn
  exact ⟨b, off, e, hb, fun i j hi hj => (World.cell?_alloc_lt w _ ⟨b, _, none⟩ hb).trans (hc i j hi hj)⟩
theorem below_drawn {w a w' : World} {cb : Nat} (h : Below w.heap.size w a) (hg : a.grownBy w' (some cb)) (hcb : w.heap.size ≤ cb) : Below w.heap.size w w' := h.grown hg h.size (fun g e => by injection e with e; omega)
set_option maxHeartbeats 1000000 in
theorem draw_sunDays (A : Option Addr) (n c : Nat) (C : Nat → Int) (w : World) (hC : CodeOk w A n C) :
    Calls Try.prog 87 #[.slice A n c] w fun e w' => ∃ (v : Value) (l : List (Int × Int)), l.length ≤ 40 ∧ e = .returned v ∧ Below w.heap.size w w' ∧ Own w' w.heap.size 39 2 v l.length (iv (sdX l)) := by
  have hb0 : Below w.heap.size w (w.alloc (.cells #[.slice A n c, .int .i64 0, .int .u64 0] 85)) := below_al (Below.refl _ _)
  go_enter Try.func87, Try.ntmps87
  go_wp2_with fail
  refine (spec_dSunDays w.heap.size _ 0 _ (by omega) (cur_new hC _ rfl)).mono ?_
  rintro e w1 ⟨v, l, hl, rfl, hd, ho⟩
  have hb := below_drawn hb0 hd.1 (Nat.le_refl _)
  have HO := hide ho
  clear ho hd
  go_wp2
  go_returns
  exact ⟨_, l, hl, rfl, hb, HO.out.base (by simp)⟩
theorem draw_meanSun (A : Option Addr) (n c : Nat) (C : Nat → Int) (w : World) (hC : CodeOk w A n C) :
    Calls Try.prog 33 #[.slice A n c] w fun e w' => ∃ (v : Value) (l : List (Int × Int)), l.length ≤ 40 ∧ e = .returned v ∧ Below w.heap.size w w' ∧ Own w' w.heap.size 39 2 v l.length (iv (sdX l)) := by
  go_enter Try.func33, Try.ntmps33
  go_wp2_with fail
  refine (draw_sunDays A n c C _ hC).mono ?_
  rintro e w1 ⟨v, l, hl, rfl, hb, ho⟩
  have HO := hide ho
  clear ho
  go_wp2
  go_returns
  exact ⟨_, l, hl, rfl, hb, HO.out⟩
set_option maxHeartbeats 2000000 in
theorem draw_battery (A : Option Addr) (n c : Nat) (C : Nat → Int) (w : World) (hC : CodeOk w A n C) :
    Calls Try.prog 71 #[.slice A n c] w fun e w' => ∃ x y z u : Int, e = .returned (.agg #[.int .i64 x, .int .i64 y, .int .i64 z, .int .i64 u]) ∧ Below w.heap.size w w' := by
  have hr : Blk (w.alloc (.cells #[.int .i64 0, .int .i64 0, .int .i64 0, .int .i64 0] 25)) w.heap.size 25 #[.int .i64 0, .int .i64 0, .int .i64 0, .int .i64 0] := Blk.new _ _ _
  have hb0 : Below w.heap.size w ((w.alloc (.cells #[.int .i64 0, .int .i64 0, .int .i64 0, .int .i64 0] 25)).alloc (.cells #[.slice A n c, .int .i64 0, .int .u64 0] 85)) := below_al (below_al (Below.refl _ _))
  go_enter Try.func71, Try.ntmps71
  go_wp2_with fail
  refine (spec_battery (w.heap.size + 1) _ 0 _ (by omega) (cur_new (hC.on (below_al (Below.refl _ _))) _ (by simp))).mono ?_
  rintro e w1 ⟨x, y, z, u, rfl, hd⟩
  have hb := below_drawn hb0 hd.1 (by omega)
  have hr1 : Blk w1 w.heap.size 25 #[.int .i64 0, .int .i64 0, .int .i64 0, .int .i64 0] := (hd.1.block w.heap.size (by simp; omega) (fun e => by injection e with e; omega)).trans (hr.alloc _)
  have cr0 := hr1.cell 0; have cr1 := hr1.cell 1; have cr2 := hr1.cell 2; have cr3 := hr1.cell 3
  have fr0 := hr1.frozen 0; have fr1 := hr1.frozen 1; have fr2 := hr1.frozen 2; have fr3 := hr1.frozen 3
  simp at cr0 cr1 cr2 cr3
  clear hd hr hr1
  go_wp2
  refine bodyPost_ret (v := .agg #[.int .i64 x, .int .i64 y, .int .i64 z, .int .i64 u]) (by simp [results, Try.results71, go_sem, cr0, cr1, cr2, cr3]) rfl ⟨_, _, _, _, rfl, by go_grown⟩

set_option maxHeartbeats 2000000 in
theorem draw_darkDays (A : Option Addr) (n c : Nat) (C : Nat → Int) (w : World) (hC : CodeOk w A n C) :
    Calls Try.prog 19 #[.slice A n c] w fun e w' => ∃ x y z u : Int, e = .returned (.agg #[.int .i64 x, .int .i64 y, .int .i64 z, .int .i64 u]) ∧ Below w.heap.size w w' := by
  have hr : Blk (w.alloc (.cells #[.int .i64 0, .int .i64 0, .int .i64 0, .int .i64 0] 25)) w.heap.size 25 #[.int .i64 0, .int .i64 0, .int .i64 0, .int .i64 0] := Blk.new _ _ _
  have hb0 : Below w.heap.size w (w.alloc (.cells #[.int .i64 0, .int .i64 0, .int .i64 0, .int .i64 0] 25)) := below_al (Below.refl _ _)
  go_enter Try.func19, Try.ntmps19
  go_wp2_with fail
  refine (draw_battery A n c C _ (hC.on hb0)).mono ?_
  rintro e w1 ⟨x, y, z, u, rfl, hb1⟩
  have hb : Below w.heap.size w w1 := below_call hb0 hb1
  have hr1 := hr.below hb1 (by simp)
  have cr0 := hr1.cell 0; have cr1 := hr1.cell 1; have cr2 := hr1.cell 2; have cr3 := hr1.cell 3
  have fr0 := hr1.frozen 0; have fr1 := hr1.frozen 1; have fr2 := hr1.frozen 2; have fr3 := hr1.frozen 3
  simp at cr0 cr1 cr2 cr3
  clear hb1 hr hr1
  go_wp2
  refine bodyPost_ret (v := .agg #[.int .i64 x, .int .i64 y, .int .i64 z, .int .i64 u]) (by simp [results, Try.results19, go_sem, cr0, cr1, cr2, cr3]) rfl ⟨_, _, _, _, rfl, by go_grown⟩

set_option maxHeartbeats 2000000 in
theorem draw_leastSun (A : Option Addr) (n c : Nat) (C : Nat → Int) (w : World) (hC : CodeOk w A n C) :
    Calls Try.prog 9 #[.slice A n c] w fun e w' => ∃ x y z u : Int, e = .returned (.agg #[.int .i64 x, .int .i64 y, .int .i64 z, .int .i64 u]) ∧ Below w.heap.size w w' := by
  have hr : Blk (w.alloc (.cells #[.int .i64 0, .int .i64 0, .int .i64 0, .int .i64 0] 25)) w.heap.size 25 #[.int .i64 0, .int .i64 0, .int .i64 0, .int .i64 0] := Blk.new _ _ _
  have hb0 : Below w.heap.size w (w.alloc (.cells #[.int .i64 0, .int .i64 0, .int .i64 0, .int .i64 0] 25)) := below_al (Below.refl _ _)
  go_enter Try.func9, Try.ntmps9
  go_wp2_with fail
  refine (draw_battery A n c C _ (hC.on hb0)).mono ?_
  rintro e w1 ⟨x, y, z, u, rfl, hb1⟩
  have hb : Below w.heap.size w w1 := below_call hb0 hb1
  have hr1 := hr.below hb1 (by simp)
  have cr0 := hr1.cell 0; have cr1 := hr1.cell 1; have cr2 := hr1.cell 2; have cr3 := hr1.cell 3
  have fr0 := hr1.frozen 0; have fr1 := hr1.frozen 1; have fr2 := hr1.frozen 2; have fr3 := hr1.frozen 3
  simp at cr0 cr1 cr2 cr3
  clear hb1 hr hr1
  go_wp2
  refine bodyPost_ret (v := .agg #[.int .i64 x, .int .i64 y, .int .i64 z, .int .i64 u]) (by simp [results, Try.results9, go_sem, cr0, cr1, cr2, cr3]) rfl ⟨_, _, _, _, rfl, by go_grown⟩

end Go.Proofs.Ytfdgnjnnbhelgaa
