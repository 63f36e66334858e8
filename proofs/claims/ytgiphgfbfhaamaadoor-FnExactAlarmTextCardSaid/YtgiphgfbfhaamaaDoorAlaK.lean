/- The helpers of Alarm: made by mixgen.py. -/
import Derived.Test.YtgiphgfbfhaamaaDoorTyHeard
import Derived.Test.YtgiphgfbfhaamaaDoorGrow
namespace Go.Proofs.YtgiphgfbfhaamaaDoor
open Go.RowKit
set_option linter.unusedVariables false
set_option linter.unusedSimpArgs false

theorem blk_new_at3 (X : World) (g : Nat) (t : TypeId) (cs : Array Value) (h : g = X.heap.size) : Blk (X.alloc (.cells cs t)) g t cs := by
  subst h; exact Blk.new X t cs
theorem below_blk {W w' : World} {g B : Nat} {t : TypeId} {cs : Array Value} (hb : Below B W w') (h : Blk W g t cs) (hg : g < B) : Blk w' g t cs := h.below hb hg
theorem own_far3 {w : World} {base n k : Nat} {E : TypeId} {v : Value} {F : Nat → Nat → Value} (h : Own w base E k v n F) {p : Addr} (hp : p.block < base) {x : Value} : Own (w.setCell p x) base E k v n F := by
  rcases h with h | ⟨g, cap, cur, rfl, hg, hb, h4⟩
  · exact .inl h
  · exact .inr ⟨g, cap, cur, rfl, hg, (Below.heap_setCell w p x g (by omega)).trans hb, h4⟩
theorem to_alarm (x0 : Int) (x1 : Int) (A : Option Addr) (n c : Nat) (X : Nat → Nat → Int) (x3 : Int) (x4 : Int) (w : World) (hn : n ≤ 1048576) (ha : Arr w w.heap.size A n 2 (iv X)) :
    Calls Tryd.prog 6 #[.agg #[.int .i64 x0, .int .i64 x1, .slice A n c, .int .i64 x3, .int .i64 x4]] w fun e w' => ∃ v, e = .returned (.agg #[.int .i64 x0, .int .i64 x1, v, .int .i64 x3, .int .i64 x4]) ∧ Below w.heap.size w w' ∧ Own w' w.heap.size 44 2 v n (iv X) := by
  go_enter Tryd.func6, Tryd.ntmps6
  go_wp2_with fail
  refine (to_heardS _ _ _ X _ hn (ha.on (by go_grown))).mono ?_
  rintro e w1 ⟨v, rfl, hb1, ho1⟩
  obtain ⟨A1, c1, rfl, _, _⟩ := ho1.arr
  have hs1 := hb1.size
  simp only [World.size_alloc, World.size_setCell] at hs1
  have hl0 : w.heap.size < w1.heap.size := by omega
  have hl1 : w.heap.size + 1 < w1.heap.size := by omega
  have hl2 : w.heap.size + 1 + 1 < w1.heap.size := by omega
  have hq1 : Below w.heap.size w w1 := below_call (by go_grown) hb1
  have hblk1 := below_blk hb1 (blk_new_at3 _ (w.heap.size + 1 + 1) _ _ (by simp)) (by simp)
  have d0 := hblk1.cell 0; have d1 := hblk1.cell 1; have d2 := hblk1.cell 2; have d3 := hblk1.cell 3; have d4 := hblk1.cell 4
  have f0 := hblk1.frozen 0; have f1 := hblk1.frozen 1; have f2 := hblk1.frozen 2; have f3 := hblk1.frozen 3; have f4 := hblk1.frozen 4
  simp at d0 d1 d2 d3 d4
  have hblk2 := below_blk hb1 (((Blk.new w _ _).alloc _).alloc _) (by simp; omega)
  have hblk3 := below_blk hb1 ((blk_new_at3 _ (w.heap.size + 1) _ _ (by simp)).alloc _) (by simp)
  have e3 := hblk2.cell 3; have e4 := hblk2.cell 4; have g0 := hblk3.cell 0; have k0 := hblk3.frozen 0; have g1 := hblk3.cell 1; have k1 := hblk3.frozen 1; have g2 := hblk3.cell 2; have k2 := hblk3.frozen 2; have g3 := hblk3.cell 3; have k3 := hblk3.frozen 3; have g4 := hblk3.cell 4; have k4 := hblk3.frozen 4
  simp at e3 e4 g0 g1 g2 g3 g4
  have HO := hide ho1
  clear ho1 hblk1 hblk2 hblk3
  go_wp2
  refine bodyPost_ret (v := .agg #[.int .i64 x0, .int .i64 x1, .slice A1 n c1, .int .i64 x3, .int .i64 x4]) (by simp [results, Tryd.results6, go_sem, g0, g1, g2, g3, g4]) rfl ?_
  have hO := HO.out
  simp only [World.size_alloc] at hO
  exact ⟨_, rfl, by go_grown, Own.base (own_far3 (own_far3 (own_far3 (own_far3 (own_far3 (own_far3 (own_far3 (own_far3 hO (by simp only []; omega)) (by simp only []; omega)) (by simp only []; omega)) (by simp only []; omega)) (by simp only []; omega)) (by simp only []; omega)) (by simp only []; omega)) (by simp only []; omega)) (by omega)⟩
theorem sz_alarm_ok (x0 : Int) (x1 : Int) (A : Option Addr) (n c : Nat) (x3 : Int) (x4 : Int) (l : Int) (h : (n : Int) ≤ l) (h2 : l ≤ 1048576) (w : World) :
    Calls Tryd.prog 4 #[.agg #[.int .i64 x0, .int .i64 x1, .slice A n c, .int .i64 x3, .int .i64 x4], .int .i64 l] w fun e w' => e = .returned (.int .i64 (l - ((n : Int)))) ∧ Below w.heap.size w w' := by
  have hfa := frozen_al; have hfo := frozen_out
  have he : l - n = l - ((n : Int)) := by omega
  go_enter Tryd.func4, Tryd.ntmps4
  go_wp2_with fail
  refine (sz_heardS_ok _ _ _ _ (by omega) (by omega) _).mono ?_
  rintro e u ⟨rfl, rfl⟩
  try rw [he]
  go_wp2
  go_returns
  exact ⟨rfl, by go_grown⟩
theorem sz_alarm_over (x0 : Int) (x1 : Int) (A : Option Addr) (n c : Nat) (x3 : Int) (x4 : Int) (l : Int) (h : l < (n : Int))  (hn : n ≤ maxLen) (h1 : 0 ≤ l) (h2 : l ≤ 1048576) (w : World) :
    Calls Tryd.prog 4 #[.agg #[.int .i64 x0, .int .i64 x1, .slice A n c, .int .i64 x3, .int .i64 x4], .int .i64 l] w fun e w' => e = .returned (.int .i64 (-1)) ∧ Below w.heap.size w w' := by
  have hfa := frozen_al; have hfo := frozen_out
  go_enter Tryd.func4, Tryd.ntmps4
  go_wp2_with fail
  refine (sz_heardS_over _ _ _ _ (by omega) hn (by omega) (by omega) _).mono ?_
  rintro e u ⟨rfl, rfl⟩
  go_wp2
  go_returns
  exact ⟨rfl, by go_grown⟩
set_option maxHeartbeats 1000000 in
theorem eq_alarm (x0 : Int) (x1 : Int) (A : Option Addr) (n c : Nat) (X : Nat → Nat → Int) (x3 : Int) (x4 : Int) (B : Option Addr) (d : Nat) (w : World) (hn : n ≤ 1048576) (ha : Arr w w.heap.size A n 2 (iv X)) (hb : Arr w w.heap.size B n 2 (iv X)) :
    Calls Tryd.prog 8 #[.agg #[.int .i64 x0, .int .i64 x1, .slice A n c, .int .i64 x3, .int .i64 x4], .agg #[.int .i64 x0, .int .i64 x1, .slice B n d, .int .i64 x3, .int .i64 x4]] w fun e w' => e = .returned (.bool true) ∧ Below w.heap.size w w' := by
  have hfa := frozen_al; have hfo := frozen_out
  go_enter Tryd.func8, Tryd.ntmps8
  go_wp2_with fail
  refine (eq_heardS _ _ _ _ _ _ X X true (eqX_self _ _ _) _ hn hn (ha.on (by go_grown)) (hb.on (by go_grown))).mono ?_
  rintro e w1 ⟨rfl, hb1⟩
  have hs1 := hb1.size
  simp only [World.size_alloc, World.size_setCell] at hs1
  obtain ⟨qc1, qf1⟩ := bcell hb1
  have hl0 : w.heap.size < w1.heap.size := by omega
  have hl1 : w.heap.size + 1 < w1.heap.size := by omega
  have hq1 : Below w.heap.size w w1 := below_call (by go_grown) hb1
  go_wp2
  go_returns
  exact ⟨rfl, hq1⟩
end Go.Proofs.YtgiphgfbfhaamaaDoor
