/- The helpers of Fault: made by mixgen.py. -/
import Derived.Test.YtbpeamjgddikjaaTyBend
import Derived.Test.YtbpeamjgddikjaaGrow
namespace Go.Proofs.Ytbpeamjgddikjaa
open Go.RowKit
set_option linter.unusedVariables false
set_option linter.unusedSimpArgs false

theorem blk_new_at3 (X : World) (g : Nat) (t : TypeId) (cs : Array Value) (h : g = X.heap.size) : Blk (X.alloc (.cells cs t)) g t cs := by
  subst h; exact Blk.new X t cs
theorem below_blk {W w' : World} {g B : Nat} {t : TypeId} {cs : Array Value} (hb : Below B W w') (h : Blk W g t cs) (hg : g < B) : Blk w' g t cs := h.below hb hg
theorem own_far3 {w : World} {base n k : Nat} {E : TypeId} {v : Value} {F : Nat → Nat → Value} (h : Own w base E k v n F) {p : Addr} (hp : p.block < base) {x : Value} : Own (w.setCell p x) base E k v n F := by
  rcases h with h | ⟨g, cap, cur, rfl, hg, hb, h4⟩
  · exact .inl h
  · exact .inr ⟨g, cap, cur, rfl, hg, (Below.heap_setCell w p x g (by omega)).trans hb, h4⟩
theorem to_fault (x0 : Int) (xs1 : ByteArray) (A : Option Addr) (n c : Nat) (X : Nat → Nat → Int) (x3 : Int) (w : World) (hn : n ≤ 1048576) (ha : Arr w w.heap.size A n 2 (iv X)) :
    Calls Try.prog 16 #[.agg #[.int .i64 x0, .string xs1, .slice A n c, .int .i64 x3]] w fun e w' => ∃ v, e = .returned (.agg #[.int .i64 x0, .string xs1, v, .int .i64 x3]) ∧ Below w.heap.size w w' ∧ Own w' w.heap.size 26 2 v n (iv X) := by
  go_enter Try.func16, Try.ntmps16
  go_wp2_with fail
  refine (to_bendS _ _ _ X _ hn (ha.on (by go_grown))).mono ?_
  rintro e w1 ⟨v, rfl, hb1, ho1⟩
  obtain ⟨A1, c1, rfl, _, _⟩ := ho1.arr
  have hs1 := hb1.size
  simp only [World.size_alloc, World.size_setCell] at hs1
  have hl0 : w.heap.size < w1.heap.size := by omega
  have hl1 : w.heap.size + 1 < w1.heap.size := by omega
  have hl2 : w.heap.size + 1 + 1 < w1.heap.size := by omega
  have hq1 : Below w.heap.size w w1 := below_call (by go_grown) hb1
  have hblk1 := below_blk hb1 (blk_new_at3 _ (w.heap.size + 1 + 1) _ _ (by simp)) (by simp)
  have d0 := hblk1.cell 0; have d1 := hblk1.cell 1; have d2 := hblk1.cell 2; have d3 := hblk1.cell 3
  have f0 := hblk1.frozen 0; have f1 := hblk1.frozen 1; have f2 := hblk1.frozen 2; have f3 := hblk1.frozen 3
  simp at d0 d1 d2 d3
  have hblk2 := below_blk hb1 (((Blk.new w _ _).alloc _).alloc _) (by simp; omega)
  have hblk3 := below_blk hb1 ((blk_new_at3 _ (w.heap.size + 1) _ _ (by simp)).alloc _) (by simp)
  have e3 := hblk2.cell 3; have g0 := hblk3.cell 0; have k0 := hblk3.frozen 0; have g1 := hblk3.cell 1; have k1 := hblk3.frozen 1; have g2 := hblk3.cell 2; have k2 := hblk3.frozen 2; have g3 := hblk3.cell 3; have k3 := hblk3.frozen 3
  simp at e3 g0 g1 g2 g3
  have HO := hide ho1
  clear ho1 hblk1 hblk2 hblk3
  go_wp2
  refine bodyPost_ret (v := .agg #[.int .i64 x0, .string xs1, .slice A1 n c1, .int .i64 x3]) (by simp [results, Try.results16, go_sem, g0, g1, g2, g3]) rfl ?_
  have hO := HO.out
  simp only [World.size_alloc] at hO
  exact ⟨_, rfl, by go_grown, Own.base (own_far3 (own_far3 (own_far3 (own_far3 (own_far3 (own_far3 hO (by simp only []; omega)) (by simp only []; omega)) (by simp only []; omega)) (by simp only []; omega)) (by simp only []; omega)) (by simp only []; omega)) (by omega)⟩
theorem sz_fault_ok (x0 : Int) (xs1 : ByteArray) (A : Option Addr) (n c : Nat) (x3 : Int) (l : Int) (h : (xs1.size : Int) + (n : Int) ≤ l) (h2 : l ≤ 1048576) (w : World) :
    Calls Try.prog 14 #[.agg #[.int .i64 x0, .string xs1, .slice A n c, .int .i64 x3], .int .i64 l] w fun e w' => e = .returned (.int .i64 (l - ((xs1.size : Int) + (n : Int)))) ∧ Below w.heap.size w w' := by
  have hfa := frozen_al; have hfo := frozen_out
  have he : l - xs1.size - n = l - ((xs1.size : Int) + (n : Int)) := by omega
  go_enter Try.func14, Try.ntmps14
  go_wp2_with fail
  refine (sz_bendS_ok _ _ _ _ (by omega) (by omega) _).mono ?_
  rintro e u ⟨rfl, rfl⟩
  try rw [he]
  go_wp2
  go_returns
  exact ⟨rfl, by go_grown⟩
theorem sz_fault_over (x0 : Int) (xs1 : ByteArray) (A : Option Addr) (n c : Nat) (x3 : Int) (l : Int) (h : l < (xs1.size : Int) + (n : Int)) (hlxs1 : xs1.size ≤ maxLen) (hn : n ≤ maxLen) (h1 : 0 ≤ l) (h2 : l ≤ 1048576) (w : World) :
    Calls Try.prog 14 #[.agg #[.int .i64 x0, .string xs1, .slice A n c, .int .i64 x3], .int .i64 l] w fun e w' => e = .returned (.int .i64 (-1)) ∧ Below w.heap.size w w' := by
  have hfa := frozen_al; have hfo := frozen_out
  have hxxs1 : xs1.size ≤ 9223372036854775807 := hlxs1
  by_cases hc0 : l - xs1.size < 0
  · go_enter Try.func14, Try.ntmps14
    go_wp2
    go_returns
    exact ⟨rfl, by go_grown⟩
  · skip
    go_enter Try.func14, Try.ntmps14
    go_wp2_with fail
    refine (sz_bendS_over _ _ _ _ (by omega) hn (by omega) (by omega) _).mono ?_
    rintro e u ⟨rfl, rfl⟩
    go_wp2
    go_returns
    exact ⟨rfl, by go_grown⟩
set_option maxHeartbeats 1000000 in
theorem eq_fault (x0 : Int) (xs1 : ByteArray) (A : Option Addr) (n c : Nat) (X : Nat → Nat → Int) (x3 : Int) (B : Option Addr) (d : Nat) (w : World) (hn : n ≤ 1048576) (ha : Arr w w.heap.size A n 2 (iv X)) (hb : Arr w w.heap.size B n 2 (iv X)) :
    Calls Try.prog 18 #[.agg #[.int .i64 x0, .string xs1, .slice A n c, .int .i64 x3], .agg #[.int .i64 x0, .string xs1, .slice B n d, .int .i64 x3]] w fun e w' => e = .returned (.bool true) ∧ Below w.heap.size w w' := by
  have hfa := frozen_al; have hfo := frozen_out
  go_enter Try.func18, Try.ntmps18
  go_wp2_with fail
  refine (eq_bendS _ _ _ _ _ _ X X true (eqX_self _ _ _) _ hn hn (ha.on (by go_grown)) (hb.on (by go_grown))).mono ?_
  rintro e w1 ⟨rfl, hb1⟩
  have hs1 := hb1.size
  simp only [World.size_alloc, World.size_setCell] at hs1
  obtain ⟨qc1, qf1⟩ := bcell hb1
  have hl0 : w.heap.size < w1.heap.size := by omega
  have hl1 : w.heap.size + 1 < w1.heap.size := by omega
  have hq1 : Below w.heap.size w w1 := below_call (by go_grown) hb1
  go_wp2
  go_returns
  exact ⟨rfl, hq1⟩
end Go.Proofs.Ytbpeamjgddikjaa
