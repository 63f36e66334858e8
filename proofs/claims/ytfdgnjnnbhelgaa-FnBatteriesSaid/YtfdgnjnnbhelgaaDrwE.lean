/- The draws of a battery and days together: made by dredgen.py. -/
import Derived.Test.YtfdgnjnnbhelgaaDrwD
namespace Go.Proofs.Ytfdgnjnnbhelgaa
open Go.RowKit
set_option linter.unusedVariables false
set_option linter.unusedSimpArgs false

theorem se_blk {w : World} {g : Nat} {t : TypeId} {x y z u : Int} (h : Blk w g t #[.int .i64 x, .int .i64 y, .int .i64 z, .int .i64 u]) : g < (w).heap.size ∧ (w).cell? ⟨g, 0, none⟩ = some (.int .i64 x) ∧ (w).cell? ⟨g, 1, none⟩ = some (.int .i64 y) ∧ (w).cell? ⟨g, 2, none⟩ = some (.int .i64 z) ∧ (w).cell? ⟨g, 3, none⟩ = some (.int .i64 u) :=
  ⟨h.lt, by rw [h.cell]; rfl, by rw [h.cell]; rfl, by rw [h.cell]; rfl, by rw [h.cell]; rfl⟩
theorem se_far {w : World} {g r k : Nat} {x y z u : Int} (v : Value) (hne : r ≠ g) (h : g < (w).heap.size ∧ (w).cell? ⟨g, 0, none⟩ = some (.int .i64 x) ∧ (w).cell? ⟨g, 1, none⟩ = some (.int .i64 y) ∧ (w).cell? ⟨g, 2, none⟩ = some (.int .i64 z) ∧ (w).cell? ⟨g, 3, none⟩ = some (.int .i64 u)) : g < (w.setCell ⟨r, k, none⟩ v).heap.size ∧ (w.setCell ⟨r, k, none⟩ v).cell? ⟨g, 0, none⟩ = some (.int .i64 x) ∧ (w.setCell ⟨r, k, none⟩ v).cell? ⟨g, 1, none⟩ = some (.int .i64 y) ∧ (w.setCell ⟨r, k, none⟩ v).cell? ⟨g, 2, none⟩ = some (.int .i64 z) ∧ (w.setCell ⟨r, k, none⟩ v).cell? ⟨g, 3, none⟩ = some (.int .i64 u) :=
  have f : ∀ i, (w.setCell ⟨r, k, none⟩ v).cell? ⟨g, i, none⟩ = w.cell? ⟨g, i, none⟩ := fun i => World.cell?_of_block (Below.heap_setCell w ⟨r, k, none⟩ v g (fun e => hne e.symm))
  ⟨by simpa [World.setCell] using h.1, (f 0).trans h.2.1, (f 1).trans h.2.2.1, (f 2).trans h.2.2.2.1, (f 3).trans h.2.2.2.2⟩
theorem blk_drawn2 {W w' : World} {cb M g : Nat} {K : Code} {t : TypeId} {cs : Array Value} (hd : Drawn W cb K M w') (hb : Blk W g t cs) (hne : g ≠ cb) : Blk w' g t cs :=
  (hd.1.block g hb.lt (fun e => by injection e with e; omega)).trans hb
theorem own_far4 {w : World} {base n k : Nat} {E : TypeId} {v : Value} {F : Nat → Nat → Value} (h : Own w base E k v n F) {p : Addr} (hp : p.block < base) {x : Value} : Own (w.setCell p x) base E k v n F := by
  rcases h with h | ⟨g, cap, cur, rfl, hg, hb, h4⟩
  · exact .inl h
  · exact .inr ⟨g, cap, cur, rfl, hg, (Below.heap_setCell w p x g (by omega)).trans hb, h4⟩
set_option maxHeartbeats 4000000 in
set_option maxRecDepth 100000 in
theorem draw_afterDays (A : Option Addr) (n c : Nat) (C : Nat → Int) (w : World) (hC : CodeOk w A n C) :
    Calls Try.prog 13 #[.slice A n c] w fun e w' => ∃ (x y z u : Int) (v : Value) (l : List (Int × Int)), l.length ≤ 40 ∧ e = .returned (.tuple #[.agg #[.int .i64 x, .int .i64 y, .int .i64 z, .int .i64 u], v]) ∧ Below w.heap.size w w' ∧ Own w' w.heap.size 39 2 v l.length (iv (sdX l)) := by
  have hr : Blk (w.alloc (.cells #[.int .i64 0, .int .i64 0, .int .i64 0, .int .i64 0] 25)) w.heap.size 25 #[.int .i64 0, .int .i64 0, .int .i64 0, .int .i64 0] := Blk.new _ _ _
  have hb0 : Below w.heap.size w ((w.alloc (.cells #[.int .i64 0, .int .i64 0, .int .i64 0, .int .i64 0] 25)).alloc (.cells #[.slice A n c, .int .i64 0, .int .u64 0] 85)) := below_al (below_al (Below.refl _ _))
  go_enter Try.func13, Try.ntmps13
  go_wp2_with fail
  refine (spec_battery (w.heap.size + 1) _ 0 _ (by omega) (cur_new (hC.on (below_al (Below.refl _ _))) _ (by simp))).mono ?_
  rintro e w1 ⟨x, y, z, u, rfl, hd⟩
  have hb1 := below_drawn hb0 hd.1 (by omega)
  have hr1 : Blk w1 w.heap.size 25 #[.int .i64 0, .int .i64 0, .int .i64 0, .int .i64 0] := (hd.1.block w.heap.size (by simp; omega) (fun e => by injection e with e; omega)).trans (hr.alloc _)
  have hc1 := hd.2
  have hcl := hc1.lt
  have hq : Blk (w1.alloc (.cells #[.int .i64 x, .int .i64 y, .int .i64 z, .int .i64 u] 25)) w1.heap.size 25 #[.int .i64 x, .int .i64 y, .int .i64 z, .int .i64 u] := Blk.new _ _ _
  have hS0 := se_blk (blk_drewC hq)
  have hs1 := hb1.size
  have hb1' : Below w.heap.size w (w1.alloc (.cells #[.int .i64 x, .int .i64 y, .int .i64 z, .int .i64 u] 25)).drew := (below_al hb1).drew
  clear hd hr hb0
  go_wp2_with fail
  go_region_held3 (fun w' => w1.heap.size < w'.heap.size ∧ w'.cell? ⟨w1.heap.size, 0, none⟩ = some (.int .i64 x) ∧ w'.cell? ⟨w1.heap.size, 1, none⟩ = some (.int .i64 y) ∧ w'.cell? ⟨w1.heap.size, 2, none⟩ = some (.int .i64 z) ∧ w'.cell? ⟨w1.heap.size, 3, none⟩ = some (.int .i64 u)) (first | assumption | exact se_far _ (by omega) (by assumption) | exact se_far _ (by omega) (se_far _ (by omega) (by assumption)) | exact se_far _ (by omega) (se_far _ (by omega) (se_far _ (by omega) (by assumption))) | exact se_far _ (by omega) (se_far _ (by omega) (se_far _ (by omega) (se_far _ (by omega) (by assumption))))) (first
    | ((go_at_call 77); (refine (spec_dSunDays (w.heap.size + 1) _ (0 + 20) _ (by omega) (Cur.drew (hc1.alloc _))).mono ?_); (rintro e w2 ⟨v, l, hl, rfl, hd2, ho2⟩); (have hb2 := below_drawn hb1' hd2.1 (by omega)); (have hr2 := blk_drawn2 hd2 (blk_drewC (hr1.alloc _)) (by omega)); (have hq2 := blk_drawn2 hd2 (blk_drewC hq) (by omega)); (have hS2 := se_blk hq2); (have cr0 := hr2.cell 0); (have cr1 := hr2.cell 1); (have cr2 := hr2.cell 2); (have cr3 := hr2.cell 3); (have fr0 := hr2.frozen 0); (have fr1 := hr2.frozen 1); (have fr2 := hr2.frozen 2); (have fr3 := hr2.frozen 3); (simp at cr0 cr1 cr2 cr3); (obtain ⟨A2, c2, hv2, _, _⟩ := ho2.arr); (subst hv2); (have HO := hide ho2); (clear ho2)))
  all_goals
    go_wp2
    refine bodyPost_ret (v := .tuple #[.agg #[.int .i64 x, .int .i64 y, .int .i64 z, .int .i64 u], .slice A2 l.length c2]) (by simp [results, Try.results13, go_sem, cr0, cr1, cr2, cr3]) rfl ⟨_, _, _, _, _, l, hl, rfl, by go_grown, ?_⟩
    have hO := HO.out
    simp only [World.size_drew, World.size_alloc] at hO
    exact Own.base (own_far4 (own_far4 (own_far4 (own_far4 hO (by simp only []; omega)) (by simp only []; omega)) (by simp only []; omega)) (by simp only []; omega)) (by omega)
set_option maxHeartbeats 2000000 in
theorem draw_lostSun (A : Option Addr) (n c : Nat) (C : Nat → Int) (w : World) (hC : CodeOk w A n C) :
    Calls Try.prog 27 #[.slice A n c] w fun e w' => ∃ (x y z u : Int) (v : Value) (l : List (Int × Int)), l.length ≤ 40 ∧ e = .returned (.tuple #[.agg #[.int .i64 x, .int .i64 y, .int .i64 z, .int .i64 u], v]) ∧ Below w.heap.size w w' ∧ Own w' w.heap.size 39 2 v l.length (iv (sdX l)) := by
  have hr : Blk (w.alloc (.cells #[.int .i64 0, .int .i64 0, .int .i64 0, .int .i64 0] 25)) w.heap.size 25 #[.int .i64 0, .int .i64 0, .int .i64 0, .int .i64 0] := Blk.new _ _ _
  have hb0 : Below w.heap.size w (w.alloc (.cells #[.int .i64 0, .int .i64 0, .int .i64 0, .int .i64 0] 25)) := below_al (Below.refl _ _)
  go_enter Try.func27, Try.ntmps27
  go_wp2_with fail
  refine (draw_afterDays A n c C _ (hC.on hb0)).mono ?_
  rintro e w1 ⟨x, y, z, u, v, l, hl, rfl, hb1, ho⟩
  obtain ⟨A2, c2, rfl, _, _⟩ := ho.arr
  have hb : Below w.heap.size w w1 := below_call hb0 hb1
  have hr1 := hr.below hb1 (by simp)
  have cr0 := hr1.cell 0; have cr1 := hr1.cell 1; have cr2 := hr1.cell 2; have cr3 := hr1.cell 3
  have fr0 := hr1.frozen 0; have fr1 := hr1.frozen 1; have fr2 := hr1.frozen 2; have fr3 := hr1.frozen 3
  simp at cr0 cr1 cr2 cr3
  have HO := hide ho
  clear hb1 hr hr1 ho
  go_wp2
  refine bodyPost_ret (v := .tuple #[.agg #[.int .i64 x, .int .i64 y, .int .i64 z, .int .i64 u], .slice A2 l.length c2]) (by simp [results, Try.results27, go_sem, cr0, cr1, cr2, cr3]) rfl ⟨_, _, _, _, _, l, hl, rfl, by go_grown, ?_⟩
  have hO := HO.out
  simp only [World.size_alloc] at hO
  exact Own.base (own_far4 (own_far4 (own_far4 (own_far4 hO (by simp only []; omega)) (by simp only []; omega)) (by simp only []; omega)) (by simp only []; omega)) (by omega)
set_option maxHeartbeats 2000000 in
theorem draw_leastFull (A : Option Addr) (n c : Nat) (C : Nat → Int) (w : World) (hC : CodeOk w A n C) :
    Calls Try.prog 24 #[.slice A n c] w fun e w' => ∃ (x y z u : Int) (v : Value) (l : List (Int × Int)), l.length ≤ 40 ∧ e = .returned (.tuple #[.agg #[.int .i64 x, .int .i64 y, .int .i64 z, .int .i64 u], v]) ∧ Below w.heap.size w w' ∧ Own w' w.heap.size 39 2 v l.length (iv (sdX l)) := by
  have hr : Blk (w.alloc (.cells #[.int .i64 0, .int .i64 0, .int .i64 0, .int .i64 0] 25)) w.heap.size 25 #[.int .i64 0, .int .i64 0, .int .i64 0, .int .i64 0] := Blk.new _ _ _
  have hb0 : Below w.heap.size w (w.alloc (.cells #[.int .i64 0, .int .i64 0, .int .i64 0, .int .i64 0] 25)) := below_al (Below.refl _ _)
  go_enter Try.func24, Try.ntmps24
  go_wp2_with fail
  refine (draw_afterDays A n c C _ (hC.on hb0)).mono ?_
  rintro e w1 ⟨x, y, z, u, v, l, hl, rfl, hb1, ho⟩
  obtain ⟨A2, c2, rfl, _, _⟩ := ho.arr
  have hb : Below w.heap.size w w1 := below_call hb0 hb1
  have hr1 := hr.below hb1 (by simp)
  have cr0 := hr1.cell 0; have cr1 := hr1.cell 1; have cr2 := hr1.cell 2; have cr3 := hr1.cell 3
  have fr0 := hr1.frozen 0; have fr1 := hr1.frozen 1; have fr2 := hr1.frozen 2; have fr3 := hr1.frozen 3
  simp at cr0 cr1 cr2 cr3
  have HO := hide ho
  clear hb1 hr hr1 ho
  go_wp2
  refine bodyPost_ret (v := .tuple #[.agg #[.int .i64 x, .int .i64 y, .int .i64 z, .int .i64 u], .slice A2 l.length c2]) (by simp [results, Try.results24, go_sem, cr0, cr1, cr2, cr3]) rfl ⟨_, _, _, _, _, l, hl, rfl, by go_grown, ?_⟩
  have hO := HO.out
  simp only [World.size_alloc] at hO
  exact Own.base (own_far4 (own_far4 (own_far4 (own_far4 hO (by simp only []; omega)) (by simp only []; omega)) (by simp only []; omega)) (by simp only []; omega)) (by omega)
end Go.Proofs.Ytfdgnjnnbhelgaa
