/- Draws that take a number out of a part of a list: made by dreFgen.py. -/
import Derived.Test.YtfdgnjnnbhelgaaDrwE
namespace Go.Proofs.Ytfdgnjnnbhelgaa
open Go.RowKit
set_option linter.unusedVariables false
set_option linter.unusedSimpArgs false

theorem se_al {w : World} {g : Nat} {x y z u : Int} (o : Obj) (h : g < w.heap.size ∧ w.cell? ⟨g, 0, none⟩ = some (.int .i64 x) ∧ w.cell? ⟨g, 1, none⟩ = some (.int .i64 y) ∧ w.cell? ⟨g, 2, none⟩ = some (.int .i64 z) ∧ w.cell? ⟨g, 3, none⟩ = some (.int .i64 u)) :
    g < (w.alloc o).heap.size ∧ (w.alloc o).cell? ⟨g, 0, none⟩ = some (.int .i64 x) ∧ (w.alloc o).cell? ⟨g, 1, none⟩ = some (.int .i64 y) ∧ (w.alloc o).cell? ⟨g, 2, none⟩ = some (.int .i64 z) ∧ (w.alloc o).cell? ⟨g, 3, none⟩ = some (.int .i64 u) :=
  have f : ∀ i, (w.alloc o).cell? ⟨g, i, none⟩ = w.cell? ⟨g, i, none⟩ := fun i => World.cell?_alloc_lt w o ⟨g, i, none⟩ h.1
  ⟨by simp; omega, (f 0).trans h.2.1, (f 1).trans h.2.2.1, (f 2).trans h.2.2.2.1, (f 3).trans h.2.2.2.2⟩
theorem se_ald {w : World} {g : Nat} {x y z u : Int} (o : Obj) (h : g < w.drew.heap.size ∧ w.drew.cell? ⟨g, 0, none⟩ = some (.int .i64 x) ∧ w.drew.cell? ⟨g, 1, none⟩ = some (.int .i64 y) ∧ w.drew.cell? ⟨g, 2, none⟩ = some (.int .i64 z) ∧ w.drew.cell? ⟨g, 3, none⟩ = some (.int .i64 u)) :
    g < (w.alloc o).drew.heap.size ∧ (w.alloc o).drew.cell? ⟨g, 0, none⟩ = some (.int .i64 x) ∧ (w.alloc o).drew.cell? ⟨g, 1, none⟩ = some (.int .i64 y) ∧ (w.alloc o).drew.cell? ⟨g, 2, none⟩ = some (.int .i64 z) ∧ (w.alloc o).drew.cell? ⟨g, 3, none⟩ = some (.int .i64 u) := se_al (w := w) o h
theorem spec_amongP (cb : Nat) (K : Code) (M : Nat) (l : List Int) (n c g : Nat) (w : World) (hl : n ≤ l.length) (h0 : 0 < n) (hn : n ≤ 1000) (cs : Array Value) (hcs : cs = (l.map (Value.int .i64)).toArray) (hb : Blk w g 3 cs) (hg : cb < g) (hM : M ≤ 1000000000000) (h : Cur w cb K M) :
    Calls Try.prog 83 #[.pointer (some ⟨cb, 0, none⟩), .slice (some ⟨g, 0, none⟩) n c] w fun e w' => ∃ x : Int, e = .returned (.int .i64 x) ∧ Drawn w cb K (M + 2) w' := by
  subst hcs
  have ha : Arr w w.heap.size (some ⟨g, 0, none⟩) n 1 (iv fun i _ => l.getD i 0) := fun hn0 => by
    obtain ⟨b, off, e, hbb, hc⟩ := arr_lit hb (by omega)
    exact ⟨b, off, e, hbb, fun i j hi hj => hc i j (by omega) hj⟩
  refine (spec_among cb K M _ n _ _ w h0 (by omega) ha (fun b o e => by injection e with e; injection e with e; omega) hM h).mono ?_
  rintro e w' ⟨j, hj, rfl, hd⟩
  exact ⟨_, rfl, hd⟩
theorem part_in5 {x : Int} (h0 : 0 ≤ x) (h1 : x < 24) : ∃ q : Nat, Int.tdiv x 11 = q ∧ x / 11 = q ∧ q ≤ 2 ∧ (0 : Int) ≤ 5 + q ∧ 5 + (q : Int) ≤ 7 ∧ IntKind.i64.wrap (5 + (q : Int)) = 5 + q ∧ (5 + (q : Int)).toNat = 5 + q ∧ (q : Int) ≤ 2 ∧ ¬ (7 < 5 + (q : Int)) ∧ decide (5 + (q : Int) ≤ 7) = true ∧ 5 + q ≤ 7 ∧ ¬ (5 + (q : Int) < 0) ∧ IntKind.i64.wrap (q : Int) = q ∧ (0 : Int) ≤ q := by
  obtain ⟨n, rfl⟩ : ∃ n : Nat, x = n := ⟨x.toNat, by omega⟩
  exact ⟨n / 11, rfl, by omega, by omega, by omega, by omega, IntWalk.i64_in _ (by omega), by omega, by omega, by omega, by simp; omega, by omega, by omega, IntWalk.i64_in _ (by omega), by omega⟩
theorem own_drawn {w w' : World} {base n k cb : Nat} {E : TypeId} {v : Value} {F : Nat → Nat → Value} (h : Own w base E k v n F) (hg : w.grownBy w' (some cb)) (hb : cb < base) : Own w' base E k v n F := by
  rcases h with h | ⟨g, cap, cur, rfl, hg0, hb0, h4⟩
  · exact .inl h
  · exact .inr ⟨g, cap, cur, rfl, hg0, (hg.block g hb0.lt (fun e => by injection e with e; omega)).trans hb0, h4⟩
theorem part_in {x : Int} (h0 : 0 ≤ x) (h1 : x < 24) : ∃ q : Nat, Int.tdiv x 11 = q ∧ q ≤ 2 := by
  obtain ⟨n, rfl⟩ : ∃ n : Nat, x = n := ⟨x.toNat, by omega⟩
  exact ⟨n / 11, rfl, by omega⟩
set_option maxHeartbeats 4000000 in
set_option maxRecDepth 100000 in
theorem draw_darkestRun (A : Option Addr) (n c : Nat) (C : Nat → Int) (w : World) (hC : CodeOk w A n C) :
    Calls Try.prog 30 #[.slice A n c] w fun e w' => ∃ (v : Value) (l : List (Int × Int)) (s : Int), l.length ≤ 40 ∧ e = .returned (.tuple #[v, .int .i64 s]) ∧ Below w.heap.size w w' ∧ Own w' w.heap.size 39 2 v l.length (iv (sdX l)) := by
  have hb0 : Below w.heap.size w (w.alloc (.cells #[.slice A n c, .int .i64 0, .int .u64 0] 85)) := below_al (Below.refl _ _)
  go_enter Try.func30, Try.ntmps30
  go_wp2_with fail
  refine (spec_dSunDays w.heap.size _ 0 _ (by omega) (cur_new hC _ rfl)).mono ?_
  rintro e w1 ⟨v, l, hl, rfl, hd, ho⟩
  obtain ⟨A2, c2, rfl, _, _⟩ := ho.arr
  have hb := below_drawn hb0 hd.1 (Nat.le_refl _)
  have hc1 := hd.2
  have HO := hide ho
  have hcl := hc1.lt
  clear ho hd
  go_wp2_with fail
  refine (spec_pick w.heap.size _ (0 + 400) 24 _ (by omega) (by omega) (hc1.alloc _)).mono ?_
  rintro e w2 ⟨t, rfl, t0, t1, _, hd2⟩
  obtain ⟨q, hq, hq2⟩ := part_in t0 (t1 (by omega))
  have hq3 : t / 11 = (q : Int) := by rw [← hq, Int.tdiv_eq_ediv_of_nonneg t0]
  have hbl := blk_drawn hd2 (blk_new_atC w1 w1.heap.size _ _ rfl) hcl
  have hb2 : Below w.heap.size w w2 := below_drawn (below_al hb) hd2.1 (Nat.le_refl _)
  have hO2 := HO.out
  simp only [World.size_alloc] at hO2
  have ho2 := own_drawn ((hO2.below (below_al (Below.refl _ _)) (Nat.le_refl _))) hd2.1 (by omega)
  have hc2 := hd2.2
  have H2 := hide ho2
  clear hd2 ho2 t1
  go_wp2_with fail
  refine (spec_amongP w.heap.size _ (0 + 400 + 2) [1, 50, 120, 1000, 0, 1001] (4 + q) 6 _ _ (by simp; omega) (by omega) (by omega) _ rfl hbl (by omega) (by omega) hc2).mono ?_
  rintro e w3 ⟨s, rfl, hd3⟩
  have hb3 : Below w.heap.size w w3 := below_drawn hb2 hd3.1 (Nat.le_refl _)
  have ho3 := own_drawn H2.out hd3.1 (by omega)
  have H3 := hide ho3
  clear hd3 ho3
  go_wp2
  go_returns
  exact ⟨_, l, s, hl, rfl, hb3, H3.out.base (by omega)⟩
end Go.Proofs.Ytfdgnjnnbhelgaa
