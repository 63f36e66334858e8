/- The draws of the arguments of chapters 19 and 20: made by cat2gen.py. -/
import Derived.Test.YthpagjkkccimiaaDrwQ
namespace Go.Proofs.Ythpagjkkccimiaa
open Go.RowKit
set_option linter.unusedVariables false
set_option linter.unusedSimpArgs false

/-- The code that a law is given. -/
def CodeOk (w : World) (A : Option Addr) (n : Nat) (C : Nat → Int) : Prop := n ≤ 65536 ∧ Arr w w.heap.size A n 1 (bv C) ∧ ∀ i, i < n → 0 ≤ C i ∧ C i ≤ 255
theorem CodeOk.on {w w' : World} {A : Option Addr} {n : Nat} {C : Nat → Int} (h : CodeOk w A n C) (hb : Below w.heap.size w w') : CodeOk w' A n C := ⟨h.1, h.2.1.on hb, h.2.2⟩
theorem cur_new {w : World} {A : Option Addr} {n c : Nat} {C : Nat → Int} (h : CodeOk w A n C) (g : Nat) (hg : g = w.heap.size) : Cur (w.alloc (.cells #[.slice A n c, .int .i64 0, .int .u64 0] 87)) g ⟨A, n, c, C⟩ 0 := by
  subst hg
  refine ⟨⟨h.1, fun hn => ?_, h.2.2⟩, 0, 0, Nat.le_refl _, Blk.new _ _ _⟩
  obtain ⟨b, off, e, hb, hc⟩ := h.2.1 hn
  exact ⟨b, off, e, hb, fun i j hi hj => (World.cell?_alloc_lt w _ ⟨b, _, none⟩ hb).trans (hc i j hi hj)⟩
theorem below_drawn {w a w' : World} {cb : Nat} (h : Below w.heap.size w a) (hg : a.grownBy w' (some cb)) (hcb : w.heap.size ≤ cb) : Below w.heap.size w w' := h.grown hg h.size (fun g e => by injection e with e; omega)
theorem own_farC {w : World} {base n k : Nat} {E : TypeId} {v : Value} {F : Nat → Nat → Value} (h : Own w base E k v n F) {p : Addr} (hp : p.block < base) {x : Value} : Own (w.setCell p x) base E k v n F := by
  rcases h with h | ⟨g, cap, cur, rfl, hg, hb, h4⟩
  · exact .inl h
  · exact .inr ⟨g, cap, cur, rfl, hg, (Below.heap_setCell w p x g (by omega)).trans hb, h4⟩

set_option maxHeartbeats 2000000 in
theorem draw_links (A : Option Addr) (n c : Nat) (C : Nat → Int) (w : World) (hC : CodeOk w A n C) :
    Calls Try.prog 50 #[.slice A n c] w fun e w' => ∃ (V : Value) (l : List (Int × Int × Int × Int)) (t f g : Int), l.length ≤ 40 ∧ e = .returned (.tuple #[V, .agg #[.int .i64 t, .int .i64 f, .int .i64 g]]) ∧ Below w.heap.size w w' ∧ Own w' w.heap.size 60 4 V l.length (iv (qX l)) := by
  have hr : Blk (w.alloc (.cells #[.int .i64 0, .int .i64 0, .int .i64 0] 30)) w.heap.size 30 #[.int .i64 0, .int .i64 0, .int .i64 0] := Blk.new _ _ _
  have hb0 : Below w.heap.size w ((w.alloc (.cells #[.int .i64 0, .int .i64 0, .int .i64 0] 30)).alloc (.cells #[.slice A n c, .int .i64 0, .int .u64 0] 87)) := below_al (below_al (Below.refl _ _))
  go_enter Try.func50, Try.ntmps50
  go_wp2_with fail
  refine (spec_dCat (w.heap.size + 1) _ 0 _ (by omega) (cur_new (hC.on (below_al (Below.refl _ _))) _ (by simp))).mono ?_
  rintro e w1 ⟨V, l, hl, rfl, hd1, ho1⟩
  have hb1 := below_drawn hb0 hd1.1 (by omega)
  have hr1 : Blk w1 w.heap.size 30 #[.int .i64 0, .int .i64 0, .int .i64 0] := (hd1.1.block w.heap.size (by simp; omega) (fun e => by injection e with e; omega)).trans (hr.alloc _)
  have hs1 : w.heap.size + 1 < w1.heap.size := hd1.2.lt
  simp only [World.size_alloc] at ho1
  obtain ⟨AV, cV, rfl, _, _⟩ := ho1.arr
  have HO1 := hide ho1; have HC1 := hide hd1.2
  clear ho1 hd1 hr hb0
  go_wp2_with fail
  refine (spec_dLinking (w.heap.size + 1) _ (0 + 400) _ (by omega) HC1.out).mono ?_
  rintro e w2 ⟨t, f, g, rfl, hd2⟩
  have hb2 := below_drawn hb1 hd2.1 (by omega)
  have hr2 : Blk w2 w.heap.size 30 #[.int .i64 0, .int .i64 0, .int .i64 0] := (hd2.1.block w.heap.size (by omega) (fun e => by injection e with e; omega)).trans hr1
  have HO2 := hide (HO1.out.other hd2.1 (fun g e => by injection e with e; omega)); have HC2 := hide hd2.2
  have hs2 : w1.heap.size ≤ w2.heap.size := hd2.1.size
  clear hd2 hr1
  have cr0 := hr2.cell 0; have cr1 := hr2.cell 1; have cr2 := hr2.cell 2
  have fr0 := hr2.frozen 0; have fr1 := hr2.frozen 1; have fr2 := hr2.frozen 2
  simp at cr0 cr1 cr2
  clear hr2
  go_wp2
  refine bodyPost_ret (v := .tuple #[.slice AV l.length cV, .agg #[.int .i64 t, .int .i64 f, .int .i64 g]]) (by simp [results, Try.results50, go_sem, cr0, cr1, cr2]) rfl ⟨_, l, _, _, _, hl, rfl, ?_, ?_⟩
  · exact ((hb2.setCell (p := ⟨w.heap.size, 0, none⟩) (Nat.le_refl _) _).setCell (p := ⟨w.heap.size, 1, none⟩) (Nat.le_refl _) _).setCell (p := ⟨w.heap.size, 2, none⟩) (Nat.le_refl _) _
  · exact (own_farC (own_farC (own_farC HO2.out (p := ⟨w.heap.size, 0, none⟩) (by show w.heap.size < _; omega)) (p := ⟨w.heap.size, 1, none⟩) (by show w.heap.size < _; omega)) (p := ⟨w.heap.size, 2, none⟩) (by show w.heap.size < _; omega)).base (by omega)
set_option maxHeartbeats 2000000 in
theorem draw_with (A : Option Addr) (n c : Nat) (C : Nat → Int) (w : World) (hC : CodeOk w A n C) :
    Calls Try.prog 45 #[.slice A n c] w fun e w' => ∃ (V : Value) (l : List (Int × Int × Int × Int)) (t f g : Int) (x : Int), l.length ≤ 40 ∧ e = .returned (.tuple #[V, .agg #[.int .i64 t, .int .i64 f, .int .i64 g], .int .i64 x]) ∧ Below w.heap.size w w' ∧ Own w' w.heap.size 60 4 V l.length (iv (qX l)) := by
  have hr : Blk (w.alloc (.cells #[.int .i64 0, .int .i64 0, .int .i64 0] 30)) w.heap.size 30 #[.int .i64 0, .int .i64 0, .int .i64 0] := Blk.new _ _ _
  have hb0 : Below w.heap.size w ((w.alloc (.cells #[.int .i64 0, .int .i64 0, .int .i64 0] 30)).alloc (.cells #[.slice A n c, .int .i64 0, .int .u64 0] 87)) := below_al (below_al (Below.refl _ _))
  go_enter Try.func45, Try.ntmps45
  go_wp2_with fail
  refine (spec_dCat (w.heap.size + 1) _ 0 _ (by omega) (cur_new (hC.on (below_al (Below.refl _ _))) _ (by simp))).mono ?_
  rintro e w1 ⟨V, l, hl, rfl, hd1, ho1⟩
  have hb1 := below_drawn hb0 hd1.1 (by omega)
  have hr1 : Blk w1 w.heap.size 30 #[.int .i64 0, .int .i64 0, .int .i64 0] := (hd1.1.block w.heap.size (by simp; omega) (fun e => by injection e with e; omega)).trans (hr.alloc _)
  have hs1 : w.heap.size + 1 < w1.heap.size := hd1.2.lt
  simp only [World.size_alloc] at ho1
  obtain ⟨AV, cV, rfl, _, _⟩ := ho1.arr
  have HO1 := hide ho1; have HC1 := hide hd1.2
  clear ho1 hd1 hr hb0
  go_wp2_with fail
  refine (spec_dLinking (w.heap.size + 1) _ (0 + 400) _ (by omega) HC1.out).mono ?_
  rintro e w2 ⟨t, f, g, rfl, hd2⟩
  have hb2 := below_drawn hb1 hd2.1 (by omega)
  have hr2 : Blk w2 w.heap.size 30 #[.int .i64 0, .int .i64 0, .int .i64 0] := (hd2.1.block w.heap.size (by omega) (fun e => by injection e with e; omega)).trans hr1
  have HO2 := hide (HO1.out.other hd2.1 (fun g e => by injection e with e; omega)); have HC2 := hide hd2.2
  have hs2 : w1.heap.size ≤ w2.heap.size := hd2.1.size
  clear hd2 hr1
  go_wp2_with fail
  refine (spec_pick (w.heap.size + 1) _ (0 + 400 + 20 + 0) _ _ (by omega) (by omega) HC2.out).mono ?_
  rintro e w3 ⟨y3, rfl, ya3, yb3, yc3, hd3⟩
  have hb3 := below_drawn hb2 hd3.1 (by omega)
  have hr3 : Blk w3 w.heap.size 30 #[.int .i64 0, .int .i64 0, .int .i64 0] := (hd3.1.block w.heap.size (by omega) (fun e => by injection e with e; omega)).trans hr2
  have HO3 := hide (HO2.out.other hd3.1 (fun g e => by injection e with e; omega)); have HC3 := hide hd3.2
  have hs3 : w2.heap.size ≤ w3.heap.size := hd3.1.size
  have hy3 : y3 ≤ 48 := by
    by_cases h1 : (1 : Int) < (l.length : Int) + 1
    · have := yb3 h1; omega
    · have := yc3 (by omega); omega
  clear hd3 hr2 yb3 yc3
  go_wp2_with fail
  refine (spec_pick (w.heap.size + 1) _ (0 + 400 + 20 + 2) 17 _ (by omega) (by omega) HC3.out).mono ?_
  rintro e w4 ⟨y4, rfl, ya4, yb4, yc4, hd4⟩
  have hb4 := below_drawn hb3 hd4.1 (by omega)
  have hr4 : Blk w4 w.heap.size 30 #[.int .i64 0, .int .i64 0, .int .i64 0] := (hd4.1.block w.heap.size (by omega) (fun e => by injection e with e; omega)).trans hr3
  have HO4 := hide (HO3.out.other hd4.1 (fun g e => by injection e with e; omega)); have HC4 := hide hd4.2
  have hs4 : w3.heap.size ≤ w4.heap.size := hd4.1.size
  have hy4 : y4 ≤ 48 := by
    by_cases h1 : (1 : Int) < 17
    · have := yb4 h1; omega
    · have := yc4 (by omega); omega
  clear hd4 hr3 yb4 yc4
  have cr0 := hr4.cell 0; have cr1 := hr4.cell 1; have cr2 := hr4.cell 2
  have fr0 := hr4.frozen 0; have fr1 := hr4.frozen 1; have fr2 := hr4.frozen 2
  simp at cr0 cr1 cr2
  clear hr4
  go_wp2
  refine bodyPost_ret (v := .tuple #[.slice AV l.length cV, .agg #[.int .i64 t, .int .i64 f, .int .i64 g], .int .i64 (y3 - y4 / 16)]) (by simp [results, Try.results45, go_sem, cr0, cr1, cr2]) rfl ⟨_, l, _, _, _, _, hl, rfl, ?_, ?_⟩
  · exact ((hb4.setCell (p := ⟨w.heap.size, 0, none⟩) (Nat.le_refl _) _).setCell (p := ⟨w.heap.size, 1, none⟩) (Nat.le_refl _) _).setCell (p := ⟨w.heap.size, 2, none⟩) (Nat.le_refl _) _
  · exact (own_farC (own_farC (own_farC HO4.out (p := ⟨w.heap.size, 0, none⟩) (by show w.heap.size < _; omega)) (p := ⟨w.heap.size, 1, none⟩) (by show w.heap.size < _; omega)) (p := ⟨w.heap.size, 2, none⟩) (by show w.heap.size < _; omega)).base (by omega)
set_option maxHeartbeats 2000000 in
theorem draw_numbers (A : Option Addr) (n c : Nat) (C : Nat → Int) (w : World) (hC : CodeOk w A n C) :
    Calls Try.prog 35 #[.slice A n c] w fun e w' => ∃ (V : Value) (l : List (Int × Int × Int × Int)) (t f g : Int), l.length ≤ 40 ∧ e = .returned (.tuple #[V, .agg #[.int .i64 t, .int .i64 f, .int .i64 g]]) ∧ Below w.heap.size w w' ∧ Own w' w.heap.size 60 4 V l.length (iv (qX l)) := by
  have hr : Blk (w.alloc (.cells #[.int .i64 0, .int .i64 0, .int .i64 0] 30)) w.heap.size 30 #[.int .i64 0, .int .i64 0, .int .i64 0] := Blk.new _ _ _
  have hb0 : Below w.heap.size w (w.alloc (.cells #[.int .i64 0, .int .i64 0, .int .i64 0] 30)) := below_al (Below.refl _ _)
  go_enter Try.func35, Try.ntmps35
  go_wp2_with fail
  refine (draw_links A n c C _ (hC.on hb0)).mono ?_
  rintro e w1 ⟨V, l, t, f, g, hl, rfl, hd, ho⟩
  have hb1 : Below w.heap.size w w1 := below_call hb0 hd
  have hr1 := hr.below hd (by simp)
  simp only [World.size_alloc] at ho
  have cr0 := hr1.cell 0; have cr1 := hr1.cell 1; have cr2 := hr1.cell 2
  have fr0 := hr1.frozen 0; have fr1 := hr1.frozen 1; have fr2 := hr1.frozen 2
  simp at cr0 cr1 cr2
  obtain ⟨AV, cV, rfl, _, _⟩ := ho.arr
  have HO := hide ho
  clear ho hd hr hb0 hr1
  go_wp2
  refine bodyPost_ret (v := .tuple #[.slice AV l.length cV, .agg #[.int .i64 t, .int .i64 f, .int .i64 g]]) (by simp [results, Try.results35, go_sem, cr0, cr1, cr2]) rfl ⟨_, l, _, _, _, hl, rfl, ?_, ?_⟩
  · exact ((hb1.setCell (p := ⟨w.heap.size, 0, none⟩) (Nat.le_refl _) _).setCell (p := ⟨w.heap.size, 1, none⟩) (Nat.le_refl _) _).setCell (p := ⟨w.heap.size, 2, none⟩) (Nat.le_refl _) _
  · exact (own_farC (own_farC (own_farC HO.out (p := ⟨w.heap.size, 0, none⟩) (by show w.heap.size < _; omega)) (p := ⟨w.heap.size, 1, none⟩) (by show w.heap.size < _; omega)) (p := ⟨w.heap.size, 2, none⟩) (by show w.heap.size < _; omega)).base (by omega)
set_option maxHeartbeats 2000000 in
theorem draw_declustered (A : Option Addr) (n c : Nat) (C : Nat → Int) (w : World) (hC : CodeOk w A n C) :
    Calls Try.prog 46 #[.slice A n c] w fun e w' => ∃ (V : Value) (l : List (Int × Int × Int × Int)) (t f g : Int), l.length ≤ 40 ∧ e = .returned (.tuple #[V, .agg #[.int .i64 t, .int .i64 f, .int .i64 g]]) ∧ Below w.heap.size w w' ∧ Own w' w.heap.size 60 4 V l.length (iv (qX l)) := by
  have hr : Blk (w.alloc (.cells #[.int .i64 0, .int .i64 0, .int .i64 0] 30)) w.heap.size 30 #[.int .i64 0, .int .i64 0, .int .i64 0] := Blk.new _ _ _
  have hb0 : Below w.heap.size w (w.alloc (.cells #[.int .i64 0, .int .i64 0, .int .i64 0] 30)) := below_al (Below.refl _ _)
  go_enter Try.func46, Try.ntmps46
  go_wp2_with fail
  refine (draw_links A n c C _ (hC.on hb0)).mono ?_
  rintro e w1 ⟨V, l, t, f, g, hl, rfl, hd, ho⟩
  have hb1 : Below w.heap.size w w1 := below_call hb0 hd
  have hr1 := hr.below hd (by simp)
  simp only [World.size_alloc] at ho
  have cr0 := hr1.cell 0; have cr1 := hr1.cell 1; have cr2 := hr1.cell 2
  have fr0 := hr1.frozen 0; have fr1 := hr1.frozen 1; have fr2 := hr1.frozen 2
  simp at cr0 cr1 cr2
  obtain ⟨AV, cV, rfl, _, _⟩ := ho.arr
  have HO := hide ho
  clear ho hd hr hb0 hr1
  go_wp2
  refine bodyPost_ret (v := .tuple #[.slice AV l.length cV, .agg #[.int .i64 t, .int .i64 f, .int .i64 g]]) (by simp [results, Try.results46, go_sem, cr0, cr1, cr2]) rfl ⟨_, l, _, _, _, hl, rfl, ?_, ?_⟩
  · exact ((hb1.setCell (p := ⟨w.heap.size, 0, none⟩) (Nat.le_refl _) _).setCell (p := ⟨w.heap.size, 1, none⟩) (Nat.le_refl _) _).setCell (p := ⟨w.heap.size, 2, none⟩) (Nat.le_refl _) _
  · exact (own_farC (own_farC (own_farC HO.out (p := ⟨w.heap.size, 0, none⟩) (by show w.heap.size < _; omega)) (p := ⟨w.heap.size, 1, none⟩) (by show w.heap.size < _; omega)) (p := ⟨w.heap.size, 2, none⟩) (by show w.heap.size < _; omega)).base (by omega)
set_option maxHeartbeats 2000000 in
theorem draw_largest (A : Option Addr) (n c : Nat) (C : Nat → Int) (w : World) (hC : CodeOk w A n C) :
    Calls Try.prog 49 #[.slice A n c] w fun e w' => ∃ (V : Value) (l : List (Int × Int × Int × Int)) (t f g : Int), l.length ≤ 40 ∧ e = .returned (.tuple #[V, .agg #[.int .i64 t, .int .i64 f, .int .i64 g]]) ∧ Below w.heap.size w w' ∧ Own w' w.heap.size 60 4 V l.length (iv (qX l)) := by
  have hr : Blk (w.alloc (.cells #[.int .i64 0, .int .i64 0, .int .i64 0] 30)) w.heap.size 30 #[.int .i64 0, .int .i64 0, .int .i64 0] := Blk.new _ _ _
  have hb0 : Below w.heap.size w (w.alloc (.cells #[.int .i64 0, .int .i64 0, .int .i64 0] 30)) := below_al (Below.refl _ _)
  go_enter Try.func49, Try.ntmps49
  go_wp2_with fail
  refine (draw_links A n c C _ (hC.on hb0)).mono ?_
  rintro e w1 ⟨V, l, t, f, g, hl, rfl, hd, ho⟩
  have hb1 : Below w.heap.size w w1 := below_call hb0 hd
  have hr1 := hr.below hd (by simp)
  simp only [World.size_alloc] at ho
  have cr0 := hr1.cell 0; have cr1 := hr1.cell 1; have cr2 := hr1.cell 2
  have fr0 := hr1.frozen 0; have fr1 := hr1.frozen 1; have fr2 := hr1.frozen 2
  simp at cr0 cr1 cr2
  obtain ⟨AV, cV, rfl, _, _⟩ := ho.arr
  have HO := hide ho
  clear ho hd hr hb0 hr1
  go_wp2
  refine bodyPost_ret (v := .tuple #[.slice AV l.length cV, .agg #[.int .i64 t, .int .i64 f, .int .i64 g]]) (by simp [results, Try.results49, go_sem, cr0, cr1, cr2]) rfl ⟨_, l, _, _, _, hl, rfl, ?_, ?_⟩
  · exact ((hb1.setCell (p := ⟨w.heap.size, 0, none⟩) (Nat.le_refl _) _).setCell (p := ⟨w.heap.size, 1, none⟩) (Nat.le_refl _) _).setCell (p := ⟨w.heap.size, 2, none⟩) (Nat.le_refl _) _
  · exact (own_farC (own_farC (own_farC HO.out (p := ⟨w.heap.size, 0, none⟩) (by show w.heap.size < _; omega)) (p := ⟨w.heap.size, 1, none⟩) (by show w.heap.size < _; omega)) (p := ⟨w.heap.size, 2, none⟩) (by show w.heap.size < _; omega)).base (by omega)
set_option maxHeartbeats 2000000 in
theorem draw_aftershocks (A : Option Addr) (n c : Nat) (C : Nat → Int) (w : World) (hC : CodeOk w A n C) :
    Calls Try.prog 48 #[.slice A n c] w fun e w' => ∃ (V : Value) (l : List (Int × Int × Int × Int)) (t f g : Int) (x : Int), l.length ≤ 40 ∧ e = .returned (.tuple #[V, .agg #[.int .i64 t, .int .i64 f, .int .i64 g], .int .i64 x]) ∧ Below w.heap.size w w' ∧ Own w' w.heap.size 60 4 V l.length (iv (qX l)) := by
  have hr : Blk (w.alloc (.cells #[.int .i64 0, .int .i64 0, .int .i64 0] 30)) w.heap.size 30 #[.int .i64 0, .int .i64 0, .int .i64 0] := Blk.new _ _ _
  have hb0 : Below w.heap.size w (w.alloc (.cells #[.int .i64 0, .int .i64 0, .int .i64 0] 30)) := below_al (Below.refl _ _)
  go_enter Try.func48, Try.ntmps48
  go_wp2_with fail
  refine (draw_with A n c C _ (hC.on hb0)).mono ?_
  rintro e w1 ⟨V, l, t, f, g, x, hl, rfl, hd, ho⟩
  have hb1 : Below w.heap.size w w1 := below_call hb0 hd
  have hr1 := hr.below hd (by simp)
  simp only [World.size_alloc] at ho
  have cr0 := hr1.cell 0; have cr1 := hr1.cell 1; have cr2 := hr1.cell 2
  have fr0 := hr1.frozen 0; have fr1 := hr1.frozen 1; have fr2 := hr1.frozen 2
  simp at cr0 cr1 cr2
  obtain ⟨AV, cV, rfl, _, _⟩ := ho.arr
  have HO := hide ho
  clear ho hd hr hb0 hr1
  go_wp2
  refine bodyPost_ret (v := .tuple #[.slice AV l.length cV, .agg #[.int .i64 t, .int .i64 f, .int .i64 g], .int .i64 x]) (by simp [results, Try.results48, go_sem, cr0, cr1, cr2]) rfl ⟨_, l, _, _, _, _, hl, rfl, ?_, ?_⟩
  · exact ((hb1.setCell (p := ⟨w.heap.size, 0, none⟩) (Nat.le_refl _) _).setCell (p := ⟨w.heap.size, 1, none⟩) (Nat.le_refl _) _).setCell (p := ⟨w.heap.size, 2, none⟩) (Nat.le_refl _) _
  · exact (own_farC (own_farC (own_farC HO.out (p := ⟨w.heap.size, 0, none⟩) (by show w.heap.size < _; omega)) (p := ⟨w.heap.size, 1, none⟩) (by show w.heap.size < _; omega)) (p := ⟨w.heap.size, 2, none⟩) (by show w.heap.size < _; omega)).base (by omega)
set_option maxHeartbeats 2000000 in
theorem draw_hist (A : Option Addr) (n c : Nat) (C : Nat → Int) (w : World) (hC : CodeOk w A n C) :
    Calls Try.prog 63 #[.slice A n c] w fun e w' => ∃ (V : Value) (l : List (Int × Int × Int × Int)) (x : Int), l.length ≤ 40 ∧ e = .returned (.tuple #[V, .int .i64 x]) ∧ Below w.heap.size w w' ∧ Own w' w.heap.size 60 4 V l.length (iv (qX l)) := by
  have hb0 : Below w.heap.size w (w.alloc (.cells #[.slice A n c, .int .i64 0, .int .u64 0] 87)) := below_al (Below.refl _ _)
  go_enter Try.func63, Try.ntmps63
  go_wp2_with fail
  refine (spec_dCat w.heap.size _ 0 _ (by omega) (cur_new hC _ rfl)).mono ?_
  rintro e w1 ⟨V, l, hl, rfl, hd1, ho1⟩
  have hb1 := below_drawn hb0 hd1.1 (Nat.le_refl _)
  have hs1 : w.heap.size < w1.heap.size := hd1.2.lt
  simp only [World.size_alloc] at ho1
  obtain ⟨AV, cV, rfl, _, _⟩ := ho1.arr
  have HO1 := hide ho1; have HC1 := hide hd1.2
  clear ho1 hd1 hb0
  go_wp2_with fail
  refine (spec_amongX w.heap.size _ (0 + 400) [1, 5, 10, 10, 20, 50, 0, 51] _ _ _ rfl (by decide) (by decide) _ rfl (blk_new_atC _ _ _ _ (by first | rfl | simp)) (by first | omega | (simp; omega)) (by omega) (HC1.out.alloc _)).mono ?_
  rintro e w2 ⟨x, rfl, hd2⟩
  have hb2 : Below w.heap.size w w2 := below_drawn (below_al hb1) hd2.1 (Nat.le_refl _)
  have HO2 := hide (Own.other (HO1.out.below (below_al (Below.refl w1.heap.size w1)) (Nat.le_refl _)) hd2.1 (fun g e => by injection e with e; omega))
  clear hd2
  go_wp2
  go_returns
  exact ⟨_, l, _, hl, rfl, hb2, HO2.out.base (by omega)⟩
set_option maxHeartbeats 2000000 in
theorem draw_wins (A : Option Addr) (n c : Nat) (C : Nat → Int) (w : World) (hC : CodeOk w A n C) :
    Calls Try.prog 54 #[.slice A n c] w fun e w' => ∃ (V : Value) (l : List (Int × Int × Int × Int)) (x : Int), l.length ≤ 40 ∧ e = .returned (.tuple #[V, .int .i64 x]) ∧ Below w.heap.size w w' ∧ Own w' w.heap.size 60 4 V l.length (iv (qX l)) := by
  have hb0 : Below w.heap.size w (w.alloc (.cells #[.slice A n c, .int .i64 0, .int .u64 0] 87)) := below_al (Below.refl _ _)
  go_enter Try.func54, Try.ntmps54
  go_wp2_with fail
  refine (spec_dCat w.heap.size _ 0 _ (by omega) (cur_new hC _ rfl)).mono ?_
  rintro e w1 ⟨V, l, hl, rfl, hd1, ho1⟩
  have hb1 := below_drawn hb0 hd1.1 (Nat.le_refl _)
  have hs1 : w.heap.size < w1.heap.size := hd1.2.lt
  simp only [World.size_alloc] at ho1
  obtain ⟨AV, cV, rfl, _, _⟩ := ho1.arr
  have HO1 := hide ho1; have HC1 := hide hd1.2
  clear ho1 hd1 hb0
  go_wp2_with fail
  refine (spec_amongX w.heap.size _ (0 + 400) [0, 100, 500, 3000, 100000, 100001, -1] _ _ _ rfl (by decide) (by decide) _ rfl (blk_new_atC _ _ _ _ (by first | rfl | simp)) (by first | omega | (simp; omega)) (by omega) (HC1.out.alloc _)).mono ?_
  rintro e w2 ⟨x, rfl, hd2⟩
  have hb2 : Below w.heap.size w w2 := below_drawn (below_al hb1) hd2.1 (Nat.le_refl _)
  have HO2 := hide (Own.other (HO1.out.below (below_al (Below.refl w1.heap.size w1)) (Nat.le_refl _)) hd2.1 (fun g e => by injection e with e; omega))
  clear hd2
  go_wp2
  go_returns
  exact ⟨_, l, _, hl, rfl, hb2, HO2.out.base (by omega)⟩
set_option maxHeartbeats 2000000 in
theorem draw_larger (A : Option Addr) (n c : Nat) (C : Nat → Int) (w : World) (hC : CodeOk w A n C) :
    Calls Try.prog 72 #[.slice A n c] w fun e w' => ∃ (V : Value) (l : List (Int × Int × Int × Int)) (x : Int), l.length ≤ 40 ∧ e = .returned (.tuple #[V, .int .i64 x]) ∧ Below w.heap.size w w' ∧ Own w' w.heap.size 60 4 V l.length (iv (qX l)) := by
  have hb0 : Below w.heap.size w (w.alloc (.cells #[.slice A n c, .int .i64 0, .int .u64 0] 87)) := below_al (Below.refl _ _)
  go_enter Try.func72, Try.ntmps72
  go_wp2_with fail
  refine (spec_dCat w.heap.size _ 0 _ (by omega) (cur_new hC _ rfl)).mono ?_
  rintro e w1 ⟨V, l, hl, rfl, hd1, ho1⟩
  have hb1 := below_drawn hb0 hd1.1 (Nat.le_refl _)
  have hs1 : w.heap.size < w1.heap.size := hd1.2.lt
  simp only [World.size_alloc] at ho1
  obtain ⟨AV, cV, rfl, _, _⟩ := ho1.arr
  have HO1 := hide ho1; have HC1 := hide hd1.2
  clear ho1 hd1 hb0
  go_wp2_with fail
  refine (spec_dSize w.heap.size _ (0 + 400) _ (by omega) HC1.out).mono ?_
  rintro e w2 ⟨x, _, _, rfl, hd2⟩
  have hb2 : Below w.heap.size w w2 := below_drawn hb1 hd2.1 (Nat.le_refl _)
  have HO2 := hide (Own.other (HO1.out) hd2.1 (fun g e => by injection e with e; omega))
  clear hd2
  go_wp2
  go_returns
  exact ⟨_, l, _, hl, rfl, hb2, HO2.out.base (by omega)⟩
set_option maxHeartbeats 2000000 in
theorem draw_complete (A : Option Addr) (n c : Nat) (C : Nat → Int) (w : World) (hC : CodeOk w A n C) :
    Calls Try.prog 69 #[.slice A n c] w fun e w' => ∃ (V : Value) (l : List (Int × Int × Int × Int)) (x : Int), l.length ≤ 40 ∧ e = .returned (.tuple #[V, .int .i64 x]) ∧ Below w.heap.size w w' ∧ Own w' w.heap.size 60 4 V l.length (iv (qX l)) := by
  go_enter Try.func69, Try.ntmps69
  go_wp2_with fail
  refine (draw_hist A n c C _ hC).mono ?_
  rintro e w1 ⟨V, l, x, hl, rfl, hb, ho⟩
  have HO := hide ho
  clear ho
  go_wp2
  go_returns
  exact ⟨_, l, _, hl, rfl, hb, HO.out⟩
set_option maxHeartbeats 2000000 in
theorem draw_span (A : Option Addr) (n c : Nat) (C : Nat → Int) (w : World) (hC : CodeOk w A n C) :
    Calls Try.prog 59 #[.slice A n c] w fun e w' => ∃ (V : Value) (l : List (Int × Int × Int × Int)) (x : Int), l.length ≤ 40 ∧ e = .returned (.tuple #[V, .int .i64 x]) ∧ Below w.heap.size w w' ∧ Own w' w.heap.size 60 4 V l.length (iv (qX l)) := by
  go_enter Try.func59, Try.ntmps59
  go_wp2_with fail
  refine (draw_larger A n c C _ hC).mono ?_
  rintro e w1 ⟨V, l, x, hl, rfl, hb, ho⟩
  have HO := hide ho
  clear ho
  go_wp2
  go_returns
  exact ⟨_, l, _, hl, rfl, hb, HO.out⟩
set_option maxHeartbeats 2000000 in
theorem draw_rate (A : Option Addr) (n c : Nat) (C : Nat → Int) (w : World) (hC : CodeOk w A n C) :
    Calls Try.prog 51 #[.slice A n c] w fun e w' => ∃ (V : Value) (l : List (Int × Int × Int × Int)) (s f t : Int), l.length ≤ 40 ∧ e = .returned (.tuple #[V, .int .i64 s, .int .i64 f, .int .i64 t]) ∧ Below w.heap.size w w' ∧ Own w' w.heap.size 60 4 V l.length (iv (qX l)) := by
  have hb0 : Below w.heap.size w (w.alloc (.cells #[.slice A n c, .int .i64 0, .int .u64 0] 87)) := below_al (Below.refl _ _)
  go_enter Try.func51, Try.ntmps51
  go_wp2_with fail
  refine (spec_dTick w.heap.size _ 0 _ (by omega) (cur_new hC _ rfl)).mono ?_
  rintro e w0 ⟨f, f0, f1, rfl, hd0⟩
  have hq0 := below_drawn hb0 hd0.1 (Nat.le_refl _)
  have hs0 : w.heap.size < w0.heap.size := hd0.2.lt
  have HC0 := hide hd0.2
  clear hd0 hb0
  go_wp2_with fail
  refine (spec_dCat w.heap.size _ (0 + 2) _ (by omega) HC0.out).mono ?_
  rintro e w1 ⟨V, l, hl, rfl, hd1, ho1⟩
  have hb1 := below_drawn hq0 hd1.1 (Nat.le_refl _)
  have hs1 : w.heap.size < w1.heap.size := hd1.2.lt
  obtain ⟨AV, cV, rfl, _, _⟩ := ho1.arr
  have HO1 := hide ho1; have HC1 := hide hd1.2
  clear ho1 hd1
  go_wp2_with fail
  refine (spec_dSize w.heap.size _ (0 + 2 + 400) _ (by omega) HC1.out).mono ?_
  rintro e w2 ⟨s, _, _, rfl, hd2⟩
  have hb2 := below_drawn hb1 hd2.1 (Nat.le_refl _)
  have HO2 := hide (HO1.out.other hd2.1 (fun g e => by injection e with e; omega)); have HC2 := hide hd2.2
  have hs2 : w.heap.size < w2.heap.size := hd2.2.lt
  clear hd2
  go_wp2_with fail
  refine (spec_amongV w.heap.size _ (0 + 2 + 400 + 2) [0, 99, 1000, 60000, -1] _ _ _ rfl (by decide) (by decide) _ rfl (blk_new_atC _ _ _ _ (by first | rfl | simp)) (by first | omega | (simp; omega)) (by omega) (HC2.out.alloc _)).mono ?_
  rintro e w3 ⟨x, hx, rfl, hd3⟩
  have hb3 := below_drawn (below_al hb2) hd3.1 (Nat.le_refl _)
  have HO3 := hide (Own.other (HO2.out.below (below_al (Below.refl w2.heap.size w2)) (Nat.le_refl _)) hd3.1 (fun g e => by injection e with e; omega))
  simp only [List.mem_cons, List.not_mem_nil, or_false] at hx
  have x0 : -1 ≤ x ∧ x ≤ 60000 := by omega
  clear hd3 hx
  go_wp2
  go_returns
  exact ⟨_, l, _, _, _, hl, rfl, hb3, HO3.out.base (by omega)⟩
end Go.Proofs.Ythpagjkkccimiaa
