/- The draws of the arguments of chapter 23: made by err4gen.py. -/
import Derived.Test.YtfdgnjnnbhelgaaDrvC
namespace Go.Proofs.Ytfdgnjnnbhelgaa
open Go.RowKit
set_option linter.unusedVariables false
set_option linter.unusedSimpArgs false

/-- The code that a law is given. -/
def CodeOk (w : World) (A : Option Addr) (n : Nat) (C : Nat → Int) : Prop := n ≤ 65536 ∧ Arr w w.heap.size A n 1 (bv C) ∧ ∀ i, i < n → 0 ≤ C i ∧ C i ≤ 255
theorem CodeOk.on {w w' : World} {A : Option Addr} {n : Nat} {C : Nat → Int} (h : CodeOk w A n C) (hb : Below w.heap.size w w') : CodeOk w' A n C := ⟨h.1, h.2.1.on hb, h.2.2⟩
theorem cur_new {w : World} {A : Option Addr} {n c : Nat} {C : Nat → Int} (h : CodeOk w A n C) (g : Nat) (hg : g = w.heap.size) : Cur (w.alloc (.cells #[.slice A n c, .int .i64 0, .int .u64 0] 85)) g ⟨A, n, c, C⟩ 0 := by
  subst hg
  refine ⟨⟨h.1, fun hn => ?_, h.2.2⟩, 0, 0, Nat.le_refl _, Blk.new _ _ _⟩
  obtain ⟨b, off, e, hb, hc⟩ := h.2.1 hn
  exact ⟨b, off, e, hb, fun i j hi hj => (World.cell?_alloc_lt w _ ⟨b, _, none⟩ hb).trans (hc i j hi hj)⟩
theorem below_drawn {w a w' : World} {cb : Nat} (h : Below w.heap.size w a) (hg : a.grownBy w' (some cb)) (hcb : w.heap.size ≤ cb) : Below w.heap.size w w' := h.grown hg h.size (fun g e => by injection e with e; omega)
theorem own_farC {w : World} {base n k : Nat} {E : TypeId} {v : Value} {F : Nat → Nat → Value} (h : Own w base E k v n F) {p : Addr} (hp : p.block < base) {x : Value} : Own (w.setCell p x) base E k v n F := by
  rcases h with h | ⟨g, cap, cur, rfl, hg, hb, h4⟩
  · exact .inl h
  · exact .inr ⟨g, cap, cur, rfl, hg, (Below.heap_setCell w p x g (by omega)).trans hb, h4⟩
theorem arr_take8 {w : World} {B n m k : Nat} {A : Option Addr} {f : Nat → Nat → Value} (h : Arr w B A n k f) (hm : m ≤ n) : Arr w B A m k f := by
  intro h0
  obtain ⟨b, off, rfl, hb, hc⟩ := h (by omega)
  exact ⟨b, off, rfl, hb, fun i j hi hj => hc i j (by omega) hj⟩
set_option maxHeartbeats 2000000 in
theorem draw_errs (A : Option Addr) (n c : Nat) (C : Nat → Int) (w : World) (hC : CodeOk w A n C) :
    Calls Try.prog 109 #[.slice A n c] w fun e w' => ∃ (V : Value) (l : List (Int × Int × Int × Int)), l.length ≤ 40 ∧ e = .returned (V) ∧ Below w.heap.size w w' ∧ Own w' w.heap.size 66 4 V l.length (iv (qX l)) := by
  have hb0 : Below w.heap.size w (w.alloc (.cells #[.slice A n c, .int .i64 0, .int .u64 0] 85)) := below_al (Below.refl _ _)
  go_enter Try.func109, Try.ntmps109
  go_wp2_with fail
  refine (spec_dErrs w.heap.size _ 0 _ (by omega) (cur_new hC _ rfl)).mono ?_
  rintro e w1 ⟨V, l, hl, rfl, hd1, ho1⟩
  have hb1 := below_drawn hb0 hd1.1 (Nat.le_refl _)
  have hs1 : w.heap.size < w1.heap.size := hd1.2.lt
  simp only [World.size_alloc] at ho1
  obtain ⟨AV, cV, rfl, _, _⟩ := ho1.arr
  have HO1 := hide ho1; have HC1 := hide hd1.2
  clear ho1 hd1 hb0
  go_wp2
  go_returns
  exact ⟨_, l, hl, rfl, hb1, HO1.out.base (by omega)⟩
set_option maxHeartbeats 2000000 in
theorem draw_hours (A : Option Addr) (n c : Nat) (C : Nat → Int) (w : World) (hC : CodeOk w A n C) :
    Calls Try.prog 55 #[.slice A n c] w fun e w' => ∃ (V : Value) (l : List (Int × Int × Int × Int)), l.length ≤ 40 ∧ e = .returned (V) ∧ Below w.heap.size w w' ∧ Own w' w.heap.size 66 4 V l.length (iv (qX l)) := by
  go_enter Try.func55, Try.ntmps55
  go_wp2_with fail
  refine (draw_errs A n c C _ hC).mono ?_
  rintro e w1 ⟨V, l, hl, rfl, hb, ho⟩
  have HO := hide ho
  clear ho
  go_wp2
  go_returns
  exact ⟨_, l, hl, rfl, hb, HO.out⟩
set_option maxHeartbeats 2000000 in
theorem draw_fewest (A : Option Addr) (n c : Nat) (C : Nat → Int) (w : World) (hC : CodeOk w A n C) :
    Calls Try.prog 69 #[.slice A n c] w fun e w' => ∃ (V : Value) (l : List (Int × Int × Int × Int)), l.length ≤ 40 ∧ e = .returned (V) ∧ Below w.heap.size w w' ∧ Own w' w.heap.size 66 4 V l.length (iv (qX l)) := by
  go_enter Try.func69, Try.ntmps69
  go_wp2_with fail
  refine (draw_errs A n c C _ hC).mono ?_
  rintro e w1 ⟨V, l, hl, rfl, hb, ho⟩
  have HO := hide ho
  clear ho
  go_wp2
  go_returns
  exact ⟨_, l, hl, rfl, hb, HO.out⟩
set_option maxHeartbeats 2000000 in
theorem draw_plan (A : Option Addr) (n c : Nat) (C : Nat → Int) (w : World) (hC : CodeOk w A n C) :
    Calls Try.prog 101 #[.slice A n c] w fun e w' => ∃ (V : Value) (l : List (Int × Int × Int × Int)) (U : Value) (p : List Int), l.length ≤ 40 ∧ p.length ≤ 60 ∧ e = .returned (.tuple #[V, U]) ∧ Below w.heap.size w w' ∧ Own w' w.heap.size 66 4 V l.length (iv (qX l)) ∧ Own w' w.heap.size 3 1 U p.length (iv (lf p)) := by
  have hb0 : Below w.heap.size w (w.alloc (.cells #[.slice A n c, .int .i64 0, .int .u64 0] 85)) := below_al (Below.refl _ _)
  go_enter Try.func101, Try.ntmps101
  go_wp2_with fail
  refine (spec_dErrs w.heap.size _ 0 _ (by omega) (cur_new hC _ rfl)).mono ?_
  rintro e w1 ⟨V, l, hl, rfl, hd1, ho1⟩
  have hb1 := below_drawn hb0 hd1.1 (Nat.le_refl _)
  have hs1 : w.heap.size < w1.heap.size := hd1.2.lt
  simp only [World.size_alloc] at ho1
  obtain ⟨AV, cV, rfl, _, _⟩ := ho1.arr
  have HO1 := hide ho1; have HC1 := hide hd1.2
  clear ho1 hd1 hb0
  go_wp2_with fail
  refine (spec_dPlan w.heap.size _ (0 + 600) AV l.length cV _ hl (by omega) HC1.out).mono ?_
  rintro e w2 ⟨U, p, hp, rfl, hd2, ho2⟩
  have hb2 := below_drawn hb1 hd2.1 (Nat.le_refl _)
  obtain ⟨AU, cU, rfl, _, _⟩ := ho2.arr
  have HO2 := hide (HO1.out.other hd2.1 (fun g e => by injection e with e; omega)); have HP := hide ho2
  clear hd2 ho2
  go_wp2
  go_returns
  exact ⟨_, l, _, p, hl, hp, rfl, hb2, HO2.out.base (by omega), HP.out.base (by omega)⟩
set_option maxHeartbeats 2000000 in
theorem draw_ends (A : Option Addr) (n c : Nat) (C : Nat → Int) (w : World) (hC : CodeOk w A n C) :
    Calls Try.prog 47 #[.slice A n c] w fun e w' => ∃ (V : Value) (l : List (Int × Int × Int × Int)) (U : Value) (p : List Int), l.length ≤ 40 ∧ p.length ≤ 60 ∧ e = .returned (.tuple #[V, U]) ∧ Below w.heap.size w w' ∧ Own w' w.heap.size 66 4 V l.length (iv (qX l)) ∧ Own w' w.heap.size 3 1 U p.length (iv (lf p)) := by
  go_enter Try.func47, Try.ntmps47
  go_wp2_with fail
  refine (draw_plan A n c C _ hC).mono ?_
  rintro e w1 ⟨V, l, U, p, hl, hp, rfl, hb, ho, hu⟩
  have HO := hide ho; have HU := hide hu
  clear ho hu
  go_wp2
  go_returns
  exact ⟨_, l, _, p, hl, hp, rfl, hb, HO.out, HU.out⟩
set_option maxHeartbeats 2000000 in
theorem draw_most (A : Option Addr) (n c : Nat) (C : Nat → Int) (w : World) (hC : CodeOk w A n C) :
    Calls Try.prog 63 #[.slice A n c] w fun e w' => ∃ (V : Value) (l : List (Int × Int × Int × Int)) (U : Value) (p : List Int), l.length ≤ 40 ∧ p.length ≤ 60 ∧ e = .returned (.tuple #[V, U]) ∧ Below w.heap.size w w' ∧ Own w' w.heap.size 66 4 V l.length (iv (qX l)) ∧ Own w' w.heap.size 3 1 U p.length (iv (lf p)) := by
  go_enter Try.func63, Try.ntmps63
  go_wp2_with fail
  refine (draw_plan A n c C _ hC).mono ?_
  rintro e w1 ⟨V, l, U, p, hl, hp, rfl, hb, ho, hu⟩
  have HO := hide ho; have HU := hide hu
  clear ho hu
  go_wp2
  go_returns
  exact ⟨_, l, _, p, hl, hp, rfl, hb, HO.out, HU.out⟩
set_option maxHeartbeats 2000000 in
theorem draw_urgent (A : Option Addr) (n c : Nat) (C : Nat → Int) (w : World) (hC : CodeOk w A n C) :
    Calls Try.prog 52 #[.slice A n c] w fun e w' => ∃ (V : Value) (l : List (Int × Int × Int × Int)) (x : Int), l.length ≤ 40 ∧ e = .returned (.tuple #[V, .int .i64 x]) ∧ Below w.heap.size w w' ∧ Own w' w.heap.size 66 4 V l.length (iv (qX l)) := by
  have hb0 : Below w.heap.size w (w.alloc (.cells #[.slice A n c, .int .i64 0, .int .u64 0] 85)) := below_al (Below.refl _ _)
  go_enter Try.func52, Try.ntmps52
  go_wp2_with fail
  refine (spec_dErrs w.heap.size _ 0 _ (by omega) (cur_new hC _ rfl)).mono ?_
  rintro e w1 ⟨V, l, hl, rfl, hd1, ho1⟩
  have hb1 := below_drawn hb0 hd1.1 (Nat.le_refl _)
  have hs1 : w.heap.size < w1.heap.size := hd1.2.lt
  simp only [World.size_alloc] at ho1
  obtain ⟨AV, cV, rfl, _, _⟩ := ho1.arr
  have HO1 := hide ho1; have HC1 := hide hd1.2
  clear ho1 hd1 hb0
  go_wp2_with fail
  refine (spec_pick w.heap.size _ (0 + 600) 24 _ (by omega) (by omega) (HC1.out.alloc _)).mono ?_
  rintro e w2 ⟨y, rfl, y0, y1, _, hd2⟩
  have y2 := y1 (by omega)
  have hb2 := below_drawn (below_al hb1) hd2.1 (Nat.le_refl _)
  have hB : Blk w2 w1.heap.size 3 ((([0, 2, 7, 12, 30, 200, -1, 201] : List Int).map (Value.int .i64)).toArray) := blk_drawn hd2 (Blk.new w1 3 _) (by omega)
  have HO2 := hide (Own.other (HO1.out.below (below_al (Below.refl w1.heap.size w1)) (Nat.le_refl _)) hd2.1 (fun g e => by injection e with e; omega)); have HC2 := hide hd2.2
  have hs2 : w1.heap.size < w2.heap.size := hB.lt
  obtain ⟨q, hq⟩ : ∃ q : Nat, (q : Int) = 6 + y / 11 := ⟨(6 + y / 11).toNat, by omega⟩
  have hq8 : q ≤ 8 := by omega
  have hA := hide (arr_take8 (arr_lit hB) hq8)
  clear hd2 hB y1
  have e1 : 6 + y / 11 = (q : Int) := hq.symm
  have hq6 : 6 ≤ q := by omega
  clear hq
  go_wp2_with fail
  refine (spec_among w.heap.size _ (0 + 600 + 2) _ q 8 _ _ (by omega) (by omega) hA.out (fun b o e => by injection e with e; injection e with e; omega) (by omega) HC2.out).mono ?_
  rintro e w3 ⟨x, hx, rfl, hd3⟩
  have hb3 := below_drawn hb2 hd3.1 (Nat.le_refl _)
  have HO3 := hide (Own.other HO2.out hd3.1 (fun g e => by injection e with e; omega))
  clear hd3
  go_wp2
  go_returns
  exact ⟨_, l, _, hl, rfl, hb3, HO3.out.base (by omega)⟩
set_option maxHeartbeats 2000000 in
theorem draw_errand (A : Option Addr) (n c : Nat) (C : Nat → Int) (w : World) (hC : CodeOk w A n C) :
    Calls Try.prog 59 #[.slice A n c] w fun e w' => ∃ a b d f : Int, e = .returned (.agg #[.int .i64 a, .int .i64 b, .int .i64 d, .int .i64 f]) ∧ Below w.heap.size w w' := by
  have hr : Blk (w.alloc (.cells #[.int .i64 0, .int .i64 0, .int .i64 0, .int .i64 0] 66)) w.heap.size 66 #[.int .i64 0, .int .i64 0, .int .i64 0, .int .i64 0] := Blk.new _ _ _
  have hb0 : Below w.heap.size w ((w.alloc (.cells #[.int .i64 0, .int .i64 0, .int .i64 0, .int .i64 0] 66)).alloc (.cells #[.slice A n c, .int .i64 0, .int .u64 0] 85)) := below_al (below_al (Below.refl _ _))
  go_enter Try.func59, Try.ntmps59
  go_wp2_with fail
  refine (spec_amongX (w.heap.size + 1) _ 0 [1, 42, 99] _ _ _ rfl (by decide) (by decide) _ rfl (blk_new_atC _ _ _ _ (by first | rfl | simp)) (by first | omega | (simp; omega)) (by omega) ((cur_new (hC.on (below_al (Below.refl _ _))) _ (by simp)).alloc _)).mono ?_
  rintro e w1 ⟨z, rfl, hd1⟩
  have hb1 := below_drawn (below_al hb0) hd1.1 (by omega)
  have hr1 : Blk w1 w.heap.size 66 #[.int .i64 0, .int .i64 0, .int .i64 0, .int .i64 0] := (hd1.1.block w.heap.size (by simp; omega) (fun e => by injection e with e; omega)).trans ((hr.alloc _).alloc _)
  have hc1 := hd1.2
  have hs1 := hr1.lt
  clear hd1 hr hb0
  go_wp2_with fail
  refine (spec_errandD (w.heap.size + 1) _ (0 + 2) z _ (by omega) hc1).mono ?_
  rintro e w2 ⟨a, b, d, f, rfl, hd2⟩
  have hb2 := below_drawn hb1 hd2.1 (by omega)
  have hr2 : Blk w2 w.heap.size 66 #[.int .i64 0, .int .i64 0, .int .i64 0, .int .i64 0] := (hd2.1.block w.heap.size (by omega) (fun e => by injection e with e; omega)).trans hr1
  have cr0 := hr2.cell 0; have cr1 := hr2.cell 1; have cr2 := hr2.cell 2; have cr3 := hr2.cell 3
  have fr0 := hr2.frozen 0; have fr1 := hr2.frozen 1; have fr2 := hr2.frozen 2; have fr3 := hr2.frozen 3
  simp at cr0 cr1 cr2 cr3
  clear hd2 hr1 hr2 hc1
  go_wp2
  refine bodyPost_ret (v := .agg #[.int .i64 a, .int .i64 b, .int .i64 d, .int .i64 f]) (by simp [results, Try.results59, go_sem, cr0, cr1, cr2, cr3]) rfl ⟨_, _, _, _, rfl, by go_grown⟩
end Go.Proofs.Ytfdgnjnnbhelgaa
