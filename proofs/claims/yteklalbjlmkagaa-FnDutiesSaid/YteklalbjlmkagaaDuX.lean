/- Chapter 17: the draws of the laws' arguments. -/
import Derived.Test.YteklalbjlmkagaaDuW
namespace Go.Proofs.Yteklalbjlmkagaa
open Go.RowKit
set_option linter.unusedVariables false
set_option linter.unusedSimpArgs false

/-- The code that a law is given. -/
def CodeOk (w : World) (A : Option Addr) (n : Nat) (C : Nat → Int) : Prop := n ≤ 65536 ∧ Arr w w.heap.size A n 1 (bv C) ∧ ∀ i, i < n → 0 ≤ C i ∧ C i ≤ 255
theorem CodeOk.on {w w' : World} {A : Option Addr} {n : Nat} {C : Nat → Int} (h : CodeOk w A n C) (hb : Below w.heap.size w w') : CodeOk w' A n C := ⟨h.1, h.2.1.on hb, h.2.2⟩
theorem cur_new {w : World} {A : Option Addr} {n c : Nat} {C : Nat → Int} (h : CodeOk w A n C) (g : Nat) (hg : g = w.heap.size) : Cur (w.alloc (.cells #[.slice A n c, .int .i64 0, .int .u64 0] 60)) g ⟨A, n, c, C⟩ 0 := by
  subst hg
  refine ⟨⟨h.1, fun hn => ?_, h.2.2⟩, 0, 0, Nat.le_refl _, Blk.new _ _ _⟩
  obtain ⟨b, off, e, hb, hc⟩ := h.2.1 hn
  exact ⟨b, off, e, hb, fun i j hi hj => (World.cell?_alloc_lt w _ ⟨b, _, none⟩ hb).trans (hc i j hi hj)⟩
theorem below_drawn {w a w' : World} {cb : Nat} (h : Below w.heap.size w a) (hg : a.grownBy w' (some cb)) (hcb : w.heap.size ≤ cb) : Below w.heap.size w w' := h.grown hg h.size (fun g e => by injection e with e; omega)
theorem blk_drawnN {W w' : World} {cb M g : Nat} {K : Code} {t : TypeId} {cs : Array Value} (hd : Drawn W cb K M w') (hb : Blk W g t cs) (hne : g ≠ cb) : Blk w' g t cs :=
  (hd.1.block g hb.lt (fun e => by injection e with e; omega)).trans hb
/-- A list of duties of the call's own. -/
structure Lst (base : Nat) (w : World) (g cap m : Nat) (L : List Du) : Prop where
  len : L.length = m
  drw : DrwL L
  row : w.ownsRow base 39 4 (.slice (some ⟨g, 0, none⟩) m cap) m (L.flatMap dC)
theorem Lst.low {b b' : Nat} {w : World} {g cap m : Nat} {L : List Du} (h : Lst b w g cap m L) (hb : b' ≤ b) : Lst b' w g cap m L := ⟨h.len, h.drw, row_base h.row hb⟩
theorem Lst.below {b : Nat} {w w' : World} {g cap m : Nat} {L : List Du} (h : Lst b w g cap m L) (hb : Below w.heap.size w w') : Lst b w' g cap m L := ⟨h.len, h.drw, row_below h.row hb⟩
theorem Lst.drawn {b : Nat} {w w' : World} {cb g cap m : Nat} {L : List Du} (h : Lst b w g cap m L) (hd : w.grownBy w' (some cb)) (hb : cb < b) : Lst b w' g cap m L := ⟨h.len, h.drw, row_drawnD h.row hd hb⟩
set_option maxHeartbeats 4000000 in
set_option maxRecDepth 100000 in
theorem draw_gaps (A : Option Addr) (n c : Nat) (C : Nat → Int) (w : World) (hC : CodeOk w A n C) :
    Calls Try.prog 6 #[.slice A n c] w fun e w' => ∃ (g cap m : Nat) (L : List Du) (x y : Int), e = .returned (.tuple #[.slice (some ⟨g, 0, none⟩) m cap, .int .i64 x, .int .i64 y]) ∧ Lst w.heap.size w' g cap m L ∧ Below w.heap.size w w' := by
  have hb0 : Below w.heap.size w (w.alloc (.cells #[.slice A n c, .int .i64 0, .int .u64 0] 60)) := below_al (Below.refl _ _)
  go_enter Try.func6, Try.ntmps6
  go_wp2_with fail
  refine (spec_duties w.heap.size _ 0 _ (by omega) (cur_new hC _ rfl)).mono ?_
  rintro e w1 ⟨g, cap, m, L, rfl, hl, hdl, hrow, hd1⟩
  simp only [World.size_alloc] at hrow
  have HB1 := hide (below_drawn hb0 hd1.1 (Nat.le_refl _))
  have hd1c := hd1.2
  have HC1 := hide hd1c
  have HL1 := hide (Lst.mk hl hdl hrow)
  clear hb0 hd1 hd1c hl hdl hrow
  go_wp2_with fail
  refine (spec_hour17 w.heap.size _ _ _ (by omega) HC1.out).mono ?_
  rintro e w2 ⟨x, rfl, x0, x1, hd2⟩
  have hd2c := hd2.2
  have HB2 := hide (below_drawn HB1.out hd2.1 (Nat.le_refl _)); have HC2 := hide hd2c
  have HL2 := hide (HL1.out.drawn hd2.1 (Nat.lt_succ_self _))
  have hs2 := HB2.out.size; have hcl := HC2.out.lt
  have hq : Blk (w2.alloc (.cells #[.int .i64 1, .int .i64 10, .int .i64 40, .int .i64 0, .int .i64 10000] 3)) w2.heap.size 3 #[.int .i64 1, .int .i64 10, .int .i64 40, .int .i64 0, .int .i64 10000] := Blk.new _ _ _
  have HQ := hide hq
  clear hd2 hd2c HB1 HC1 HL1 hq
  go_wp2_with fail
  refine (spec_pick w.heap.size _ _ 24 _ (by omega) (by omega) (HC2.out.alloc _)).mono ?_
  rintro e w3 ⟨p, rfl, p0, p1, _, hd3⟩
  have hp24 := p1 (by omega)
  obtain ⟨q, hq1, hq2⟩ := tdiv11 p0 hp24
  have hd3c := hd3.2
  have HC3 := hide hd3c
  have HB3 := hide (below_drawn (below_al HB2.out) hd3.1 (Nat.le_refl _))
  have HL3 := hide ((HL2.out.below (below_al (Below.refl _ _))).drawn hd3.1 (Nat.lt_succ_self _))
  have HQ3 := hide (blk_drawnN hd3 HQ.out (by omega))
  have hw1 : IntKind.i64.wrap (q : Int) = q := IntWalk.i64_in _ (by omega)
  have hw2 : IntKind.i64.wrap (3 + (q : Int)) = 3 + q := IntWalk.i64_in _ (by omega)
  have hw3 : 3 + (q : Int) ≤ 5 := by omega
  have hw4 : (0 : Int) ≤ 3 + (q : Int) := by omega
  clear hd3 hd3c HB2 HC2 HL2 HQ
  go_wp2_with fail
  refine (spec_amongP w.heap.size _ _ [1, 10, 40, 0, 10000] 0 10000 5 (3 + q) w2.heap.size _ rfl (by omega) (by omega) (by omega) (by decide) _ rfl HQ3.out (by omega) (by omega) HC3.out).mono ?_
  rintro e w4 ⟨y, rfl, y0, y1, hd4⟩
  have HB4 := hide (below_drawn HB3.out hd4.1 (Nat.le_refl _))
  have HL4 := hide ((HL3.out.drawn hd4.1 (Nat.lt_succ_self _)).low (Nat.le_succ _))
  have hwx : IntKind.i64.wrap (x + y) = x + y := IntWalk.i64_in _ (by omega)
  clear hd4 HB3 HC3 HL3 HQ3 hw1 hw2 hw3 hw4
  go_wp2
  go_returns
  exact ⟨g, cap, m, L, x, x + y, rfl, HL4.out, HB4.out⟩
set_option maxHeartbeats 4000000 in
theorem draw_on (A : Option Addr) (n c : Nat) (C : Nat → Int) (w : World) (hC : CodeOk w A n C) :
    Calls Try.prog 17 #[.slice A n c] w fun e w' => ∃ (g cap m : Nat) (L : List Du) (x : Int), e = .returned (.tuple #[.slice (some ⟨g, 0, none⟩) m cap, .int .i64 x]) ∧ Lst w.heap.size w' g cap m L ∧ Below w.heap.size w w' := by
  have hb0 : Below w.heap.size w (w.alloc (.cells #[.slice A n c, .int .i64 0, .int .u64 0] 60)) := below_al (Below.refl _ _)
  go_enter Try.func17, Try.ntmps17
  go_wp2_with fail
  refine (spec_duties w.heap.size _ 0 _ (by omega) (cur_new hC _ rfl)).mono ?_
  rintro e w1 ⟨g, cap, m, L, rfl, hl, hdl, hrow, hd1⟩
  simp only [World.size_alloc] at hrow
  have HB1 := hide (below_drawn hb0 hd1.1 (Nat.le_refl _))
  have hd1c := hd1.2
  have HC1 := hide hd1c
  have HL1 := hide (Lst.mk hl hdl hrow)
  clear hb0 hd1 hd1c hl hdl hrow
  go_wp2_with fail
  refine (spec_hour17 w.heap.size _ _ _ (by omega) HC1.out).mono ?_
  rintro e w2 ⟨x, rfl, x0, x1, hd2⟩
  have HB2 := hide (below_drawn HB1.out hd2.1 (Nat.le_refl _))
  have HL2 := hide ((HL1.out.drawn hd2.1 (Nat.lt_succ_self _)).low (Nat.le_succ _))
  clear hd2 HB1 HC1 HL1
  go_wp2
  go_returns
  exact ⟨g, cap, m, L, x, rfl, HL2.out, HB2.out⟩
set_option maxHeartbeats 4000000 in
set_option maxRecDepth 100000 in
theorem draw_freeFor (A : Option Addr) (n c : Nat) (C : Nat → Int) (w : World) (hC : CodeOk w A n C) :
    Calls Try.prog 11 #[.slice A n c] w fun e w' => ∃ (g cap m : Nat) (L : List Du) (x y : Int), e = .returned (.tuple #[.slice (some ⟨g, 0, none⟩) m cap, .int .i64 x, .int .i64 y]) ∧ Lst w.heap.size w' g cap m L ∧ Below w.heap.size w w' := by
  have hb0 : Below w.heap.size w (w.alloc (.cells #[.slice A n c, .int .i64 0, .int .u64 0] 60)) := below_al (Below.refl _ _)
  go_enter Try.func11, Try.ntmps11
  go_wp2_with fail
  refine (spec_duties w.heap.size _ 0 _ (by omega) (cur_new hC _ rfl)).mono ?_
  rintro e w1 ⟨g, cap, m, L, rfl, hl, hdl, hrow, hd1⟩
  simp only [World.size_alloc] at hrow
  have HB1 := hide (below_drawn hb0 hd1.1 (Nat.le_refl _))
  have hd1c := hd1.2
  have HC1 := hide hd1c
  have HL1 := hide (Lst.mk hl hdl hrow)
  clear hb0 hd1 hd1c hl hdl hrow
  go_wp2_with fail
  refine (spec_dutyD w.heap.size _ _ _ (by omega) HC1.out).mono ?_
  rintro e w2 ⟨d, rfl, _, hd2⟩
  obtain ⟨x, y, z, u⟩ := d
  dsimp only
  have HB2 := hide (below_drawn HB1.out hd2.1 (Nat.le_refl _))
  have HL2 := hide ((HL1.out.drawn hd2.1 (Nat.lt_succ_self _)).low (Nat.le_succ _))
  have HB := hide (below_al (o := .cells #[.int .i64 x, .int .i64 y, .int .i64 z, .bool u] 39) HB2.out)
  have HL3 := hide (HL2.out.below (below_al (o := .cells #[.int .i64 x, .int .i64 y, .int .i64 z, .bool u] 39) (Below.refl _ _)))
  have hk1 : (w2.alloc (.cells #[.int .i64 x, .int .i64 y, .int .i64 z, .bool u] 39)).cell? ⟨w2.heap.size, 1, none⟩ = some (.int .i64 y) := by rw [(Blk.new w2 39 #[.int .i64 x, .int .i64 y, .int .i64 z, .bool u]).cell]; rfl
  have hk2 : (w2.alloc (.cells #[.int .i64 x, .int .i64 y, .int .i64 z, .bool u] 39)).cell? ⟨w2.heap.size, 2, none⟩ = some (.int .i64 z) := by rw [(Blk.new w2 39 #[.int .i64 x, .int .i64 y, .int .i64 z, .bool u]).cell]; rfl
  have hx := BW.cell (w := w2.alloc (.cells #[.int .i64 x, .int .i64 y, .int .i64 z, .bool u] 39))
  clear hd2 HB1 HC1 HL1 HB2 HL2
  go_wp2
  refine wp_region_bw (by kernel_rfl) (by kernel_rfl) ?_
  repeat (go_big_quiet_step ((first | fail)))
  refine wpQuiet_end fun w1 hb1 => ?_
  have HL4 := hide (HL3.out.below hb1)
  have HB4 := hide (HB.out.trans (hb1.mono HB.out.size))
  clear hx hb1
  go_wp2
  go_returns
  exact ⟨g, cap, m, L, y, z, rfl, HL4.out, HB4.out⟩
set_option maxHeartbeats 4000000 in
set_option maxRecDepth 100000 in
theorem draw_add (A : Option Addr) (n c : Nat) (C : Nat → Int) (w : World) (hC : CodeOk w A n C) :
    Calls Try.prog 22 #[.slice A n c] w fun e w' => ∃ (g cap m : Nat) (L : List Du) (d : Du), e = .returned (.tuple #[.slice (some ⟨g, 0, none⟩) m cap, .agg #[.int .i64 d.who, .int .i64 d.beg, .int .i64 d.fin, .bool d.chief]]) ∧ WhoOk d ∧ Lst w.heap.size w' g cap m L ∧ Below w.heap.size w w' := by
  have hr : Blk (w.alloc (.cells #[.int .i64 0, .int .i64 0, .int .i64 0, .bool false] 39)) w.heap.size 39 #[.int .i64 0, .int .i64 0, .int .i64 0, .bool false] := Blk.new _ _ _
  have hb0 : Below w.heap.size w ((w.alloc (.cells #[.int .i64 0, .int .i64 0, .int .i64 0, .bool false] 39)).alloc (.cells #[.slice A n c, .int .i64 0, .int .u64 0] 60)) := below_al (below_al (Below.refl _ _))
  go_enter Try.func22, Try.ntmps22
  go_wp2_with fail
  refine (spec_duties (w.heap.size + 1) _ 0 _ (by omega) (cur_new (hC.on (below_al (Below.refl _ _))) _ (by simp))).mono ?_
  rintro e w1 ⟨g, cap, m, L, rfl, hl, hdl, hrow, hd1⟩
  simp only [World.size_alloc] at hrow
  have HB1 := hide (below_drawn hb0 hd1.1 (Nat.le_succ _))
  have hd1c := hd1.2
  have HC1 := hide hd1c
  have HR1 := hide (blk_drawnN hd1 (hr.alloc _) (by omega))
  have HL1 := hide (Lst.mk hl hdl hrow)
  clear hb0 hd1 hd1c hl hdl hrow hr
  go_wp2_with fail
  refine (spec_dutyD (w.heap.size + 1) _ _ _ (by omega) HC1.out).mono ?_
  rintro e w2 ⟨d, rfl, hwd, hd2⟩
  have HB2 := hide (below_drawn HB1.out hd2.1 (Nat.le_succ _))
  have HL2 := hide (HL1.out.drawn hd2.1 (Nat.lt_succ_self _))
  have HR2 := hide (blk_drawnN hd2 HR1.out (by omega))
  have HWD := hide hwd
  have c0 := HR2.out.cell 0; have c1 := HR2.out.cell 1; have c2 := HR2.out.cell 2; have c3 := HR2.out.cell 3
  have f0 := HR2.out.frozen 0; have f1 := HR2.out.frozen 1; have f2 := HR2.out.frozen 2; have f3 := HR2.out.frozen 3
  simp at c0 c1 c2 c3
  have hlr := HR2.out.lt
  clear hd2 HB1 HC1 HL1 HR1 hwd
  go_wp2
  have hgs : w2.grownBy (w2.setCells w.heap.size 0 (dC d)) (some w.heap.size) := grown_setCellsD (dC d) 0 (grown_refl _ _)
  have HL3 := hide ((HL2.out.drawn hgs (by omega)).low (b' := w.heap.size) (by omega))
  have HB3 := hide (HB2.out.grown hgs HB2.out.size (fun g e => by injection e with e; omega))
  refine bodyPost_ret (v := .tuple #[.slice (some ⟨g, 0, none⟩) m cap, .agg #[.int .i64 d.who, .int .i64 d.beg, .int .i64 d.fin, .bool d.chief]]) (by simp [results, Try.results22, go_sem, c0, c1, c2, c3]) rfl ⟨g, cap, m, L, d, rfl, HWD.out, HL3.out, HB3.out⟩
end Go.Proofs.Yteklalbjlmkagaa
