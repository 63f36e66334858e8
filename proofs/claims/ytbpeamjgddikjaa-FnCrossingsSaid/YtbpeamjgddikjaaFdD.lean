/- The draws of the arguments of chapter 18. -/
import Derived.Test.YtbpeamjgddikjaaFdS
namespace Go.Proofs.Ytbpeamjgddikjaa
open Go.RowKit
set_option linter.unusedVariables false
set_option linter.unusedSimpArgs false

/-- The code that a law is given. -/
def CodeOk (w : World) (A : Option Addr) (n : Nat) (C : Nat → Int) : Prop := n ≤ 65536 ∧ Arr w w.heap.size A n 1 (bv C) ∧ ∀ i, i < n → 0 ≤ C i ∧ C i ≤ 255
theorem CodeOk.on {w w' : World} {A : Option Addr} {n : Nat} {C : Nat → Int} (h : CodeOk w A n C) (hb : Below w.heap.size w w') : CodeOk w' A n C := ⟨h.1, h.2.1.on hb, h.2.2⟩
theorem cur_new {w : World} {A : Option Addr} {n c : Nat} {C : Nat → Int} (h : CodeOk w A n C) (g : Nat) (hg : g = w.heap.size) : Cur (w.alloc (.cells #[.slice A n c, .int .i64 0, .int .u64 0] 88)) g ⟨A, n, c, C⟩ 0 := by
  subst hg
  refine ⟨⟨h.1, fun hn => ?_, h.2.2⟩, 0, 0, Nat.le_refl _, Blk.new _ _ _⟩
  obtain ⟨b, off, e, hb, hc⟩ := h.2.1 hn
  exact ⟨b, off, e, hb, fun i j hi hj => (World.cell?_alloc_lt w _ ⟨b, _, none⟩ hb).trans (hc i j hi hj)⟩
theorem below_drawn {w a w' : World} {cb : Nat} (h : Below w.heap.size w a) (hg : a.grownBy w' (some cb)) (hcb : w.heap.size ≤ cb) : Below w.heap.size w w' := h.grown hg h.size (fun g e => by injection e with e; omega)
theorem FS.low {lo lo' : Nat} {W : World} {top g cap q : Nat} {L : List (FauE × Nat × Nat)} (h : FS lo W top g cap q L) (hl : lo' ≤ lo) : FS lo' W top g cap q L :=
  ⟨h.len, ⟨Nat.le_trans hl h.gt.1, h.gt.2⟩, h.tw, row_base h.row hl, fun x hx => ⟨(h.ok x hx).1.mono hl, (h.ok x hx).2⟩, h.ne⟩
theorem blk_drawnN {W w' : World} {cb M g : Nat} {K : Code} {t : TypeId} {cs : Array Value} (hd : Drawn W cb K M w') (hb : Blk W g t cs) (hne : g ≠ cb) : Blk w' g t cs :=
  (hd.1.block g hb.lt (fun e => by injection e with e; omega)).trans hb
set_option maxHeartbeats 2000000 in
theorem draw_flist (A : Option Addr) (n c : Nat) (C : Nat → Int) (w : World) (hC : CodeOk w A n C) :
    Calls Try.prog 66 #[.slice A n c] w fun e w' => ∃ (g cap q top : Nat) (L : List (FauE × Nat × Nat)), e = .returned (.slice (some ⟨g, 0, none⟩) q cap) ∧ q ≤ 8 ∧ Below w.heap.size w w' ∧ FS w.heap.size w' top g cap q L := by
  have hb0 : Below w.heap.size w (w.alloc (.cells #[.slice A n c, .int .i64 0, .int .u64 0] 88)) := below_al (Below.refl _ _)
  go_enter Try.func66, Try.ntmps66
  go_wp2_with fail
  refine (spec_faultsD w.heap.size _ 0 _ (by omega) (cur_new hC _ rfl)).mono ?_
  rintro e w1 ⟨g, cap, q, top, L, rfl, hq, hs, hd⟩
  have hb1 := below_drawn hb0 hd.1 (Nat.le_refl _)
  have HS := hide (hs.low (lo' := w.heap.size) (by simp))
  clear hs hd hb0
  go_wp2
  go_returns
  exact ⟨g, cap, q, top, L, rfl, hq, hb1, HS.out⟩
theorem draw_pairs (A : Option Addr) (n c : Nat) (C : Nat → Int) (w : World) (hC : CodeOk w A n C) :
    Calls Try.prog 32 #[.slice A n c] w fun e w' => ∃ (g cap q top : Nat) (L : List (FauE × Nat × Nat)), e = .returned (.slice (some ⟨g, 0, none⟩) q cap) ∧ q ≤ 8 ∧ Below w.heap.size w w' ∧ FS w.heap.size w' top g cap q L := by
  go_enter Try.func32, Try.ntmps32
  go_wp2_with fail
  refine (draw_flist A n c C _ hC).mono ?_
  rintro e w1 ⟨g, cap, q, top, L, rfl, hq, hb, hs⟩
  have HS := hide hs
  clear hs
  go_wp2
  go_returns
  exact ⟨g, cap, q, top, L, rfl, hq, hb, HS.out⟩
set_option maxHeartbeats 2000000 in
theorem draw_near (A : Option Addr) (n c : Nat) (C : Nat → Int) (w : World) (hC : CodeOk w A n C) :
    Calls Try.prog 36 #[.slice A n c] w fun e w' => ∃ (g cap q top : Nat) (L : List (FauE × Nat × Nat)) (x y : Int), e = .returned (.tuple #[.slice (some ⟨g, 0, none⟩) q cap, .int .i64 x, .int .i64 y]) ∧ q ≤ 8 ∧ Below w.heap.size w w' ∧ FS w.heap.size w' top g cap q L := by
  have hb0 : Below w.heap.size w (w.alloc (.cells #[.slice A n c, .int .i64 0, .int .u64 0] 88)) := below_al (Below.refl _ _)
  go_enter Try.func36, Try.ntmps36
  go_wp2_with fail
  refine (spec_faultsD w.heap.size _ 0 _ (by omega) (cur_new hC _ rfl)).mono ?_
  rintro e w1 ⟨g, cap, q, top, L, rfl, hq, hs, hd⟩
  have hb1 := below_drawn hb0 hd.1 (Nat.le_refl _)
  have HC := hide hd.2
  have HS := hide (hs.low (lo' := w.heap.size) (by simp))
  have hcb : w.heap.size < w.heap.size + 1 := Nat.lt_succ_self _
  have hs2 := hide hs
  clear hs hd hb0
  go_wp2_with fail
  refine (spec_bendD w.heap.size _ _ _ (by omega) HC.out).mono ?_
  rintro e w2 ⟨x, y, rfl, _, hd⟩
  have hb2 : Below w.heap.size w w2 := hb1.grown hd.1 hb1.size (fun g e => by injection e with e; omega)
  have HS2 := hide ((hs2.out.drawn hd (by simp)).low (lo' := w.heap.size) (by simp))
  have HB := hide (below_al (o := .cells #[.int .i64 x, .int .i64 y] 26) hb2)
  have HS3 := hide (HS2.out.below (below_al (o := .cells #[.int .i64 x, .int .i64 y] 26) (Below.refl _ _)))
  have hk0 : (w2.alloc (.cells #[.int .i64 x, .int .i64 y] 26)).cell? ⟨w2.heap.size, 0, none⟩ = some (.int .i64 x) := by rw [(Blk.new w2 26 #[.int .i64 x, .int .i64 y]).cell]; rfl
  have hk1 : (w2.alloc (.cells #[.int .i64 x, .int .i64 y] 26)).cell? ⟨w2.heap.size, 1, none⟩ = some (.int .i64 y) := by rw [(Blk.new w2 26 #[.int .i64 x, .int .i64 y]).cell]; rfl
  have hx := BW.cell (w := w2.alloc (.cells #[.int .i64 x, .int .i64 y] 26))
  clear hd hb2 HS HC HS2 hs2 hb1
  go_wp2
  refine wp_region_bw (by kernel_rfl) (by kernel_rfl) ?_
  repeat (go_big_quiet_step ((first | fail)))
  refine wpQuiet_end fun w1 hb1 => ?_
  go_wp2
  go_returns
  exact ⟨g, cap, q, top, L, x, y, rfl, hq, HB.out.trans (hb1.mono (by have := HB.out.size; omega)), HS3.out.below hb1⟩
set_option maxHeartbeats 4000000 in
set_option maxRecDepth 100000 in
theorem draw_segs (A : Option Addr) (n c : Nat) (C : Nat → Int) (w : World) (hC : CodeOk w A n C) :
    Calls Try.prog 31 #[.slice A n c] w fun e w' => ∃ a0 a1 b0 b1 c0 c1 d0 d1 : Int, e = .returned (.tuple #[.agg #[.int .i64 a0, .int .i64 a1], .agg #[.int .i64 b0, .int .i64 b1], .agg #[.int .i64 c0, .int .i64 c1], .agg #[.int .i64 d0, .int .i64 d1]]) ∧ Below w.heap.size w w' := by
  have hfa := frozen_al; have hfo := frozen_out
  obtain ⟨W4, hW4⟩ : ∃ W, W = (((w.alloc (.cells #[.int .i64 0, .int .i64 0] 26)).alloc (.cells #[.int .i64 0, .int .i64 0] 26)).alloc (.cells #[.int .i64 0, .int .i64 0] 26)).alloc (.cells #[.int .i64 0, .int .i64 0] 26) := ⟨_, rfl⟩
  have hz4 : W4.heap.size = w.heap.size + 4 := by rw [hW4]; simp
  have hb4 : Below w.heap.size w W4 := by rw [hW4]; exact below_al (below_al (below_al (below_al (Below.refl _ _))))
  have p0 : Blk W4 w.heap.size 26 #[.int .i64 0, .int .i64 0] := by rw [hW4]; exact (((blk_new_atC w _ _ _ rfl).alloc _).alloc _).alloc _
  have p1 : Blk W4 (w.heap.size + 1) 26 #[.int .i64 0, .int .i64 0] := by rw [hW4]; exact ((blk_new_atC (w.alloc _) _ _ _ (by simp)).alloc _).alloc _
  have p2 : Blk W4 (w.heap.size + 1 + 1) 26 #[.int .i64 0, .int .i64 0] := by rw [hW4]; exact (blk_new_atC ((w.alloc _).alloc _) _ _ _ (by simp)).alloc _
  have p3 : Blk W4 (w.heap.size + 1 + 1 + 1) 26 #[.int .i64 0, .int .i64 0] := by rw [hW4]; exact blk_new_atC (((w.alloc _).alloc _).alloc _) _ _ _ (by simp)
  have hcu := cur_new (c := c) (hC.on hb4) (w.heap.size + 4) (by omega)
  have hb5 := below_al (o := .cells #[.slice A n c, .int .i64 0, .int .u64 0] 88) hb4
  have P0 := hide (p0.alloc (.cells #[.slice A n c, .int .i64 0, .int .u64 0] 88)); have P1 := hide (p1.alloc (.cells #[.slice A n c, .int .i64 0, .int .u64 0] 88)); have P2 := hide (p2.alloc (.cells #[.slice A n c, .int .i64 0, .int .u64 0] 88)); have P3 := hide (p3.alloc (.cells #[.slice A n c, .int .i64 0, .int .u64 0] 88))
  have HCU := hide hcu; have HB := hide hb5
  clear p0 p1 p2 p3 hcu hb5 hb4
  subst hW4
  go_enter Try.func31, Try.ntmps31
  go_wp2_with fail
  refine (spec_bendD (w.heap.size + 4) _ 0 _ (by omega) HCU.out).mono ?_
  rintro e w1 ⟨a0, a1, rfl, _, hd⟩
  have HC_1 := hide hd.2
  have HB_1 := hide (HB.out.grown hd.1 HB.out.size (fun g e => by injection e with e; omega))
  have P0_1 := hide (blk_drawnN hd P0.out (by omega)); have P1_1 := hide (blk_drawnN hd P1.out (by omega)); have P2_1 := hide (blk_drawnN hd P2.out (by omega)); have P3_1 := hide (blk_drawnN hd P3.out (by omega))
  clear hd
  go_wp2_with fail
  refine (spec_bendD (w.heap.size + 4) _ (0 + 10) _ (by omega) HC_1.out).mono ?_
  rintro e w2 ⟨b0, b1, rfl, _, hd⟩
  have HC_2 := hide hd.2
  have HB_2 := hide (HB_1.out.grown hd.1 HB_1.out.size (fun g e => by injection e with e; omega))
  have P0_2 := hide (blk_drawnN hd P0_1.out (by omega)); have P1_2 := hide (blk_drawnN hd P1_1.out (by omega)); have P2_2 := hide (blk_drawnN hd P2_1.out (by omega)); have P3_2 := hide (blk_drawnN hd P3_1.out (by omega))
  clear hd
  go_wp2_with fail
  refine (spec_bendD (w.heap.size + 4) _ (0 + 10 + 10) _ (by omega) HC_2.out).mono ?_
  rintro e w3 ⟨c0, c1, rfl, _, hd⟩
  have HC_3 := hide hd.2
  have HB_3 := hide (HB_2.out.grown hd.1 HB_2.out.size (fun g e => by injection e with e; omega))
  have P0_3 := hide (blk_drawnN hd P0_2.out (by omega)); have P1_3 := hide (blk_drawnN hd P1_2.out (by omega)); have P2_3 := hide (blk_drawnN hd P2_2.out (by omega)); have P3_3 := hide (blk_drawnN hd P3_2.out (by omega))
  clear hd
  go_wp2_with fail
  refine (spec_bendD (w.heap.size + 4) _ (0 + 10 + 10 + 10) _ (by omega) HC_3.out).mono ?_
  rintro e w4 ⟨d0, d1, rfl, _, hd⟩
  have HC_4 := hide hd.2
  have HB_4 := hide (HB_3.out.grown hd.1 HB_3.out.size (fun g e => by injection e with e; omega))
  have P0_4 := hide (blk_drawnN hd P0_3.out (by omega)); have P1_4 := hide (blk_drawnN hd P1_3.out (by omega)); have P2_4 := hide (blk_drawnN hd P2_3.out (by omega)); have P3_4 := hide (blk_drawnN hd P3_3.out (by omega))
  clear hd
  have q00 := P0_4.out.cell 0; have q01 := P0_4.out.cell 1; have f00 := P0_4.out.frozen 0; have f01 := P0_4.out.frozen 1; have l0 := P0_4.out.lt
  have q10 := P1_4.out.cell 0; have q11 := P1_4.out.cell 1; have f10 := P1_4.out.frozen 0; have f11 := P1_4.out.frozen 1; have l1 := P1_4.out.lt
  have q20 := P2_4.out.cell 0; have q21 := P2_4.out.cell 1; have f20 := P2_4.out.frozen 0; have f21 := P2_4.out.frozen 1; have l2 := P2_4.out.lt
  have q30 := P3_4.out.cell 0; have q31 := P3_4.out.cell 1; have f30 := P3_4.out.frozen 0; have f31 := P3_4.out.frozen 1; have l3 := P3_4.out.lt
  simp at q00 q01 q10 q11 q20 q21 q30 q31
  have HBF := hide (Below.setCell ((Below.setCell ((Below.setCell ((Below.setCell ((Below.setCell ((Below.setCell ((Below.setCell ((Below.setCell (HB_4.out) (p := ⟨w.heap.size, 0, none⟩) (by show w.heap.size ≤ w.heap.size; omega) (.int .i64 a0))) (p := ⟨w.heap.size, 1, none⟩) (by show w.heap.size ≤ w.heap.size; omega) (.int .i64 a1))) (p := ⟨w.heap.size + 1, 0, none⟩) (by show w.heap.size ≤ w.heap.size + 1; omega) (.int .i64 b0))) (p := ⟨w.heap.size + 1, 1, none⟩) (by show w.heap.size ≤ w.heap.size + 1; omega) (.int .i64 b1))) (p := ⟨w.heap.size + 1 + 1, 0, none⟩) (by show w.heap.size ≤ w.heap.size + 1 + 1; omega) (.int .i64 c0))) (p := ⟨w.heap.size + 1 + 1, 1, none⟩) (by show w.heap.size ≤ w.heap.size + 1 + 1; omega) (.int .i64 c1))) (p := ⟨w.heap.size + 1 + 1 + 1, 0, none⟩) (by show w.heap.size ≤ w.heap.size + 1 + 1 + 1; omega) (.int .i64 d0))) (p := ⟨w.heap.size + 1 + 1 + 1, 1, none⟩) (by show w.heap.size ≤ w.heap.size + 1 + 1 + 1; omega) (.int .i64 d1))
  go_wp2
  refine bodyPost_ret (v := .tuple #[.agg #[.int .i64 a0, .int .i64 a1], .agg #[.int .i64 b0, .int .i64 b1], .agg #[.int .i64 c0, .int .i64 c1], .agg #[.int .i64 d0, .int .i64 d1]]) (by simp [results, Try.results31, go_sem, q00, q01, q10, q11, q20, q21, q30, q31]) rfl ⟨a0, a1, b0, b1, c0, c1, d0, d1, rfl, HBF.out⟩
end Go.Proofs.Ytbpeamjgddikjaa
