/- Draws of numbers, quakes and linkings: made by drwgen.py. -/
import Derived.Test.YthpagjkkccimiaaCur
namespace Go.Proofs.Ythpagjkkccimiaa
open Go.RowKit
set_option linter.unusedVariables false
set_option linter.unusedSimpArgs false

theorem Cur.alloc {w : World} {cb M : Nat} {K : Code} (h : Cur w cb K M) (o : Obj) : Cur (w.alloc o) cb K M := h.on (below_al (Below.refl _ _))
theorem grown_setNew {w a : World} {row : Option Nat} (h : w.grownBy a row) {p : Addr} (hp : w.heap.size ≤ p.block) (x : Value) : w.grownBy (a.setCell p x) row :=
  ⟨h.os, h.tape, h.output, by simpa [World.setCell] using h.size, fun g hg hne => (Below.heap_setCell a p x g (by omega)).trans (h.block g hg hne)⟩
theorem Cur.setCell {w : World} {cb M : Nat} {K : Code} (h : Cur w cb K M) {p : Addr} (hp : cb < p.block) (x : Value) : Cur (w.setCell p x) cb K M := by
  obtain ⟨⟨h0, h1, h2⟩, a, s, h3, h4⟩ := h
  refine ⟨⟨h0, fun hn => ?_, h2⟩, a, s, h3, (Below.heap_setCell w p x cb (by omega)).trans h4⟩
  obtain ⟨b, off, e, hb, hc⟩ := h1 hn
  exact ⟨b, off, e, hb, fun i j hi hj => (World.cell?_of_block (Below.heap_setCell w p x b (by omega))).trans (hc i j hi hj)⟩
theorem grown_set4 {w a : World} {row : Option Nat} {b : Nat} (h : w.grownBy a row) (hb : w.heap.size ≤ b) (v0 v1 v2 v3 : Value) : w.grownBy ((((a.setCell ⟨b, 0, none⟩ v0).setCell ⟨b, 1, none⟩ v1).setCell ⟨b, 2, none⟩ v2).setCell ⟨b, 3, none⟩ v3) row :=
  grown_setNew (grown_setNew (grown_setNew (grown_setNew h (p := ⟨b, 0, none⟩) hb v0) (p := ⟨b, 1, none⟩) hb v1) (p := ⟨b, 2, none⟩) hb v2) (p := ⟨b, 3, none⟩) hb v3
theorem Cur.set4 {w : World} {cb M b : Nat} {K : Code} (h : Cur w cb K M) (hb : cb < b) (v0 v1 v2 v3 : Value) : Cur ((((w.setCell ⟨b, 0, none⟩ v0).setCell ⟨b, 1, none⟩ v1).setCell ⟨b, 2, none⟩ v2).setCell ⟨b, 3, none⟩ v3) cb K M :=
  (((h.setCell (p := ⟨b, 0, none⟩) hb v0).setCell (p := ⟨b, 1, none⟩) hb v1).setCell (p := ⟨b, 2, none⟩) hb v2).setCell (p := ⟨b, 3, none⟩) hb v3
theorem blk_new_atC (X : World) (g : Nat) (t : TypeId) (cs : Array Value) (h : g = X.heap.size) : Blk (X.alloc (.cells cs t)) g t cs := by
  subst h; exact Blk.new X t cs
theorem blk_drawn {W w' : World} {cb M g : Nat} {K : Code} {t : TypeId} {cs : Array Value} (hd : Drawn W cb K M w') (hb : Blk W g t cs) (hne : cb < g) : Blk w' g t cs :=
  (hd.1.block g hb.lt (fun e => by injection e with e; omega)).trans hb
theorem spec_amongX (cb : Nat) (K : Code) (M : Nat) (l : List Int) (n g : Nat) (w : World) (hl : l.length = n) (h0 : 0 < n) (hn : n ≤ 1000) (cs : Array Value) (hcs : cs = (l.map (Value.int .i64)).toArray) (hb : Blk w g 3 cs) (hg : cb < g) (hM : M ≤ 1000000000000) (h : Cur w cb K M) :
    Calls Try.prog 100 #[.pointer (some ⟨cb, 0, none⟩), .slice (some ⟨g, 0, none⟩) n n] w fun e w' => ∃ x : Int, e = .returned (.int .i64 x) ∧ Drawn w cb K (M + 2) w' := by
  subst hl hcs
  refine (spec_among cb K M _ _ _ _ w h0 (by omega) (arr_lit hb) (fun b o e => by injection e with e; injection e with e; omega) hM h).mono ?_
  rintro e w' ⟨j, hj, rfl, hd⟩
  exact ⟨_, rfl, hd⟩

set_option maxHeartbeats 4000000 in
theorem spec_oneQuake (cb : Nat) (K : Code) (M : Nat) (w : World) (hM : M ≤ 900000000000) (h : Cur w cb K M) :
    Calls Try.prog 126 #[.pointer (some ⟨cb, 0, none⟩)] w fun e w' => ∃ a b c d : Int, e = .returned (.agg #[.int .i64 a, .int .i64 b, .int .i64 c, .int .i64 d]) ∧ Drawn w cb K (M + 20) w' := by
  go_enter Try.func126, Try.ntmps126
  have HG0 : w.grownBy w (some cb) := grown_refl _ _
  have HC0 : Cur w cb K (M + 0) := h
  have hcb := h.lt
  go_wp2_with fail
  refine (spec_amongX cb K (M + 0) [0, 100, 500, 3000, 60000, 61000] _ _ _ rfl (by decide) (by decide) _ rfl (blk_new_atC _ _ _ _ (by first | rfl | simp)) (by first | omega | (simp; omega)) (by omega) (by (repeat (first | with_reducible assumption | (with_reducible refine Cur.alloc ?_ _) | (with_reducible refine Cur.setCell ?_ (by (first | with_reducible assumption | omega | (simp; done) | (simp; omega))) _))))).mono ?_
  rintro e w1 ⟨a, rfl, hd⟩
  have HG1 : w.grownBy w1 (some cb) := World.grownBy.trans (by (repeat (first | with_reducible assumption | (with_reducible refine World.grownBy.trans ?_ (World.grownBy_alloc _ _ _)) | (with_reducible refine grown_setNew ?_ (by (first | with_reducible assumption | omega | (simp; done) | (simp; omega))) _) | with_reducible exact grown_refl _ _))) hd.1
  have HC1 : Cur w1 cb K (M + 2) := hd.2.more (by omega)
  have hz1 : w.heap.size ≤ w1.heap.size := HG1.size
  have hs1 : w.heap.size ≤ w1.heap.size := by have := hd.1.size; simp only [World.size_alloc, World.size_setCell] at this; omega
  have hcb1 := HC1.lt
  have HBr_1 : Blk w1 (w.heap.size) 60 #[.int .i64 0, .int .i64 0, .int .i64 0, .int .i64 0] := blk_drawn hd (by (repeat (first | with_reducible assumption | with_reducible exact Blk.new _ _ _ | with_reducible exact blk_new_atC _ _ _ _ (by first | rfl | simp) | (with_reducible refine Blk.alloc ?_ _)))) (by omega)
  clear hd
  go_wp2_with fail
  refine (spec_amongX cb K (M + 2) [10, 100, 110, 400] _ _ _ rfl (by decide) (by decide) _ rfl (blk_new_atC _ _ _ _ (by first | rfl | simp)) (by first | omega | (simp; omega)) (by omega) (by (repeat (first | with_reducible assumption | (with_reducible refine Cur.alloc ?_ _) | (with_reducible refine Cur.setCell ?_ (by (first | with_reducible assumption | omega | (simp; done) | (simp; omega))) _))))).mono ?_
  rintro e w2 ⟨b, rfl, hd⟩
  have HG2 : w.grownBy w2 (some cb) := World.grownBy.trans (by (repeat (first | with_reducible assumption | (with_reducible refine World.grownBy.trans ?_ (World.grownBy_alloc _ _ _)) | (with_reducible refine grown_setNew ?_ (by (first | with_reducible assumption | omega | (simp; done) | (simp; omega))) _) | with_reducible exact grown_refl _ _))) hd.1
  have HC2 : Cur w2 cb K (M + 4) := hd.2.more (by omega)
  have hz2 : w.heap.size ≤ w2.heap.size := HG2.size
  have hs2 : w1.heap.size ≤ w2.heap.size := by have := hd.1.size; simp only [World.size_alloc, World.size_setCell] at this; omega
  have hcb2 := HC2.lt
  have HBr_2 : Blk w2 (w.heap.size) 60 #[.int .i64 0, .int .i64 0, .int .i64 0, .int .i64 0] := blk_drawn hd (by (repeat (first | with_reducible assumption | with_reducible exact Blk.new _ _ _ | with_reducible exact blk_new_atC _ _ _ _ (by first | rfl | simp) | (with_reducible refine Blk.alloc ?_ _)))) (by omega)
  clear hd
  go_wp2_with fail
  refine (spec_amongX cb K (M + 4) [10, 50, 300] _ _ _ rfl (by decide) (by decide) _ rfl (blk_new_atC _ _ _ _ (by first | rfl | simp)) (by first | omega | (simp; omega)) (by omega) (by (repeat (first | with_reducible assumption | (with_reducible refine Cur.alloc ?_ _) | (with_reducible refine Cur.setCell ?_ (by (first | with_reducible assumption | omega | (simp; done) | (simp; omega))) _))))).mono ?_
  rintro e w3 ⟨c, rfl, hd⟩
  have HG3 : w.grownBy w3 (some cb) := World.grownBy.trans (by (repeat (first | with_reducible assumption | (with_reducible refine World.grownBy.trans ?_ (World.grownBy_alloc _ _ _)) | (with_reducible refine grown_setNew ?_ (by (first | with_reducible assumption | omega | (simp; done) | (simp; omega))) _) | with_reducible exact grown_refl _ _))) hd.1
  have HC3 : Cur w3 cb K (M + 6) := hd.2.more (by omega)
  have hz3 : w.heap.size ≤ w3.heap.size := HG3.size
  have hs3 : w2.heap.size ≤ w3.heap.size := by have := hd.1.size; simp only [World.size_alloc, World.size_setCell] at this; omega
  have hcb3 := HC3.lt
  have HBr_3 : Blk w3 (w.heap.size) 60 #[.int .i64 0, .int .i64 0, .int .i64 0, .int .i64 0] := blk_drawn hd (by (repeat (first | with_reducible assumption | with_reducible exact Blk.new _ _ _ | with_reducible exact blk_new_atC _ _ _ _ (by first | rfl | simp) | (with_reducible refine Blk.alloc ?_ _)))) (by omega)
  clear hd
  go_wp2_with fail
  refine (spec_amongX cb K (M + 6) [-5, 10, 21, 30, 35, 48, 62] _ _ _ rfl (by decide) (by decide) _ rfl (blk_new_atC _ _ _ _ (by first | rfl | simp)) (by first | omega | (simp; omega)) (by omega) (by (repeat (first | with_reducible assumption | (with_reducible refine Cur.alloc ?_ _) | (with_reducible refine Cur.setCell ?_ (by (first | with_reducible assumption | omega | (simp; done) | (simp; omega))) _))))).mono ?_
  rintro e w4 ⟨d, rfl, hd⟩
  have HG4 : w.grownBy w4 (some cb) := World.grownBy.trans (by (repeat (first | with_reducible assumption | (with_reducible refine World.grownBy.trans ?_ (World.grownBy_alloc _ _ _)) | (with_reducible refine grown_setNew ?_ (by (first | with_reducible assumption | omega | (simp; done) | (simp; omega))) _) | with_reducible exact grown_refl _ _))) hd.1
  have HC4 : Cur w4 cb K (M + 8) := hd.2.more (by omega)
  have hz4 : w.heap.size ≤ w4.heap.size := HG4.size
  have hs4 : w3.heap.size ≤ w4.heap.size := by have := hd.1.size; simp only [World.size_alloc, World.size_setCell] at this; omega
  have hcb4 := HC4.lt
  have HBr_4 : Blk w4 (w.heap.size) 60 #[.int .i64 0, .int .i64 0, .int .i64 0, .int .i64 0] := blk_drawn hd (by (repeat (first | with_reducible assumption | with_reducible exact Blk.new _ _ _ | with_reducible exact blk_new_atC _ _ _ _ (by first | rfl | simp) | (with_reducible refine Blk.alloc ?_ _)))) (by omega)
  clear hd
  go_wp2_with fail
  refine (spec_pick cb K (M + 8) 64 _ (by omega) (by omega) (by (repeat (first | with_reducible assumption | (with_reducible refine Cur.alloc ?_ _) | (with_reducible refine Cur.setCell ?_ (by (first | with_reducible assumption | omega | (simp; done) | (simp; omega))) _))))).mono ?_
  rintro e w5 ⟨x, rfl, xa, xb, xc, hd⟩
  have HG5 : w.grownBy w5 (some cb) := World.grownBy.trans (by (repeat (first | with_reducible assumption | (with_reducible refine World.grownBy.trans ?_ (World.grownBy_alloc _ _ _)) | (with_reducible refine grown_setNew ?_ (by (first | with_reducible assumption | omega | (simp; done) | (simp; omega))) _) | with_reducible exact grown_refl _ _))) hd.1
  have HC5 : Cur w5 cb K (M + 10) := hd.2.more (by omega)
  have hz5 : w.heap.size ≤ w5.heap.size := HG5.size
  have hs5 : w4.heap.size ≤ w5.heap.size := by have := hd.1.size; simp only [World.size_alloc, World.size_setCell] at this; omega
  have hcb5 := HC5.lt
  have HBr_5 : Blk w5 (w.heap.size) 60 #[.int .i64 0, .int .i64 0, .int .i64 0, .int .i64 0] := blk_drawn hd (by (repeat (first | with_reducible assumption | with_reducible exact Blk.new _ _ _ | with_reducible exact blk_new_atC _ _ _ _ (by first | rfl | simp) | (with_reducible refine Blk.alloc ?_ _)))) (by omega)
  have HBq_5 : Blk w5 (w4.heap.size) 60 #[.int .i64 a, .int .i64 b, .int .i64 c, .int .i64 d] := blk_drawn hd (by (repeat (first | with_reducible assumption | with_reducible exact Blk.new _ _ _ | with_reducible exact blk_new_atC _ _ _ _ (by first | rfl | simp) | (with_reducible refine Blk.alloc ?_ _)))) (by omega)
  clear hd
  by_cases h0 : x = 0
  · subst h0
    go_wp2_with fail
    refine (spec_amongX cb K (M + 10) [-21, -20, 95, 96] _ _ _ rfl (by decide) (by decide) _ rfl (blk_new_atC _ _ _ _ (by first | rfl | simp)) (by first | omega | (simp; omega)) (by omega) (by (repeat (first | with_reducible assumption | (with_reducible refine Cur.alloc ?_ _) | (with_reducible refine Cur.setCell ?_ (by (first | with_reducible assumption | omega | (simp; done) | (simp; omega))) _))))).mono ?_
    rintro e w6 ⟨y, rfl, hd⟩
    have HG6 : w.grownBy w6 (some cb) := World.grownBy.trans (by (repeat (first | with_reducible assumption | (with_reducible refine World.grownBy.trans ?_ (World.grownBy_alloc _ _ _)) | (with_reducible refine grown_setNew ?_ (by (first | with_reducible assumption | omega | (simp; done) | (simp; omega))) _) | with_reducible exact grown_refl _ _))) hd.1
    have HC6 : Cur w6 cb K (M + 12) := hd.2.more (by omega)
    have hz6 : w.heap.size ≤ w6.heap.size := HG6.size
    have hs6 : w5.heap.size ≤ w6.heap.size := by have := hd.1.size; simp only [World.size_alloc, World.size_setCell] at this; omega
    have hcb6 := HC6.lt
    have HBr_6 : Blk w6 (w.heap.size) 60 #[.int .i64 0, .int .i64 0, .int .i64 0, .int .i64 0] := blk_drawn hd (by (repeat (first | with_reducible assumption | with_reducible exact Blk.new _ _ _ | with_reducible exact blk_new_atC _ _ _ _ (by first | rfl | simp) | (with_reducible refine Blk.alloc ?_ _)))) (by omega)
    have HBq_6 : Blk w6 (w4.heap.size) 60 #[.int .i64 a, .int .i64 b, .int .i64 c, .int .i64 d] := blk_drawn hd (by (repeat (first | with_reducible assumption | with_reducible exact Blk.new _ _ _ | with_reducible exact blk_new_atC _ _ _ _ (by first | rfl | simp) | (with_reducible refine Blk.alloc ?_ _)))) (by omega)
    clear hd
    have cr0 := HBr_6.cell 0; have fr0 := HBr_6.frozen 0
    have cr1 := HBr_6.cell 1; have fr1 := HBr_6.frozen 1
    have cr2 := HBr_6.cell 2; have fr2 := HBr_6.frozen 2
    have cr3 := HBr_6.cell 3; have fr3 := HBr_6.frozen 3
    have cq0 := HBq_6.cell 0; have fq0 := HBq_6.frozen 0
    have cq1 := HBq_6.cell 1; have fq1 := HBq_6.frozen 1
    have cq2 := HBq_6.cell 2; have fq2 := HBq_6.frozen 2
    have cq3 := HBq_6.cell 3; have fq3 := HBq_6.frozen 3
    simp at cr0 cr1 cr2 cr3 cq0 cq1 cq2 cq3
    have hneq : ¬ w4.heap.size = w.heap.size := by have := HBr_4.lt; omega
    have hnfq : ¬ w.heap.size = w4.heap.size := by omega
    go_wp2
    refine bodyPost_ret (v := .agg #[.int .i64 a, .int .i64 b, .int .i64 c, .int .i64 y]) (by simp [results, Try.results126, go_sem, cr0, cr1, cr2, cr3, hneq, hnfq]) rfl ⟨_, _, _, _, rfl, grown_set4 (grown_setNew HG6 (p := ⟨w4.heap.size, 3, none⟩) (by omega) _) (Nat.le_refl _) _ _ _ _, Cur.more (M := M + 12) (Cur.set4 (HC6.setCell (p := ⟨w4.heap.size, 3, none⟩) (by show cb < w4.heap.size; omega) _) hcb _ _ _ _) (by omega)⟩
  · have e0 : (x == 0) = false := by simp [h0]
    by_cases h1 : x = 1
    · subst h1
      go_wp2_with fail
      refine (spec_amongX cb K (M + 10) [-1, 1000] _ _ _ rfl (by decide) (by decide) _ rfl (blk_new_atC _ _ _ _ (by first | rfl | simp)) (by first | omega | (simp; omega)) (by omega) (by (repeat (first | with_reducible assumption | (with_reducible refine Cur.alloc ?_ _) | (with_reducible refine Cur.setCell ?_ (by (first | with_reducible assumption | omega | (simp; done) | (simp; omega))) _))))).mono ?_
      rintro e w6 ⟨y, rfl, hd⟩
      have HG6 : w.grownBy w6 (some cb) := World.grownBy.trans (by (repeat (first | with_reducible assumption | (with_reducible refine World.grownBy.trans ?_ (World.grownBy_alloc _ _ _)) | (with_reducible refine grown_setNew ?_ (by (first | with_reducible assumption | omega | (simp; done) | (simp; omega))) _) | with_reducible exact grown_refl _ _))) hd.1
      have HC6 : Cur w6 cb K (M + 12) := hd.2.more (by omega)
      have hz6 : w.heap.size ≤ w6.heap.size := HG6.size
      have hs6 : w5.heap.size ≤ w6.heap.size := by have := hd.1.size; simp only [World.size_alloc, World.size_setCell] at this; omega
      have hcb6 := HC6.lt
      have HBr_6 : Blk w6 (w.heap.size) 60 #[.int .i64 0, .int .i64 0, .int .i64 0, .int .i64 0] := blk_drawn hd (by (repeat (first | with_reducible assumption | with_reducible exact Blk.new _ _ _ | with_reducible exact blk_new_atC _ _ _ _ (by first | rfl | simp) | (with_reducible refine Blk.alloc ?_ _)))) (by omega)
      have HBq_6 : Blk w6 (w4.heap.size) 60 #[.int .i64 a, .int .i64 b, .int .i64 c, .int .i64 d] := blk_drawn hd (by (repeat (first | with_reducible assumption | with_reducible exact Blk.new _ _ _ | with_reducible exact blk_new_atC _ _ _ _ (by first | rfl | simp) | (with_reducible refine Blk.alloc ?_ _)))) (by omega)
      clear hd
      have cr0 := HBr_6.cell 0; have fr0 := HBr_6.frozen 0
      have cr1 := HBr_6.cell 1; have fr1 := HBr_6.frozen 1
      have cr2 := HBr_6.cell 2; have fr2 := HBr_6.frozen 2
      have cr3 := HBr_6.cell 3; have fr3 := HBr_6.frozen 3
      have cq0 := HBq_6.cell 0; have fq0 := HBq_6.frozen 0
      have cq1 := HBq_6.cell 1; have fq1 := HBq_6.frozen 1
      have cq2 := HBq_6.cell 2; have fq2 := HBq_6.frozen 2
      have cq3 := HBq_6.cell 3; have fq3 := HBq_6.frozen 3
      simp at cr0 cr1 cr2 cr3 cq0 cq1 cq2 cq3
      have hneq : ¬ w4.heap.size = w.heap.size := by have := HBr_4.lt; omega
      have hnfq : ¬ w.heap.size = w4.heap.size := by omega
      go_wp2
      refine bodyPost_ret (v := .agg #[.int .i64 a, .int .i64 y, .int .i64 c, .int .i64 d]) (by simp [results, Try.results126, go_sem, cr0, cr1, cr2, cr3, hneq, hnfq]) rfl ⟨_, _, _, _, rfl, grown_set4 (grown_setNew HG6 (p := ⟨w4.heap.size, 1, none⟩) (by omega) _) (Nat.le_refl _) _ _ _ _, Cur.more (M := M + 12) (Cur.set4 (HC6.setCell (p := ⟨w4.heap.size, 1, none⟩) (by show cb < w4.heap.size; omega) _) hcb _ _ _ _) (by omega)⟩
    · have e1 : (x == 1) = false := by simp [h1]
      have cr0 := HBr_5.cell 0; have fr0 := HBr_5.frozen 0
      have cr1 := HBr_5.cell 1; have fr1 := HBr_5.frozen 1
      have cr2 := HBr_5.cell 2; have fr2 := HBr_5.frozen 2
      have cr3 := HBr_5.cell 3; have fr3 := HBr_5.frozen 3
      have cq0 := HBq_5.cell 0; have fq0 := HBq_5.frozen 0
      have cq1 := HBq_5.cell 1; have fq1 := HBq_5.frozen 1
      have cq2 := HBq_5.cell 2; have fq2 := HBq_5.frozen 2
      have cq3 := HBq_5.cell 3; have fq3 := HBq_5.frozen 3
      simp at cr0 cr1 cr2 cr3 cq0 cq1 cq2 cq3
      have hneq : ¬ w4.heap.size = w.heap.size := by have := HBr_4.lt; omega
      have hnfq : ¬ w.heap.size = w4.heap.size := by omega
      go_wp2
      refine bodyPost_ret (v := .agg #[.int .i64 a, .int .i64 b, .int .i64 c, .int .i64 d]) (by simp [results, Try.results126, go_sem, cr0, cr1, cr2, cr3, hneq, hnfq]) rfl ⟨_, _, _, _, rfl, grown_set4 (HG5) (Nat.le_refl _) _ _ _ _, Cur.more (M := M + 10) (Cur.set4 (HC5) hcb _ _ _ _) (by omega)⟩
end Go.Proofs.Ythpagjkkccimiaa
