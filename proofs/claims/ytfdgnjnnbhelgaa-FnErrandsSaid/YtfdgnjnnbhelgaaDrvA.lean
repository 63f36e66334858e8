/- Draws of an errand: made by errgen.py. -/
import Derived.Test.YtfdgnjnnbhelgaaDrwA
namespace Go.Proofs.Ytfdgnjnnbhelgaa
open Go.RowKit
set_option linter.unusedVariables false
set_option linter.unusedSimpArgs false

set_option maxHeartbeats 4000000 in
theorem spec_errandD (cb : Nat) (K : Code) (M : Nat) (z : Int) (w : World) (hM : M ≤ 900000000000) (h : Cur w cb K M) :
    Calls Try.prog 112 #[.pointer (some ⟨cb, 0, none⟩), .int .i64 z] w fun e w' => ∃ a b c d : Int, e = .returned (.agg #[.int .i64 a, .int .i64 b, .int .i64 c, .int .i64 d]) ∧ Drawn w cb K (M + 20) w' := by
  go_enter Try.func112, Try.ntmps112
  have HG0 : w.grownBy w (some cb) := grown_refl _ _
  have HC0 : Cur w cb K (M + 0) := h
  have hcb := h.lt
  go_wp2_with fail
  refine (spec_amongX cb K (M + 0) [1, 2, 3, 3, 12] _ _ _ rfl (by decide) (by decide) _ rfl (blk_new_atC _ _ _ _ (by first | rfl | simp)) (by first | omega | (simp; omega)) (by omega) (by (repeat (first | with_reducible assumption | (with_reducible refine Cur.alloc ?_ _) | (with_reducible refine Cur.setCell ?_ (by (first | with_reducible assumption | omega | (simp; done) | (simp; omega))) _))))).mono ?_
  rintro e w1 ⟨a, rfl, hd⟩
  have HG1 : w.grownBy w1 (some cb) := World.grownBy.trans (by (repeat (first | with_reducible assumption | (with_reducible refine World.grownBy.trans ?_ (World.grownBy_alloc _ _ _)) | (with_reducible refine grown_setNew ?_ (by (first | with_reducible assumption | omega | (simp; done) | (simp; omega))) _) | with_reducible exact grown_refl _ _))) hd.1
  have HC1 : Cur w1 cb K (M + 2) := hd.2.more (by omega)
  have hz1 : w.heap.size ≤ w1.heap.size := HG1.size
  have hs1 : w.heap.size ≤ w1.heap.size := by have := hd.1.size; (try simp only [World.size_alloc, World.size_setCell] at this); omega
  have hcb1 := HC1.lt
  have HBr_1 : Blk w1 (w.heap.size) 66 #[.int .i64 0, .int .i64 0, .int .i64 0, .int .i64 0] := blk_drawn hd (by (repeat (first | with_reducible assumption | with_reducible exact Blk.new _ _ _ | with_reducible exact blk_new_atC _ _ _ _ (by first | rfl | simp) | (with_reducible refine Blk.alloc ?_ _)))) (by omega)
  clear hd
  go_wp2_with fail
  refine (spec_pick cb K (M + 2) 5 _ (by omega) (by omega) (by (repeat (first | with_reducible assumption | (with_reducible refine Cur.alloc ?_ _) | (with_reducible refine Cur.setCell ?_ (by (first | with_reducible assumption | omega | (simp; done) | (simp; omega))) _))))).mono ?_
  rintro e w2 ⟨r, rfl, ra, rb, rc, hd⟩
  have HG2 : w.grownBy w2 (some cb) := World.grownBy.trans (by (repeat (first | with_reducible assumption | (with_reducible refine World.grownBy.trans ?_ (World.grownBy_alloc _ _ _)) | (with_reducible refine grown_setNew ?_ (by (first | with_reducible assumption | omega | (simp; done) | (simp; omega))) _) | with_reducible exact grown_refl _ _))) hd.1
  have HC2 : Cur w2 cb K (M + 4) := hd.2.more (by omega)
  have hz2 : w.heap.size ≤ w2.heap.size := HG2.size
  have hs2 : w1.heap.size ≤ w2.heap.size := by have := hd.1.size; (try simp only [World.size_alloc, World.size_setCell] at this); omega
  have hcb2 := HC2.lt
  have HBr_2 : Blk w2 (w.heap.size) 66 #[.int .i64 0, .int .i64 0, .int .i64 0, .int .i64 0] := blk_drawn hd (by (repeat (first | with_reducible assumption | with_reducible exact Blk.new _ _ _ | with_reducible exact blk_new_atC _ _ _ _ (by first | rfl | simp) | (with_reducible refine Blk.alloc ?_ _)))) (by omega)
  clear hd
  have r5 := rb (by omega)
  go_wp2_with fail
  refine (spec_amongX cb K (M + 4) [1, 4, 6, 10, 15, 200] _ _ _ rfl (by decide) (by decide) _ rfl (blk_new_atC _ _ _ _ (by first | rfl | simp)) (by first | omega | (simp; omega)) (by omega) (by (repeat (first | with_reducible assumption | (with_reducible refine Cur.alloc ?_ _) | (with_reducible refine Cur.setCell ?_ (by (first | with_reducible assumption | omega | (simp; done) | (simp; omega))) _))))).mono ?_
  rintro e w3 ⟨b, rfl, hd⟩
  have HG3 : w.grownBy w3 (some cb) := World.grownBy.trans (by (repeat (first | with_reducible assumption | (with_reducible refine World.grownBy.trans ?_ (World.grownBy_alloc _ _ _)) | (with_reducible refine grown_setNew ?_ (by (first | with_reducible assumption | omega | (simp; done) | (simp; omega))) _) | with_reducible exact grown_refl _ _))) hd.1
  have HC3 : Cur w3 cb K (M + 6) := hd.2.more (by omega)
  have hz3 : w.heap.size ≤ w3.heap.size := HG3.size
  have hs3 : w2.heap.size ≤ w3.heap.size := by have := hd.1.size; (try simp only [World.size_alloc, World.size_setCell] at this); omega
  have hcb3 := HC3.lt
  have HBr_3 : Blk w3 (w.heap.size) 66 #[.int .i64 0, .int .i64 0, .int .i64 0, .int .i64 0] := blk_drawn hd (by (repeat (first | with_reducible assumption | with_reducible exact Blk.new _ _ _ | with_reducible exact blk_new_atC _ _ _ _ (by first | rfl | simp) | (with_reducible refine Blk.alloc ?_ _)))) (by omega)
  clear hd
  go_wp2_with fail
  refine (spec_pick cb K (M + 6) 80 _ (by omega) (by omega) (by (repeat (first | with_reducible assumption | (with_reducible refine Cur.alloc ?_ _) | (with_reducible refine Cur.setCell ?_ (by (first | with_reducible assumption | omega | (simp; done) | (simp; omega))) _))))).mono ?_
  rintro e w4 ⟨x, rfl, xa, xb, xc, hd⟩
  have HG4 : w.grownBy w4 (some cb) := World.grownBy.trans (by (repeat (first | with_reducible assumption | (with_reducible refine World.grownBy.trans ?_ (World.grownBy_alloc _ _ _)) | (with_reducible refine grown_setNew ?_ (by (first | with_reducible assumption | omega | (simp; done) | (simp; omega))) _) | with_reducible exact grown_refl _ _))) hd.1
  have HC4 : Cur w4 cb K (M + 8) := hd.2.more (by omega)
  have hz4 : w.heap.size ≤ w4.heap.size := HG4.size
  have hs4 : w3.heap.size ≤ w4.heap.size := by have := hd.1.size; (try simp only [World.size_alloc, World.size_setCell] at this); omega
  have hcb4 := HC4.lt
  have HBr_4 : Blk w4 (w.heap.size) 66 #[.int .i64 0, .int .i64 0, .int .i64 0, .int .i64 0] := blk_drawn hd (by (repeat (first | with_reducible assumption | with_reducible exact Blk.new _ _ _ | with_reducible exact blk_new_atC _ _ _ _ (by first | rfl | simp) | (with_reducible refine Blk.alloc ?_ _)))) (by omega)
  have HBq_4 : Blk w4 (w3.heap.size) 66 #[.int .i64 z, .int .i64 a, .int .i64 (1 + r), .int .i64 b] := blk_drawn hd (by (repeat (first | with_reducible assumption | with_reducible exact Blk.new _ _ _ | with_reducible exact blk_new_atC _ _ _ _ (by first | rfl | simp) | (with_reducible refine Blk.alloc ?_ _)))) (by omega)
  clear hd
  by_cases h0 : x = 0
  · subst h0
    go_wp2_with fail
    refine (spec_amongX cb K (M + 8) [0, 99, 100] _ _ _ rfl (by decide) (by decide) _ rfl (blk_new_atC _ _ _ _ (by first | rfl | simp)) (by first | omega | (simp; omega)) (by omega) (by (repeat (first | with_reducible assumption | (with_reducible refine Cur.alloc ?_ _) | (with_reducible refine Cur.setCell ?_ (by (first | with_reducible assumption | omega | (simp; done) | (simp; omega))) _))))).mono ?_
    rintro e w5 ⟨y, rfl, hd⟩
    have HG5 : w.grownBy w5 (some cb) := World.grownBy.trans (by (repeat (first | with_reducible assumption | (with_reducible refine World.grownBy.trans ?_ (World.grownBy_alloc _ _ _)) | (with_reducible refine grown_setNew ?_ (by (first | with_reducible assumption | omega | (simp; done) | (simp; omega))) _) | with_reducible exact grown_refl _ _))) hd.1
    have HC5 : Cur w5 cb K (M + 10) := hd.2.more (by omega)
    have hz5 : w.heap.size ≤ w5.heap.size := HG5.size
    have hs5 : w4.heap.size ≤ w5.heap.size := by have := hd.1.size; (try simp only [World.size_alloc, World.size_setCell] at this); omega
    have hcb5 := HC5.lt
    have HBr_5 : Blk w5 (w.heap.size) 66 #[.int .i64 0, .int .i64 0, .int .i64 0, .int .i64 0] := blk_drawn hd (by (repeat (first | with_reducible assumption | with_reducible exact Blk.new _ _ _ | with_reducible exact blk_new_atC _ _ _ _ (by first | rfl | simp) | (with_reducible refine Blk.alloc ?_ _)))) (by omega)
    have HBq_5 : Blk w5 (w3.heap.size) 66 #[.int .i64 z, .int .i64 a, .int .i64 (1 + r), .int .i64 b] := blk_drawn hd (by (repeat (first | with_reducible assumption | with_reducible exact Blk.new _ _ _ | with_reducible exact blk_new_atC _ _ _ _ (by first | rfl | simp) | (with_reducible refine Blk.alloc ?_ _)))) (by omega)
    clear hd
    have cr0 := HBr_5.cell 0; have fr0 := HBr_5.frozen 0
    have cr1 := HBr_5.cell 1; have fr1 := HBr_5.frozen 1
    have cr2 := HBr_5.cell 2; have fr2 := HBr_5.frozen 2
    have cr3 := HBr_5.cell 3; have fr3 := HBr_5.frozen 3
    have cq0 := HBq_5.cell 0; have fq0 := HBq_5.frozen 0
    have cq1 := HBq_5.cell 1; have fq1 := HBq_5.frozen 1
    have cq2 := HBq_5.cell 2; have fq2 := HBq_5.frozen 2
    have cq3 := HBq_5.cell 3; have fq3 := HBq_5.frozen 3
    simp at cr0 cr1 cr2 cr3 cq0 cq1 cq2 cq3
    have hneq : ¬ w3.heap.size = w.heap.size := by have := HBr_3.lt; omega
    have hnfq : ¬ w.heap.size = w3.heap.size := by omega
    go_wp2
    refine bodyPost_ret (v := .agg #[.int .i64 y, .int .i64 a, .int .i64 (1 + r), .int .i64 b]) (by simp [results, Try.results112, go_sem, cr0, cr1, cr2, cr3, hneq, hnfq]) rfl ⟨_, _, _, _, rfl, grown_set4 (grown_setNew HG5 (p := ⟨w3.heap.size, 0, none⟩) (by omega) _) (Nat.le_refl _) _ _ _ _, Cur.more (M := M + 10) (Cur.set4 (HC5.setCell (p := ⟨w3.heap.size, 0, none⟩) (by show cb < w3.heap.size; omega) _) hcb _ _ _ _) (by omega)⟩
  · have e0 : (x == 0) = false := by simp [h0]
    by_cases h1 : x = 1
    · subst h1
      go_wp2_with fail
      refine (spec_amongX cb K (M + 8) [0, 13] _ _ _ rfl (by decide) (by decide) _ rfl (blk_new_atC _ _ _ _ (by first | rfl | simp)) (by first | omega | (simp; omega)) (by omega) (by (repeat (first | with_reducible assumption | (with_reducible refine Cur.alloc ?_ _) | (with_reducible refine Cur.setCell ?_ (by (first | with_reducible assumption | omega | (simp; done) | (simp; omega))) _))))).mono ?_
      rintro e w5 ⟨y, rfl, hd⟩
      have HG5 : w.grownBy w5 (some cb) := World.grownBy.trans (by (repeat (first | with_reducible assumption | (with_reducible refine World.grownBy.trans ?_ (World.grownBy_alloc _ _ _)) | (with_reducible refine grown_setNew ?_ (by (first | with_reducible assumption | omega | (simp; done) | (simp; omega))) _) | with_reducible exact grown_refl _ _))) hd.1
      have HC5 : Cur w5 cb K (M + 10) := hd.2.more (by omega)
      have hz5 : w.heap.size ≤ w5.heap.size := HG5.size
      have hs5 : w4.heap.size ≤ w5.heap.size := by have := hd.1.size; (try simp only [World.size_alloc, World.size_setCell] at this); omega
      have hcb5 := HC5.lt
      have HBr_5 : Blk w5 (w.heap.size) 66 #[.int .i64 0, .int .i64 0, .int .i64 0, .int .i64 0] := blk_drawn hd (by (repeat (first | with_reducible assumption | with_reducible exact Blk.new _ _ _ | with_reducible exact blk_new_atC _ _ _ _ (by first | rfl | simp) | (with_reducible refine Blk.alloc ?_ _)))) (by omega)
      have HBq_5 : Blk w5 (w3.heap.size) 66 #[.int .i64 z, .int .i64 a, .int .i64 (1 + r), .int .i64 b] := blk_drawn hd (by (repeat (first | with_reducible assumption | with_reducible exact Blk.new _ _ _ | with_reducible exact blk_new_atC _ _ _ _ (by first | rfl | simp) | (with_reducible refine Blk.alloc ?_ _)))) (by omega)
      clear hd
      have cr0 := HBr_5.cell 0; have fr0 := HBr_5.frozen 0
      have cr1 := HBr_5.cell 1; have fr1 := HBr_5.frozen 1
      have cr2 := HBr_5.cell 2; have fr2 := HBr_5.frozen 2
      have cr3 := HBr_5.cell 3; have fr3 := HBr_5.frozen 3
      have cq0 := HBq_5.cell 0; have fq0 := HBq_5.frozen 0
      have cq1 := HBq_5.cell 1; have fq1 := HBq_5.frozen 1
      have cq2 := HBq_5.cell 2; have fq2 := HBq_5.frozen 2
      have cq3 := HBq_5.cell 3; have fq3 := HBq_5.frozen 3
      simp at cr0 cr1 cr2 cr3 cq0 cq1 cq2 cq3
      have hneq : ¬ w3.heap.size = w.heap.size := by have := HBr_3.lt; omega
      have hnfq : ¬ w.heap.size = w3.heap.size := by omega
      go_wp2
      refine bodyPost_ret (v := .agg #[.int .i64 z, .int .i64 y, .int .i64 (1 + r), .int .i64 b]) (by simp [results, Try.results112, go_sem, cr0, cr1, cr2, cr3, hneq, hnfq]) rfl ⟨_, _, _, _, rfl, grown_set4 (grown_setNew HG5 (p := ⟨w3.heap.size, 1, none⟩) (by omega) _) (Nat.le_refl _) _ _ _ _, Cur.more (M := M + 10) (Cur.set4 (HC5.setCell (p := ⟨w3.heap.size, 1, none⟩) (by show cb < w3.heap.size; omega) _) hcb _ _ _ _) (by omega)⟩
    · have e1 : (x == 1) = false := by simp [h1]
      by_cases h2 : x = 2
      · subst h2
        go_wp2_with fail
        refine (spec_amongX cb K (M + 8) [0, 6] _ _ _ rfl (by decide) (by decide) _ rfl (blk_new_atC _ _ _ _ (by first | rfl | simp)) (by first | omega | (simp; omega)) (by omega) (by (repeat (first | with_reducible assumption | (with_reducible refine Cur.alloc ?_ _) | (with_reducible refine Cur.setCell ?_ (by (first | with_reducible assumption | omega | (simp; done) | (simp; omega))) _))))).mono ?_
        rintro e w5 ⟨y, rfl, hd⟩
        have HG5 : w.grownBy w5 (some cb) := World.grownBy.trans (by (repeat (first | with_reducible assumption | (with_reducible refine World.grownBy.trans ?_ (World.grownBy_alloc _ _ _)) | (with_reducible refine grown_setNew ?_ (by (first | with_reducible assumption | omega | (simp; done) | (simp; omega))) _) | with_reducible exact grown_refl _ _))) hd.1
        have HC5 : Cur w5 cb K (M + 10) := hd.2.more (by omega)
        have hz5 : w.heap.size ≤ w5.heap.size := HG5.size
        have hs5 : w4.heap.size ≤ w5.heap.size := by have := hd.1.size; (try simp only [World.size_alloc, World.size_setCell] at this); omega
        have hcb5 := HC5.lt
        have HBr_5 : Blk w5 (w.heap.size) 66 #[.int .i64 0, .int .i64 0, .int .i64 0, .int .i64 0] := blk_drawn hd (by (repeat (first | with_reducible assumption | with_reducible exact Blk.new _ _ _ | with_reducible exact blk_new_atC _ _ _ _ (by first | rfl | simp) | (with_reducible refine Blk.alloc ?_ _)))) (by omega)
        have HBq_5 : Blk w5 (w3.heap.size) 66 #[.int .i64 z, .int .i64 a, .int .i64 (1 + r), .int .i64 b] := blk_drawn hd (by (repeat (first | with_reducible assumption | with_reducible exact Blk.new _ _ _ | with_reducible exact blk_new_atC _ _ _ _ (by first | rfl | simp) | (with_reducible refine Blk.alloc ?_ _)))) (by omega)
        clear hd
        have cr0 := HBr_5.cell 0; have fr0 := HBr_5.frozen 0
        have cr1 := HBr_5.cell 1; have fr1 := HBr_5.frozen 1
        have cr2 := HBr_5.cell 2; have fr2 := HBr_5.frozen 2
        have cr3 := HBr_5.cell 3; have fr3 := HBr_5.frozen 3
        have cq0 := HBq_5.cell 0; have fq0 := HBq_5.frozen 0
        have cq1 := HBq_5.cell 1; have fq1 := HBq_5.frozen 1
        have cq2 := HBq_5.cell 2; have fq2 := HBq_5.frozen 2
        have cq3 := HBq_5.cell 3; have fq3 := HBq_5.frozen 3
        simp at cr0 cr1 cr2 cr3 cq0 cq1 cq2 cq3
        have hneq : ¬ w3.heap.size = w.heap.size := by have := HBr_3.lt; omega
        have hnfq : ¬ w.heap.size = w3.heap.size := by omega
        go_wp2
        refine bodyPost_ret (v := .agg #[.int .i64 z, .int .i64 a, .int .i64 y, .int .i64 b]) (by simp [results, Try.results112, go_sem, cr0, cr1, cr2, cr3, hneq, hnfq]) rfl ⟨_, _, _, _, rfl, grown_set4 (grown_setNew HG5 (p := ⟨w3.heap.size, 2, none⟩) (by omega) _) (Nat.le_refl _) _ _ _ _, Cur.more (M := M + 10) (Cur.set4 (HC5.setCell (p := ⟨w3.heap.size, 2, none⟩) (by show cb < w3.heap.size; omega) _) hcb _ _ _ _) (by omega)⟩
      · have e2 : (x == 2) = false := by simp [h2]
        by_cases h3 : x = 3
        · subst h3
          go_wp2_with fail
          refine (spec_amongX cb K (M + 8) [0, 201] _ _ _ rfl (by decide) (by decide) _ rfl (blk_new_atC _ _ _ _ (by first | rfl | simp)) (by first | omega | (simp; omega)) (by omega) (by (repeat (first | with_reducible assumption | (with_reducible refine Cur.alloc ?_ _) | (with_reducible refine Cur.setCell ?_ (by (first | with_reducible assumption | omega | (simp; done) | (simp; omega))) _))))).mono ?_
          rintro e w5 ⟨y, rfl, hd⟩
          have HG5 : w.grownBy w5 (some cb) := World.grownBy.trans (by (repeat (first | with_reducible assumption | (with_reducible refine World.grownBy.trans ?_ (World.grownBy_alloc _ _ _)) | (with_reducible refine grown_setNew ?_ (by (first | with_reducible assumption | omega | (simp; done) | (simp; omega))) _) | with_reducible exact grown_refl _ _))) hd.1
          have HC5 : Cur w5 cb K (M + 10) := hd.2.more (by omega)
          have hz5 : w.heap.size ≤ w5.heap.size := HG5.size
          have hs5 : w4.heap.size ≤ w5.heap.size := by have := hd.1.size; (try simp only [World.size_alloc, World.size_setCell] at this); omega
          have hcb5 := HC5.lt
          have HBr_5 : Blk w5 (w.heap.size) 66 #[.int .i64 0, .int .i64 0, .int .i64 0, .int .i64 0] := blk_drawn hd (by (repeat (first | with_reducible assumption | with_reducible exact Blk.new _ _ _ | with_reducible exact blk_new_atC _ _ _ _ (by first | rfl | simp) | (with_reducible refine Blk.alloc ?_ _)))) (by omega)
          have HBq_5 : Blk w5 (w3.heap.size) 66 #[.int .i64 z, .int .i64 a, .int .i64 (1 + r), .int .i64 b] := blk_drawn hd (by (repeat (first | with_reducible assumption | with_reducible exact Blk.new _ _ _ | with_reducible exact blk_new_atC _ _ _ _ (by first | rfl | simp) | (with_reducible refine Blk.alloc ?_ _)))) (by omega)
          clear hd
          have cr0 := HBr_5.cell 0; have fr0 := HBr_5.frozen 0
          have cr1 := HBr_5.cell 1; have fr1 := HBr_5.frozen 1
          have cr2 := HBr_5.cell 2; have fr2 := HBr_5.frozen 2
          have cr3 := HBr_5.cell 3; have fr3 := HBr_5.frozen 3
          have cq0 := HBq_5.cell 0; have fq0 := HBq_5.frozen 0
          have cq1 := HBq_5.cell 1; have fq1 := HBq_5.frozen 1
          have cq2 := HBq_5.cell 2; have fq2 := HBq_5.frozen 2
          have cq3 := HBq_5.cell 3; have fq3 := HBq_5.frozen 3
          simp at cr0 cr1 cr2 cr3 cq0 cq1 cq2 cq3
          have hneq : ¬ w3.heap.size = w.heap.size := by have := HBr_3.lt; omega
          have hnfq : ¬ w.heap.size = w3.heap.size := by omega
          go_wp2
          refine bodyPost_ret (v := .agg #[.int .i64 z, .int .i64 a, .int .i64 (1 + r), .int .i64 y]) (by simp [results, Try.results112, go_sem, cr0, cr1, cr2, cr3, hneq, hnfq]) rfl ⟨_, _, _, _, rfl, grown_set4 (grown_setNew HG5 (p := ⟨w3.heap.size, 3, none⟩) (by omega) _) (Nat.le_refl _) _ _ _ _, Cur.more (M := M + 10) (Cur.set4 (HC5.setCell (p := ⟨w3.heap.size, 3, none⟩) (by show cb < w3.heap.size; omega) _) hcb _ _ _ _) (by omega)⟩
        · have e3 : (x == 3) = false := by simp [h3]
          have cr0 := HBr_4.cell 0; have fr0 := HBr_4.frozen 0
          have cr1 := HBr_4.cell 1; have fr1 := HBr_4.frozen 1
          have cr2 := HBr_4.cell 2; have fr2 := HBr_4.frozen 2
          have cr3 := HBr_4.cell 3; have fr3 := HBr_4.frozen 3
          have cq0 := HBq_4.cell 0; have fq0 := HBq_4.frozen 0
          have cq1 := HBq_4.cell 1; have fq1 := HBq_4.frozen 1
          have cq2 := HBq_4.cell 2; have fq2 := HBq_4.frozen 2
          have cq3 := HBq_4.cell 3; have fq3 := HBq_4.frozen 3
          simp at cr0 cr1 cr2 cr3 cq0 cq1 cq2 cq3
          have hneq : ¬ w3.heap.size = w.heap.size := by have := HBr_3.lt; omega
          have hnfq : ¬ w.heap.size = w3.heap.size := by omega
          go_wp2
          refine bodyPost_ret (v := .agg #[.int .i64 z, .int .i64 a, .int .i64 (1 + r), .int .i64 b]) (by simp [results, Try.results112, go_sem, cr0, cr1, cr2, cr3, hneq, hnfq]) rfl ⟨_, _, _, _, rfl, grown_set4 (HG4) (Nat.le_refl _) _ _ _ _, Cur.more (M := M + 8) (Cur.set4 (HC4) hcb _ _ _ _) (by omega)⟩
end Go.Proofs.Ytfdgnjnnbhelgaa
