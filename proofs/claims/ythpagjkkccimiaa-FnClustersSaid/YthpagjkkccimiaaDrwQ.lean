/- Draws of quake sizes, ticks, linkings and catalogues: made by catgen.py. -/
import Derived.Test.YthpagjkkccimiaaDrwA
import Derived.Test.YthpagjkkccimiaaPutQ
namespace Go.Proofs.Ythpagjkkccimiaa
open Go.RowKit
set_option linter.unusedVariables false
set_option linter.unusedSimpArgs false

theorem Cur.apart {w w' : World} {cb M : Nat} {K : Code} {row : Option Nat} (h : Cur w cb K M) (hg : w.grownBy w' row) (hne : ∀ g, row = some g → cb < g) : Cur w' cb K M := by
  obtain ⟨⟨h0, h1, h2⟩, a, s, h3, h4⟩ := h
  have hlt := h4.lt
  refine ⟨⟨h0, fun hn => ?_, h2⟩, a, s, h3, (hg.block cb hlt (fun e => by have := hne cb e.symm; omega)).trans h4⟩
  obtain ⟨b, off, e, hb, hc⟩ := h1 hn
  exact ⟨b, off, e, hb, fun i j hi hj => (World.cell?_of_block (hg.block b (by omega) (fun e => by have := hne b e.symm; omega))).trans (hc i j hi hj)⟩
theorem grown_new {w a b : World} {cb : Nat} {row : Option Nat} (h : w.grownBy a (some cb)) (hg : a.grownBy b row) (hr : ∀ g, row = some g → w.heap.size ≤ g) : w.grownBy b (some cb) :=
  ⟨hg.os.trans h.os, hg.tape.trans h.tape, hg.output.trans h.output, Nat.le_trans h.size hg.size, fun k hk hne => (hg.block k (Nat.lt_of_lt_of_le hk h.size) (fun e => by have := hr k e.symm; omega)).trans (h.block k hk hne)⟩
theorem row_drawn {w w' : World} {base n s cb M : Nat} {K : Code} {E : TypeId} {v : Value} {xs : List Value} (h : w.ownsRow base E s v n xs) (hd : w.grownBy w' (some cb)) (hb : cb < base) : w'.ownsRow base E s v n xs :=
  h.kept (row := some cb) hd (.inr fun e => by have := (h.lt cb e).1; omega)
theorem grown_set3 {w a : World} {row : Option Nat} {b : Nat} (h : w.grownBy a row) (hb : w.heap.size ≤ b) (v0 v1 v2 : Value) : w.grownBy (((a.setCell ⟨b, 0, none⟩ v0).setCell ⟨b, 1, none⟩ v1).setCell ⟨b, 2, none⟩ v2) row :=
  grown_setNew (grown_setNew (grown_setNew h (p := ⟨b, 0, none⟩) hb v0) (p := ⟨b, 1, none⟩) hb v1) (p := ⟨b, 2, none⟩) hb v2
theorem Cur.set3 {w : World} {cb M b : Nat} {K : Code} (h : Cur w cb K M) (hb : cb < b) (v0 v1 v2 : Value) : Cur (((w.setCell ⟨b, 0, none⟩ v0).setCell ⟨b, 1, none⟩ v1).setCell ⟨b, 2, none⟩ v2) cb K M :=
  ((h.setCell (p := ⟨b, 0, none⟩) hb v0).setCell (p := ⟨b, 1, none⟩) hb v1).setCell (p := ⟨b, 2, none⟩) hb v2

theorem spec_amongV (cb : Nat) (K : Code) (M : Nat) (l : List Int) (n g : Nat) (w : World) (hl : l.length = n) (h0 : 0 < n) (hn : n ≤ 1000) (cs : Array Value) (hcs : cs = (l.map (Value.int .i64)).toArray) (hb : Blk w g 3 cs) (hg : cb < g) (hM : M ≤ 1000000000000) (h : Cur w cb K M) :
    Calls Try.prog 100 #[.pointer (some ⟨cb, 0, none⟩), .slice (some ⟨g, 0, none⟩) n n] w fun e w' => ∃ x : Int, x ∈ l ∧ e = .returned (.int .i64 x) ∧ Drawn w cb K (M + 2) w' := by
  subst hl hcs
  refine (spec_among cb K M _ _ _ _ w h0 (by omega) (arr_lit hb) (fun b o e => by injection e with e; injection e with e; omega) hM h).mono ?_
  rintro e w' ⟨j, hj, rfl, hd⟩
  exact ⟨_, by simp [List.getD, hj], rfl, hd⟩
set_option maxHeartbeats 4000000 in
theorem spec_dSize (cb : Nat) (K : Code) (M : Nat) (w : World) (hM : M ≤ 900000000000) (h : Cur w cb K M) :
    Calls Try.prog 99 #[.pointer (some ⟨cb, 0, none⟩)] w fun e w' => ∃ x : Int, -1048576 ≤ x ∧ x ≤ 1048576 ∧ e = .returned (.int .i64 x) ∧ Drawn w cb K (M + 2) w' := by
  go_enter Try.func99, Try.ntmps99
  go_wp2_with fail
  refine (spec_amongV cb K M [-20, 0, 10, 21, 30, 35, 36, 62, 95, 96, -21, 20] _ _ _ rfl (by decide) (by decide) _ rfl (blk_new_atC _ _ _ _ (by first | rfl | simp)) (by have := h.lt; first | omega | (simp; omega)) (by omega) (by (repeat (first | with_reducible assumption | (with_reducible refine Cur.alloc ?_ _) | (with_reducible refine Cur.setCell ?_ (by (first | with_reducible assumption | omega | (simp; done) | (simp; omega))) _))))).mono ?_
  rintro e w1 ⟨x, hx, rfl, hd⟩
  have hG : w.grownBy w1 (some cb) := World.grownBy.trans (by (repeat (first | with_reducible assumption | (with_reducible refine World.grownBy.trans ?_ (World.grownBy_alloc _ _ _)) | (with_reducible refine grown_setNew ?_ (by (first | with_reducible assumption | omega | (simp; done) | (simp; omega))) _) | with_reducible exact grown_refl _ _))) hd.1
  have H := hide hd.2
  simp only [List.mem_cons, List.not_mem_nil, or_false] at hx
  clear hd
  go_wp2
  go_ret
  exact ⟨x, by omega, by omega, rfl, hG, H.out⟩
set_option maxHeartbeats 4000000 in
theorem spec_dTick (cb : Nat) (K : Code) (M : Nat) (w : World) (hM : M ≤ 900000000000) (h : Cur w cb K M) :
    Calls Try.prog 98 #[.pointer (some ⟨cb, 0, none⟩)] w fun e w' => ∃ x : Int, -1048576 ≤ x ∧ x ≤ 1048576 ∧ e = .returned (.int .i64 x) ∧ Drawn w cb K (M + 2) w' := by
  go_enter Try.func98, Try.ntmps98
  go_wp2_with fail
  refine (spec_amongV cb K M [0, 1, 100, 105, 500, 2000, 60000, 999990, 1000000, 1000001, -1, 110] _ _ _ rfl (by decide) (by decide) _ rfl (blk_new_atC _ _ _ _ (by first | rfl | simp)) (by have := h.lt; first | omega | (simp; omega)) (by omega) (by (repeat (first | with_reducible assumption | (with_reducible refine Cur.alloc ?_ _) | (with_reducible refine Cur.setCell ?_ (by (first | with_reducible assumption | omega | (simp; done) | (simp; omega))) _))))).mono ?_
  rintro e w1 ⟨x, hx, rfl, hd⟩
  have hG : w.grownBy w1 (some cb) := World.grownBy.trans (by (repeat (first | with_reducible assumption | (with_reducible refine World.grownBy.trans ?_ (World.grownBy_alloc _ _ _)) | (with_reducible refine grown_setNew ?_ (by (first | with_reducible assumption | omega | (simp; done) | (simp; omega))) _) | with_reducible exact grown_refl _ _))) hd.1
  have H := hide hd.2
  simp only [List.mem_cons, List.not_mem_nil, or_false] at hx
  clear hd
  go_wp2
  go_ret
  exact ⟨x, by omega, by omega, rfl, hG, H.out⟩
set_option maxHeartbeats 4000000 in
theorem spec_dLinking (cb : Nat) (K : Code) (M : Nat) (w : World) (hM : M ≤ 900000000000) (h : Cur w cb K M) :
    Calls Try.prog 96 #[.pointer (some ⟨cb, 0, none⟩)] w fun e w' => ∃ a b c : Int, e = .returned (.agg #[.int .i64 a, .int .i64 b, .int .i64 c]) ∧ Drawn w cb K (M + 20) w' := by
  go_enter Try.func96, Try.ntmps96
  have HG0 : w.grownBy w (some cb) := grown_refl _ _
  have HC0 : Cur w cb K (M + 0) := h
  have hcb := h.lt
  go_wp2_with fail
  refine (spec_amongX cb K (M + 0) [0, 100, 500, 3000, 100000] _ _ _ rfl (by decide) (by decide) _ rfl (blk_new_atC _ _ _ _ (by first | rfl | simp)) (by first | omega | (simp; omega)) (by omega) (by (repeat (first | with_reducible assumption | (with_reducible refine Cur.alloc ?_ _) | (with_reducible refine Cur.setCell ?_ (by (first | with_reducible assumption | omega | (simp; done) | (simp; omega))) _))))).mono ?_
  rintro e w1 ⟨a, rfl, hd⟩
  have HG1 : w.grownBy w1 (some cb) := World.grownBy.trans (by (repeat (first | with_reducible assumption | (with_reducible refine World.grownBy.trans ?_ (World.grownBy_alloc _ _ _)) | (with_reducible refine grown_setNew ?_ (by (first | with_reducible assumption | omega | (simp; done) | (simp; omega))) _) | with_reducible exact grown_refl _ _))) hd.1
  have HC1 : Cur w1 cb K (M + 2) := hd.2.more (by omega)
  have hz1 : w.heap.size ≤ w1.heap.size := HG1.size
  have hs1 : w.heap.size ≤ w1.heap.size := by have := hd.1.size; simp only [World.size_alloc, World.size_setCell] at this; omega
  have hcb1 := HC1.lt
  have HBr_1 : Blk w1 (w.heap.size) 30 #[.int .i64 0, .int .i64 0, .int .i64 0] := blk_drawn hd (by (repeat (first | with_reducible assumption | with_reducible exact Blk.new _ _ _ | with_reducible exact blk_new_atC _ _ _ _ (by first | rfl | simp) | (with_reducible refine Blk.alloc ?_ _)))) (by omega)
  clear hd
  go_wp2_with fail
  refine (spec_amongX cb K (M + 2) [0, 10, 50, 100, 500] _ _ _ rfl (by decide) (by decide) _ rfl (blk_new_atC _ _ _ _ (by first | rfl | simp)) (by first | omega | (simp; omega)) (by omega) (by (repeat (first | with_reducible assumption | (with_reducible refine Cur.alloc ?_ _) | (with_reducible refine Cur.setCell ?_ (by (first | with_reducible assumption | omega | (simp; done) | (simp; omega))) _))))).mono ?_
  rintro e w2 ⟨b, rfl, hd⟩
  have HG2 : w.grownBy w2 (some cb) := World.grownBy.trans (by (repeat (first | with_reducible assumption | (with_reducible refine World.grownBy.trans ?_ (World.grownBy_alloc _ _ _)) | (with_reducible refine grown_setNew ?_ (by (first | with_reducible assumption | omega | (simp; done) | (simp; omega))) _) | with_reducible exact grown_refl _ _))) hd.1
  have HC2 : Cur w2 cb K (M + 4) := hd.2.more (by omega)
  have hz2 : w.heap.size ≤ w2.heap.size := HG2.size
  have hs2 : w1.heap.size ≤ w2.heap.size := by have := hd.1.size; simp only [World.size_alloc, World.size_setCell] at this; omega
  have hcb2 := HC2.lt
  have HBr_2 : Blk w2 (w.heap.size) 30 #[.int .i64 0, .int .i64 0, .int .i64 0] := blk_drawn hd (by (repeat (first | with_reducible assumption | with_reducible exact Blk.new _ _ _ | with_reducible exact blk_new_atC _ _ _ _ (by first | rfl | simp) | (with_reducible refine Blk.alloc ?_ _)))) (by omega)
  clear hd
  go_wp2_with fail
  refine (spec_amongX cb K (M + 4) [0, 0, 5, 20, 100] _ _ _ rfl (by decide) (by decide) _ rfl (blk_new_atC _ _ _ _ (by first | rfl | simp)) (by first | omega | (simp; omega)) (by omega) (by (repeat (first | with_reducible assumption | (with_reducible refine Cur.alloc ?_ _) | (with_reducible refine Cur.setCell ?_ (by (first | with_reducible assumption | omega | (simp; done) | (simp; omega))) _))))).mono ?_
  rintro e w3 ⟨c, rfl, hd⟩
  have HG3 : w.grownBy w3 (some cb) := World.grownBy.trans (by (repeat (first | with_reducible assumption | (with_reducible refine World.grownBy.trans ?_ (World.grownBy_alloc _ _ _)) | (with_reducible refine grown_setNew ?_ (by (first | with_reducible assumption | omega | (simp; done) | (simp; omega))) _) | with_reducible exact grown_refl _ _))) hd.1
  have HC3 : Cur w3 cb K (M + 6) := hd.2.more (by omega)
  have hz3 : w.heap.size ≤ w3.heap.size := HG3.size
  have hs3 : w2.heap.size ≤ w3.heap.size := by have := hd.1.size; simp only [World.size_alloc, World.size_setCell] at this; omega
  have hcb3 := HC3.lt
  have HBr_3 : Blk w3 (w.heap.size) 30 #[.int .i64 0, .int .i64 0, .int .i64 0] := blk_drawn hd (by (repeat (first | with_reducible assumption | with_reducible exact Blk.new _ _ _ | with_reducible exact blk_new_atC _ _ _ _ (by first | rfl | simp) | (with_reducible refine Blk.alloc ?_ _)))) (by omega)
  clear hd
  go_wp2_with fail
  refine (spec_pick cb K (M + 6) 32 _ (by omega) (by omega) (by (repeat (first | with_reducible assumption | (with_reducible refine Cur.alloc ?_ _) | (with_reducible refine Cur.setCell ?_ (by (first | with_reducible assumption | omega | (simp; done) | (simp; omega))) _))))).mono ?_
  rintro e w4 ⟨x, rfl, xa, xb, xc, hd⟩
  have HG4 : w.grownBy w4 (some cb) := World.grownBy.trans (by (repeat (first | with_reducible assumption | (with_reducible refine World.grownBy.trans ?_ (World.grownBy_alloc _ _ _)) | (with_reducible refine grown_setNew ?_ (by (first | with_reducible assumption | omega | (simp; done) | (simp; omega))) _) | with_reducible exact grown_refl _ _))) hd.1
  have HC4 : Cur w4 cb K (M + 8) := hd.2.more (by omega)
  have hz4 : w.heap.size ≤ w4.heap.size := HG4.size
  have hs4 : w3.heap.size ≤ w4.heap.size := by have := hd.1.size; simp only [World.size_alloc, World.size_setCell] at this; omega
  have hcb4 := HC4.lt
  have HBr_4 : Blk w4 (w.heap.size) 30 #[.int .i64 0, .int .i64 0, .int .i64 0] := blk_drawn hd (by (repeat (first | with_reducible assumption | with_reducible exact Blk.new _ _ _ | with_reducible exact blk_new_atC _ _ _ _ (by first | rfl | simp) | (with_reducible refine Blk.alloc ?_ _)))) (by omega)
  have HBq_4 : Blk w4 (w3.heap.size) 30 #[.int .i64 a, .int .i64 b, .int .i64 c] := blk_drawn hd (by (repeat (first | with_reducible assumption | with_reducible exact Blk.new _ _ _ | with_reducible exact blk_new_atC _ _ _ _ (by first | rfl | simp) | (with_reducible refine Blk.alloc ?_ _)))) (by omega)
  clear hd
  by_cases h0 : x = 0
  · subst h0
    go_wp2_with fail
    refine (spec_amongX cb K (M + 8) [-1, 100001] _ _ _ rfl (by decide) (by decide) _ rfl (blk_new_atC _ _ _ _ (by first | rfl | simp)) (by first | omega | (simp; omega)) (by omega) (by (repeat (first | with_reducible assumption | (with_reducible refine Cur.alloc ?_ _) | (with_reducible refine Cur.setCell ?_ (by (first | with_reducible assumption | omega | (simp; done) | (simp; omega))) _))))).mono ?_
    rintro e w5 ⟨y, rfl, hd⟩
    have HG5 : w.grownBy w5 (some cb) := World.grownBy.trans (by (repeat (first | with_reducible assumption | (with_reducible refine World.grownBy.trans ?_ (World.grownBy_alloc _ _ _)) | (with_reducible refine grown_setNew ?_ (by (first | with_reducible assumption | omega | (simp; done) | (simp; omega))) _) | with_reducible exact grown_refl _ _))) hd.1
    have HC5 : Cur w5 cb K (M + 10) := hd.2.more (by omega)
    have hz5 : w.heap.size ≤ w5.heap.size := HG5.size
    have hs5 : w4.heap.size ≤ w5.heap.size := by have := hd.1.size; simp only [World.size_alloc, World.size_setCell] at this; omega
    have hcb5 := HC5.lt
    have HBr_5 : Blk w5 (w.heap.size) 30 #[.int .i64 0, .int .i64 0, .int .i64 0] := blk_drawn hd (by (repeat (first | with_reducible assumption | with_reducible exact Blk.new _ _ _ | with_reducible exact blk_new_atC _ _ _ _ (by first | rfl | simp) | (with_reducible refine Blk.alloc ?_ _)))) (by omega)
    have HBq_5 : Blk w5 (w3.heap.size) 30 #[.int .i64 a, .int .i64 b, .int .i64 c] := blk_drawn hd (by (repeat (first | with_reducible assumption | with_reducible exact Blk.new _ _ _ | with_reducible exact blk_new_atC _ _ _ _ (by first | rfl | simp) | (with_reducible refine Blk.alloc ?_ _)))) (by omega)
    clear hd
    have cr0 := HBr_5.cell 0; have fr0 := HBr_5.frozen 0
    have cr1 := HBr_5.cell 1; have fr1 := HBr_5.frozen 1
    have cr2 := HBr_5.cell 2; have fr2 := HBr_5.frozen 2
    have cq0 := HBq_5.cell 0; have fq0 := HBq_5.frozen 0
    have cq1 := HBq_5.cell 1; have fq1 := HBq_5.frozen 1
    have cq2 := HBq_5.cell 2; have fq2 := HBq_5.frozen 2
    simp at cr0 cr1 cr2 cq0 cq1 cq2
    have hneq : ¬ w3.heap.size = w.heap.size := by have := HBr_3.lt; omega
    have hnfq : ¬ w.heap.size = w3.heap.size := by omega
    go_wp2
    refine bodyPost_ret (v := .agg #[.int .i64 y, .int .i64 b, .int .i64 c]) (by simp [results, Try.results96, go_sem, cr0, cr1, cr2, hneq, hnfq]) rfl ⟨_, _, _, rfl, grown_set3 (grown_setNew HG5 (p := ⟨w3.heap.size, 0, none⟩) (by omega) _) (Nat.le_refl _) _ _ _, Cur.more (M := M + 10) (Cur.set3 (HC5.setCell (p := ⟨w3.heap.size, 0, none⟩) (by show cb < w3.heap.size; omega) _) hcb _ _ _) (by omega)⟩
  · have e0 : (x == 0) = false := by simp [h0]
    by_cases h1 : x = 1
    · subst h1
      go_wp2_with fail
      refine (spec_amongX cb K (M + 8) [-1, 501] _ _ _ rfl (by decide) (by decide) _ rfl (blk_new_atC _ _ _ _ (by first | rfl | simp)) (by first | omega | (simp; omega)) (by omega) (by (repeat (first | with_reducible assumption | (with_reducible refine Cur.alloc ?_ _) | (with_reducible refine Cur.setCell ?_ (by (first | with_reducible assumption | omega | (simp; done) | (simp; omega))) _))))).mono ?_
      rintro e w5 ⟨y, rfl, hd⟩
      have HG5 : w.grownBy w5 (some cb) := World.grownBy.trans (by (repeat (first | with_reducible assumption | (with_reducible refine World.grownBy.trans ?_ (World.grownBy_alloc _ _ _)) | (with_reducible refine grown_setNew ?_ (by (first | with_reducible assumption | omega | (simp; done) | (simp; omega))) _) | with_reducible exact grown_refl _ _))) hd.1
      have HC5 : Cur w5 cb K (M + 10) := hd.2.more (by omega)
      have hz5 : w.heap.size ≤ w5.heap.size := HG5.size
      have hs5 : w4.heap.size ≤ w5.heap.size := by have := hd.1.size; simp only [World.size_alloc, World.size_setCell] at this; omega
      have hcb5 := HC5.lt
      have HBr_5 : Blk w5 (w.heap.size) 30 #[.int .i64 0, .int .i64 0, .int .i64 0] := blk_drawn hd (by (repeat (first | with_reducible assumption | with_reducible exact Blk.new _ _ _ | with_reducible exact blk_new_atC _ _ _ _ (by first | rfl | simp) | (with_reducible refine Blk.alloc ?_ _)))) (by omega)
      have HBq_5 : Blk w5 (w3.heap.size) 30 #[.int .i64 a, .int .i64 b, .int .i64 c] := blk_drawn hd (by (repeat (first | with_reducible assumption | with_reducible exact Blk.new _ _ _ | with_reducible exact blk_new_atC _ _ _ _ (by first | rfl | simp) | (with_reducible refine Blk.alloc ?_ _)))) (by omega)
      clear hd
      have cr0 := HBr_5.cell 0; have fr0 := HBr_5.frozen 0
      have cr1 := HBr_5.cell 1; have fr1 := HBr_5.frozen 1
      have cr2 := HBr_5.cell 2; have fr2 := HBr_5.frozen 2
      have cq0 := HBq_5.cell 0; have fq0 := HBq_5.frozen 0
      have cq1 := HBq_5.cell 1; have fq1 := HBq_5.frozen 1
      have cq2 := HBq_5.cell 2; have fq2 := HBq_5.frozen 2
      simp at cr0 cr1 cr2 cq0 cq1 cq2
      have hneq : ¬ w3.heap.size = w.heap.size := by have := HBr_3.lt; omega
      have hnfq : ¬ w.heap.size = w3.heap.size := by omega
      go_wp2
      refine bodyPost_ret (v := .agg #[.int .i64 a, .int .i64 y, .int .i64 c]) (by simp [results, Try.results96, go_sem, cr0, cr1, cr2, hneq, hnfq]) rfl ⟨_, _, _, rfl, grown_set3 (grown_setNew HG5 (p := ⟨w3.heap.size, 1, none⟩) (by omega) _) (Nat.le_refl _) _ _ _, Cur.more (M := M + 10) (Cur.set3 (HC5.setCell (p := ⟨w3.heap.size, 1, none⟩) (by show cb < w3.heap.size; omega) _) hcb _ _ _) (by omega)⟩
    · have e1 : (x == 1) = false := by simp [h1]
      by_cases h2 : x = 2
      · subst h2
        go_wp2_with fail
        refine (spec_amongX cb K (M + 8) [-1, 101] _ _ _ rfl (by decide) (by decide) _ rfl (blk_new_atC _ _ _ _ (by first | rfl | simp)) (by first | omega | (simp; omega)) (by omega) (by (repeat (first | with_reducible assumption | (with_reducible refine Cur.alloc ?_ _) | (with_reducible refine Cur.setCell ?_ (by (first | with_reducible assumption | omega | (simp; done) | (simp; omega))) _))))).mono ?_
        rintro e w5 ⟨y, rfl, hd⟩
        have HG5 : w.grownBy w5 (some cb) := World.grownBy.trans (by (repeat (first | with_reducible assumption | (with_reducible refine World.grownBy.trans ?_ (World.grownBy_alloc _ _ _)) | (with_reducible refine grown_setNew ?_ (by (first | with_reducible assumption | omega | (simp; done) | (simp; omega))) _) | with_reducible exact grown_refl _ _))) hd.1
        have HC5 : Cur w5 cb K (M + 10) := hd.2.more (by omega)
        have hz5 : w.heap.size ≤ w5.heap.size := HG5.size
        have hs5 : w4.heap.size ≤ w5.heap.size := by have := hd.1.size; simp only [World.size_alloc, World.size_setCell] at this; omega
        have hcb5 := HC5.lt
        have HBr_5 : Blk w5 (w.heap.size) 30 #[.int .i64 0, .int .i64 0, .int .i64 0] := blk_drawn hd (by (repeat (first | with_reducible assumption | with_reducible exact Blk.new _ _ _ | with_reducible exact blk_new_atC _ _ _ _ (by first | rfl | simp) | (with_reducible refine Blk.alloc ?_ _)))) (by omega)
        have HBq_5 : Blk w5 (w3.heap.size) 30 #[.int .i64 a, .int .i64 b, .int .i64 c] := blk_drawn hd (by (repeat (first | with_reducible assumption | with_reducible exact Blk.new _ _ _ | with_reducible exact blk_new_atC _ _ _ _ (by first | rfl | simp) | (with_reducible refine Blk.alloc ?_ _)))) (by omega)
        clear hd
        have cr0 := HBr_5.cell 0; have fr0 := HBr_5.frozen 0
        have cr1 := HBr_5.cell 1; have fr1 := HBr_5.frozen 1
        have cr2 := HBr_5.cell 2; have fr2 := HBr_5.frozen 2
        have cq0 := HBq_5.cell 0; have fq0 := HBq_5.frozen 0
        have cq1 := HBq_5.cell 1; have fq1 := HBq_5.frozen 1
        have cq2 := HBq_5.cell 2; have fq2 := HBq_5.frozen 2
        simp at cr0 cr1 cr2 cq0 cq1 cq2
        have hneq : ¬ w3.heap.size = w.heap.size := by have := HBr_3.lt; omega
        have hnfq : ¬ w.heap.size = w3.heap.size := by omega
        go_wp2
        refine bodyPost_ret (v := .agg #[.int .i64 a, .int .i64 b, .int .i64 y]) (by simp [results, Try.results96, go_sem, cr0, cr1, cr2, hneq, hnfq]) rfl ⟨_, _, _, rfl, grown_set3 (grown_setNew HG5 (p := ⟨w3.heap.size, 2, none⟩) (by omega) _) (Nat.le_refl _) _ _ _, Cur.more (M := M + 10) (Cur.set3 (HC5.setCell (p := ⟨w3.heap.size, 2, none⟩) (by show cb < w3.heap.size; omega) _) hcb _ _ _) (by omega)⟩
      · have e2 : (x == 2) = false := by simp [h2]
        have cr0 := HBr_4.cell 0; have fr0 := HBr_4.frozen 0
        have cr1 := HBr_4.cell 1; have fr1 := HBr_4.frozen 1
        have cr2 := HBr_4.cell 2; have fr2 := HBr_4.frozen 2
        have cq0 := HBq_4.cell 0; have fq0 := HBq_4.frozen 0
        have cq1 := HBq_4.cell 1; have fq1 := HBq_4.frozen 1
        have cq2 := HBq_4.cell 2; have fq2 := HBq_4.frozen 2
        simp at cr0 cr1 cr2 cq0 cq1 cq2
        have hneq : ¬ w3.heap.size = w.heap.size := by have := HBr_3.lt; omega
        have hnfq : ¬ w.heap.size = w3.heap.size := by omega
        go_wp2
        refine bodyPost_ret (v := .agg #[.int .i64 a, .int .i64 b, .int .i64 c]) (by simp [results, Try.results96, go_sem, cr0, cr1, cr2, hneq, hnfq]) rfl ⟨_, _, _, rfl, grown_set3 (HG4) (Nat.le_refl _) _ _ _, Cur.more (M := M + 8) (Cur.set3 (HC4) hcb _ _ _) (by omega)⟩
set_option maxHeartbeats 4000000 in
set_option maxRecDepth 100000 in
theorem spec_dCat (cb : Nat) (K : Code) (M : Nat) (w : World) (hM : M ≤ 800000000000) (h : Cur w cb K M) :
    Calls Try.prog 95 #[.pointer (some ⟨cb, 0, none⟩)] w fun e w' => ∃ (v : Value) (l : List (Int × Int × Int × Int)), l.length ≤ 40 ∧ e = .returned v ∧ Drawn w cb K (M + 400) w' ∧ Own w' w.heap.size 60 4 v l.length (iv (qX l)) := by
  obtain ⟨i0, hi0, hy0, hy1, hy2⟩ := info_parts info_quake
  have hcb := h.lt
  go_enter Try.func95, Try.ntmps95
  go_wp2_with fail
  refine (spec_pick cb K M 8 _ (by omega) (by omega) (h.alloc _)).mono ?_
  rintro e w2 ⟨N, rfl, n0, n1, _, hd2⟩
  have n2 := n1 (by omega)
  obtain ⟨N, rfl⟩ : ∃ m : Nat, N = m := ⟨N.toNat, by omega⟩
  have hg2 : w.grownBy w2 (some cb) := World.grownBy.trans (by (repeat (first | with_reducible assumption | (with_reducible refine World.grownBy.trans ?_ (World.grownBy_alloc _ _ _)) | (with_reducible refine grown_setNew ?_ (by (first | with_reducible assumption | omega | (simp; done) | (simp; omega))) _) | with_reducible exact grown_refl _ _))) hd2.1
  have hr2 := row_drawn (M := M) (K := K) (row_new_at w w.heap.size w.heap.size 4 60 rfl (Nat.le_refl _)) hd2.1 hcb
  have HR := hide hr2; have HC2 := hide hd2.2; have HG2 := hide hg2
  clear hr2 hd2 hg2 n1
  have hN : N ≤ 7 := by omega
  go_wp2
  go_loopw [3, 4] (fun s y wr => ∃ (k m g cap : Nat) (l : List (Int × Int × Int × Int)), k ≤ N ∧ m + k ≤ N ∧ l.length = m ∧ y = .int .i64 k ∧ s = .slice (some ⟨g, 0, none⟩) m cap ∧ w.grownBy wr (some cb) ∧ Cur wr cb K (M + 2 + 20 * (N - k)) ∧ wr.ownsRow w.heap.size 60 4 (.slice (some ⟨g, 0, none⟩) m cap) m (l.flatMap qC)) (fun _ y _ => (intOf y).toNat)
  case atStart => exact ⟨N, 0, w.heap.size, 0, [], Nat.le_refl _, by omega, rfl, rfl, rfl, HG2.out, HC2.out.more (by omega), HR.out⟩
  case round =>
    obtain ⟨k, m, g, cap, l, hk, hmk, hl, rfl, rfl, hgw, hcu, hown⟩ := hrel
    have HO := hide hown; have HLN := hide hl
    have hglt := (hown.lt g rfl).1
    clear hown hl
    by_cases hk0 : 0 < k
    · have hcl := hcu.lt
      have hkk : (k : Int) - 1 = ((k - 1 : Nat) : Int) := by omega
      go_wp2_with fail
      refine (spec_oneQuake cb K _ _ (by omega) hcu).mono ?_
      rintro e w3 ⟨a, b, c, d, rfl, hd3⟩
      have hg3 := hgw.trans hd3.1
      have hr3 := row_drawn (M := M) (K := K) HO.out hd3.1 hcb
      have hc3 := hd3.2
      have hcl3 := hc3.lt
      clear hd3
      go_wp2_with fail
      refine (spec_putQ g cap m w.heap.size l a b c d _ HLN.out (by omega) (row_below hr3 (by go_grown))).mono ?_
      rintro e w4 ⟨g4, cap4, m4, l4, ok, rfl, hl4, hm4, hb4, ho4⟩
      have hq4 : Below w3.heap.size w3 w4 := below_call (by go_grown) hb4
      have H1 := hide (grown_belowC hg3 hq4); have H2 := hide (hc3.on hq4); have H3 := hide (row_below hr3 hq4); have H4 := hide ho4; have H5 := hide hl4
      clear ho4 hl4 hb4 hr3 hc3 hg3 hgw hcu
      cases ok
      · go_wp2
        go_roundw
        case rel => exact ⟨k - 1, m, g, cap, l, by omega, by omega, HLN.out, by first | (congr 1; done) | (congr 1; omega), rfl, H1.out, H2.out.more (by omega), H3.out⟩
        case measure => simp [intOf]; omega
      · go_wp2
        go_roundw
        case rel => exact ⟨k - 1, m4, g4, cap4, l4, by omega, by omega, H5.out, by first | (congr 1; done) | (congr 1; omega), rfl, H1.out, H2.out.more (by omega), H4.out⟩
        case measure => simp [intOf]; omega
    · obtain rfl : k = 0 := by omega
      have hcl := hcu.lt
      have hlen : m ≤ 7 := by omega
      go_wp2_with fail
      refine (spec_pick cb K _ 32 _ (by omega) (by omega) hcu).mono ?_
      rintro e w3 ⟨t, rfl, t0, _, _, hd3⟩
      have hg3 := hgw.trans hd3.1
      have hc3 := hd3.2
      have hr3 := row_drawn (M := M) (K := K) HO.out hd3.1 hcb
      have hs3 := hg3.size
      have hcl3 := hc3.lt
      clear hd3
      by_cases e0 : t = 0
      · subst e0
        go_wp2_with fail
        refine (spec_oneQuake cb K _ _ (by omega) hc3).mono ?_
        rintro e w5 ⟨a, b, c, d, rfl, hd5⟩
        have hg5 := hg3.trans hd5.1
        have hc5 := hd5.2
        have hr5 := row_drawn (M := M) (K := K) hr3 hd5.1 hcb
        have hs5 := hg5.size
        clear hd5 hr3 hc3 hg3
        go_wp2_with (at_builtin; refine wpList_append_far _ rfl _ _ 28 rfl w.heap.size 60 i0 (.agg #[.int .i64 0, .int .i64 0, .int .i64 0, .int .i64 0]) 4 32 Try.underlying28 hi0 hy0 hy1 hy2 rfl (by decide) _ _ _ rfl (hr5.alloc _) ⟨w5.heap.size, 0, none⟩ 1 1 (qC (a, b, c, d)) rfl rfl ?c1 ?c2 ?c3 ?c4 ?c5 ?_)
        case c1 => exact cells_at w5 _ _ _ rfl
        case c2 => exact qC_one _
        case c3 => unfold maxLen; omega
        case c4 => omega
        case c5 => simp only [World.size_alloc]; omega
        intro v6 w6 hown6 hgrow6 _
        have hlt6 := hr5.lt
        have hgw6 : w.grownBy w6 (some cb) := grown_new (hg5.trans (World.grownBy_alloc _ _ _)) hgrow6 (fun g hg => (hlt6 g hg).1)
        have hcu6 := (hc5.alloc (.cells (qC (a, b, c, d)).toArray 60)).apart hgrow6 (fun g hg => by have := (hlt6 g hg).1; omega)
        have hsz6 := hgw6.size
        obtain ⟨g6, cap6, rfl⟩ := row_formQ hown6 (by omega)
        have hrow6 : w6.ownsRow w.heap.size 60 4 (.slice (some ⟨g6, 0, none⟩) (m + 1 : Nat) cap6) (m + 1) ((l ++ [(a, b, c, d)]).flatMap qC) := by rw [← flat_snoc]; exact hown6
        have H1 := hide hgw6; have H2 := hide hrow6; have H3 := hide hcu6
        clear hown6 hgrow6 hlt6 hrow6 hr5 hgw6 hcu6
        go_wp2
        go_returns
        exact ⟨_, l ++ [(a, b, c, d)], by simp [HLN.out]; omega, rfl, ⟨H1.out, H3.out.more (by omega)⟩, by rw [List.length_append, HLN.out]; exact own_q (by simp [HLN.out]) H2.out⟩
      · have b0 : (t == 0) = false := by simp [e0]
        by_cases e1 : t = 1
        · subst e1
          have hg3' : w.grownBy (w3.alloc (.cells #[] 60)) (some cb) := hg3.trans (World.grownBy_alloc _ _ _)
          have hc3' : Cur (w3.alloc (.cells #[] 60)) cb K (M + 160) := (hc3.alloc _).more (by omega)
          have hr3' := row_new_at w3 w3.heap.size w.heap.size 4 60 rfl hs3
          have H1 := hide hg3'; have H2 := hide hr3'; have H3 := hide hc3'
          clear hg3 hr3 hc3 hg3' hr3' hc3' HO hgw hcu HG2 HC2 HR
          go_wp2
          go_loopw [3] (fun s wr => ∃ (k g cap : Nat) (l : List (Int × Int × Int × Int)), k ≤ 11 ∧ l.length = k ∧ s = .slice (some ⟨g, 0, none⟩) k cap ∧ w.grownBy wr (some cb) ∧ Cur wr cb K (M + 160 + 2 * k) ∧ wr.ownsRow w.heap.size 60 4 (.slice (some ⟨g, 0, none⟩) k cap) k (l.flatMap qC)) (fun s _ => match s with | .slice _ n _ => 12 - n | _ => 0)
          case atStart => exact ⟨0, w3.heap.size, 0, [], by omega, rfl, rfl, H1.out, H3.out, H2.out⟩
          case round =>
            obtain ⟨k, g, cap, l, hk, hl, rfl, hgw, hcu, hown⟩ := hrel
            have HO := hide hown; have HLN := hide hl
            clear hown hl
            go_wp2_with fail
            refine (spec_pick cb K _ 2 _ (by omega) (by omega) hcu).mono ?_
            rintro e w5 ⟨u, rfl, u0, u1, _, hd5⟩
            have u2 := u1 (by omega)
            have hg5 := hgw.trans hd5.1
            have hc5 := hd5.2
            have hr5 := row_drawn (M := M) (K := K) HO.out hd5.1 hcb
            have hs5 := hg5.size
            clear hd5 u1
            by_cases hlt : (k : Int) < 10 + u
            · skip
              go_wp2_with (at_builtin; refine wpList_append_far _ rfl _ _ 28 rfl w.heap.size 60 i0 (.agg #[.int .i64 0, .int .i64 0, .int .i64 0, .int .i64 0]) 4 32 Try.underlying28 hi0 hy0 hy1 hy2 rfl (by decide) _ _ _ rfl (hr5.alloc _) ⟨w5.heap.size, 0, none⟩ 1 1 (qC (50 * (k : Int), 0, 0, 20)) rfl rfl ?c1 ?c2 ?c3 ?c4 ?c5 ?_)
              case c1 => exact cells_at w5 _ _ _ rfl
              case c2 => exact qC_one _
              case c3 => unfold maxLen; omega
              case c4 => omega
              case c5 => simp only [World.size_alloc]; omega
              intro v6 w6 hown6 hgrow6 _
              have hlt6 := hr5.lt
              have hgw6 : w.grownBy w6 (some cb) := grown_new (hg5.trans (World.grownBy_alloc _ _ _)) hgrow6 (fun g hg => (hlt6 g hg).1)
              have hcu6 := (hc5.alloc (.cells (qC (50 * (k : Int), 0, 0, 20)).toArray 60)).apart hgrow6 (fun g hg => by have := (hlt6 g hg).1; omega)
              have hsz6 := hgw6.size
              obtain ⟨g6, cap6, rfl⟩ := row_formQ hown6 (by omega)
              have hrow6 : w6.ownsRow w.heap.size 60 4 (.slice (some ⟨g6, 0, none⟩) (k + 1 : Nat) cap6) (k + 1) ((l ++ [(50 * (k : Int), 0, 0, 20)]).flatMap qC) := by rw [← flat_snoc]; exact hown6
              have H1 := hide hgw6; have H2 := hide hrow6; have H3 := hide hcu6
              clear hown6 hgrow6 hlt6 hrow6 hr5 hgw6 hcu6
              go_wp2
              go_roundw
              case rel => exact ⟨k + 1, g6, cap6, l ++ [(50 * (k : Int), 0, 0, 20)], by omega, by simp [HLN.out], rfl, H1.out, H3.out.more (by omega), H2.out⟩
              case measure => simp; omega
            · have H1 := hide hg5; have H2 := hide hr5; have H3 := hide hc5
              clear hg5 hr5 hc5
              go_wp2
              go_returns
              exact ⟨_, l, by rw [HLN.out]; omega, rfl, ⟨H1.out, H3.out.more (by omega)⟩, by rw [HLN.out]; exact own_q HLN.out.symm H2.out⟩
        · have b1 : (t == 1) = false := by simp [e1]
          have H1 := hide hg3; have H2 := hide hr3; have H3 := hide hc3
          clear hg3 hr3 hc3
          go_wp2
          go_returns
          exact ⟨_, l, by rw [HLN.out]; omega, rfl, ⟨H1.out, H3.out.more (by omega)⟩, by rw [HLN.out]; exact own_q HLN.out.symm H2.out⟩
end Go.Proofs.Ythpagjkkccimiaa
