/- Draws of a text and of a bend: made by fdrgen.py. -/
import Derived.Test.YtbpeamjgddikjaaDrwA
import Derived.Test.YtbpeamjgddikjaaRowsC
namespace Go.Proofs.Ytbpeamjgddikjaa
open Go.RowKit
set_option linter.unusedVariables false
set_option linter.unusedSimpArgs false

theorem spec_amongY (cb : Nat) (K : Code) (M : Nat) (l : List Int) (lo hi : Int) (n g : Nat) (w : World) (hl : l.length = n) (h0 : 0 < n) (hn : n ≤ 1000) (hlo : ∀ x, x ∈ l → lo ≤ x ∧ x ≤ hi) (cs : Array Value) (hcs : cs = (l.map (Value.int .i64)).toArray) (hb : Blk w g 3 cs) (hg : cb < g) (hM : M ≤ 1000000000000) (h : Cur w cb K M) :
    Calls Try.prog 86 #[.pointer (some ⟨cb, 0, none⟩), .slice (some ⟨g, 0, none⟩) n n] w fun e w' => ∃ x : Int, e = .returned (.int .i64 x) ∧ lo ≤ x ∧ x ≤ hi ∧ Drawn w cb K (M + 2) w' := by
  subst hl hcs
  refine (spec_among cb K M _ _ _ _ w h0 (by omega) (arr_lit hb) (fun b o e => by injection e with e; injection e with e; omega) hM h).mono ?_
  rintro e w' ⟨j, hj, rfl, hd⟩
  have hm := hlo (l.getD j 0) (by simp [List.getD, hj])
  exact ⟨_, rfl, hm.1, hm.2, hd⟩
theorem spec_ofX (cb : Nat) (K : Code) (M : Nat) (l : List ByteArray) (n g : Nat) (w : World) (hl : l.length = n) (h0 : 0 < n) (hn : n ≤ 1000) (hlo : ∀ x, x ∈ l → x.size ≤ 11) (cs : Array Value) (hcs : cs = (l.map Value.string).toArray) (hb : Blk w g 9 cs) (hg : cb < g) (hM : M ≤ 1000000000000) (h : Cur w cb K M) :
    Calls Try.prog 95 #[.pointer (some ⟨cb, 0, none⟩), .slice (some ⟨g, 0, none⟩) n n] w fun e w' => ∃ x : ByteArray, e = .returned (.string x) ∧ x.size ≤ 11 ∧ Drawn w cb K (M + 2) w' := by
  subst hl hcs
  go_enter Try.func95, Try.ntmps95
  go_wp2_with fail
  refine (spec_pick cb K M (l.length : Nat) _ (by omega) hM h).mono ?_
  rintro e w1 ⟨x, rfl, x0, x1, x2, hd⟩
  have hxn : x < l.length := by
    by_cases h1 : (1 : Int) < l.length
    · exact x1 h1
    · have := x2 (by omega); omega
  obtain ⟨j, rfl⟩ : ∃ j : Nat, x = j := ⟨x.toNat, by omega⟩
  have hj : j < l.length := by omega
  have hb1 := blk_drawn hd hb hg
  have c0 := hb1.cell j
  rw [show (l.map Value.string).toArray[j]? = some (.string l[j]) by simp [List.getElem?_eq_getElem hj]] at c0
  have hgl := hb1.lt
  have hs := hlo l[j] (List.getElem_mem hj)
  have HD := hide hd
  clear hd h hb hb1 x1 x2
  go_wp2
  go_returns
  exact ⟨_, rfl, hs, HD.out⟩

set_option maxHeartbeats 4000000 in
set_option maxRecDepth 100000 in
theorem spec_bendD (cb : Nat) (K : Code) (M : Nat) (w : World) (hM : M ≤ 900000000000) (h : Cur w cb K M) :
    Calls Try.prog 65 #[.pointer (some ⟨cb, 0, none⟩)] w fun e w' => ∃ x y : Int, e = .returned (.agg #[.int .i64 x, .int .i64 y]) ∧ (-1 ≤ x ∧ x ≤ 1000) ∧ Drawn w cb K (M + 10) w' := by
  go_enter Try.func65, Try.ntmps65
  have HG0 : w.grownBy w (some cb) := grown_refl _ _
  have HC0 : Cur w cb K (M + 0) := h
  have hcb := h.lt
  go_wp2_with fail
  refine (spec_amongY cb K (M + 0) [0, 1, 2, 3, 4, 6, 999] (-1) 1000 _ _ _ rfl (by decide) (by decide) (by decide) _ rfl (blk_new_atC _ _ _ _ (by first | rfl | simp)) (by first | omega | (simp; omega)) (by omega) (by (repeat (first | with_reducible assumption | (with_reducible refine Cur.alloc ?_ _) | (with_reducible refine Cur.setCell ?_ (by (first | with_reducible assumption | omega | (simp; done) | (simp; omega))) _))))).mono ?_
  rintro e w1 ⟨x, rfl, xl, xh, hd⟩
  have HG1 : w.grownBy w1 (some cb) := World.grownBy.trans (by (repeat (first | with_reducible assumption | (with_reducible refine World.grownBy.trans ?_ (World.grownBy_alloc _ _ _)) | (with_reducible refine grown_setNew ?_ (by (first | with_reducible assumption | omega | (simp; done) | (simp; omega))) _) | with_reducible exact grown_refl _ _))) hd.1
  have HC1 : Cur w1 cb K (M + 2) := hd.2.more (by omega)
  have hz1 : w.heap.size ≤ w1.heap.size := HG1.size
  have hs1 : w.heap.size ≤ w1.heap.size := by have := hd.1.size; (try simp only [World.size_alloc, World.size_setCell] at this); omega
  have hcb1 := HC1.lt
  have HBr_1 : Blk w1 (w.heap.size) 26 #[.int .i64 0, .int .i64 0] := blk_drawn hd (by (repeat (first | with_reducible assumption | with_reducible exact Blk.new _ _ _ | with_reducible exact blk_new_atC _ _ _ _ (by first | rfl | simp) | (with_reducible refine Blk.alloc ?_ _)))) (by omega)
  clear hd
  go_wp2_with fail
  refine (spec_amongY cb K (M + 2) [0, 1, 2, 3, 4, 6, 999] (-1) 1000 _ _ _ rfl (by decide) (by decide) (by decide) _ rfl (blk_new_atC _ _ _ _ (by first | rfl | simp)) (by first | omega | (simp; omega)) (by omega) (by (repeat (first | with_reducible assumption | (with_reducible refine Cur.alloc ?_ _) | (with_reducible refine Cur.setCell ?_ (by (first | with_reducible assumption | omega | (simp; done) | (simp; omega))) _))))).mono ?_
  rintro e w2 ⟨y, rfl, yl, yh, hd⟩
  have HG2 : w.grownBy w2 (some cb) := World.grownBy.trans (by (repeat (first | with_reducible assumption | (with_reducible refine World.grownBy.trans ?_ (World.grownBy_alloc _ _ _)) | (with_reducible refine grown_setNew ?_ (by (first | with_reducible assumption | omega | (simp; done) | (simp; omega))) _) | with_reducible exact grown_refl _ _))) hd.1
  have HC2 : Cur w2 cb K (M + 4) := hd.2.more (by omega)
  have hz2 : w.heap.size ≤ w2.heap.size := HG2.size
  have hs2 : w1.heap.size ≤ w2.heap.size := by have := hd.1.size; (try simp only [World.size_alloc, World.size_setCell] at this); omega
  have hcb2 := HC2.lt
  have HBr_2 : Blk w2 (w.heap.size) 26 #[.int .i64 0, .int .i64 0] := blk_drawn hd (by (repeat (first | with_reducible assumption | with_reducible exact Blk.new _ _ _ | with_reducible exact blk_new_atC _ _ _ _ (by first | rfl | simp) | (with_reducible refine Blk.alloc ?_ _)))) (by omega)
  clear hd
  go_wp2_with fail
  refine (spec_one cb K (M + 4) 80 _ (by omega) (by omega) (by (repeat (first | with_reducible assumption | (with_reducible refine Cur.alloc ?_ _) | (with_reducible refine Cur.setCell ?_ (by (first | with_reducible assumption | omega | (simp; done) | (simp; omega))) _))))).mono ?_
  rintro e w3 ⟨u, rfl, hd⟩
  have HG3 : w.grownBy w3 (some cb) := World.grownBy.trans (by (repeat (first | with_reducible assumption | (with_reducible refine World.grownBy.trans ?_ (World.grownBy_alloc _ _ _)) | (with_reducible refine grown_setNew ?_ (by (first | with_reducible assumption | omega | (simp; done) | (simp; omega))) _) | with_reducible exact grown_refl _ _))) hd.1
  have HC3 : Cur w3 cb K (M + 6) := hd.2.more (by omega)
  have hz3 : w.heap.size ≤ w3.heap.size := HG3.size
  have hs3 : w2.heap.size ≤ w3.heap.size := by have := hd.1.size; (try simp only [World.size_alloc, World.size_setCell] at this); omega
  have hcb3 := HC3.lt
  have HBr_3 : Blk w3 (w.heap.size) 26 #[.int .i64 0, .int .i64 0] := blk_drawn hd (by (repeat (first | with_reducible assumption | with_reducible exact Blk.new _ _ _ | with_reducible exact blk_new_atC _ _ _ _ (by first | rfl | simp) | (with_reducible refine Blk.alloc ?_ _)))) (by omega)
  clear hd
  cases u
  · skip
    have cr0 := HBr_3.cell 0; have fr0 := HBr_3.frozen 0
    have cr1 := HBr_3.cell 1; have fr1 := HBr_3.frozen 1
    simp at cr0 cr1
    go_wp2
    refine bodyPost_ret (v := .agg #[.int .i64 x, .int .i64 y]) (by simp [results, Try.results65, go_sem, cr0, cr1]) rfl ⟨x, y, rfl, ⟨by omega, by omega⟩, grown_setNew (grown_setNew HG3 (p := ⟨w.heap.size, 0, none⟩) (Nat.le_refl _) _) (p := ⟨w.heap.size, 1, none⟩) (Nat.le_refl _) _, Cur.more (M := M + 6) ((HC3.setCell (p := ⟨w.heap.size, 0, none⟩) hcb _).setCell (p := ⟨w.heap.size, 1, none⟩) hcb _) (by omega)⟩
  · skip
    go_wp2_with fail
    refine (spec_amongY cb K (M + 6) [-1, 1000] (-1) 1000 _ _ _ rfl (by decide) (by decide) (by decide) _ rfl (blk_new_atC _ _ _ _ (by first | rfl | simp)) (by first | omega | (simp; omega)) (by omega) (by (repeat (first | with_reducible assumption | (with_reducible refine Cur.alloc ?_ _) | (with_reducible refine Cur.setCell ?_ (by (first | with_reducible assumption | omega | (simp; done) | (simp; omega))) _))))).mono ?_
    rintro e w4 ⟨z, rfl, zl, zh, hd⟩
    have HG4 : w.grownBy w4 (some cb) := World.grownBy.trans (by (repeat (first | with_reducible assumption | (with_reducible refine World.grownBy.trans ?_ (World.grownBy_alloc _ _ _)) | (with_reducible refine grown_setNew ?_ (by (first | with_reducible assumption | omega | (simp; done) | (simp; omega))) _) | with_reducible exact grown_refl _ _))) hd.1
    have HC4 : Cur w4 cb K (M + 8) := hd.2.more (by omega)
    have hz4 : w.heap.size ≤ w4.heap.size := HG4.size
    have hs4 : w3.heap.size ≤ w4.heap.size := by have := hd.1.size; (try simp only [World.size_alloc, World.size_setCell] at this); omega
    have hcb4 := HC4.lt
    have HBr_4 : Blk w4 (w.heap.size) 26 #[.int .i64 0, .int .i64 0] := blk_drawn hd (by (repeat (first | with_reducible assumption | with_reducible exact Blk.new _ _ _ | with_reducible exact blk_new_atC _ _ _ _ (by first | rfl | simp) | (with_reducible refine Blk.alloc ?_ _)))) (by omega)
    clear hd
    have cr0 := HBr_4.cell 0; have fr0 := HBr_4.frozen 0
    have cr1 := HBr_4.cell 1; have fr1 := HBr_4.frozen 1
    simp at cr0 cr1
    go_wp2
    refine bodyPost_ret (v := .agg #[.int .i64 z, .int .i64 y]) (by simp [results, Try.results65, go_sem, cr0, cr1]) rfl ⟨z, y, rfl, ⟨by omega, by omega⟩, grown_setNew (grown_setNew HG4 (p := ⟨w.heap.size, 0, none⟩) (Nat.le_refl _) _) (p := ⟨w.heap.size, 1, none⟩) (Nat.le_refl _) _, Cur.more (M := M + 8) ((HC4.setCell (p := ⟨w.heap.size, 0, none⟩) hcb _).setCell (p := ⟨w.heap.size, 1, none⟩) hcb _) (by omega)⟩
end Go.Proofs.Ytbpeamjgddikjaa
