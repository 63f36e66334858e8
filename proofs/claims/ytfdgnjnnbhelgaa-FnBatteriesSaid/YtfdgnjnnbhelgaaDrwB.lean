/- The draw of a battery: made by batgen.py. -/
import Derived.Test.YtfdgnjnnbhelgaaDrwS
import Derived.Test.YtfdgnjnnbhelgaaNum
import Derived.Deep.RegionHeld3
namespace Go.Proofs.Ytfdgnjnnbhelgaa
open Go.RowKit
set_option linter.unusedVariables false
set_option linter.unusedSimpArgs false

/-- Two cells of the box of the battery that is being drawn. -/
theorem sc_blk {w : World} {g : Nat} {t : TypeId} {a b c d : Int} (h : Blk w g t #[.int .i64 a, .int .i64 b, .int .i64 c, .int .i64 d]) :
    g < w.heap.size ∧ w.cell? ⟨g, 0, none⟩ = some (.int .i64 a) ∧ w.cell? ⟨g, 2, none⟩ = some (.int .i64 c) :=
  ⟨h.lt, by rw [h.cell]; rfl, by rw [h.cell]; rfl⟩
theorem sc_alloc {w : World} {g : Nat} {a c : Int} (o : Obj) (h : g < w.heap.size ∧ w.cell? ⟨g, 0, none⟩ = some (.int .i64 a) ∧ w.cell? ⟨g, 2, none⟩ = some (.int .i64 c)) :
    g < (w.alloc o).heap.size ∧ (w.alloc o).cell? ⟨g, 0, none⟩ = some (.int .i64 a) ∧ (w.alloc o).cell? ⟨g, 2, none⟩ = some (.int .i64 c) :=
  ⟨by simp; omega, (World.cell?_alloc_lt w o ⟨g, 0, none⟩ h.1).trans h.2.1, (World.cell?_alloc_lt w o ⟨g, 2, none⟩ h.1).trans h.2.2⟩
theorem sc_set {w : World} {g : Nat} {a c : Int} (k : Nat) (v : Value) (hk : k = 1 ∨ k = 3) (h : g < w.heap.size ∧ w.cell? ⟨g, 0, none⟩ = some (.int .i64 a) ∧ w.cell? ⟨g, 2, none⟩ = some (.int .i64 c)) :
    g < (w.setCell ⟨g, k, none⟩ v).heap.size ∧ (w.setCell ⟨g, k, none⟩ v).cell? ⟨g, 0, none⟩ = some (.int .i64 a) ∧ (w.setCell ⟨g, k, none⟩ v).cell? ⟨g, 2, none⟩ = some (.int .i64 c) :=
by
  have h0 : (⟨g, k, none⟩ : Addr) ≠ ⟨g, 0, none⟩ := by intro e; injection e with _ e _; omega
  have h2 : (⟨g, k, none⟩ : Addr) ≠ ⟨g, 2, none⟩ := by intro e; injection e with _ e _; omega
  exact ⟨by simpa [World.setCell] using h.1, (show (w.setCell ⟨g, k, none⟩ v).cell? ⟨g, 0, none⟩ = w.cell? ⟨g, 0, none⟩ by first | exact World.cell?_setCell_other h0 | exact World.cell?_setCell_other _ h0 | exact World.cell?_setCell_other _ _ h0 | exact World.cell?_setCell_other _ _ _ h0 | exact World.cell?_setCell_other _ _ _ _ h0).trans h.2.1, (show (w.setCell ⟨g, k, none⟩ v).cell? ⟨g, 2, none⟩ = w.cell? ⟨g, 2, none⟩ by first | exact World.cell?_setCell_other h2 | exact World.cell?_setCell_other _ h2 | exact World.cell?_setCell_other _ _ h2 | exact World.cell?_setCell_other _ _ _ h2 | exact World.cell?_setCell_other _ _ _ _ h2).trans h.2.2⟩
theorem blk_set_to {w : World} {g : Nat} {t : TypeId} {cs cs' : Array Value} (h : Blk w g t cs) (i : Nat) (v : Value) (e : cs.setIfInBounds i v = cs') : Blk (w.setCell ⟨g, i, none⟩ v) g t cs' := e ▸ h.set_ i v
theorem blk_set_far {w : World} {g b i : Nat} {t : TypeId} {cs : Array Value} (h : Blk w g t cs) (hne : g ≠ b) (v : Value) : Blk (w.setCell ⟨b, i, none⟩ v) g t cs := (Below.heap_setCell w ⟨b, i, none⟩ v g hne).trans h
theorem Cur.drew {w : World} {cb M : Nat} {K : Code} (h : Cur w cb K M) : Cur w.drew cb K M := h.on (Below.refl _ _).drew
theorem blk_drewC {w : World} {g : Nat} {t : TypeId} {cs : Array Value} (h : Blk w g t cs) : Blk w.drew g t cs := h
set_option maxHeartbeats 4000000 in
set_option maxRecDepth 100000 in
theorem spec_amongB (cb : Nat) (K : Code) (M : Nat) (l : List Int) (lo hi : Int) (n g : Nat) (w : World) (hl : l.length = n) (h0 : 0 < n) (hn : n ≤ 1000) (hlo : ∀ x, x ∈ l → lo ≤ x ∧ x ≤ hi) (cs : Array Value) (hcs : cs = (l.map (Value.int .i64)).toArray) (hb : Blk w g 3 cs) (hg : cb < g) (hM : M ≤ 1000000000000) (h : Cur w cb K M) :
    Calls Try.prog 83 #[.pointer (some ⟨cb, 0, none⟩), .slice (some ⟨g, 0, none⟩) n n] w fun e w' => ∃ x : Int, e = .returned (.int .i64 x) ∧ lo ≤ x ∧ x ≤ hi ∧ Drawn w cb K (M + 2) w' := by
  subst hl hcs
  refine (spec_among cb K M _ _ _ _ w h0 (by omega) (arr_lit hb) (fun b o e => by injection e with e; injection e with e; omega) hM h).mono ?_
  rintro e w' ⟨j, hj, rfl, hd⟩
  have hm := hlo (l.getD j 0) (by simp [List.getD, hj])
  exact ⟨_, rfl, hm.1, hm.2, hd⟩
set_option maxHeartbeats 4000000 in
set_option maxRecDepth 100000 in
theorem spec_battery (cb : Nat) (K : Code) (M : Nat) (w : World) (hM : M ≤ 900000000000) (h : Cur w cb K M) :
    Calls Try.prog 76 #[.pointer (some ⟨cb, 0, none⟩)] w fun e w' => ∃ a b c d : Int, e = .returned (.agg #[.int .i64 a, .int .i64 b, .int .i64 c, .int .i64 d]) ∧ Drawn w cb K (M + 20) w' := by
  have hcb := h.lt
  go_enter Try.func76, Try.ntmps76
  go_wp2_with fail
  refine (spec_amongB cb K M [1, 100, 600, 600, 10000] 1 10000 _ _ _ rfl (by decide) (by decide) (by decide) _ rfl (blk_new_atC _ _ _ _ (by first | rfl | simp)) (by first | omega | (simp; omega)) (by omega) ((h.alloc _).alloc _)).mono ?_
  rintro e w1 ⟨a, rfl, a0, a1, hd1⟩
  have HG1 : w.grownBy w1 (some cb) := World.grownBy.trans (by (repeat (first | with_reducible assumption | (with_reducible refine World.grownBy.trans ?_ (World.grownBy_alloc _ _ _)) | (with_reducible refine grown_setNew ?_ (by (first | with_reducible assumption | omega | (simp; done) | (simp; omega))) _) | with_reducible exact grown_refl _ _))) hd1.1
  have HC1 := hd1.2
  have HR1 : Blk w1 w.heap.size 25 #[.int .i64 0, .int .i64 0, .int .i64 0, .int .i64 0] := blk_drawn hd1 ((Blk.new _ _ _).alloc _) hcb
  have hs1 := HG1.size
  clear hd1
  go_wp2_with fail
  refine (spec_amongB cb K (M + 2) [1, 50, 120, 500] 1 500 _ _ _ rfl (by decide) (by decide) (by decide) _ rfl (blk_new_atC _ _ _ _ (by first | rfl | simp)) (by first | omega | (simp; omega)) (by omega) (HC1.alloc _)).mono ?_
  rintro e w2 ⟨u, rfl, u0, u1, hd2⟩
  have HG2 : w.grownBy w2 (some cb) := (HG1.trans (World.grownBy_alloc _ _ _)).trans hd2.1
  have HC2 := hd2.2
  have HR2 := blk_drawn hd2 (HR1.alloc _) hcb
  have hs2 := HG2.size
  have hrl := HR2.lt
  clear hd2 HR1 HC1 HG1
  obtain ⟨m, hm⟩ : ∃ m : Int, Int.tdiv a 2 = m := ⟨_, rfl⟩
  have hm0 : 0 ≤ m := by rw [← hm]; exact Int.tdiv_nonneg (by omega) (by omega)
  have hm1 : m ≤ a := by rw [← hm]; exact Int.tdiv_le_self _ (by omega)
  obtain ⟨le, hle⟩ : ∃ v, min a u = v := ⟨_, rfl⟩
  have hle0 : 0 ≤ le ∧ le ≤ 10000 := by omega
  have HQ : Blk (w2.alloc (.cells #[.int .i64 a, .int .i64 0, .int .i64 u, .int .i64 0] 25)) w2.heap.size 25 #[.int .i64 a, .int .i64 0, .int .i64 u, .int .i64 0] := Blk.new _ _ _
  have hS0 := sc_blk (blk_drewC HQ)
  have hwm : IntKind.i64.wrap m = m := IntWalk.i64_in _ (by omega)
  have HLE := hide hle
  clear hle
  go_wp2_with fail
  go_region_held3 (fun w' => w2.heap.size < w'.heap.size ∧ w'.cell? ⟨w2.heap.size, 0, none⟩ = some (.int .i64 a) ∧ w'.cell? ⟨w2.heap.size, 2, none⟩ = some (.int .i64 u)) (first | assumption | exact sc_alloc _ (by assumption) | exact sc_set _ _ (.inl rfl) (by assumption) | exact sc_set _ _ (.inr rfl) (by assumption)) (first
    | (go_at_call 115; refine (spec_least _ _ _ HLE.out _).mono ?_; rintro e w' ⟨rfl, rfl⟩)
    | ((go_at_call 83); (refine (spec_amongB cb K (M + 4) [0, m, a, le] 0 10000 _ _ _ rfl (by simp) (by simp) (by intro x hx; simp at hx; omega) _ rfl (blk_drewC (blk_new_atC _ _ _ _ (by first | rfl | simp))) (by first | omega | (simp; omega)) (by omega) (Cur.drew ((HC2.alloc _).alloc _))).mono ?_); (rintro e w3 ⟨nw, rfl, n0, n1, hd3⟩); (have HG3 : w.grownBy w3 (some cb) := (grown_drew ((HG2.trans (World.grownBy_alloc _ _ _)).trans (World.grownBy_alloc _ _ _))).trans hd3.1); (have HC3 := hd3.2); (have HR3 := blk_drawn hd3 (blk_drewC ((HR2.alloc _).alloc _)) hcb); (have HQ3 := blk_drawn hd3 (blk_drewC (HQ.alloc _)) (by omega)); (have hS3 := sc_blk HQ3); (have fq1 := HQ3.frozen 1); (have cq1 := HQ3.cell 1); (simp at cq1)))
  have hs3 := HG3.size
  have hl3 := HQ3.lt
  have HQ3' : Blk (w3.setCell ⟨w2.heap.size, 1, none⟩ (.int .i64 nw)) w2.heap.size 25 #[.int .i64 a, .int .i64 nw, .int .i64 u, .int .i64 0] := blk_set_to HQ3 1 _ rfl
  have HR3' : Blk (w3.setCell ⟨w2.heap.size, 1, none⟩ (.int .i64 nw)) w.heap.size 25 #[.int .i64 0, .int .i64 0, .int .i64 0, .int .i64 0] := blk_set_far HR3 (by omega) _
  have HC3' : Cur (w3.setCell ⟨w2.heap.size, 1, none⟩ (.int .i64 nw)) cb K (M + 6) := (HC3.setCell (p := ⟨w2.heap.size, 1, none⟩) (by show cb < w2.heap.size; omega) _).more (by omega)
  have HG3' : w.grownBy (w3.setCell ⟨w2.heap.size, 1, none⟩ (.int .i64 nw)) (some cb) := grown_setNew HG3 (p := ⟨w2.heap.size, 1, none⟩) hs2 _
  have hS4 := sc_blk (blk_drewC HQ3')
  have hsz3 : (w3.setCell ⟨w2.heap.size, 1, none⟩ (.int .i64 nw)).heap.size = w3.heap.size := by simp [World.setCell]
  obtain ⟨l6, hl6⟩ : ∃ v, min a 60 = v := ⟨_, rfl⟩
  have hl60 : 0 ≤ l6 ∧ l6 ≤ 10000 := by omega
  have HL6 := hide hl6
  clear hl6 HQ3 HR3 HC3 HG3 hS3 fq1 cq1 hS0 hd3 HQ HR2 HC2 HG2
  go_wp2_with fail
  go_region_held3 (fun w' => w2.heap.size < w'.heap.size ∧ w'.cell? ⟨w2.heap.size, 0, none⟩ = some (.int .i64 a) ∧ w'.cell? ⟨w2.heap.size, 2, none⟩ = some (.int .i64 u)) (first | assumption | exact sc_alloc _ (by assumption) | exact sc_set _ _ (.inl rfl) (by assumption) | exact sc_set _ _ (.inr rfl) (by assumption)) (first
    | (go_at_call 115; refine (spec_least _ _ _ HL6.out _).mono ?_; rintro e w' ⟨rfl, rfl⟩)
    | ((go_at_call 83); (refine (spec_amongB cb K (M + 6) [0, 0, l6, a] 0 10000 _ _ _ rfl (by simp) (by simp) (by intro x hx; simp at hx; omega) _ rfl (blk_drewC (blk_new_atC _ _ _ _ (by first | rfl | simp))) (by first | omega | (simp; omega)) (by omega) (Cur.drew (HC3'.alloc _))).mono ?_); (rintro e w4 ⟨lw, rfl, y0, y1, hd4⟩); (have HG4 : w.grownBy w4 (some cb) := (grown_drew (HG3'.trans (World.grownBy_alloc _ _ _))).trans hd4.1); (have HC4 := hd4.2); (have HR4 := blk_drawn hd4 (blk_drewC (HR3'.alloc _)) hcb); (have HQ4 := blk_drawn hd4 (blk_drewC (HQ3'.alloc _)) (by omega)); (have hS5 := sc_blk HQ4); (have fq3 := HQ4.frozen 3); (have cq3 := HQ4.cell 3); (simp at cq3)))
  have hs4 := HG4.size
  have hl4 := HQ4.lt
  have HQ4' : Blk (w4.setCell ⟨w2.heap.size, 3, none⟩ (.int .i64 lw)) w2.heap.size 25 #[.int .i64 a, .int .i64 nw, .int .i64 u, .int .i64 lw] := blk_set_to HQ4 3 _ rfl
  have HR4' : Blk (w4.setCell ⟨w2.heap.size, 3, none⟩ (.int .i64 lw)) w.heap.size 25 #[.int .i64 0, .int .i64 0, .int .i64 0, .int .i64 0] := blk_set_far HR4 (by omega) _
  have HC4' : Cur (w4.setCell ⟨w2.heap.size, 3, none⟩ (.int .i64 lw)) cb K (M + 8) := (HC4.setCell (p := ⟨w2.heap.size, 3, none⟩) (by show cb < w2.heap.size; omega) _).more (by omega)
  have HG4' : w.grownBy (w4.setCell ⟨w2.heap.size, 3, none⟩ (.int .i64 lw)) (some cb) := grown_setNew HG4 (p := ⟨w2.heap.size, 3, none⟩) hs2 _
  clear HQ4 HR4 HC4 HG4 hS5 fq3 cq3 hS4 hd4 HQ3' HR3' HC3' HG3'
  go_wp2_with fail
  refine (spec_pick cb K (M + 8) 60 _ (by omega) (by omega) HC4').mono ?_
  rintro e w5 ⟨x, rfl, x0, _, _, hd5⟩
  have HG5 : w.grownBy w5 (some cb) := HG4'.trans hd5.1
  have HC5 := hd5.2
  have HR5 := blk_drawn hd5 HR4' hcb
  have HQ5 := blk_drawn hd5 HQ4' (by omega)
  have hs5 := HG5.size
  have hcq : cb < w2.heap.size := by omega
  have hl5 := HQ5.lt
  clear hd5 HG4' HC4' HR4' HQ4'
  by_cases e0 : x = 0
  · subst e0
    have c0 := HQ5.cell 0; have c1 := HQ5.cell 1; have c2 := HQ5.cell 2; have c3 := HQ5.cell 3
    simp at c0 c1 c2 c3
    go_wp2_with fail
    refine (spec_amongB cb K (M + 10) [0, 10001] 0 10001 _ _ _ rfl (by simp) (by simp) (by intro x hx; simp at hx; omega) _ rfl (blk_new_atC _ _ _ _ (by first | rfl | simp)) (by first | omega | (simp; omega)) (by omega) ((HC5.more (M' := M + 10) (by omega)).alloc _)).mono ?_
    rintro e w6 ⟨z, rfl, z0, z1, hd6⟩
    have HG6 : w.grownBy w6 (some cb) := (HG5.trans (World.grownBy_alloc _ _ _)).trans hd6.1
    have HC6 : Cur w6 cb K (M + 12) := hd6.2.more (by omega)
    have HR6 := blk_drawn hd6 (HR5.alloc _) hcb
    have HQ6 := blk_drawn hd6 (HQ5.alloc _) (by omega)
    have hs6 := HG6.size
    have hl6 := HQ6.lt
    clear hd6 HG5 HC5 HR5 HQ5 c0 c1 c2 c3
    have cr0 := HR6.cell 0; have fr0 := HR6.frozen 0
    have cr1 := HR6.cell 1; have fr1 := HR6.frozen 1
    have cr2 := HR6.cell 2; have fr2 := HR6.frozen 2
    have cr3 := HR6.cell 3; have fr3 := HR6.frozen 3
    have cq0 := HQ6.cell 0; have fq0 := HQ6.frozen 0
    have cq1 := HQ6.cell 1; have fq1 := HQ6.frozen 1
    have cq2 := HQ6.cell 2; have fq2 := HQ6.frozen 2
    have cq3 := HQ6.cell 3; have fq3 := HQ6.frozen 3
    simp at cr0 cr1 cr2 cr3 cq0 cq1 cq2 cq3
    have hneq : ¬ w2.heap.size = w.heap.size := by omega
    have hnfq : ¬ w.heap.size = w2.heap.size := by omega
    go_wp2
    refine bodyPost_ret (v := .agg #[.int .i64 z, .int .i64 nw, .int .i64 u, .int .i64 lw]) (by simp [results, Try.results76, go_sem, cr0, cr1, cr2, cr3, hneq, hnfq]) rfl ⟨_, _, _, _, rfl, grown_set4 (grown_setNew HG6 (p := ⟨w2.heap.size, 0, none⟩) hs2 _) (Nat.le_refl _) _ _ _ _, Cur.more (M := M + 12) (Cur.set4 (HC6.setCell (p := ⟨w2.heap.size, 0, none⟩) hcq _) hcb _ _ _ _) (by omega)⟩
  · have b0 : (x == 0) = false := by simp [e0]
    by_cases e1 : x = 1
    · subst e1
      have c0 := HQ5.cell 0; have c1 := HQ5.cell 1; have c2 := HQ5.cell 2; have c3 := HQ5.cell 3
      simp at c0 c1 c2 c3
      go_wp2_with fail
      refine (spec_amongB cb K (M + 10) [-1, a + 1] (-1) 10001 _ _ _ rfl (by simp) (by simp) (by intro x hx; simp at hx; omega) _ rfl (blk_new_atC _ _ _ _ (by first | rfl | simp)) (by first | omega | (simp; omega)) (by omega) ((HC5.more (M' := M + 10) (by omega)).alloc _)).mono ?_
      rintro e w6 ⟨z, rfl, z0, z1, hd6⟩
      have HG6 : w.grownBy w6 (some cb) := (HG5.trans (World.grownBy_alloc _ _ _)).trans hd6.1
      have HC6 : Cur w6 cb K (M + 12) := hd6.2.more (by omega)
      have HR6 := blk_drawn hd6 (HR5.alloc _) hcb
      have HQ6 := blk_drawn hd6 (HQ5.alloc _) (by omega)
      have hs6 := HG6.size
      have hl6 := HQ6.lt
      clear hd6 HG5 HC5 HR5 HQ5 c0 c1 c2 c3
      have cr0 := HR6.cell 0; have fr0 := HR6.frozen 0
      have cr1 := HR6.cell 1; have fr1 := HR6.frozen 1
      have cr2 := HR6.cell 2; have fr2 := HR6.frozen 2
      have cr3 := HR6.cell 3; have fr3 := HR6.frozen 3
      have cq0 := HQ6.cell 0; have fq0 := HQ6.frozen 0
      have cq1 := HQ6.cell 1; have fq1 := HQ6.frozen 1
      have cq2 := HQ6.cell 2; have fq2 := HQ6.frozen 2
      have cq3 := HQ6.cell 3; have fq3 := HQ6.frozen 3
      simp at cr0 cr1 cr2 cr3 cq0 cq1 cq2 cq3
      have hneq : ¬ w2.heap.size = w.heap.size := by omega
      have hnfq : ¬ w.heap.size = w2.heap.size := by omega
      go_wp2
      refine bodyPost_ret (v := .agg #[.int .i64 a, .int .i64 z, .int .i64 u, .int .i64 lw]) (by simp [results, Try.results76, go_sem, cr0, cr1, cr2, cr3, hneq, hnfq]) rfl ⟨_, _, _, _, rfl, grown_set4 (grown_setNew HG6 (p := ⟨w2.heap.size, 1, none⟩) hs2 _) (Nat.le_refl _) _ _ _ _, Cur.more (M := M + 12) (Cur.set4 (HC6.setCell (p := ⟨w2.heap.size, 1, none⟩) hcq _) hcb _ _ _ _) (by omega)⟩
    · have b1 : (x == 1) = false := by simp [e1]
      by_cases e2 : x = 2
      · subst e2
        have c0 := HQ5.cell 0; have c1 := HQ5.cell 1; have c2 := HQ5.cell 2; have c3 := HQ5.cell 3
        simp at c0 c1 c2 c3
        go_wp2_with fail
        refine (spec_amongB cb K (M + 10) [0, 501] 0 501 _ _ _ rfl (by simp) (by simp) (by intro x hx; simp at hx; omega) _ rfl (blk_new_atC _ _ _ _ (by first | rfl | simp)) (by first | omega | (simp; omega)) (by omega) ((HC5.more (M' := M + 10) (by omega)).alloc _)).mono ?_
        rintro e w6 ⟨z, rfl, z0, z1, hd6⟩
        have HG6 : w.grownBy w6 (some cb) := (HG5.trans (World.grownBy_alloc _ _ _)).trans hd6.1
        have HC6 : Cur w6 cb K (M + 12) := hd6.2.more (by omega)
        have HR6 := blk_drawn hd6 (HR5.alloc _) hcb
        have HQ6 := blk_drawn hd6 (HQ5.alloc _) (by omega)
        have hs6 := HG6.size
        have hl6 := HQ6.lt
        clear hd6 HG5 HC5 HR5 HQ5 c0 c1 c2 c3
        have cr0 := HR6.cell 0; have fr0 := HR6.frozen 0
        have cr1 := HR6.cell 1; have fr1 := HR6.frozen 1
        have cr2 := HR6.cell 2; have fr2 := HR6.frozen 2
        have cr3 := HR6.cell 3; have fr3 := HR6.frozen 3
        have cq0 := HQ6.cell 0; have fq0 := HQ6.frozen 0
        have cq1 := HQ6.cell 1; have fq1 := HQ6.frozen 1
        have cq2 := HQ6.cell 2; have fq2 := HQ6.frozen 2
        have cq3 := HQ6.cell 3; have fq3 := HQ6.frozen 3
        simp at cr0 cr1 cr2 cr3 cq0 cq1 cq2 cq3
        have hneq : ¬ w2.heap.size = w.heap.size := by omega
        have hnfq : ¬ w.heap.size = w2.heap.size := by omega
        go_wp2
        refine bodyPost_ret (v := .agg #[.int .i64 a, .int .i64 nw, .int .i64 z, .int .i64 lw]) (by simp [results, Try.results76, go_sem, cr0, cr1, cr2, cr3, hneq, hnfq]) rfl ⟨_, _, _, _, rfl, grown_set4 (grown_setNew HG6 (p := ⟨w2.heap.size, 2, none⟩) hs2 _) (Nat.le_refl _) _ _ _ _, Cur.more (M := M + 12) (Cur.set4 (HC6.setCell (p := ⟨w2.heap.size, 2, none⟩) hcq _) hcb _ _ _ _) (by omega)⟩
      · have b2 : (x == 2) = false := by simp [e2]
        by_cases e3 : x = 3
        · subst e3
          have c0 := HQ5.cell 0; have c1 := HQ5.cell 1; have c2 := HQ5.cell 2; have c3 := HQ5.cell 3
          simp at c0 c1 c2 c3
          go_wp2_with fail
          refine (spec_amongB cb K (M + 10) [-1, a + 1] (-1) 10001 _ _ _ rfl (by simp) (by simp) (by intro x hx; simp at hx; omega) _ rfl (blk_new_atC _ _ _ _ (by first | rfl | simp)) (by first | omega | (simp; omega)) (by omega) ((HC5.more (M' := M + 10) (by omega)).alloc _)).mono ?_
          rintro e w6 ⟨z, rfl, z0, z1, hd6⟩
          have HG6 : w.grownBy w6 (some cb) := (HG5.trans (World.grownBy_alloc _ _ _)).trans hd6.1
          have HC6 : Cur w6 cb K (M + 12) := hd6.2.more (by omega)
          have HR6 := blk_drawn hd6 (HR5.alloc _) hcb
          have HQ6 := blk_drawn hd6 (HQ5.alloc _) (by omega)
          have hs6 := HG6.size
          have hl6 := HQ6.lt
          clear hd6 HG5 HC5 HR5 HQ5 c0 c1 c2 c3
          have cr0 := HR6.cell 0; have fr0 := HR6.frozen 0
          have cr1 := HR6.cell 1; have fr1 := HR6.frozen 1
          have cr2 := HR6.cell 2; have fr2 := HR6.frozen 2
          have cr3 := HR6.cell 3; have fr3 := HR6.frozen 3
          have cq0 := HQ6.cell 0; have fq0 := HQ6.frozen 0
          have cq1 := HQ6.cell 1; have fq1 := HQ6.frozen 1
          have cq2 := HQ6.cell 2; have fq2 := HQ6.frozen 2
          have cq3 := HQ6.cell 3; have fq3 := HQ6.frozen 3
          simp at cr0 cr1 cr2 cr3 cq0 cq1 cq2 cq3
          have hneq : ¬ w2.heap.size = w.heap.size := by omega
          have hnfq : ¬ w.heap.size = w2.heap.size := by omega
          go_wp2
          refine bodyPost_ret (v := .agg #[.int .i64 a, .int .i64 nw, .int .i64 u, .int .i64 z]) (by simp [results, Try.results76, go_sem, cr0, cr1, cr2, cr3, hneq, hnfq]) rfl ⟨_, _, _, _, rfl, grown_set4 (grown_setNew HG6 (p := ⟨w2.heap.size, 3, none⟩) hs2 _) (Nat.le_refl _) _ _ _ _, Cur.more (M := M + 12) (Cur.set4 (HC6.setCell (p := ⟨w2.heap.size, 3, none⟩) hcq _) hcb _ _ _ _) (by omega)⟩
        · have b3 : (x == 3) = false := by simp [e3]
          have HC6 : Cur w5 cb K (M + 12) := HC5.more (by omega)
          have cr0 := HR5.cell 0; have fr0 := HR5.frozen 0
          have cr1 := HR5.cell 1; have fr1 := HR5.frozen 1
          have cr2 := HR5.cell 2; have fr2 := HR5.frozen 2
          have cr3 := HR5.cell 3; have fr3 := HR5.frozen 3
          have cq0 := HQ5.cell 0; have fq0 := HQ5.frozen 0
          have cq1 := HQ5.cell 1; have fq1 := HQ5.frozen 1
          have cq2 := HQ5.cell 2; have fq2 := HQ5.frozen 2
          have cq3 := HQ5.cell 3; have fq3 := HQ5.frozen 3
          simp at cr0 cr1 cr2 cr3 cq0 cq1 cq2 cq3
          have hneq : ¬ w2.heap.size = w.heap.size := by omega
          have hnfq : ¬ w.heap.size = w2.heap.size := by omega
          go_wp2
          refine bodyPost_ret (v := .agg #[.int .i64 a, .int .i64 nw, .int .i64 u, .int .i64 lw]) (by simp [results, Try.results76, go_sem, cr0, cr1, cr2, cr3, hneq, hnfq]) rfl ⟨_, _, _, _, rfl, grown_set4 HG5 (Nat.le_refl _) _ _ _ _, Cur.more (M := M + 12) (Cur.set4 HC6 hcb _ _ _ _) (by omega)⟩
end Go.Proofs.Ytfdgnjnnbhelgaa

