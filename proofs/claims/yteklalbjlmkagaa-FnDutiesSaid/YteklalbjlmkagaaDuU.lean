/- Chapter 17: the draw of a duty. -/
import Derived.Test.YteklalbjlmkagaaFdA
import Derived.Test.YteklalbjlmkagaaDuO
import Derived.Test.YteklalbjlmkagaaNum
import Derived.Deep.RegionHeld3
import Derived.IntWalk
namespace Go.Proofs.Yteklalbjlmkagaa
open Go.RowKit
set_option linter.unusedVariables false
set_option linter.unusedSimpArgs false

theorem sd_blk {w : World} {g : Nat} {t : TypeId} {a b c d : Value} (h : Blk w g t #[a, b, c, d]) : g < w.heap.size ∧ w.cell? ⟨g, 1, none⟩ = some b := ⟨h.lt, by rw [h.cell]; rfl⟩
theorem sd_alloc {w : World} {g : Nat} {b : Value} (o : Obj) (h : g < w.heap.size ∧ w.cell? ⟨g, 1, none⟩ = some b) : g < (w.alloc o).heap.size ∧ (w.alloc o).cell? ⟨g, 1, none⟩ = some b :=
  ⟨by simp; omega, (World.cell?_alloc_lt w o ⟨g, 1, none⟩ h.1).trans h.2⟩
theorem sd_set {w : World} {g : Nat} {b : Value} (v : Value) (h : g < w.heap.size ∧ w.cell? ⟨g, 1, none⟩ = some b) : g < (w.setCell ⟨g, 2, none⟩ v).heap.size ∧ (w.setCell ⟨g, 2, none⟩ v).cell? ⟨g, 1, none⟩ = some b := by
  have h0 : (⟨g, 2, none⟩ : Addr) ≠ ⟨g, 1, none⟩ := by intro e; injection e with _ e _; omega
  exact ⟨by simpa [World.setCell] using h.1, (show (w.setCell ⟨g, 2, none⟩ v).cell? ⟨g, 1, none⟩ = w.cell? ⟨g, 1, none⟩ by first | exact World.cell?_setCell_other h0 | exact World.cell?_setCell_other _ h0 | exact World.cell?_setCell_other _ _ h0 | exact World.cell?_setCell_other _ _ _ h0 | exact World.cell?_setCell_other _ _ _ _ h0).trans h.2⟩
theorem blk_set_to {w : World} {g : Nat} {t : TypeId} {cs cs' : Array Value} (h : Blk w g t cs) (i : Nat) (v : Value) (e : cs.setIfInBounds i v = cs') : Blk (w.setCell ⟨g, i, none⟩ v) g t cs' := e ▸ h.set_ i v
theorem blk_set_far {w : World} {g b i : Nat} {t : TypeId} {cs : Array Value} (h : Blk w g t cs) (hne : g ≠ b) (v : Value) : Blk (w.setCell ⟨b, i, none⟩ v) g t cs := (Below.heap_setCell w ⟨b, i, none⟩ v g hne).trans h
theorem Cur.drew {w : World} {cb M : Nat} {K : Code} (h : Cur w cb K M) : Cur w.drew cb K M := h.on (Below.refl _ _).drew
theorem blk_drewC {w : World} {g : Nat} {t : TypeId} {cs : Array Value} (h : Blk w g t cs) : Blk w.drew g t cs := h
set_option maxHeartbeats 4000000 in
set_option maxRecDepth 100000 in
theorem spec_dutyD (cb : Nat) (K : Code) (M : Nat) (w : World) (hM : M ≤ 900000000000) (h : Cur w cb K M) :
    Calls Try.prog 42 #[.pointer (some ⟨cb, 0, none⟩)] w fun e w' => ∃ d : Du, e = .returned (.agg #[.int .i64 d.who, .int .i64 d.beg, .int .i64 d.fin, .bool d.chief]) ∧ WhoOk d ∧ Drawn w cb K (M + 14) w' := by
  have hcb := h.lt
  go_enter Try.func42, Try.ntmps42
  go_wp2_with fail
  refine (spec_amongY cb K M [1, 2, 2, 3, 50] 1 50 _ _ _ rfl (by decide) (by decide) (by decide) _ rfl (blk_new_atC _ _ _ _ (by first | rfl | simp)) (by first | omega | (simp; omega)) (by omega) ((h.alloc _).alloc _)).mono ?_
  rintro e w1 ⟨a, rfl, a0, a1, hd1⟩
  have HG1 : w.grownBy w1 (some cb) := World.grownBy.trans (by (repeat (first | with_reducible assumption | (with_reducible refine World.grownBy.trans ?_ (World.grownBy_alloc _ _ _)) | (with_reducible refine grown_setNew ?_ (by (first | with_reducible assumption | omega | (simp; done) | (simp; omega))) _) | with_reducible exact grown_refl _ _))) hd1.1
  have HC1 := hd1.2
  have HR1 : Blk w1 w.heap.size 39 #[.int .i64 0, .int .i64 0, .int .i64 0, .bool false] := blk_drawn hd1 ((Blk.new _ _ _).alloc _) hcb
  have hs1 := HG1.size
  clear hd1
  go_wp2_with fail
  refine (spec_amongY cb K (M + 2) [0, 6, 6, 8, 14, 20, 22, 30, 9987] 0 9987 _ _ _ rfl (by decide) (by decide) (by decide) _ rfl (blk_new_atC _ _ _ _ (by first | rfl | simp)) (by first | omega | (simp; omega)) (by omega) (HC1.alloc _)).mono ?_
  rintro e w2 ⟨b, rfl, b0, b1, hd2⟩
  have HG2 : w.grownBy w2 (some cb) := (HG1.trans (World.grownBy_alloc _ _ _)).trans hd2.1
  have HC2 := hd2.2
  have HR2 := blk_drawn hd2 (HR1.alloc _) hcb
  clear hd2 HR1 HC1 HG1 hs1
  go_wp2_with fail
  refine (spec_one cb K (M + 2 + 2) 3 _ (by omega) (by omega) HC2).mono ?_
  rintro e w3 ⟨u, rfl, hd3⟩
  have HG3 := HG2.trans hd3.1
  have HC3 := hd3.2
  have HR3 := blk_drawn hd3 HR2 hcb
  have hs3 := HG3.size
  have hrl := HR3.lt
  clear hd3 HR2 HC2 HG2
  have HQ : Blk (w3.alloc (.cells #[.int .i64 a, .int .i64 b, .int .i64 0, .bool u] 39)) w3.heap.size 39 #[.int .i64 a, .int .i64 b, .int .i64 0, .bool u] := Blk.new _ _ _
  have hS0 := sd_blk (blk_drewC HQ)
  go_wp2_with fail
  go_region_held3 (fun w' => w3.heap.size < w'.heap.size ∧ w'.cell? ⟨w3.heap.size, 1, none⟩ = some (.int .i64 b)) (first | assumption | exact sd_alloc _ (by assumption) | exact sd_set _ (by assumption)) (first
    | ((go_at_call 34); (refine (spec_amongY cb K (M + 6) [1, 4, 6, 8, 12] 1 12 _ _ _ rfl (by decide) (by decide) (by decide) _ rfl (blk_drewC (blk_new_atC _ _ _ _ (by first | rfl | simp))) (by first | omega | (simp; omega)) (by omega) (Cur.drew ((HC3.more (M' := M + 6) (by omega)).alloc _ |>.alloc _))).mono ?_); (rintro e w4 ⟨t, rfl, t0, t1, hd4⟩); (have HG4 : w.grownBy w4 (some cb) := (grown_drew ((HG3.trans (World.grownBy_alloc _ _ _)).trans (World.grownBy_alloc _ _ _))).trans hd4.1); (have HC4 := hd4.2); (have HR4 := blk_drawn hd4 (blk_drewC ((HR3.alloc _).alloc _)) hcb); (have HQ4 := blk_drawn hd4 (blk_drewC (HQ.alloc _)) (by omega)); (have hS3 := sd_blk HQ4); (have fq2 := HQ4.frozen 2); (have cq2 := HQ4.cell 2); (have hwt : IntKind.i64.wrap (b + t) = b + t := IntWalk.i64_in _ (by omega)); (simp at cq2)))
  have hs4 := HG4.size
  have hl4 := HQ4.lt
  obtain ⟨f, hf⟩ : ∃ f, b + t = f := ⟨_, rfl⟩
  have hf0 : 1 ≤ f ∧ f ≤ 9999 := by omega
  rw [hf]
  have HQ4' : Blk (w4.setCell ⟨w3.heap.size, 2, none⟩ (.int .i64 f)) w3.heap.size 39 #[.int .i64 a, .int .i64 b, .int .i64 f, .bool u] := blk_set_to HQ4 2 _ rfl
  have HR4' : Blk (w4.setCell ⟨w3.heap.size, 2, none⟩ (.int .i64 f)) w.heap.size 39 #[.int .i64 0, .int .i64 0, .int .i64 0, .bool false] := blk_set_far HR4 (by omega) _
  have HC4' : Cur (w4.setCell ⟨w3.heap.size, 2, none⟩ (.int .i64 f)) cb K (M + 8) := (HC4.setCell (p := ⟨w3.heap.size, 2, none⟩) (by show cb < w3.heap.size; omega) _).more (by omega)
  have HG4' : w.grownBy (w4.setCell ⟨w3.heap.size, 2, none⟩ (.int .i64 f)) (some cb) := grown_setNew HG4 (p := ⟨w3.heap.size, 2, none⟩) hs3 _
  clear HQ4 HR4 HC4 HG4 hS3 fq2 cq2 hS0 hd4 hwt hf HQ HR3 HC3 HG3
  go_wp2_with fail
  refine (spec_pick cb K (M + 8) 80 _ (by omega) (by omega) HC4').mono ?_
  rintro e w5 ⟨x, rfl, x0, _, _, hd5⟩
  have HG5 : w.grownBy w5 (some cb) := HG4'.trans hd5.1
  have HC5 := hd5.2
  have HR5 := blk_drawn hd5 HR4' hcb
  have HQ5 := blk_drawn hd5 HQ4' (by omega)
  have hs5 := HG5.size
  have hcq : cb < w3.heap.size := by omega
  have hl5 := HQ5.lt
  clear hd5 HG4' HC4' HR4' HQ4'
  by_cases e0 : x = 0
  · subst e0
    have c0 := HQ5.cell 0; have c1 := HQ5.cell 1; have c2 := HQ5.cell 2; have c3 := HQ5.cell 3
    simp at c0 c1 c2 c3
    go_wp2_with fail
    refine (spec_amongY cb K (M + 10) [0, 51] 0 51 _ _ _ rfl (by simp) (by simp) (by intro x hx; simp at hx; omega) _ rfl (blk_new_atC _ _ _ _ (by first | rfl | simp)) (by first | omega | (simp; omega)) (by omega) ((HC5.more (M' := M + 10) (by omega)).alloc _)).mono ?_
    rintro e w6 ⟨z, rfl, z0, z1, hd6⟩
    have HG6 : w.grownBy w6 (some cb) := (HG5.trans (World.grownBy_alloc _ _ _)).trans hd6.1
    have HC6 : Cur w6 cb K (M + 12) := hd6.2.more (by omega)
    have HR6 := blk_drawn hd6 (HR5.alloc _) hcb
    have HQ6 := blk_drawn hd6 (HQ5.alloc _) (by omega)
    have hs6 := HG6.size
    have hl6 := HQ6.lt
    clear hd6 HG5 HC5 HR5 HQ5 c0 c1 c2 c3
    have cr0 := HR6.cell 0; have fr0 := HR6.frozen 0
    have cr1 := HR6.cell 1; have fr1 := HR6.frozen 1
    have cr2 := HR6.cell 2; have fr2 := HR6.frozen 2
    have cr3 := HR6.cell 3; have fr3 := HR6.frozen 3
    have cq0 := HQ6.cell 0; have fq0 := HQ6.frozen 0
    have cq1 := HQ6.cell 1; have fq1 := HQ6.frozen 1
    have cq2 := HQ6.cell 2; have fq2 := HQ6.frozen 2
    have cq3 := HQ6.cell 3; have fq3 := HQ6.frozen 3
    simp at cr0 cr1 cr2 cr3 cq0 cq1 cq2 cq3
    have hneq : ¬ w3.heap.size = w.heap.size := by omega
    have hnfq : ¬ w.heap.size = w3.heap.size := by omega
    go_wp2
    refine bodyPost_ret (v := .agg #[.int .i64 z, .int .i64 b, .int .i64 f, .bool u]) (by simp [results, Try.results42, go_sem, cr0, cr1, cr2, cr3, hneq, hnfq]) rfl ⟨⟨z, b, f, u⟩, rfl, ⟨by show (0 : Int) ≤ z; omega, by show z ≤ (100 : Int); omega⟩, grown_set4 (grown_setNew HG6 (p := ⟨w3.heap.size, 0, none⟩) hs3 _) (Nat.le_refl _) _ _ _ _, Cur.more (M := M + 12) (Cur.set4 (HC6.setCell (p := ⟨w3.heap.size, 0, none⟩) hcq _) hcb _ _ _ _) (by omega)⟩
  · have b0 : (x == 0) = false := by simp [e0]
    by_cases e1 : x = 1
    · subst e1
      have c0 := HQ5.cell 0; have c1 := HQ5.cell 1; have c2 := HQ5.cell 2; have c3 := HQ5.cell 3
      simp at c0 c1 c2 c3
      go_wp2_with fail
      refine (spec_amongY cb K (M + 10) [-1, f] (-1) 9999 _ _ _ rfl (by simp) (by simp) (by intro x hx; simp at hx; omega) _ rfl (blk_new_atC _ _ _ _ (by first | rfl | simp)) (by first | omega | (simp; omega)) (by omega) ((HC5.more (M' := M + 10) (by omega)).alloc _)).mono ?_
      rintro e w6 ⟨z, rfl, z0, z1, hd6⟩
      have HG6 : w.grownBy w6 (some cb) := (HG5.trans (World.grownBy_alloc _ _ _)).trans hd6.1
      have HC6 : Cur w6 cb K (M + 12) := hd6.2.more (by omega)
      have HR6 := blk_drawn hd6 (HR5.alloc _) hcb
      have HQ6 := blk_drawn hd6 (HQ5.alloc _) (by omega)
      have hs6 := HG6.size
      have hl6 := HQ6.lt
      clear hd6 HG5 HC5 HR5 HQ5 c0 c1 c2 c3
      have cr0 := HR6.cell 0; have fr0 := HR6.frozen 0
      have cr1 := HR6.cell 1; have fr1 := HR6.frozen 1
      have cr2 := HR6.cell 2; have fr2 := HR6.frozen 2
      have cr3 := HR6.cell 3; have fr3 := HR6.frozen 3
      have cq0 := HQ6.cell 0; have fq0 := HQ6.frozen 0
      have cq1 := HQ6.cell 1; have fq1 := HQ6.frozen 1
      have cq2 := HQ6.cell 2; have fq2 := HQ6.frozen 2
      have cq3 := HQ6.cell 3; have fq3 := HQ6.frozen 3
      simp at cr0 cr1 cr2 cr3 cq0 cq1 cq2 cq3
      have hneq : ¬ w3.heap.size = w.heap.size := by omega
      have hnfq : ¬ w.heap.size = w3.heap.size := by omega
      go_wp2
      refine bodyPost_ret (v := .agg #[.int .i64 a, .int .i64 z, .int .i64 f, .bool u]) (by simp [results, Try.results42, go_sem, cr0, cr1, cr2, cr3, hneq, hnfq]) rfl ⟨⟨a, z, f, u⟩, rfl, ⟨by show (0 : Int) ≤ a; omega, by show a ≤ (100 : Int); omega⟩, grown_set4 (grown_setNew HG6 (p := ⟨w3.heap.size, 1, none⟩) hs3 _) (Nat.le_refl _) _ _ _ _, Cur.more (M := M + 12) (Cur.set4 (HC6.setCell (p := ⟨w3.heap.size, 1, none⟩) hcq _) hcb _ _ _ _) (by omega)⟩
    · have b1 : (x == 1) = false := by simp [e1]
      by_cases e2 : x = 2
      · subst e2
        have hw13 : IntKind.i64.wrap (b + 13) = b + 13 := IntWalk.i64_in _ (by omega)
        have c0 := HQ5.cell 0; have c1 := HQ5.cell 1; have c2 := HQ5.cell 2; have c3 := HQ5.cell 3
        simp at c0 c1 c2 c3
        go_wp2_with fail
        refine (spec_amongY cb K (M + 10) [10000, b + 13] 0 10012 _ _ _ rfl (by simp) (by simp) (by intro x hx; simp at hx; omega) _ rfl (blk_new_atC _ _ _ _ (by first | rfl | simp)) (by first | omega | (simp; omega)) (by omega) ((HC5.more (M' := M + 10) (by omega)).alloc _)).mono ?_
        rintro e w6 ⟨z, rfl, z0, z1, hd6⟩
        have HG6 : w.grownBy w6 (some cb) := (HG5.trans (World.grownBy_alloc _ _ _)).trans hd6.1
        have HC6 : Cur w6 cb K (M + 12) := hd6.2.more (by omega)
        have HR6 := blk_drawn hd6 (HR5.alloc _) hcb
        have HQ6 := blk_drawn hd6 (HQ5.alloc _) (by omega)
        have hs6 := HG6.size
        have hl6 := HQ6.lt
        clear hd6 HG5 HC5 HR5 HQ5 c0 c1 c2 c3
        have cr0 := HR6.cell 0; have fr0 := HR6.frozen 0
        have cr1 := HR6.cell 1; have fr1 := HR6.frozen 1
        have cr2 := HR6.cell 2; have fr2 := HR6.frozen 2
        have cr3 := HR6.cell 3; have fr3 := HR6.frozen 3
        have cq0 := HQ6.cell 0; have fq0 := HQ6.frozen 0
        have cq1 := HQ6.cell 1; have fq1 := HQ6.frozen 1
        have cq2 := HQ6.cell 2; have fq2 := HQ6.frozen 2
        have cq3 := HQ6.cell 3; have fq3 := HQ6.frozen 3
        simp at cr0 cr1 cr2 cr3 cq0 cq1 cq2 cq3
        have hneq : ¬ w3.heap.size = w.heap.size := by omega
        have hnfq : ¬ w.heap.size = w3.heap.size := by omega
        go_wp2
        refine bodyPost_ret (v := .agg #[.int .i64 a, .int .i64 b, .int .i64 z, .bool u]) (by simp [results, Try.results42, go_sem, cr0, cr1, cr2, cr3, hneq, hnfq]) rfl ⟨⟨a, b, z, u⟩, rfl, ⟨by show (0 : Int) ≤ a; omega, by show a ≤ (100 : Int); omega⟩, grown_set4 (grown_setNew HG6 (p := ⟨w3.heap.size, 2, none⟩) hs3 _) (Nat.le_refl _) _ _ _ _, Cur.more (M := M + 12) (Cur.set4 (HC6.setCell (p := ⟨w3.heap.size, 2, none⟩) hcq _) hcb _ _ _ _) (by omega)⟩
      · have b2 : (x == 2) = false := by simp [e2]
        have HG6 := HG5; have HC6 := HC5; have HR6 := HR5; have HQ6 := HQ5
        have cr0 := HR6.cell 0; have fr0 := HR6.frozen 0
        have cr1 := HR6.cell 1; have fr1 := HR6.frozen 1
        have cr2 := HR6.cell 2; have fr2 := HR6.frozen 2
        have cr3 := HR6.cell 3; have fr3 := HR6.frozen 3
        have cq0 := HQ6.cell 0; have fq0 := HQ6.frozen 0
        have cq1 := HQ6.cell 1; have fq1 := HQ6.frozen 1
        have cq2 := HQ6.cell 2; have fq2 := HQ6.frozen 2
        have cq3 := HQ6.cell 3; have fq3 := HQ6.frozen 3
        simp at cr0 cr1 cr2 cr3 cq0 cq1 cq2 cq3
        have hneq : ¬ w3.heap.size = w.heap.size := by omega
        have hnfq : ¬ w.heap.size = w3.heap.size := by omega
        go_wp2
        refine bodyPost_ret (v := .agg #[.int .i64 a, .int .i64 b, .int .i64 f, .bool u]) (by simp [results, Try.results42, go_sem, cr0, cr1, cr2, cr3, hneq, hnfq]) rfl ⟨⟨a, b, f, u⟩, rfl, ⟨by show (0 : Int) ≤ a; omega, by show a ≤ (100 : Int); omega⟩, grown_set4 (HG6) (Nat.le_refl _) _ _ _ _, Cur.more (M := M + 10) (Cur.set4 (HC6) hcb _ _ _ _) (by omega)⟩
end Go.Proofs.Yteklalbjlmkagaa
