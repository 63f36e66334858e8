/- Chapter 23: urgent errands first, both sides. -/
import Derived.Test.YtfdgnjnnbhelgaaVisQ
import Derived.StillTailTactics
namespace Go.Proofs.Ytfdgnjnnbhelgaa
open Go.RowKit
set_option linter.unusedVariables false
set_option linter.unusedSimpArgs false

def rkU (n : Nat) (X : Nat → Nat → Int) (i : Nat) : Int := if i < n then X i 2 else 0
def hrU (n : Nat) (X : Nat → Nat → Int) (i : Nat) : Int := if i < n then X i 1 else 1
def keyU (n : Nat) (X : Nat → Nat → Int) (i : Nat) : Int := rkU n X i * 12 + hrU n X i
def cmpU (n : Nat) (X : Nat → Nat → Int) (a b : Nat) : Int := if cmpI (rkU n X a) (rkU n X b) ≠ 0 then cmpI (rkU n X a) (rkU n X b) else cmpI (hrU n X a) (hrU n X b)
theorem cmpI_nil {a b : Int} : cmpI a b = 0 ↔ a = b := by unfold cmpI; split <;> (try split) <;> omega
theorem hrU_bd {n : Nat} {X : Nat → Nat → Int} (h : ∀ i, i < n → errOk X i) (i : Nat) : 1 ≤ hrU n X i ∧ hrU n X i ≤ 12 := by
  unfold hrU; split
  · have := err_of (h i ‹_›); omega
  · omega
theorem keyU_lt {n : Nat} {X : Nat → Nat → Int} (h : ∀ i, i < n → errOk X i) (a b : Nat) : keyU n X a < keyU n X b ↔ cmpU n X a b < 0 := by
  have ha := hrU_bd h a; have hb := hrU_bd h b
  have e0 := @cmpI_nil (rkU n X a) (rkU n X b)
  have e1 := @cmpI_lt (rkU n X a) (rkU n X b)
  have e2 := @cmpI_lt (hrU n X a) (hrU n X b)
  unfold keyU cmpU
  split <;> omega
theorem keyU_in {n : Nat} {X : Nat → Nat → Int} (h : ∀ i, i < n → errOk X i) {i : Nat} (hi : i < n) : keyU n X i = X i 2 * 12 + X i 1 ∧ 13 ≤ keyU n X i ∧ keyU n X i < 13 + (60 : Nat) := by
  have := err_of (h i hi)
  unfold keyU rkU hrU
  rw [if_pos hi, if_pos hi]
  omega
/-- One errand more, if there are hours for it. -/
def stepU (X : Nat → Nat → Int) (H : Int) (s : List Nat × Int) (i : Nat) : List Nat × Int := if s.2 + 1 + X i 1 ≤ H then (s.1 ++ [i], s.2 + 1 + X i 1) else s
def urgS (X : Nat → Nat → Int) (H : Int) (l : List Nat) : List Nat × Int := l.foldl (stepU X H) ([], 0)
theorem urgS_snoc (X : Nat → Nat → Int) (H : Int) (l : List Nat) (i : Nat) : urgS X H (l ++ [i]) = stepU X H (urgS X H l) i := by simp [urgS]
theorem urgS_yes {X : Nat → Nat → Int} {H : Int} {l : List Nat} {i : Nat} {z : Int} (hz : z = (urgS X H l).2) (h : z + 1 + X i 1 ≤ H) : urgS X H (l ++ [i]) = ((urgS X H l).1 ++ [i], z + 1 + X i 1) := by
  subst hz; rw [urgS_snoc, stepU, if_pos h]
theorem urgS_no {X : Nat → Nat → Int} {H : Int} {l : List Nat} {i : Nat} {z : Int} (hz : z = (urgS X H l).2) (h : ¬ z + 1 + X i 1 ≤ H) : urgS X H (l ++ [i]) = urgS X H l := by
  subst hz; rw [urgS_snoc, stepU, if_neg h]
theorem foldU_bd {X : Nat → Nat → Int} {H : Int} : ∀ (l : List Nat) (s : List Nat × Int), (∀ i, i ∈ l → 0 ≤ X i 1) → 0 ≤ s.2 → s.2 ≤ H → 0 ≤ (l.foldl (stepU X H) s).2 ∧ (l.foldl (stepU X H) s).2 ≤ H ∧ (l.foldl (stepU X H) s).1.length ≤ s.1.length + l.length
  | [], s, _, h1, h2 => ⟨h1, h2, by simp⟩
  | i :: l, s, hx, h1, h2 => by
    have hi := hx i (by simp)
    have h3 : 0 ≤ (stepU X H s i).2 ∧ (stepU X H s i).2 ≤ H ∧ (stepU X H s i).1.length ≤ s.1.length + 1 := by
      unfold stepU; split
      · simp; omega
      · omega
    have := foldU_bd l (stepU X H s i) (fun j hj => hx j (by simp [hj])) h3.1 h3.2.1
    simp only [List.foldl_cons, List.length_cons]; omega
theorem urgS_bd {X : Nat → Nat → Int} {H : Int} (hH : 0 ≤ H) {l : List Nat} (hx : ∀ i, i ∈ l → 0 ≤ X i 1) : 0 ≤ (urgS X H l).2 ∧ (urgS X H l).2 ≤ H ∧ (urgS X H l).1.length ≤ l.length := by
  have := foldU_bd (X := X) (H := H) l ([], 0) hx (Int.le_refl _) hH
  simpa [urgS] using this
/-- Where the reference is: all of the buckets below V, and of bucket V those below i. -/
def preU (n : Nat) (X : Nat → Nat → Int) (V i : Nat) : List Nat := bks (keyU n X) 13 n V ++ (List.range i).filter fun j => decide (keyU n X j = 13 + V)
theorem preU_mem {n : Nat} {X : Nat → Nat → Int} {V i x : Nat} (hi : i ≤ n) (h : x ∈ preU n X V i) : x < n := by
  unfold preU at h
  rw [List.mem_append] at h
  rcases h with h | h
  · exact (bks_lt h).2
  · simp only [List.mem_filter, List.mem_range] at h; omega
theorem preU_zero (n : Nat) (X : Nat → Nat → Int) (V : Nat) : preU n X V 0 = bks (keyU n X) 13 n V := by simp [preU]
theorem preU_yes {n : Nat} {X : Nat → Nat → Int} {V i : Nat} (h : keyU n X i = 13 + V) : preU n X V (i + 1) = preU n X V i ++ [i] := by
  unfold preU; rw [List.range_succ, List.filter_append]; simp [h]
theorem preU_no {n : Nat} {X : Nat → Nat → Int} {V i : Nat} (h : ¬ keyU n X i = 13 + V) : preU n X V (i + 1) = preU n X V i := by
  unfold preU; rw [List.range_succ, List.filter_append]; simp [h]
theorem preU_end (n : Nat) (X : Nat → Nat → Int) (V : Nat) : preU n X V n = preU n X (V + 1) 0 := by rw [preU_zero]; rfl
def urgL (n : Nat) (X : Nat → Nat → Int) (H : Int) : List Nat := (urgS X H (insL (keyU n X) n)).1
theorem urg_all {n : Nat} {X : Nat → Nat → Int} (h : ∀ i, i < n → errOk X i) : insL (keyU n X) n = bks (keyU n X) 13 n 60 := bks_len fun i hi => by have := keyU_in h hi; omega
theorem urgL_len {n : Nat} {X : Nat → Nat → Int} {H : Int} (hH : 0 ≤ H) (h : ∀ i, i < n → errOk X i) : (urgL n X H).length ≤ n := by
  have := (urgS_bd (X := X) hH (l := insL (keyU n X) n) (fun i hi => by have := err_of (h i (mem_insL.1 hi)); omega)).2.2
  rw [insL_len] at this
  exact this

theorem foldU_len {X : Nat → Nat → Int} {H : Int} : ∀ (l : List Nat) (s : List Nat × Int), (l.foldl (stepU X H) s).1.length ≤ s.1.length + l.length
  | [], s => by simp
  | i :: l, s => by
    have h3 : (stepU X H s i).1.length ≤ s.1.length + 1 := by
      unfold stepU; split
      · simp
      · omega
    have := foldU_len (X := X) (H := H) l (stepU X H s i)
    simp only [List.foldl_cons, List.length_cons]; omega
theorem urgL_le (n : Nat) (X : Nat → Nat → Int) (H : Int) : (urgL n X H).length ≤ n := by
  have := foldU_len (X := X) (H := H) (insL (keyU n X) n) ([], 0)
  rw [insL_len] at this
  simpa [urgL, urgS] using this
/-! the program's order -/
theorem or2 (a b : Int) : OrOk (fun i => if i = 0 then a else b) 2 (if a ≠ 0 then a else b) := by
  by_cases h0 : a ≠ 0
  · rw [if_pos h0]; exact .inl ⟨0, by omega, rfl, h0, by omega⟩
  · rw [if_neg h0]
    have e0 : a = 0 := by omega
    by_cases h1 : b ≠ 0
    · exact .inl ⟨1, by omega, rfl, h1, fun j hj => by obtain rfl : j = 0 := (by omega); exact e0⟩
    · exact .inr ⟨by omega, fun j hj => by rcases (by omega : j = 0 ∨ j = 1) with rfl | rfl; exact e0; show b = 0; omega⟩
theorem arr2 {W : World} {g : Nat} {t : TypeId} {a b : Int} (hb : Blk W g t #[.int .i64 a, .int .i64 b]) : Arr W W.heap.size (some ⟨g, 0, none⟩) 2 1 (iv fun i _ => if i = 0 then a else b) := by
  intro _
  refine ⟨g, 0, rfl, hb.lt, fun i j hi hj => ?_⟩
  obtain rfl : j = 0 := by omega
  rcases (by omega : i = 0 ∨ i = 1) with rfl | rfl
  · exact hb.cell 0
  · exact hb.cell 1
theorem blk_drewU {X : World} {t : TypeId} {cs : Array Value} {g : Nat} (h : g = X.heap.size) : Blk (X.alloc (.cells cs t)).drew g t cs := by
  subst h; exact Blk.new X t cs
set_option maxHeartbeats 2000000 in
set_option maxRecDepth 100000 in
theorem by_urgent (a0 a1 a2 a3 b0 b1 b2 b3 v : Int) (hv : (if cmpI a2 b2 ≠ 0 then cmpI a2 b2 else cmpI a1 b1) = v) (w : World) :
    Calls Try.prog 105 #[.agg #[.int .i64 a0, .int .i64 a1, .int .i64 a2, .int .i64 a3], .agg #[.int .i64 b0, .int .i64 b1, .int .i64 b2, .int .i64 b3]] w fun e w' => e = .returned (.int .i64 v) ∧ Below w.heap.size w w' := by
  have HV := hide hv
  clear hv
  go_enter Try.func105, Try.ntmps105
  go_wp2
  refine wp_region_still_tail 10 (by kernel_rfl) (by kernel_rfl) ?_
  change wpStill _ _ (World.drew _) (fun a' => wpList _ _ _ _ a' (World.drew _)) _ _
  simp only [List.take_succ_cons, List.take_zero, List.drop_succ_cons, List.drop_zero]
  repeat (first | still_step | still_call (compare_still _ _ _))
  refine wpStill_nil ?_
  have HO : OrOk (fun i => if i = 0 then cmpI a2 b2 else cmpI a1 b1) 2 v := by rw [← HV.out]; exact or2 _ _
  go_wp2_with fail
  refine (or_ints _ 2 2 (fun i => if i = 0 then cmpI a2 b2 else cmpI a1 b1) v HO _ (by omega) (arr2 (blk_drewU (by simp only [World.size_alloc])))).mono ?_
  rintro e w' ⟨rfl, rfl⟩
  go_wp2
  go_returns
  exact ⟨rfl, by go_grown⟩
theorem cmp_urg (A : Option Addr) (n c B bc bl : Nat) (X : Nat → Nat → Int) (w : World) (hn : n ≤ 1048576) (ha : Arr w B A n 4 (iv X)) (hbc : bc < B) (hbl : bl < B) (hc : w.cell? ⟨bc, 0, none⟩ = some (.func (.func 105) #[] #[])) (hl : w.cell? ⟨bl, 0, none⟩ = some (.slice A n c)) (hB : B ≤ w.heap.size) :
    CmpOk (cmpU n X) n B bc bl w := by
  intro w' a b han hbn hk
  obtain ⟨b0, off, rfl, hb0, hcc⟩ := ha (by omega)
  have e1 := (hk bc 0 hbc).trans hc; have e2 := (hk bl 0 hbl).trans hl
  have a0 := (hk b0 _ hb0).trans (hcc a 0 han (by omega)); have a1 := (hk b0 _ hb0).trans (hcc a 1 han (by omega)); have a2 := (hk b0 _ hb0).trans (hcc a 2 han (by omega)); have a3 := (hk b0 _ hb0).trans (hcc a 3 han (by omega))
  have d0 := (hk b0 _ hb0).trans (hcc b 0 hbn (by omega)); have d1 := (hk b0 _ hb0).trans (hcc b 1 hbn (by omega)); have d2 := (hk b0 _ hb0).trans (hcc b 2 hbn (by omega)); have d3 := (hk b0 _ hb0).trans (hcc b 3 hbn (by omega))
  simp only [Nat.add_zero, iv] at a0 a1 a2 a3 d0 d1 d2 d3
  have hw : ∀ (b o : Nat) (v : Value), w'.cell? ⟨b, o, none⟩ = some v → b < w'.heap.size := fun b o v h => World.block_lt_of_cell? w' _ h
  have g1 := hw _ _ _ e1; have g2 := hw _ _ _ e2; have g3 := hw _ _ _ a0
  have hx := BW.cell (w := w')
  have hv : (if cmpI (X a 2) (X b 2) ≠ 0 then cmpI (X a 2) (X b 2) else cmpI (X a 1) (X b 1)) = cmpU n X a b := by
    unfold cmpU rkU hrU; rw [if_pos han, if_pos hbn, if_pos han, if_pos hbn]
  have HV := hide hv
  clear hk hcc hc hl ha hw hv
  go_enter Try.func119, Try.ntmps119
  go_wp2_with fail
  refine wp_region_bw (by kernel_rfl) (by kernel_rfl) ?_
  repeat (go_big_quiet_step ((first | (go_at_call 105; exact BW.call (by_urgent _ _ _ _ _ _ _ _ _ HV.out _)))))
  refine wpQuiet_end fun w1 hb1 => ?_
  clear hx
  go_wp2
  go_ret
  exact ⟨rfl, hb1⟩
/-- Cells that no list's growth has touched. -/
def Kept (g0 : Nat) (w w' : World) : Prop := ∀ b o, b < w.heap.size → b ≠ g0 → w'.cell? ⟨b, o, none⟩ = w.cell? ⟨b, o, none⟩
theorem Kept.app {g0 : Nat} {w wr w' : World} {v : Value} {row : Option Nat} (h : Kept g0 w wr) (hl : Lies g0 w.heap.size v) (hg : wr.grownBy w' row) (hr : row = v.ownBlock) (hs : w.heap.size ≤ wr.heap.size) : Kept g0 w w' := fun b o hb hne => by
  subst hr
  refine (World.cell?_of_block (hg.block b (by omega) (fun e => ?_))).trans (h b o hb hne)
  rcases hl b e.symm with h1 | h1 <;> omega
theorem Kept.alloc {g0 : Nat} {w wr : World} (h : Kept g0 w wr) (hs : w.heap.size ≤ wr.heap.size) (o : Obj) : Kept g0 w (wr.alloc o) := fun b k hb hne =>
  (World.cell?_alloc_lt wr o ⟨b, k, none⟩ (by show b < _; omega)).trans (h b k hb hne)
theorem Kept.below {g0 B : Nat} {w wr w' : World} (h : Kept g0 w wr) (hb : Below B wr w') (hs : w.heap.size ≤ B) : Kept g0 w w' := fun b k hlt hne =>
  (hb.cell (p := ⟨b, k, none⟩) (by show b < _; omega)).trans (h b k hlt hne)
theorem own_from {w : World} {base k n c : Nat} {E : TypeId} {A : Option Addr} {F : Nat → Nat → Value} (h : Own w base E k (.slice A n c) n F) : ∀ b o, A = some ⟨b, o, none⟩ → base ≤ b ∧ b < w.heap.size := fun b o e => h.blk b (by subst e; rfl)
set_option maxHeartbeats 2000000 in
theorem impl_urg (A : Option Addr) (n c : Nat) (X : Nat → Nat → Int) (H : Int) (ok : Bool) (hv : (errsB n X && inB H 0 200) = ok) (q : Nat) (hq : q = onlyN ok (urgL n X H).length) (w : World) (hn : n ≤ 1048576) (ha : Arr w w.heap.size A n 4 (iv X)) :
    Calls Try.prog 53 #[.slice A n c, .int .i64 H] w fun e w' => ∃ v, e = .returned (.tuple #[v, .bool ok]) ∧ Below w.heap.size w w' ∧ Own w' w.heap.size 3 1 v q (iv fun i _ => ((urgL n X H).getD i 0 : Nat)) := by
  obtain ⟨i0, hi0, hy0, hy1, hy2⟩ := info_parts info_int
  have HV := hide hv; have HQ := hide hq
  clear hv hq
  cases h1 : errsB n X
  · obtain rfl : false = ok := by rw [← HV.out, h1]; rfl
    obtain rfl : q = 0 := HQ.out
    have H1 := hide h1
    clear h1
    go_enter Try.func53, Try.ntmps53
    go_wp2_with fail
    refine (impl_errs _ _ _ X _ H1.out _ hn ha).mono ?_
    rintro e w1 ⟨rfl, hb1⟩
    obtain ⟨qc1, qf1⟩ := bcell hb1
    have hz1 := hb1.size
    try simp only [World.size_alloc, World.size_setCell, World.size_drew] at hz1
    have hq1 : Below w.heap.size w w1 := below_call (by go_grown) hb1
    try have hl0_1 : w.heap.size < w1.heap.size := by omega
    try have hl1_1 : w.heap.size + 1 < w1.heap.size := by omega
    try have hl2_1 : w.heap.size + 2 < w1.heap.size := by omega
    try have hl3_1 : w.heap.size + 3 < w1.heap.size := by omega
    go_wp2
    go_returns
    exact ⟨_, rfl, hq1, own_nil _ _ _ _ _⟩
  · cases h2 : inB H 0 200
    · obtain rfl : false = ok := by rw [← HV.out, h1, h2]; rfl
      obtain rfl : q = 0 := HQ.out
      have H1 := hide h1; have H2 := hide h2
      clear h1 h2
      go_enter Try.func53, Try.ntmps53
      go_wp2_with fail
      refine (impl_errs _ _ _ X _ H1.out _ hn ha).mono ?_
      rintro e w1 ⟨rfl, hb1⟩
      obtain ⟨qc1, qf1⟩ := bcell hb1
      have hz1 := hb1.size
      try simp only [World.size_alloc, World.size_setCell, World.size_drew] at hz1
      have hq1 : Below w.heap.size w w1 := below_call (by go_grown) hb1
      try have hl0_1 : w.heap.size < w1.heap.size := by omega
      try have hl1_1 : w.heap.size + 1 < w1.heap.size := by omega
      try have hl2_1 : w.heap.size + 2 < w1.heap.size := by omega
      try have hl3_1 : w.heap.size + 3 < w1.heap.size := by omega
      go_wp2_with fail
      refine (impl_in _ _ _ _ H2.out _).mono ?_
      rintro e u ⟨rfl, rfl⟩
      go_wp2
      go_returns
      exact ⟨_, rfl, hq1, own_nil _ _ _ _ _⟩
    · obtain rfl : true = ok := by rw [← HV.out, h1, h2]; rfl
      obtain ⟨hn12, hok⟩ := errs_of h1
      obtain ⟨b1, b2⟩ := inB_of h2
      have H1 := hide h1; have H2 := hide h2; have HX := hide hok
      clear h1 h2 hok
      go_enter Try.func53, Try.ntmps53
      go_wp2_with fail
      refine (impl_errs _ _ _ X _ H1.out _ hn ha).mono ?_
      rintro e w1 ⟨rfl, hb1⟩
      obtain ⟨qc1, qf1⟩ := bcell hb1
      have hz1 := hb1.size
      try simp only [World.size_alloc, World.size_setCell, World.size_drew] at hz1
      have hq1 : Below w.heap.size w w1 := below_call (by go_grown) hb1
      try have hl0_1 : w.heap.size < w1.heap.size := by omega
      try have hl1_1 : w.heap.size + 1 < w1.heap.size := by omega
      try have hl2_1 : w.heap.size + 2 < w1.heap.size := by omega
      try have hl3_1 : w.heap.size + 3 < w1.heap.size := by omega
      go_wp2_with fail
      refine (impl_in _ _ _ _ H2.out _).mono ?_
      rintro e u ⟨rfl, rfl⟩
      have hqa : Below w.heap.size w (w1.alloc (.cells #[] 3)) := below_al hq1
      go_wp2_with fail
      refine (sorted_plan _ _ _ _ X (keyU n X) (cmpU n X) _ hn12 (ha.on hqa) (keyU_lt HX.out) (fun B bc bl w' h1 h2 h3 h4 h5 h6 => cmp_urg _ _ _ B bc bl X w' hn h1 h2 h3 h4 h5 h6)).mono ?_
      rintro e w2 ⟨v2, rfl, hb2, ho2⟩
      obtain ⟨A2, c2, rfl, hc2, ha2⟩ := ho2.arr
      have hq2 : Below w.heap.size w w2 := below_call hqa hb2
      have hrow := row_below (row_new_at w1 w1.heap.size w.heap.size 1 3 rfl hq1.size) hb2
      have HR := hide hrow
      have hfrom := own_from ho2
      simp only [World.size_alloc] at hfrom
      clear ho2 qc1 qf1 hrow
      go_wp2
      go_loopw [6, 7, 23] (fun v t i wr => ∃ (k p : Nat) (z : Int), k ≤ n ∧ p ≤ k ∧ i = .int .i64 k ∧ t = .int .i64 z ∧ z = (urgS X H ((insL (keyU n X) n).take k)).2 ∧ p = (urgS X H ((insL (keyU n X) n).take k)).1.length ∧ Below w.heap.size w wr ∧ w2.heap.size ≤ wr.heap.size ∧ Kept w1.heap.size w2 wr ∧ Lies w1.heap.size w2.heap.size v ∧ wr.ownsRow w.heap.size 3 1 v p (nl (urgS X H ((insL (keyU n X) n).take k)).1)) (fun _ _ i _ => n - (intOf i).toNat)
      case atStart => exact ⟨0, 0, 0, Nat.zero_le _, Nat.le_refl _, rfl, rfl, rfl, rfl, hq2, Nat.le_refl _, fun _ _ _ _ => rfl, fun g hg => .inl (by simpa [Value.ownBlock] using hg.symm), HR.out⟩
      case round =>
        obtain ⟨k, p, z, hk, hpk, rfl, rfl, hz, hp, hbw, hsz, hkept, hlies, hown⟩ := hrel
        have hbd := urgS_bd (X := X) b1 (l := (insL (keyU n X) n).take k) (fun i hi => by have := err_of (HX.out i (mem_insL.1 (List.mem_of_mem_take hi))); omega)
        rw [← hz] at hbd
        obtain ⟨z0, z1, _⟩ := hbd
        have HZ := hide hz; have HP := hide hp
        clear hz hp
        by_cases hlt : k < n
        · obtain ⟨bo, oo, rfl, hbo, hco⟩ := ha2 (by omega)
          obtain ⟨f1, f2⟩ := hfrom bo oo rfl
          obtain ⟨x, hx⟩ : ∃ x, (insL (keyU n X) n).getD k 0 = x := ⟨_, rfl⟩
          have hxn : x < n := by rw [← hx]; exact insL_get hlt
          have d0 := (hkept bo _ f2 (by omega)).trans (hco k 0 hlt (by omega))
          simp only [Nat.add_zero, Nat.mul_one, iv, hx] at d0
          obtain ⟨b, off, rfl, hbb, hc⟩ := ha (by omega)
          have c1 := (hbw.cell (p := ⟨b, _, none⟩) hbb).trans (hc x 1 hxn (by omega))
          simp only [iv] at c1
          obtain ⟨_, _, x3, x4, _⟩ := err_of (HX.out x hxn)
          have htk : (insL (keyU n X) n).take (k + 1) = (insL (keyU n X) n).take k ++ [x] := by
            rw [List.take_succ_eq_append_getElem (by rw [insL_len]; omega), ← hx, getD_lt (by rw [insL_len]; omega)]
          have HT := hide htk; have HXX := hide hx; have HCO := hide hco
          have hxi : (x : Int) < (n : Int) := by omega
          by_cases hle : z + 1 + X x 1 ≤ H
          · have hy := urgS_yes HZ.out hle
            rw [← htk] at hy
            have HY := hide hy; have HK := hide hkept
            clear htk hx hc ha hy hkept hco ha2 hfrom
            go_wp2_with (at_builtin; refine wpList_append_far _ rfl _ _ 34 rfl w.heap.size 3 i0 (.int .i64 0) 1 8 Try.underlying34 hi0 hy0 hy1 hy2 rfl (by decide) _ _ _ rfl (hown.alloc _) ⟨wr.heap.size, 0, none⟩ 1 1 [.int .i64 (x : Int)] rfl rfl ?c1 ?c2 ?c3 ?c4 ?c5 ?_)
            case c1 => exact cell_one_at _ _ _ _ rfl
            case c2 => intro u hu; simp only [List.mem_singleton] at hu; subst hu; rfl
            case c3 => unfold maxLen; omega
            case c4 => omega
            case c5 => have := hbw.size; simp only [World.size_alloc]; omega
            intro v3 w3 hown3 hgrow3 hfar3
            have hlt3 := hown.lt
            have hk3 := (HK.out.alloc hsz (.cells #[.int .i64 (x : Int)] 3)).app hlies hgrow3 rfl (by simp only [World.size_alloc]; omega)
            have hl3 := hlies.app hfar3 (by first | omega | (simp only [World.size_alloc]; omega))
            have hs3 := hgrow3.size
            simp only [World.size_alloc] at hs3
            have hrow3 : w3.ownsRow w.heap.size 3 1 v3 (p + 1) (nl (urgS X H ((insL (keyU n X) n).take (k + 1))).1) := by
              rw [HY.out]; show w3.ownsRow _ _ _ _ _ (nl (_ ++ [x])); rw [← nl_app]; exact hown3
            have hp3 : p + 1 = (urgS X H ((insL (keyU n X) n).take (k + 1))).1.length := by rw [HY.out]; simp; exact HP.out
            have hz3 : z + 1 + X x 1 = (urgS X H ((insL (keyU n X) n).take (k + 1))).2 := by rw [HY.out]
            have hb3 := (below_al (o := .cells #[.int .i64 (x : Int)] 3) hbw).grown hgrow3 (by have := hbw.size; simp only [World.size_alloc]; omega) (fun g hg => (hlt3 g hg).1)
            have R1 := hide hk3; have R2 := hide hl3; have R3 := hide hrow3; have R4 := hide hp3; have R5 := hide hz3; have R6 := hide hb3
            clear hown hown3 hgrow3 hfar3 hlt3 hk3 hl3 hrow3 hp3 hz3 hb3 hlies
            go_wp2
            go_roundw
            case rel => exact ⟨k + 1, p + 1, _, by omega, by omega, by go_num, rfl, R5.out, R4.out, R6.out, by omega, R1.out, R2.out, R3.out⟩
            case measure => simp [intOf] <;> omega
          · have hy := urgS_no HZ.out hle
            rw [← htk] at hy
            have HY := hide hy; have HK := hide hkept; have HL := hide hlies; have HO := hide hown
            clear htk hx hc ha hy hkept hco ha2 hfrom hlies hown
            go_wp2
            go_roundw
            case rel => exact ⟨k + 1, p, z, by omega, by omega, by go_num, rfl, by rw [HY.out]; exact HZ.out, by rw [HY.out]; exact HP.out, hbw, hsz, HK.out, HL.out, by rw [HY.out]; exact HO.out⟩
            case measure => simp [intOf]; omega
        · obtain rfl : k = n := by omega
          have htk : (insL (keyU k X) k).take k = insL (keyU k X) k := List.take_of_length_le (by rw [insL_len]; omega)
          have hqe : q = p := by rw [HP.out, htk]; exact HQ.out
          have hro := hown
          rw [htk] at hro
          have hpl : p = (urgL k X H).length := by rw [HP.out, htk]; rfl
          have HO := hide (own_of_nl hpl hro)
          subst hqe
          clear hown hro hkept ha2 ha
          go_wp2
          go_returns
          exact ⟨_, rfl, hbw, HO.out⟩
def UrgSt (n : Nat) (X : Nat → Nat → Int) (H : Int) (V i : Nat) (w : World) (v l : Value) (wr : World) : Prop :=
  ∃ (p : Nat) (z L : Int), l = .int .i64 L ∧ L = H - z ∧ z = (urgS X H (preU n X V i)).2 ∧ p = (urgS X H (preU n X V i)).1.length ∧ p ≤ V * n + i ∧ Below w.heap.size w wr ∧ wr.ownsRow w.heap.size 3 1 v p (nl (urgS X H (preU n X V i)).1)
theorem len_bks (n : Nat) (X : Nat → Nat → Int) : ∀ V, (bks (keyU n X) 13 n V).length ≤ V * n
  | 0 => by simp [bks]
  | V + 1 => by
    have h := len_bks n X V
    have h2 := List.length_filter_le (fun i => decide (keyU n X i = 13 + (V : Int))) (List.range n)
    simp only [bks, List.length_append, Nat.add_mul, List.length_range] at h2 ⊢
    omega
set_option maxHeartbeats 4000000 in
set_option maxRecDepth 100000 in
theorem spec_urg (A : Option Addr) (n c : Nat) (X : Nat → Nat → Int) (H : Int) (ok : Bool) (hv : (errsB n X && inB H 0 200) = ok) (q : Nat) (hq : q = onlyN ok (urgL n X H).length) (w : World) (hn : n ≤ 1048576) (ha : Arr w w.heap.size A n 4 (iv X)) :
    Calls Try.prog 54 #[.slice A n c, .int .i64 H] w fun e w' => ∃ v, e = .returned (.tuple #[v, .bool ok]) ∧ Below w.heap.size w w' ∧ Own w' w.heap.size 3 1 v q (iv fun i _ => ((urgL n X H).getD i 0 : Nat)) := by
  obtain ⟨i0, hi0, hy0, hy1, hy2⟩ := info_parts info_int
  have HV := hide hv; have HQ := hide hq
  clear hv hq
  have hba : Below w.heap.size w (w.alloc (.cells #[] 3)) := below_al (Below.refl _ _)
  cases h1 : errsB n X
  · obtain rfl : false = ok := by rw [← HV.out, h1]; rfl
    obtain rfl : q = 0 := HQ.out
    have H1 := hide h1
    clear h1
    go_enter Try.func54, Try.ntmps54
    go_wp2_with fail
    refine (spec_good23 _ _ _ X _ H1.out _ hn (ha.on hba)).mono ?_
    rintro e w1 ⟨rfl, hb1⟩
    obtain ⟨qc1, qf1⟩ := bcell hb1
    have hz1 := hb1.size
    try simp only [World.size_alloc, World.size_setCell, World.size_drew] at hz1
    have hq1 : Below w.heap.size w w1 := below_call (by go_grown) hb1
    try have hl0_1 : w.heap.size < w1.heap.size := by omega
    try have hl1_1 : w.heap.size + 1 < w1.heap.size := by omega
    try have hl2_1 : w.heap.size + 2 < w1.heap.size := by omega
    try have hl3_1 : w.heap.size + 3 < w1.heap.size := by omega
    go_wp2
    go_returns
    exact ⟨_, rfl, hq1, (own_new (Nat.le_refl _)).below hb1 (Nat.le_refl _)⟩
  · cases h2 : inB H 0 200
    · obtain rfl : false = ok := by rw [← HV.out, h1, h2]; rfl
      obtain rfl : q = 0 := HQ.out
      have H1 := hide h1; have H2 := hide h2
      clear h1 h2
      go_enter Try.func54, Try.ntmps54
      go_wp2_with fail
      refine (spec_good23 _ _ _ X _ H1.out _ hn (ha.on hba)).mono ?_
      rintro e w1 ⟨rfl, hb1⟩
      obtain ⟨qc1, qf1⟩ := bcell hb1
      have hz1 := hb1.size
      try simp only [World.size_alloc, World.size_setCell, World.size_drew] at hz1
      have hq1 : Below w.heap.size w w1 := below_call (by go_grown) hb1
      try have hl0_1 : w.heap.size < w1.heap.size := by omega
      try have hl1_1 : w.heap.size + 1 < w1.heap.size := by omega
      try have hl2_1 : w.heap.size + 2 < w1.heap.size := by omega
      try have hl3_1 : w.heap.size + 3 < w1.heap.size := by omega
      go_wp2_with fail
      refine (spec_in _ _ _ _ H2.out _).mono ?_
      rintro e u ⟨rfl, rfl⟩
      go_wp2
      go_returns
      exact ⟨_, rfl, hq1, (own_new (Nat.le_refl _)).below hb1 (Nat.le_refl _)⟩
    · obtain rfl : true = ok := by rw [← HV.out, h1, h2]; rfl
      obtain ⟨hn12, hok⟩ := errs_of h1
      obtain ⟨b1, b2⟩ := inB_of h2
      have H1 := hide h1; have H2 := hide h2; have HX := hide hok; have HAA := hide ha
      clear h1 h2 hok
      go_enter Try.func54, Try.ntmps54
      go_wp2_with fail
      refine (spec_good23 _ _ _ X _ H1.out _ hn (ha.on hba)).mono ?_
      rintro e w1 ⟨rfl, hb1⟩
      obtain ⟨qc1, qf1⟩ := bcell hb1
      have hz1 := hb1.size
      try simp only [World.size_alloc, World.size_setCell, World.size_drew] at hz1
      have hq1 : Below w.heap.size w w1 := below_call (by go_grown) hb1
      try have hl0_1 : w.heap.size < w1.heap.size := by omega
      try have hl1_1 : w.heap.size + 1 < w1.heap.size := by omega
      try have hl2_1 : w.heap.size + 2 < w1.heap.size := by omega
      try have hl3_1 : w.heap.size + 3 < w1.heap.size := by omega
      go_wp2_with fail
      refine (spec_in _ _ _ _ H2.out _).mono ?_
      rintro e u ⟨rfl, rfl⟩
      have hrow := row_below (row_new_at w w.heap.size w.heap.size 1 3 rfl (Nat.le_refl _)) hb1
      have hst : UrgSt n X H 0 0 w (.slice (some ⟨w.heap.size, 0, none⟩) 0 0) (.int .i64 H) w1 := ⟨0, 0, H, rfl, by omega, rfl, rfl, by omega, hq1, hrow⟩
      have HS := hide hst
      clear qc1 qf1 hrow hst ha
      go_wp2
      go_loopw [6, 7, 8] (fun v l r wr => ∃ a : Nat, a ≤ 5 ∧ r = .int .i64 ((a : Int) + 1) ∧ UrgSt n X H (a * 12) 0 w v l wr) (fun _ _ r _ => (5 - intOf r + 1).toNat)
      case atStart => exact ⟨0, by omega, rfl, HS.out⟩
      case round =>
        obtain ⟨a, ha5, rfl, p, z, L, rfl, hL, hz, hp, hpb, hbw, hown⟩ := hrel
        have HZ := hide hz; have HP := hide hp; have HO := hide hown; have HPB := hide hpb; have HL := hide hL
        clear hz hp hown hpb hL
        by_cases hlt : a < 5
        · have hd5 : decide ((a : Int) + 1 ≤ 5) = true := by simp; omega
          go_wp2
          go_loopw [6, 7, 9] (fun v l r wr => ∃ b : Nat, b ≤ 12 ∧ r = .int .i64 ((b : Int) + 1) ∧ UrgSt n X H (a * 12 + b) 0 w v l wr) (fun _ _ r _ => (12 - intOf r + 1).toNat)
          case atStart => exact ⟨0, by omega, rfl, p, z, L, rfl, HL.out, HZ.out, HP.out, HPB.out, hbw, HO.out⟩
          case round =>
            obtain ⟨b, hb12, rfl, p, z, L, rfl, hL, hz, hp, hpb, hbw, hown⟩ := hrel
            have HZ := hide hz; have HP := hide hp; have HO := hide hown; have HPB := hide hpb; have HL := hide hL
            clear hz hp hown hpb hL
            by_cases hltb : b < 12
            · have hd12 : decide ((b : Int) + 1 ≤ 12) = true := by simp; omega
              go_wp2
              go_loopw [6, 7, 10] (fun v l r wr => ∃ k : Nat, k ≤ n ∧ r = .int .i64 k ∧ UrgSt n X H (a * 12 + b) k w v l wr) (fun _ _ r _ => n - (intOf r).toNat)
              case atStart => exact ⟨0, Nat.zero_le _, rfl, p, z, L, rfl, HL.out, HZ.out, HP.out, HPB.out, hbw, HO.out⟩
              case round =>
                obtain ⟨k, hk, rfl, p, z, L, rfl, hL, hz, hp, hpb, hbw, hown⟩ := hrel
                have hbd := urgS_bd (X := X) b1 (l := preU n X (a * 12 + b) k) (fun i hi => by have := err_of (HX.out i (preU_mem hk hi)); omega)
                rw [← hz] at hbd
                obtain ⟨z0, z1, _⟩ := hbd
                have hpB : p ≤ 100000 := by have : (a * 12 + b) * n ≤ 60 * 12 := Nat.mul_le_mul (by omega) hn12; omega
                have HZ := hide hz; have HP := hide hp; have HPB := hide hpb; have HL := hide hL
                clear hz hp hpb
                have hL0 : 0 ≤ L := by omega
                have hL1 : L ≤ 200 := by omega
                by_cases hltk : k < n
                · obtain ⟨bb, off, rfl, hbb, hc⟩ := HAA.out (by omega)
                  have c2 := (hbw.cell (p := ⟨bb, _, none⟩) hbb).trans (hc k 2 hltk (by omega)); have c1 := (hbw.cell (p := ⟨bb, _, none⟩) hbb).trans (hc k 1 hltk (by omega))
                  simp only [iv] at c1 c2
                  obtain ⟨_, _, x3, x4, x5, x6, _⟩ := err_of (HX.out k hltk)
                  obtain ⟨ke, _, _⟩ := keyU_in HX.out hltk
                  have HKE := hide ke
                  clear hc ke
                  by_cases hm : X k 2 = (a : Int) + 1 ∧ X k 1 = (b : Int) + 1
                  · obtain ⟨m1, m2⟩ := hm
                    have hpre := preU_yes (V := a * 12 + b) (show keyU n X k = 13 + ((a * 12 + b : Nat) : Int) from by rw [HKE.out, m1, m2]; omega)
                    by_cases hle : z + 1 + X k 1 ≤ H
                    · have hy := urgS_yes HZ.out hle
                      rw [← hpre] at hy
                      have HY := hide hy
                      rw [m1] at c2; rw [m2] at c1
                      have hle' : (b : Int) + 1 + 1 ≤ L := by omega
                      have hzn : L - ((b : Int) + 1) - 1 = H - (z + 1 + X k 1) := by omega
                      have HZN := hide hzn
                      clear hpre hy hle m1 m2 hzn hL
                      go_wp2_with (at_builtin; refine wpList_append_far _ rfl _ _ 34 rfl w.heap.size 3 i0 (.int .i64 0) 1 8 Try.underlying34 hi0 hy0 hy1 hy2 rfl (by decide) _ _ _ rfl (hown.alloc _) ⟨wr.heap.size, 0, none⟩ 1 1 [.int .i64 (k : Int)] rfl rfl ?c1 ?c2 ?c3 ?c4 ?c5 ?_)
                      case c1 => exact cell_one_at _ _ _ _ rfl
                      case c2 => intro u hu; simp only [List.mem_singleton] at hu; subst hu; rfl
                      case c3 => unfold maxLen; omega
                      case c4 => omega
                      case c5 => have := hbw.size; simp only [World.size_alloc]; omega
                      intro v3 w3 hown3 hgrow3 _
                      have hlt3 := hown.lt
                      have hrow3 : w3.ownsRow w.heap.size 3 1 v3 (p + 1) (nl (urgS X H (preU n X (a * 12 + b) (k + 1))).1) := by
                        rw [HY.out]; show w3.ownsRow _ _ _ _ _ (nl (_ ++ [k])); rw [← nl_app]; exact hown3
                      have hp3 : p + 1 = (urgS X H (preU n X (a * 12 + b) (k + 1))).1.length := by rw [HY.out]; simp; exact HP.out
                      have hz3 : z + 1 + X k 1 = (urgS X H (preU n X (a * 12 + b) (k + 1))).2 := by rw [HY.out]
                      have hb3 := (below_al (o := .cells #[.int .i64 (k : Int)] 3) hbw).grown hgrow3 (by have := hbw.size; simp only [World.size_alloc]; omega) (fun g hg => (hlt3 g hg).1)
                      have R3 := hide hrow3; have R4 := hide hp3; have R5 := hide hz3; have R6 := hide hb3
                      clear hown hown3 hgrow3 hlt3 hrow3 hp3 hz3 hb3
                      go_wp2
                      go_roundw
                      case rel => exact ⟨k + 1, by omega, by go_num, p + 1, z + 1 + X k 1, _, rfl, HZN.out, R5.out, R4.out, by have := HPB.out; omega, R6.out, R3.out⟩
                      case measure => simp [intOf]; omega
                    · have hy := urgS_no HZ.out hle
                      rw [← hpre] at hy
                      have HY := hide hy; have HO := hide hown
                      rw [m1] at c2; rw [m2] at c1
                      have hle' : L < (b : Int) + 1 + 1 := by omega
                      clear hpre hy hle m1 m2 hown hL
                      go_wp2
                      go_roundw
                      case rel => exact ⟨k + 1, by omega, by go_num, p, z, L, rfl, HL.out, by rw [HY.out]; exact HZ.out, by rw [HY.out]; exact HP.out, by have := HPB.out; omega, hbw, by rw [HY.out]; exact HO.out⟩
                      case measure => simp [intOf]; omega
                  · have hpre := preU_no (V := a * 12 + b) (show ¬ keyU n X k = 13 + ((a * 12 + b : Nat) : Int) from by rw [HKE.out]; omega)
                    have HPR := hide hpre; have HO := hide hown
                    clear hpre hown
                    by_cases m1 : X k 2 = (a : Int) + 1
                    · have m2 : ¬ X k 1 = (b : Int) + 1 := fun e => hm ⟨m1, e⟩
                      have hB2 : (X k 1 == (b : Int) + 1) = false := by simp [m2]
                      rw [m1] at c2
                      clear hm m1 m2 hL
                      go_wp2
                      go_roundw
                      case rel => exact ⟨k + 1, by omega, by go_num, p, z, L, rfl, HL.out, by rw [HPR.out]; exact HZ.out, by rw [HPR.out]; exact HP.out, by have := HPB.out; omega, hbw, by rw [HPR.out]; exact HO.out⟩
                      case measure => simp [intOf]; omega
                    · have hB1 : (X k 2 == (a : Int) + 1) = false := by simp [m1]
                      clear hm m1 hL
                      go_wp2
                      go_roundw
                      case rel => exact ⟨k + 1, by omega, by go_num, p, z, L, rfl, HL.out, by rw [HPR.out]; exact HZ.out, by rw [HPR.out]; exact HP.out, by have := HPB.out; omega, hbw, by rw [HPR.out]; exact HO.out⟩
                      case measure => simp [intOf]; omega
                · obtain rfl : k = n := by omega
                  have HO := hide hown
                  clear hown hL
                  go_wp2
                  go_roundw
                  case rel => exact ⟨b + 1, by omega, by go_num, p, z, L, rfl, HL.out, by rw [Nat.add_succ, ← preU_end]; exact HZ.out, by rw [Nat.add_succ, ← preU_end]; exact HP.out, by have := HPB.out; rw [Nat.add_succ, Nat.succ_mul]; omega, hbw, by rw [Nat.add_succ, ← preU_end]; exact HO.out⟩
                  case measure => simp [intOf]; omega
            · obtain rfl : b = 12 := by omega
              go_wp2
              go_roundw
              case rel =>
                have e : (a + 1) * 12 = a * 12 + 12 := by omega
                exact ⟨a + 1, by omega, by go_num, p, z, L, rfl, HL.out, by rw [e]; exact HZ.out, by rw [e]; exact HP.out, by rw [e]; exact HPB.out, hbw, by rw [e]; exact HO.out⟩
              case measure => simp [intOf]; omega
        · obtain rfl : a = 5 := by omega
          have he : preU n X (5 * 12) 0 = insL (keyU n X) n := by rw [preU_zero, urg_all HX.out]
          have hpq : q = p := by rw [HP.out, he]; exact HQ.out
          have hro := HO.out
          rw [he] at hro
          have hpl : p = (urgL n X H).length := by rw [HP.out, he]; rfl
          have HR := hide (own_of_nl hpl hro)
          subst hpq
          clear he hro
          go_wp2
          go_returns
          exact ⟨_, rfl, hbw, HR.out⟩
end Go.Proofs.Ytfdgnjnnbhelgaa
