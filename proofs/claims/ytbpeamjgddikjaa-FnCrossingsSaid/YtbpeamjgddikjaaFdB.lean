/- The draw of a fault: made by fdrgen.py. -/
import Derived.Test.YtbpeamjgddikjaaFdA
import Derived.Test.YtbpeamjgddikjaaFltA
import Derived.Test.YtbpeamjgddikjaaTyBend
import Derived.Test.YtbpeamjgddikjaaApp
import Derived.RegionTactic
import Derived.BigRegion
import Derived.IntWalk
namespace Go.Proofs.Ytbpeamjgddikjaa
open Go.RowKit
set_option linter.unusedVariables false
set_option linter.unusedSimpArgs false

def bC (p : Int × Int) : List Value := [.int .i64 p.1, .int .i64 p.2]
def bX (l : List (Int × Int)) (i j : Nat) : Int := if j = 0 then (l.getD i (0, 0)).1 else (l.getD i (0, 0)).2
theorem bC_one (p : Int × Int) : ∀ u ∈ bC p, u.oneCell' = true := by
  intro u hu
  simp only [bC, List.mem_cons, List.not_mem_nil, or_false] at hu
  rcases hu with rfl | rfl <;> rfl
theorem bC_get (l : List (Int × Int)) (i j : Nat) (hi : i < l.length) (hj : j < 2) : (bC l[i])[j]? = some (.int .i64 (bX l i j)) := by
  rcases (by omega : j = 0 ∨ j = 1) with rfl | rfl <;> simp [bC, bX, List.getD, hi]
theorem addr_atF (g o : Nat) (j : Nat) : (⟨g, o, none⟩ : Addr).add j = ⟨g, o + j, none⟩ := by
  unfold Addr.add
  by_cases hj : j = 0 <;> simp [hj]
theorem b_cell {w : World} {base n cap g : Nat} {E : TypeId} {l : List (Int × Int)} (h : w.ownsRow base E 2 (.slice (some ⟨g, 0, none⟩) n cap) n (l.flatMap bC)) {k j : Nat} (hk : k < l.length) (hj : j < 2) : w.cell? ⟨g, k * 2 + j, none⟩ = some (.int .i64 (bX l k j)) := by
  have h1 := h.cells (g := g) rfl (k * 2 + j) (.int .i64 (bX l k j)) (by rw [flat_get (g := bC) (k := 2) (fun _ => rfl) hk hj, bC_get l k j hk hj])
  rw [addr_atF, Nat.zero_add] at h1
  exact h1
theorem row_formF {w : World} {base n s : Nat} {E : TypeId} {v : Value} {xs : List Value} (h : w.ownsRow base E s v n xs) (hn : 0 < n) : ∃ g cap, v = .slice (some ⟨g, 0, none⟩) n cap ∧ n ≤ cap ∧ cap ≤ maxLen := by
  rcases h.2 with ⟨_, h0⟩ | ⟨gg, cp, cur, hv, _, _, hc, hm, _⟩
  · omega
  · exact ⟨gg, cp, hv, hc, hm⟩
theorem row_farF {w : World} {base n s : Nat} {E : TypeId} {v : Value} {xs : List Value} (h : w.ownsRow base E s v n xs) {p : Addr} (hp : p.block < base) (x : Value) : (w.setCell p x).ownsRow base E s v n xs := by
  refine ⟨h.1, ?_⟩
  rcases h.2 with e | ⟨g, cap, cur, h1, h2, h3, h4⟩
  · exact .inl e
  · exact .inr ⟨g, cap, cur, h1, h2, (Below.heap_setCell w p x g (by omega)).trans h3, h4⟩
theorem row_drawnF {w w' : World} {base n s cb : Nat} {E : TypeId} {v : Value} {xs : List Value} (h : w.ownsRow base E s v n xs) (hd : w.grownBy w' (some cb)) (hb : cb < base) : w'.ownsRow base E s v n xs :=
  h.kept (row := some cb) hd (.inr fun e => by have := (h.lt cb e).1; omega)
theorem Cur.apart {w w' : World} {cb M : Nat} {K : Code} {row : Option Nat} (h : Cur w cb K M) (hg : w.grownBy w' row) (hne : ∀ g, row = some g → cb < g) : Cur w' cb K M := by
  obtain ⟨⟨h0, h1, h2⟩, a, s, h3, h4⟩ := h
  have hlt := h4.lt
  refine ⟨⟨h0, fun hn => ?_, h2⟩, a, s, h3, (hg.block cb hlt (fun e => by have := hne cb e.symm; omega)).trans h4⟩
  obtain ⟨b, off, e, hb, hc⟩ := h1 hn
  exact ⟨b, off, e, hb, fun i j hi hj => (World.cell?_of_block (hg.block b (by omega) (fun e => by have := hne b e.symm; omega))).trans (hc i j hi hj)⟩
theorem grown_new {w a b : World} {cb : Nat} {row : Option Nat} (h : w.grownBy a (some cb)) (hg : a.grownBy b row) (hr : ∀ g, row = some g → w.heap.size ≤ g) : w.grownBy b (some cb) :=
  ⟨hg.os.trans h.os, hg.tape.trans h.tape, hg.output.trans h.output, Nat.le_trans h.size hg.size, fun k hk hne => (hg.block k (Nat.lt_of_lt_of_le hk h.size) (fun e => by have := hr k e.symm; omega)).trans (h.block k hk hne)⟩
theorem blk_apart {w w' : World} {g : Nat} {t : TypeId} {cs : Array Value} {row : Option Nat} (h : Blk w g t cs) (hg : w.grownBy w' row) (hne : ∀ b, row = some b → g < b) : Blk w' g t cs :=
  (hg.block g h.lt (fun e => by have := hne g e.symm; omega)).trans h
theorem blk_set_farF {w : World} {g b i : Nat} {t : TypeId} {cs : Array Value} (h : Blk w g t cs) (hne : g ≠ b) (v : Value) : Blk (w.setCell ⟨b, i, none⟩ v) g t cs := (Below.heap_setCell w ⟨b, i, none⟩ v g hne).trans h
theorem Cur.drewF {w : World} {cb M : Nat} {K : Code} (h : Cur w cb K M) : Cur w.drew cb K M := h.on (Below.refl _ _).drew
theorem blk_drewF {w : World} {g : Nat} {t : TypeId} {cs : Array Value} (h : Blk w g t cs) : Blk w.drew g t cs := h
theorem row_drewF {w : World} {base n s : Nat} {E : TypeId} {v : Value} {xs : List Value} (h : w.ownsRow base E s v n xs) : w.drew.ownsRow base E s v n xs := h
theorem grown_drewF {a w : World} {row : Option Nat} (h : a.grownBy w row) : a.grownBy w.drew row := ⟨h.os, h.tape, h.output, h.size, h.block⟩
theorem blk_set_toF {w : World} {g : Nat} {t : TypeId} {cs cs' : Array Value} (h : Blk w g t cs) (i : Nat) (v : Value) (e : cs.setIfInBounds i v = cs') : Blk (w.setCell ⟨g, i, none⟩ v) g t cs' := e ▸ h.set_ i v
theorem row_neF {w : World} {base n s : Nat} {E : TypeId} {v : Value} {xs : List Value} (h : w.ownsRow base E s v n xs) {p : Addr} (hp : v.ownBlock ≠ some p.block) (x : Value) : (w.setCell p x).ownsRow base E s v n xs := by
  refine ⟨h.1, ?_⟩
  rcases h.2 with e | ⟨g, cap, cur, h1, h2, h3, h4⟩
  · exact .inl e
  · subst h1
    exact .inr ⟨g, cap, cur, rfl, h2, (Below.heap_setCell w p x g (fun e => hp (by rw [← e]; rfl))).trans h3, h4⟩
/-- A fault with its bends in a block from lo on. -/
def FOk (w : World) (lo : Nat) (x : FauE × Nat × Nat) : Prop := 1 ≤ x.1.m ∧ x.1.m ≤ 12 ∧ x.1.nm.size ≤ 11 ∧ lo ≤ x.2.1 ∧ x.2.1 < w.heap.size ∧ ∀ i j, i < x.1.m → j < 2 → w.cell? ⟨x.2.1, i * 2 + j, none⟩ = some (iv x.1.Y i j)
theorem fok_row {w : World} {base g cap m lo : Nat} {z sl : Int} {nm : ByteArray} {l : List (Int × Int)} (h : w.ownsRow base 26 2 (.slice (some ⟨g, 0, none⟩) m cap) m (l.flatMap bC)) (hl : l.length = m) (h1 : 1 ≤ m) (h2 : m ≤ 12) (hn : nm.size ≤ 11) (hlo : lo ≤ base) : FOk w lo (⟨z, nm, m, bX l, sl⟩, g, cap) :=
  ⟨h1, h2, hn, Nat.le_trans hlo (h.lt g rfl).1, (h.lt g rfl).2, fun i j hi hj => b_cell h (by rw [hl]; exact hi) hj⟩
theorem fok_one {w : World} {base g cap m lo : Nat} {z sl : Int} {nm : ByteArray} {l : List (Int × Int)} (h : w.ownsRow base 26 2 (.slice (some ⟨g, 0, none⟩) m cap) m (l.flatMap bC)) (hl : l.length = m) (h1 : 1 ≤ m) (hn : nm.size ≤ 11) (hlo : lo ≤ base) : FOk w lo (⟨z, nm, 1, bX l, sl⟩, g, cap) :=
  ⟨Nat.le_refl _, by show (1 : Nat) ≤ 12; omega, hn, Nat.le_trans hlo (h.lt g rfl).1, (h.lt g rfl).2, fun i j hi hj => b_cell h (by have hi' : i < 1 := hi; omega) hj⟩
theorem last_eq (l : List (Int × Int)) (m : Nat) (h : l.length = m + 1) : bX l m 0 = (l.getD m (0, 0)).1 ∧ bX l m 1 = (l.getD m (0, 0)).2 := ⟨rfl, rfl⟩
set_option maxHeartbeats 8000000 in
set_option maxRecDepth 100000 in
theorem spec_faultD (cb : Nat) (K : Code) (M : Nat) (z : Int) (w : World) (hM : M ≤ 800000000000) (h : Cur w cb K M) :
    Calls Try.prog 89 #[.pointer (some ⟨cb, 0, none⟩), .int .i64 z] w fun e w' => ∃ x : FauE × Nat × Nat, e = .returned (.agg #[.int .i64 x.1.id, .string x.1.nm, .slice (some ⟨x.2.1, 0, none⟩) x.1.m x.2.2, .int .i64 x.1.sl]) ∧ FOk w' w.heap.size x ∧ Drawn w cb K (M + 200) w' := by
  obtain ⟨i0, hi0, hy0, hy1, hy2⟩ := info_parts info_bend
  have hcb := h.lt
  go_enter Try.func89, Try.ntmps89
  go_wp2_with fail
  refine (spec_ofX cb K M [⟨#[101, 97, 115, 116]⟩, ⟨#[110, 111, 114, 116, 104]⟩, ⟨#[111, 108, 100]⟩, ⟨#[114, 105, 100, 103, 101]⟩, ⟨#[119, 101, 115, 116]⟩] _ _ _ rfl (by decide) (by decide) (by decide) _ rfl (blk_new_atC _ _ _ _ (by first | rfl | simp)) (by first | omega | (simp; omega)) (by omega) (by (repeat (first | with_reducible assumption | (with_reducible refine Cur.alloc ?_ _) | (with_reducible refine Cur.setCell ?_ (by (first | with_reducible assumption | omega | (simp; done) | (simp; omega))) _))))).mono ?_
  rintro e w1 ⟨nm, rfl, hnm, hd⟩
  have hg1 : w.grownBy w1 (some cb) := World.grownBy.trans (by (repeat (first | with_reducible assumption | (with_reducible refine World.grownBy.trans ?_ (World.grownBy_alloc _ _ _)) | (with_reducible refine grown_setNew ?_ (by (first | with_reducible assumption | omega | (simp; done) | (simp; omega))) _) | with_reducible exact grown_refl _ _))) hd.1
  have hc1 := hd.2
  have hR1 : Blk w1 w.heap.size 36 #[.int .i64 0, .string ⟨#[]⟩, .slice none 0 0, .int .i64 0] := blk_drawn hd (by (repeat (first | with_reducible assumption | with_reducible exact Blk.new _ _ _ | with_reducible exact blk_new_atC _ _ _ _ (by first | rfl | simp) | (with_reducible refine Blk.alloc ?_ _)))) hcb
  have hz1 := hg1.size
  clear hd
  go_wp2_with fail
  refine (spec_amongY cb K (M + 2) [0, 1, 35, 1000] (-1) 1001 _ _ _ rfl (by decide) (by decide) (by decide) _ rfl (blk_new_atC _ _ _ _ (by first | rfl | simp)) (by first | omega | (simp; omega)) (by omega) (by (repeat (first | with_reducible assumption | (with_reducible refine Cur.alloc ?_ _) | (with_reducible refine Cur.setCell ?_ (by (first | with_reducible assumption | omega | (simp; done) | (simp; omega))) _))))).mono ?_
  rintro e w2 ⟨sl, rfl, sl0, sl1, hd⟩
  have hg2 : w.grownBy w2 (some cb) := World.grownBy.trans (by (repeat (first | with_reducible assumption | (with_reducible refine World.grownBy.trans ?_ (World.grownBy_alloc _ _ _)) | (with_reducible refine grown_setNew ?_ (by (first | with_reducible assumption | omega | (simp; done) | (simp; omega))) _) | with_reducible exact grown_refl _ _))) hd.1
  have hc2 := hd.2
  have hR2 := blk_drawn hd (hR1.alloc _) hcb
  have hz2 := hg2.size
  have hrl := hR2.lt
  clear hd hg1 hc1 hR1
  have hF2 : Blk (w2.alloc (.cells #[.int .i64 z, .string nm, .slice none 0 0, .int .i64 sl] 36)) w2.heap.size 36 #[.int .i64 z, .string nm, .slice none 0 0, .int .i64 sl] := Blk.new _ _ _
  go_wp2_with fail
  refine (spec_pick cb K (M + 4) 3 _ (by omega) (by omega) (by (repeat (first | with_reducible assumption | (with_reducible refine Cur.alloc ?_ _) | (with_reducible refine Cur.setCell ?_ (by (first | with_reducible assumption | omega | (simp; done) | (simp; omega))) _))))).mono ?_
  rintro e w3 ⟨N, rfl, n0, n1, _, hd⟩
  have n2 := n1 (by omega)
  obtain ⟨N, rfl⟩ : ∃ m : Nat, N = m := ⟨N.toNat, by omega⟩
  have hN : N ≤ 2 := by omega
  have hg3 : w.grownBy w3 (some cb) := World.grownBy.trans (by (repeat (first | with_reducible assumption | (with_reducible refine World.grownBy.trans ?_ (World.grownBy_alloc _ _ _)) | (with_reducible refine grown_setNew ?_ (by (first | with_reducible assumption | omega | (simp; done) | (simp; omega))) _) | with_reducible exact grown_refl _ _))) hd.1
  have hc3 := hd.2
  have hR3 := blk_drawn hd (hR2.alloc _) hcb
  have hcf : cb < w2.heap.size := by omega
  have hF3 := blk_drawn hd hF2 hcf
  have HG3 := hide hg3; have HC3 := hide hc3; have HR3 := hide hR3; have HF3 := hide hF3
  have hrow0 : w3.ownsRow (w2.heap.size + 1) 26 2 (.slice none 0 0) 0 (([] : List (Int × Int)).flatMap bC) := ⟨rfl, .inl ⟨rfl, rfl⟩⟩
  clear hd hg2 hc2 hR2 hF2 hg3 hc3 hR3 hF3 n0 n1 n2
  go_wp2
  go_loopw [6] (fun y wr => ∃ (k m : Nat) (v : Value) (l : List (Int × Int)), y = .int .i64 k ∧ m + k = 2 + N ∧ l.length = m ∧ (m = 0 → v = .slice none 0 0) ∧ w.grownBy wr (some cb) ∧ Cur wr cb K (M + 6 + 14 * m) ∧ Blk wr w.heap.size 36 #[.int .i64 0, .string ⟨#[]⟩, .slice none 0 0, .int .i64 0] ∧ Blk wr w2.heap.size 36 #[.int .i64 z, .string nm, v, .int .i64 sl] ∧ wr.ownsRow (w2.heap.size + 1) 26 2 v m (l.flatMap bC)) (fun y _ => (intOf y).toNat)
  case atStart => exact ⟨2 + N, 0, _, [], by first | rfl | (congr 1; omega) | go_num, by omega, rfl, fun _ => rfl, HG3.out, HC3.out.more (by omega), HR3.out, HF3.out, hrow0⟩
  case round =>
    obtain ⟨k, m, v, l, rfl, hmk, hl, hv0, hg, hc, hR, hF, hrow⟩ := hrel
    have HLN := hide hl
    clear HG3 HC3 HR3 HF3 hrow0 hl
    by_cases hk0 : 0 < k
    · have hkk : (k : Int) - 1 = ((k - 1 : Nat) : Int) := by omega
      go_wp2_with fail
      refine (spec_bendD cb K (M + 6 + 14 * m) _ (by omega) hc).mono ?_
      rintro e w4 ⟨x, y, rfl, ⟨x0, x1⟩, hd⟩
      have hg4 : w.grownBy w4 (some cb) := hg.trans hd.1
      have HC4 := hide hd.2
      have HR4 := hide (blk_drawn hd hR hcb)
      have HF4 := hide (blk_drawn hd hF hcf)
      have HW4 := hide (row_drawnF hrow hd.1 (by omega))
      have hs4 := hg4.size
      have hfl := HF4.out.lt
      have HG4 := hide hg4
      have HB4 := hide (Blk.new w4 26 #[.int .i64 x, .int .i64 y])
      clear hd hg hc hR hF hrow hg4
      rcases m with _ | m
      · obtain rfl := hv0 rfl
        have hR5 := HR4.out.alloc (.cells #[.int .i64 x, .int .i64 y] 26)
        have hF5 := HF4.out.alloc (.cells #[.int .i64 x, .int .i64 y] 26)
        have hc5 := HC4.out.alloc (.cells #[.int .i64 x, .int .i64 y] 26)
        have hr5 := HW4.out.alloc (.cells #[.int .i64 x, .int .i64 y] 26)
        have hg5 := HG4.out.trans (World.grownBy_alloc _ (.cells #[.int .i64 x, .int .i64 y] 26) _)
        have k2 := hF5.cell 2
        simp at k2
        have kl := hF5.lt
        have hx := BW.cell (w := w4.alloc (.cells #[.int .i64 x, .int .i64 y] 26))
        go_wp2
        refine wp_region_bw (by kernel_rfl) (by kernel_rfl) ?_
        repeat (go_big_quiet_step ((first | fail)))
        refine wpQuiet_end fun w1 hb1 => ?_
        have hF6 := hF5.below hb1 hF5.lt
        have hR6 := hR5.below hb1 hR5.lt
        have hB6 := HB4.out.below hb1 HB4.out.lt
        have hc6 := hc5.on hb1
        have hr6 := row_below hr5 hb1
        have hg6 := grown_belowC hg5 hb1
        clear hx hF5 hR5 hc5 hr5 hg5 hb1
        clear k2 kl
        have k2 := hF6.cell 2
        simp at k2
        have kf2 := hF6.frozen 2
        have bb0 := hB6.cell 0; have bb1 := hB6.cell 1
        simp at bb0 bb1
        have bl := hB6.lt
        have kl := hF6.lt
        have hlt6 := hr6.lt
        have hF7 := hF6.alloc (.cells (bC (x, y)).toArray 26)
        have hc7 := hc6.alloc (.cells (bC (x, y)).toArray 26)
        have hR7 := hR6.alloc (.cells (bC (x, y)).toArray 26)
        have hg7 := hg6.trans (World.grownBy_alloc _ (.cells (bC (x, y)).toArray 26) _)
        have HF7 := hide hF7; have HC7 := hide hc7; have HR7 := hide hR7; have HG7 := hide hg7; have HRR := hide hr6
        clear hF6 hc6 hR6 hB6 hg6 hF7 hc7 hR7 hg7 hr6
        go_wp2_with (at_builtin; refine wpList_append_far _ rfl _ _ 34 rfl (w2.heap.size + 1) 26 i0 (.agg #[.int .i64 0, .int .i64 0]) 2 16 Try.underlying34 hi0 hy0 hy1 hy2 rfl (by decide) _ _ _ (by rfl) (HRR.out.alloc _) ⟨w1.heap.size, 0, none⟩ 1 1 (bC (x, y)) (by rfl) rfl (cells_at w1 _ _ _ (by first | rfl | simp)) (bC_one _) (by unfold maxLen; omega) (by omega) (by have := HG7.out.size; simp only [World.size_alloc] at this ⊢; omega) ?_; intro v6 w6 hown6 hgrow6 _; obtain ⟨g6, cap6, rfl, hm6, hx6⟩ := row_formF hown6 (Nat.succ_pos _); have hF8 := blk_apart HF7.out hgrow6 (fun g hg => by have := (hlt6 g hg).1; omega); have q2 := hF8.cell 2; have qf2 := hF8.frozen 2; simp at q2; have ql := hF8.lt)
        have hR8 := blk_apart HR7.out hgrow6 (fun g hg => by have := (hlt6 g hg).1; omega)
        have hc8 := HC7.out.apart hgrow6 (fun g hg => by have := (hlt6 g hg).1; omega)
        have hg8 : w.grownBy w6 (some cb) := grown_new HG7.out hgrow6 (fun g hg => by have := (hlt6 g hg).1; omega)
        have hr8 : w6.ownsRow (w2.heap.size + 1) 26 2 (.slice (some ⟨g6, 0, none⟩) (0 + 1) cap6) (0 + 1) ((l ++ [(x, y)]).flatMap bC) := by rw [← flat_snoc]; exact hown6
        have H1 := hide (blk_set_farF hR8 (b := w2.heap.size) (i := 2) (by omega) (.slice (some ⟨g6, 0, none⟩) (0 + 1) cap6))
        have H2 := hide (hF8.set_ 2 (.slice (some ⟨g6, 0, none⟩) (0 + 1) cap6))
        have H3 := hide (hc8.setCell (p := ⟨w2.heap.size, 2, none⟩) hcf (.slice (some ⟨g6, 0, none⟩) (0 + 1) cap6))
        have H4 := hide (grown_setNew hg8 (p := ⟨w2.heap.size, 2, none⟩) (by show w.heap.size ≤ w2.heap.size; omega) (.slice (some ⟨g6, 0, none⟩) (0 + 1) cap6))
        have H5 := hide (row_farF hr8 (p := ⟨w2.heap.size, 2, none⟩) (Nat.lt_succ_self _) (.slice (some ⟨g6, 0, none⟩) (0 + 1) cap6))
        clear hown6 hgrow6 hF8 hR8 hc8 hg8 hr8 hlt6
        go_wp2
        go_roundw
        case rel => exact ⟨k - 1, 0 + 1, .slice (some ⟨g6, 0, none⟩) (0 + 1) cap6, l ++ [(x, y)], by first | (congr 1; omega) | go_num, by omega, by simp [HLN.out], fun h0 => absurd h0 (by omega), H4.out, H3.out.more (by omega), H1.out, H2.out, H5.out⟩
        case measure => simp [intOf]; omega
      · obtain ⟨g, cap, rfl, hmc, hcm⟩ := row_formF HW4.out (Nat.succ_pos _)
        have hR5 := HR4.out.alloc (.cells #[.int .i64 x, .int .i64 y] 26)
        have hF5 := HF4.out.alloc (.cells #[.int .i64 x, .int .i64 y] 26)
        have hc5 := HC4.out.alloc (.cells #[.int .i64 x, .int .i64 y] 26)
        have hr5 := HW4.out.alloc (.cells #[.int .i64 x, .int .i64 y] 26)
        have hg5 := HG4.out.trans (World.grownBy_alloc _ (.cells #[.int .i64 x, .int .i64 y] 26) _)
        have k2 := hF5.cell 2
        simp at k2
        have kl := hF5.lt
        have p0 := b_cell hr5 (k := m) (j := 0) (by rw [HLN.out]; omega) (by omega)
        have p1 := b_cell hr5 (k := m) (j := 1) (by rw [HLN.out]; omega) (by omega)
        have gl := (hr5.lt g rfl).2
        have gl0 := (HW4.out.lt g rfl).2
        obtain ⟨p, hp⟩ : ∃ p, bX l m 0 = p := ⟨_, rfl⟩
        obtain ⟨q, hq⟩ : ∃ q, bX l m 1 = q := ⟨_, rfl⟩
        rw [hp] at p0; rw [hq] at p1
        simp only [Nat.add_zero] at p0
        clear hp hq
        by_cases e1 : p = x
        · subst e1
          by_cases e2 : q = y
          · subst e2
            have d0 : (w4.alloc (.cells #[.int .i64 p, .int .i64 q] 26)).cell? ⟨w4.heap.size, 0, none⟩ = some (.int .i64 p) := by rw [HB4.out.cell]; rfl
            have d1 : (w4.alloc (.cells #[.int .i64 p, .int .i64 q] 26)).cell? ⟨w4.heap.size, 1, none⟩ = some (.int .i64 q) := by rw [HB4.out.cell]; rfl
            have hj0 : IntKind.i64.wrap (m : Int) = (m : Int) := IntWalk.i64_in _ (by omega)
            have hj1 : (0 : Int) ≤ (m : Int) := by omega
            have hj2 : (m : Int) < (m : Int) + 1 := by omega
            have hrl5 := hr5.lt
            have hj0 : IntKind.i64.wrap ((m : Int) + 1 - 1) = (m : Int) := by rw [Int.add_sub_cancel]; exact IntWalk.i64_in _ (by omega)
            have hj1 : (0 : Int) ≤ (m : Int) := by omega
            have hj2 : (m : Int) < (m : Int) + 1 := by omega
            have hj3 : m < m + 1 := by omega
            have hj4 : (m : Int) < ((m + 1 : Nat) : Int) := by omega
            have hj5 : (0 : Int) ≤ (m : Int) + 1 - 1 := by omega
            have hj6 : (m : Int) + 1 - 1 < (m : Int) + 1 := by omega
            have hj7 : ((m : Int) + 1 - 1).toNat = m := by omega
            have hj8 : (0 : Int) ≤ ((m + 1 : Nat) : Int) - 1 := by omega
            have hj9 : ((m + 1 : Nat) : Int) - 1 < ((m + 1 : Nat) : Int) := by omega
            have hj10 : (((m + 1 : Nat) : Int) - 1).toNat = m := by omega
            have hj11 : IntKind.i64.wrap (((m + 1 : Nat) : Int) - 1) = (m : Int) := by rw [show ((m + 1 : Nat) : Int) - 1 = (m : Int) by omega]; exact IntWalk.i64_in _ (by omega)
            have hS : (w4.alloc (.cells #[.int .i64 p, .int .i64 q] 26)).drew.cell? ⟨w2.heap.size, 2, none⟩ = some (.slice (some ⟨g, 0, none⟩) (m + 1) cap) ∧ (w4.alloc (.cells #[.int .i64 p, .int .i64 q] 26)).drew.cell? ⟨w4.heap.size, 0, none⟩ = some (.int .i64 p) ∧ (w4.alloc (.cells #[.int .i64 p, .int .i64 q] 26)).drew.cell? ⟨w4.heap.size, 1, none⟩ = some (.int .i64 q) ∧ (w4.alloc (.cells #[.int .i64 p, .int .i64 q] 26)).drew.cell? ⟨g, m * 2, none⟩ = some (.int .i64 p) ∧ (w4.alloc (.cells #[.int .i64 p, .int .i64 q] 26)).drew.cell? ⟨g, m * 2 + 1, none⟩ = some (.int .i64 q) := ⟨k2, d0, d1, p0, p1⟩
            go_wp2
            go_region_held3 (fun w' => w'.cell? ⟨w2.heap.size, 2, none⟩ = some (.slice (some ⟨g, 0, none⟩) (m + 1) cap) ∧ w'.cell? ⟨w4.heap.size, 0, none⟩ = some (.int .i64 p) ∧ w'.cell? ⟨w4.heap.size, 1, none⟩ = some (.int .i64 q) ∧ w'.cell? ⟨g, m * 2, none⟩ = some (.int .i64 p) ∧ w'.cell? ⟨g, m * 2 + 1, none⟩ = some (.int .i64 q)) (first | assumption) (first
              | ((go_at_call 87); (refine (spec_one cb K (M + 6 + 14 * (m + 1) + 10) 8 _ (by omega) (by omega) (Cur.drewF hc5)).mono ?_); (rintro e w5 ⟨u, rfl, hd5⟩); (have hF6 := blk_drawn hd5 (blk_drewF hF5) hcf); (have hB6 := blk_drawn hd5 (blk_drewF HB4.out) (by omega)); (have hr6 := row_drawnF (row_drewF hr5) hd5.1 (by omega)); (have e2 := hF6.cell 2); (have e3 := hB6.cell 0); (have e4 := hB6.cell 1); (simp at e2 e3 e4); (have e5 : w5.cell? ⟨g, m * 2, none⟩ = some (.int .i64 p) := (World.cell?_of_block (hd5.1.block g gl (fun e => by injection e with e; have := (hrl5 g rfl).1; omega))).trans p0); (have e6 : w5.cell? ⟨g, m * 2 + 1, none⟩ = some (.int .i64 q) := (World.cell?_of_block (hd5.1.block g gl (fun e => by injection e with e; have := (hrl5 g rfl).1; omega))).trans p1); (have hS5 := And.intro e2 (And.intro e3 (And.intro e4 (And.intro e5 e6))))))
            have hR6 := blk_drawn hd5 (blk_drewF hR5) hcb
            have hc6 := hd5.2
            have hg6 : w.grownBy w5 (some cb) := (grown_drewF hg5).trans hd5.1
            clear k2 kl p0 p1 gl d0 d1 hS hF5 hR5 hc5 hr5 hg5 hd5 e2 e3 e4 e5 e6 hS5 hrl5
            cases u
            · have HF := hide hF6; have HR := hide hR6; have HC := hide hc6; have HW := hide hr6; have HG := hide hg6
              have b0 := hB6.cell 0; have bf := hB6.frozen 0; have bl := hB6.lt
              simp at b0
              have HBB := hide hB6
              obtain ⟨x', hx'⟩ : ∃ x', (p + 1) % 7 = x' := ⟨_, rfl⟩
              have hxt : Int.tmod (p + 1) 7 = x' := by rw [Int.tmod_eq_emod_of_nonneg (by omega)]; exact hx'
              have hxr : 0 ≤ x' ∧ x' < 7 := by omega
              have hs5 : w4.heap.size < w5.heap.size := hB6.lt
              have hs2 := HF.out.lt
              have hF6 := blk_set_farF HF.out (b := w4.heap.size) (i := 0) (by omega) (.int .i64 x')
              have hR6 := blk_set_farF HR.out (b := w4.heap.size) (i := 0) (by omega) (.int .i64 x')
              have hB6 := blk_set_toF HBB.out 0 (.int .i64 x') (cs' := #[.int .i64 x', .int .i64 q]) rfl
              have hc6 := HC.out.setCell (p := ⟨w4.heap.size, 0, none⟩) (by show cb < w4.heap.size; omega) (.int .i64 x')
              have hr6 := row_neF HW.out (p := ⟨w4.heap.size, 0, none⟩) (fun e => by injection e with e; have e : g = w4.heap.size := e; omega) (.int .i64 x')
              have hg6 := grown_setNew HG.out (p := ⟨w4.heap.size, 0, none⟩) (by show w.heap.size ≤ w4.heap.size; omega) (.int .i64 x')
              clear HF HR HC HW HG HBB
              have k2 := hF6.cell 2
              simp at k2
              have kf2 := hF6.frozen 2
              have bb0 := hB6.cell 0; have bb1 := hB6.cell 1
              simp at bb0 bb1
              have bl := hB6.lt
              have kl := hF6.lt
              have hlt6 := hr6.lt
              have hF7 := hF6.alloc (.cells (bC (x', q)).toArray 26)
              have hc7 := hc6.alloc (.cells (bC (x', q)).toArray 26)
              have hR7 := hR6.alloc (.cells (bC (x', q)).toArray 26)
              have hg7 := hg6.trans (World.grownBy_alloc _ (.cells (bC (x', q)).toArray 26) _)
              have HF7 := hide hF7; have HC7 := hide hc7; have HR7 := hide hR7; have HG7 := hide hg7; have HRR := hide hr6
              clear hF6 hc6 hR6 hB6 hg6 hF7 hc7 hR7 hg7 hr6
              go_wp2_with (at_builtin; refine wpList_append_far _ rfl _ _ 34 rfl (w2.heap.size + 1) 26 i0 (.agg #[.int .i64 0, .int .i64 0]) 2 16 Try.underlying34 hi0 hy0 hy1 hy2 rfl (by decide) _ _ _ (by rfl) (HRR.out.alloc _) ⟨w5.heap.size, 0, none⟩ 1 1 (bC (x', q)) (by rfl) rfl (cells_at (w5.setCell ⟨w4.heap.size, 0, none⟩ (.int .i64 x')) _ _ _ (by first | rfl | simp)) (bC_one _) (by unfold maxLen; omega) (by omega) (by have := HG7.out.size; simp only [World.size_alloc] at this ⊢; omega) ?_; intro v6 w6 hown6 hgrow6 _; obtain ⟨g6, cap6, rfl, hm6, hx6⟩ := row_formF hown6 (Nat.succ_pos _); have hF8 := blk_apart HF7.out hgrow6 (fun g hg => by have := (hlt6 g hg).1; omega); have q2 := hF8.cell 2; have qf2 := hF8.frozen 2; simp at q2; have ql := hF8.lt)
              have hR8 := blk_apart HR7.out hgrow6 (fun g hg => by have := (hlt6 g hg).1; omega)
              have hc8 := HC7.out.apart hgrow6 (fun g hg => by have := (hlt6 g hg).1; omega)
              have hg8 : w.grownBy w6 (some cb) := grown_new HG7.out hgrow6 (fun g hg => by have := (hlt6 g hg).1; omega)
              have hr8 : w6.ownsRow (w2.heap.size + 1) 26 2 (.slice (some ⟨g6, 0, none⟩) ((m + 1) + 1) cap6) ((m + 1) + 1) ((l ++ [(x', q)]).flatMap bC) := by rw [← flat_snoc]; exact hown6
              have H1 := hide (blk_set_farF hR8 (b := w2.heap.size) (i := 2) (by omega) (.slice (some ⟨g6, 0, none⟩) ((m + 1) + 1) cap6))
              have H2 := hide (hF8.set_ 2 (.slice (some ⟨g6, 0, none⟩) ((m + 1) + 1) cap6))
              have H3 := hide (hc8.setCell (p := ⟨w2.heap.size, 2, none⟩) hcf (.slice (some ⟨g6, 0, none⟩) ((m + 1) + 1) cap6))
              have H4 := hide (grown_setNew hg8 (p := ⟨w2.heap.size, 2, none⟩) (by show w.heap.size ≤ w2.heap.size; omega) (.slice (some ⟨g6, 0, none⟩) ((m + 1) + 1) cap6))
              have H5 := hide (row_farF hr8 (p := ⟨w2.heap.size, 2, none⟩) (Nat.lt_succ_self _) (.slice (some ⟨g6, 0, none⟩) ((m + 1) + 1) cap6))
              clear hown6 hgrow6 hF8 hR8 hc8 hg8 hr8 hlt6
              go_wp2
              go_roundw
              case rel => exact ⟨k - 1, (m + 1) + 1, .slice (some ⟨g6, 0, none⟩) ((m + 1) + 1) cap6, l ++ [(x', q)], by first | (congr 1; omega) | go_num, by omega, by simp [HLN.out], fun h0 => absurd h0 (by omega), H4.out, H3.out.more (by omega), H1.out, H2.out, H5.out⟩
              case measure => simp [intOf]; omega
            · skip
              have k2 := hF6.cell 2
              simp at k2
              have kf2 := hF6.frozen 2
              have bb0 := hB6.cell 0; have bb1 := hB6.cell 1
              simp at bb0 bb1
              have bl := hB6.lt
              have kl := hF6.lt
              have hlt6 := hr6.lt
              have hF7 := hF6.alloc (.cells (bC (p, q)).toArray 26)
              have hc7 := hc6.alloc (.cells (bC (p, q)).toArray 26)
              have hR7 := hR6.alloc (.cells (bC (p, q)).toArray 26)
              have hg7 := hg6.trans (World.grownBy_alloc _ (.cells (bC (p, q)).toArray 26) _)
              have HF7 := hide hF7; have HC7 := hide hc7; have HR7 := hide hR7; have HG7 := hide hg7; have HRR := hide hr6
              clear hF6 hc6 hR6 hB6 hg6 hF7 hc7 hR7 hg7 hr6
              go_wp2_with (at_builtin; refine wpList_append_far _ rfl _ _ 34 rfl (w2.heap.size + 1) 26 i0 (.agg #[.int .i64 0, .int .i64 0]) 2 16 Try.underlying34 hi0 hy0 hy1 hy2 rfl (by decide) _ _ _ (by rfl) (HRR.out.alloc _) ⟨w5.heap.size, 0, none⟩ 1 1 (bC (p, q)) (by rfl) rfl (cells_at w5 _ _ _ (by first | rfl | simp)) (bC_one _) (by unfold maxLen; omega) (by omega) (by have := HG7.out.size; simp only [World.size_alloc] at this ⊢; omega) ?_; intro v6 w6 hown6 hgrow6 _; obtain ⟨g6, cap6, rfl, hm6, hx6⟩ := row_formF hown6 (Nat.succ_pos _); have hF8 := blk_apart HF7.out hgrow6 (fun g hg => by have := (hlt6 g hg).1; omega); have q2 := hF8.cell 2; have qf2 := hF8.frozen 2; simp at q2; have ql := hF8.lt)
              have hR8 := blk_apart HR7.out hgrow6 (fun g hg => by have := (hlt6 g hg).1; omega)
              have hc8 := HC7.out.apart hgrow6 (fun g hg => by have := (hlt6 g hg).1; omega)
              have hg8 : w.grownBy w6 (some cb) := grown_new HG7.out hgrow6 (fun g hg => by have := (hlt6 g hg).1; omega)
              have hr8 : w6.ownsRow (w2.heap.size + 1) 26 2 (.slice (some ⟨g6, 0, none⟩) ((m + 1) + 1) cap6) ((m + 1) + 1) ((l ++ [(p, q)]).flatMap bC) := by rw [← flat_snoc]; exact hown6
              have H1 := hide (blk_set_farF hR8 (b := w2.heap.size) (i := 2) (by omega) (.slice (some ⟨g6, 0, none⟩) ((m + 1) + 1) cap6))
              have H2 := hide (hF8.set_ 2 (.slice (some ⟨g6, 0, none⟩) ((m + 1) + 1) cap6))
              have H3 := hide (hc8.setCell (p := ⟨w2.heap.size, 2, none⟩) hcf (.slice (some ⟨g6, 0, none⟩) ((m + 1) + 1) cap6))
              have H4 := hide (grown_setNew hg8 (p := ⟨w2.heap.size, 2, none⟩) (by show w.heap.size ≤ w2.heap.size; omega) (.slice (some ⟨g6, 0, none⟩) ((m + 1) + 1) cap6))
              have H5 := hide (row_farF hr8 (p := ⟨w2.heap.size, 2, none⟩) (Nat.lt_succ_self _) (.slice (some ⟨g6, 0, none⟩) ((m + 1) + 1) cap6))
              clear hown6 hgrow6 hF8 hR8 hc8 hg8 hr8 hlt6
              go_wp2
              go_roundw
              case rel => exact ⟨k - 1, (m + 1) + 1, .slice (some ⟨g6, 0, none⟩) ((m + 1) + 1) cap6, l ++ [(p, q)], by first | (congr 1; omega) | go_num, by omega, by simp [HLN.out], fun h0 => absurd h0 (by omega), H4.out, H3.out.more (by omega), H1.out, H2.out, H5.out⟩
              case measure => simp [intOf]; omega
          · skip
            have hx := BW.cell (w := w4.alloc (.cells #[.int .i64 p, .int .i64 y] 26))
            go_wp2
            refine wp_region_bw (by kernel_rfl) (by kernel_rfl) ?_
            repeat (go_big_quiet_step ((first | fail)))
            refine wpQuiet_end fun w1 hb1 => ?_
            have hF6 := hF5.below hb1 hF5.lt
            have hR6 := hR5.below hb1 hR5.lt
            have hB6 := HB4.out.below hb1 HB4.out.lt
            have hc6 := hc5.on hb1
            have hr6 := row_below hr5 hb1
            have hg6 := grown_belowC hg5 hb1
            clear hx hF5 hR5 hc5 hr5 hg5 hb1
            clear k2 kl p0 p1 gl
            have k2 := hF6.cell 2
            simp at k2
            have kf2 := hF6.frozen 2
            have bb0 := hB6.cell 0; have bb1 := hB6.cell 1
            simp at bb0 bb1
            have bl := hB6.lt
            have kl := hF6.lt
            have hlt6 := hr6.lt
            have hF7 := hF6.alloc (.cells (bC (p, y)).toArray 26)
            have hc7 := hc6.alloc (.cells (bC (p, y)).toArray 26)
            have hR7 := hR6.alloc (.cells (bC (p, y)).toArray 26)
            have hg7 := hg6.trans (World.grownBy_alloc _ (.cells (bC (p, y)).toArray 26) _)
            have HF7 := hide hF7; have HC7 := hide hc7; have HR7 := hide hR7; have HG7 := hide hg7; have HRR := hide hr6
            clear hF6 hc6 hR6 hB6 hg6 hF7 hc7 hR7 hg7 hr6
            go_wp2_with (at_builtin; refine wpList_append_far _ rfl _ _ 34 rfl (w2.heap.size + 1) 26 i0 (.agg #[.int .i64 0, .int .i64 0]) 2 16 Try.underlying34 hi0 hy0 hy1 hy2 rfl (by decide) _ _ _ (by rfl) (HRR.out.alloc _) ⟨w1.heap.size, 0, none⟩ 1 1 (bC (p, y)) (by rfl) rfl (cells_at w1 _ _ _ (by first | rfl | simp)) (bC_one _) (by unfold maxLen; omega) (by omega) (by have := HG7.out.size; simp only [World.size_alloc] at this ⊢; omega) ?_; intro v6 w6 hown6 hgrow6 _; obtain ⟨g6, cap6, rfl, hm6, hx6⟩ := row_formF hown6 (Nat.succ_pos _); have hF8 := blk_apart HF7.out hgrow6 (fun g hg => by have := (hlt6 g hg).1; omega); have q2 := hF8.cell 2; have qf2 := hF8.frozen 2; simp at q2; have ql := hF8.lt)
            have hR8 := blk_apart HR7.out hgrow6 (fun g hg => by have := (hlt6 g hg).1; omega)
            have hc8 := HC7.out.apart hgrow6 (fun g hg => by have := (hlt6 g hg).1; omega)
            have hg8 : w.grownBy w6 (some cb) := grown_new HG7.out hgrow6 (fun g hg => by have := (hlt6 g hg).1; omega)
            have hr8 : w6.ownsRow (w2.heap.size + 1) 26 2 (.slice (some ⟨g6, 0, none⟩) ((m + 1) + 1) cap6) ((m + 1) + 1) ((l ++ [(p, y)]).flatMap bC) := by rw [← flat_snoc]; exact hown6
            have H1 := hide (blk_set_farF hR8 (b := w2.heap.size) (i := 2) (by omega) (.slice (some ⟨g6, 0, none⟩) ((m + 1) + 1) cap6))
            have H2 := hide (hF8.set_ 2 (.slice (some ⟨g6, 0, none⟩) ((m + 1) + 1) cap6))
            have H3 := hide (hc8.setCell (p := ⟨w2.heap.size, 2, none⟩) hcf (.slice (some ⟨g6, 0, none⟩) ((m + 1) + 1) cap6))
            have H4 := hide (grown_setNew hg8 (p := ⟨w2.heap.size, 2, none⟩) (by show w.heap.size ≤ w2.heap.size; omega) (.slice (some ⟨g6, 0, none⟩) ((m + 1) + 1) cap6))
            have H5 := hide (row_farF hr8 (p := ⟨w2.heap.size, 2, none⟩) (Nat.lt_succ_self _) (.slice (some ⟨g6, 0, none⟩) ((m + 1) + 1) cap6))
            clear hown6 hgrow6 hF8 hR8 hc8 hg8 hr8 hlt6
            go_wp2
            go_roundw
            case rel => exact ⟨k - 1, (m + 1) + 1, .slice (some ⟨g6, 0, none⟩) ((m + 1) + 1) cap6, l ++ [(p, y)], by first | (congr 1; omega) | go_num, by omega, by simp [HLN.out], fun h0 => absurd h0 (by omega), H4.out, H3.out.more (by omega), H1.out, H2.out, H5.out⟩
            case measure => simp [intOf]; omega
        · skip
          have hx := BW.cell (w := w4.alloc (.cells #[.int .i64 x, .int .i64 y] 26))
          go_wp2
          refine wp_region_bw (by kernel_rfl) (by kernel_rfl) ?_
          repeat (go_big_quiet_step ((first | fail)))
          refine wpQuiet_end fun w1 hb1 => ?_
          have hF6 := hF5.below hb1 hF5.lt
          have hR6 := hR5.below hb1 hR5.lt
          have hB6 := HB4.out.below hb1 HB4.out.lt
          have hc6 := hc5.on hb1
          have hr6 := row_below hr5 hb1
          have hg6 := grown_belowC hg5 hb1
          clear hx hF5 hR5 hc5 hr5 hg5 hb1
          clear k2 kl p0 p1 gl
          have k2 := hF6.cell 2
          simp at k2
          have kf2 := hF6.frozen 2
          have bb0 := hB6.cell 0; have bb1 := hB6.cell 1
          simp at bb0 bb1
          have bl := hB6.lt
          have kl := hF6.lt
          have hlt6 := hr6.lt
          have hF7 := hF6.alloc (.cells (bC (x, y)).toArray 26)
          have hc7 := hc6.alloc (.cells (bC (x, y)).toArray 26)
          have hR7 := hR6.alloc (.cells (bC (x, y)).toArray 26)
          have hg7 := hg6.trans (World.grownBy_alloc _ (.cells (bC (x, y)).toArray 26) _)
          have HF7 := hide hF7; have HC7 := hide hc7; have HR7 := hide hR7; have HG7 := hide hg7; have HRR := hide hr6
          clear hF6 hc6 hR6 hB6 hg6 hF7 hc7 hR7 hg7 hr6
          go_wp2_with (at_builtin; refine wpList_append_far _ rfl _ _ 34 rfl (w2.heap.size + 1) 26 i0 (.agg #[.int .i64 0, .int .i64 0]) 2 16 Try.underlying34 hi0 hy0 hy1 hy2 rfl (by decide) _ _ _ (by rfl) (HRR.out.alloc _) ⟨w1.heap.size, 0, none⟩ 1 1 (bC (x, y)) (by rfl) rfl (cells_at w1 _ _ _ (by first | rfl | simp)) (bC_one _) (by unfold maxLen; omega) (by omega) (by have := HG7.out.size; simp only [World.size_alloc] at this ⊢; omega) ?_; intro v6 w6 hown6 hgrow6 _; obtain ⟨g6, cap6, rfl, hm6, hx6⟩ := row_formF hown6 (Nat.succ_pos _); have hF8 := blk_apart HF7.out hgrow6 (fun g hg => by have := (hlt6 g hg).1; omega); have q2 := hF8.cell 2; have qf2 := hF8.frozen 2; simp at q2; have ql := hF8.lt)
          have hR8 := blk_apart HR7.out hgrow6 (fun g hg => by have := (hlt6 g hg).1; omega)
          have hc8 := HC7.out.apart hgrow6 (fun g hg => by have := (hlt6 g hg).1; omega)
          have hg8 : w.grownBy w6 (some cb) := grown_new HG7.out hgrow6 (fun g hg => by have := (hlt6 g hg).1; omega)
          have hr8 : w6.ownsRow (w2.heap.size + 1) 26 2 (.slice (some ⟨g6, 0, none⟩) ((m + 1) + 1) cap6) ((m + 1) + 1) ((l ++ [(x, y)]).flatMap bC) := by rw [← flat_snoc]; exact hown6
          have H1 := hide (blk_set_farF hR8 (b := w2.heap.size) (i := 2) (by omega) (.slice (some ⟨g6, 0, none⟩) ((m + 1) + 1) cap6))
          have H2 := hide (hF8.set_ 2 (.slice (some ⟨g6, 0, none⟩) ((m + 1) + 1) cap6))
          have H3 := hide (hc8.setCell (p := ⟨w2.heap.size, 2, none⟩) hcf (.slice (some ⟨g6, 0, none⟩) ((m + 1) + 1) cap6))
          have H4 := hide (grown_setNew hg8 (p := ⟨w2.heap.size, 2, none⟩) (by show w.heap.size ≤ w2.heap.size; omega) (.slice (some ⟨g6, 0, none⟩) ((m + 1) + 1) cap6))
          have H5 := hide (row_farF hr8 (p := ⟨w2.heap.size, 2, none⟩) (Nat.lt_succ_self _) (.slice (some ⟨g6, 0, none⟩) ((m + 1) + 1) cap6))
          clear hown6 hgrow6 hF8 hR8 hc8 hg8 hr8 hlt6
          go_wp2
          go_roundw
          case rel => exact ⟨k - 1, (m + 1) + 1, .slice (some ⟨g6, 0, none⟩) ((m + 1) + 1) cap6, l ++ [(x, y)], by first | (congr 1; omega) | go_num, by omega, by simp [HLN.out], fun h0 => absurd h0 (by omega), H4.out, H3.out.more (by omega), H1.out, H2.out, H5.out⟩
          case measure => simp [intOf]; omega
    · obtain rfl : k = 0 := by omega
      obtain ⟨g, cap, rfl, hmc, hcm⟩ := row_formF hrow (by omega)
      have hr := hrow
      clear hrow
      go_wp2_with fail
      refine (spec_pick cb K (M + 6 + 14 * m) 70 _ (by omega) (by omega) hc).mono ?_
      rintro e w4 ⟨x, rfl, _, _, _, hd⟩
      have hg4 := (show w.grownBy wr (some cb) from hg).trans hd.1
      have hc4 := hd.2
      have hR4 := blk_drawn hd hR hcb
      have hF4 := blk_drawn hd hF hcf
      have hr4 := row_drawnF hr hd.1 (by omega)
      clear hd hg hc hR hF hr
      have hz4 := hg4.size
      by_cases e0 : x = 0
      · subst e0
        have hza4 := hg4.size
        go_wp2_with fail
        refine (spec_amongY cb K (M + 6 + 14 * m + 2) [0, 99, 100] (-1) 1000 _ _ _ rfl (by decide) (by decide) (by decide) _ rfl (blk_new_atC _ _ _ _ (by first | rfl | simp)) (by first | omega | (simp; omega)) (by omega) (by (repeat (first | with_reducible assumption | (with_reducible refine Cur.alloc ?_ _) | (with_reducible refine Cur.setCell ?_ (by (first | with_reducible assumption | omega | (simp; done) | (simp; omega))) _))))).mono ?_
        rintro e w5 ⟨y, rfl, _, _, hd⟩
        have hg5 : w.grownBy w5 (some cb) := World.grownBy.trans (by (repeat (first | with_reducible assumption | (with_reducible refine World.grownBy.trans ?_ (World.grownBy_alloc _ _ _)) | (with_reducible refine grown_setNew ?_ (by (first | with_reducible assumption | omega | (simp; done) | (simp; omega))) _) | with_reducible exact grown_refl _ _))) hd.1
        have hc5 := hd.2
        have hR5 := blk_drawn hd (hR4.alloc _) hcb
        have hF5 := blk_drawn hd (hF4.alloc _) hcf
        have hr5 := row_drawnF (hr4.alloc _) hd.1 (by omega)
        clear hd hg4 hc4 hR4 hF4 hr4
        have c0 := hF5.cell 0; have c1 := hF5.cell 1; have c2 := hF5.cell 2; have c3 := hF5.cell 3
        have cr0 := hR5.cell 0; have cr1 := hR5.cell 1; have cr2 := hR5.cell 2; have cr3 := hR5.cell 3
        simp at c0 c1 c2 c3 cr0 cr1 cr2 cr3
        have kl := hF5.lt; have rl := hR5.lt
        have f0 := hR5.frozen 0; have f1 := hR5.frozen 1; have f2 := hR5.frozen 2; have f3 := hR5.frozen 3
        have fs := hF5.frozen 0
        have hne : ¬ w2.heap.size = w.heap.size := by omega
        have hnf : ¬ w.heap.size = w2.heap.size := by omega
        have HROW := hide (row_farF ((row_farF ((row_farF ((row_farF ((row_farF (hr5) (p := ⟨w2.heap.size, 0, none⟩) (Nat.lt_succ_self _) (.int .i64 y))) (p := ⟨w.heap.size, 0, none⟩) (by show w.heap.size < w2.heap.size + 1; omega) (.int .i64 y))) (p := ⟨w.heap.size, 1, none⟩) (by show w.heap.size < w2.heap.size + 1; omega) (.string nm))) (p := ⟨w.heap.size, 2, none⟩) (by show w.heap.size < w2.heap.size + 1; omega) (.slice (some ⟨g, 0, none⟩) m cap))) (p := ⟨w.heap.size, 3, none⟩) (by show w.heap.size < w2.heap.size + 1; omega) (.int .i64 sl))
        have HGR := hide (grown_setNew ((grown_setNew ((grown_setNew ((grown_setNew ((grown_setNew (hg5) (p := ⟨w2.heap.size, 0, none⟩) (by show w.heap.size ≤ w2.heap.size; omega) (.int .i64 y))) (p := ⟨w.heap.size, 0, none⟩) (Nat.le_refl _) (.int .i64 y))) (p := ⟨w.heap.size, 1, none⟩) (Nat.le_refl _) (.string nm))) (p := ⟨w.heap.size, 2, none⟩) (Nat.le_refl _) (.slice (some ⟨g, 0, none⟩) m cap))) (p := ⟨w.heap.size, 3, none⟩) (Nat.le_refl _) (.int .i64 sl))
        have HCU := hide (Cur.setCell ((Cur.setCell ((Cur.setCell ((Cur.setCell ((Cur.setCell (hc5) (p := ⟨w2.heap.size, 0, none⟩) hcf (.int .i64 y))) (p := ⟨w.heap.size, 0, none⟩) hcb (.int .i64 y))) (p := ⟨w.heap.size, 1, none⟩) hcb (.string nm))) (p := ⟨w.heap.size, 2, none⟩) hcb (.slice (some ⟨g, 0, none⟩) m cap))) (p := ⟨w.heap.size, 3, none⟩) hcb (.int .i64 sl))
        clear hr5 hg5 hc5
        go_wp2
        refine bodyPost_ret (v := .agg #[.int .i64 y, .string nm, .slice (some ⟨g, 0, none⟩) m cap, .int .i64 sl]) (by simp [results, Try.results89, go_sem, cr0, cr1, cr2, cr3, hne, hnf]) rfl ⟨(⟨y, nm, m, bX l, sl⟩, g, cap), rfl, fok_row HROW.out (by exact HLN.out) (by omega) (by omega) (by omega) (by omega), HGR.out, HCU.out.more (by omega)⟩
      · have e0 : (x == 0) = false := by simp [e0]
        by_cases e1 : x = 1
        · subst e1
          have hza4 := hg4.size
          go_wp2_with fail
          refine (spec_ofX cb K (M + 6 + 14 * m + 2) [⟨#[]⟩, ⟨#[65]⟩, ⟨#[97, 98, 99, 100, 101, 102, 103, 104, 105, 106, 107]⟩] _ _ _ rfl (by decide) (by decide) (by decide) _ rfl (blk_new_atC _ _ _ _ (by first | rfl | simp)) (by first | omega | (simp; omega)) (by omega) (by (repeat (first | with_reducible assumption | (with_reducible refine Cur.alloc ?_ _) | (with_reducible refine Cur.setCell ?_ (by (first | with_reducible assumption | omega | (simp; done) | (simp; omega))) _))))).mono ?_
          rintro e w5 ⟨y, rfl, hy, hd⟩
          have hg5 : w.grownBy w5 (some cb) := World.grownBy.trans (by (repeat (first | with_reducible assumption | (with_reducible refine World.grownBy.trans ?_ (World.grownBy_alloc _ _ _)) | (with_reducible refine grown_setNew ?_ (by (first | with_reducible assumption | omega | (simp; done) | (simp; omega))) _) | with_reducible exact grown_refl _ _))) hd.1
          have hc5 := hd.2
          have hR5 := blk_drawn hd (hR4.alloc _) hcb
          have hF5 := blk_drawn hd (hF4.alloc _) hcf
          have hr5 := row_drawnF (hr4.alloc _) hd.1 (by omega)
          clear hd hg4 hc4 hR4 hF4 hr4
          have c0 := hF5.cell 0; have c1 := hF5.cell 1; have c2 := hF5.cell 2; have c3 := hF5.cell 3
          have cr0 := hR5.cell 0; have cr1 := hR5.cell 1; have cr2 := hR5.cell 2; have cr3 := hR5.cell 3
          simp at c0 c1 c2 c3 cr0 cr1 cr2 cr3
          have kl := hF5.lt; have rl := hR5.lt
          have f0 := hR5.frozen 0; have f1 := hR5.frozen 1; have f2 := hR5.frozen 2; have f3 := hR5.frozen 3
          have fs := hF5.frozen 1
          have hne : ¬ w2.heap.size = w.heap.size := by omega
          have hnf : ¬ w.heap.size = w2.heap.size := by omega
          have HROW := hide (row_farF ((row_farF ((row_farF ((row_farF ((row_farF (hr5) (p := ⟨w2.heap.size, 1, none⟩) (Nat.lt_succ_self _) (.string y))) (p := ⟨w.heap.size, 0, none⟩) (by show w.heap.size < w2.heap.size + 1; omega) (.int .i64 z))) (p := ⟨w.heap.size, 1, none⟩) (by show w.heap.size < w2.heap.size + 1; omega) (.string y))) (p := ⟨w.heap.size, 2, none⟩) (by show w.heap.size < w2.heap.size + 1; omega) (.slice (some ⟨g, 0, none⟩) m cap))) (p := ⟨w.heap.size, 3, none⟩) (by show w.heap.size < w2.heap.size + 1; omega) (.int .i64 sl))
          have HGR := hide (grown_setNew ((grown_setNew ((grown_setNew ((grown_setNew ((grown_setNew (hg5) (p := ⟨w2.heap.size, 1, none⟩) (by show w.heap.size ≤ w2.heap.size; omega) (.string y))) (p := ⟨w.heap.size, 0, none⟩) (Nat.le_refl _) (.int .i64 z))) (p := ⟨w.heap.size, 1, none⟩) (Nat.le_refl _) (.string y))) (p := ⟨w.heap.size, 2, none⟩) (Nat.le_refl _) (.slice (some ⟨g, 0, none⟩) m cap))) (p := ⟨w.heap.size, 3, none⟩) (Nat.le_refl _) (.int .i64 sl))
          have HCU := hide (Cur.setCell ((Cur.setCell ((Cur.setCell ((Cur.setCell ((Cur.setCell (hc5) (p := ⟨w2.heap.size, 1, none⟩) hcf (.string y))) (p := ⟨w.heap.size, 0, none⟩) hcb (.int .i64 z))) (p := ⟨w.heap.size, 1, none⟩) hcb (.string y))) (p := ⟨w.heap.size, 2, none⟩) hcb (.slice (some ⟨g, 0, none⟩) m cap))) (p := ⟨w.heap.size, 3, none⟩) hcb (.int .i64 sl))
          clear hr5 hg5 hc5
          go_wp2
          refine bodyPost_ret (v := .agg #[.int .i64 z, .string y, .slice (some ⟨g, 0, none⟩) m cap, .int .i64 sl]) (by simp [results, Try.results89, go_sem, cr0, cr1, cr2, cr3, hne, hnf]) rfl ⟨(⟨z, y, m, bX l, sl⟩, g, cap), rfl, fok_row HROW.out (by exact HLN.out) (by omega) (by omega) (by omega) (by omega), HGR.out, HCU.out.more (by omega)⟩
        · have e1 : (x == 1) = false := by simp [e1]
          by_cases e2 : x = 2
          · subst e2
            have hza4 := hg4.size
            go_wp2_with fail
            refine (spec_amongY cb K (M + 6 + 14 * m + 2) [-1, 1001] (-1) 1001 _ _ _ rfl (by decide) (by decide) (by decide) _ rfl (blk_new_atC _ _ _ _ (by first | rfl | simp)) (by first | omega | (simp; omega)) (by omega) (by (repeat (first | with_reducible assumption | (with_reducible refine Cur.alloc ?_ _) | (with_reducible refine Cur.setCell ?_ (by (first | with_reducible assumption | omega | (simp; done) | (simp; omega))) _))))).mono ?_
            rintro e w5 ⟨y, rfl, _, _, hd⟩
            have hg5 : w.grownBy w5 (some cb) := World.grownBy.trans (by (repeat (first | with_reducible assumption | (with_reducible refine World.grownBy.trans ?_ (World.grownBy_alloc _ _ _)) | (with_reducible refine grown_setNew ?_ (by (first | with_reducible assumption | omega | (simp; done) | (simp; omega))) _) | with_reducible exact grown_refl _ _))) hd.1
            have hc5 := hd.2
            have hR5 := blk_drawn hd (hR4.alloc _) hcb
            have hF5 := blk_drawn hd (hF4.alloc _) hcf
            have hr5 := row_drawnF (hr4.alloc _) hd.1 (by omega)
            clear hd hg4 hc4 hR4 hF4 hr4
            have c0 := hF5.cell 0; have c1 := hF5.cell 1; have c2 := hF5.cell 2; have c3 := hF5.cell 3
            have cr0 := hR5.cell 0; have cr1 := hR5.cell 1; have cr2 := hR5.cell 2; have cr3 := hR5.cell 3
            simp at c0 c1 c2 c3 cr0 cr1 cr2 cr3
            have kl := hF5.lt; have rl := hR5.lt
            have f0 := hR5.frozen 0; have f1 := hR5.frozen 1; have f2 := hR5.frozen 2; have f3 := hR5.frozen 3
            have fs := hF5.frozen 3
            have hne : ¬ w2.heap.size = w.heap.size := by omega
            have hnf : ¬ w.heap.size = w2.heap.size := by omega
            have HROW := hide (row_farF ((row_farF ((row_farF ((row_farF ((row_farF (hr5) (p := ⟨w2.heap.size, 3, none⟩) (Nat.lt_succ_self _) (.int .i64 y))) (p := ⟨w.heap.size, 0, none⟩) (by show w.heap.size < w2.heap.size + 1; omega) (.int .i64 z))) (p := ⟨w.heap.size, 1, none⟩) (by show w.heap.size < w2.heap.size + 1; omega) (.string nm))) (p := ⟨w.heap.size, 2, none⟩) (by show w.heap.size < w2.heap.size + 1; omega) (.slice (some ⟨g, 0, none⟩) m cap))) (p := ⟨w.heap.size, 3, none⟩) (by show w.heap.size < w2.heap.size + 1; omega) (.int .i64 y))
            have HGR := hide (grown_setNew ((grown_setNew ((grown_setNew ((grown_setNew ((grown_setNew (hg5) (p := ⟨w2.heap.size, 3, none⟩) (by show w.heap.size ≤ w2.heap.size; omega) (.int .i64 y))) (p := ⟨w.heap.size, 0, none⟩) (Nat.le_refl _) (.int .i64 z))) (p := ⟨w.heap.size, 1, none⟩) (Nat.le_refl _) (.string nm))) (p := ⟨w.heap.size, 2, none⟩) (Nat.le_refl _) (.slice (some ⟨g, 0, none⟩) m cap))) (p := ⟨w.heap.size, 3, none⟩) (Nat.le_refl _) (.int .i64 y))
            have HCU := hide (Cur.setCell ((Cur.setCell ((Cur.setCell ((Cur.setCell ((Cur.setCell (hc5) (p := ⟨w2.heap.size, 3, none⟩) hcf (.int .i64 y))) (p := ⟨w.heap.size, 0, none⟩) hcb (.int .i64 z))) (p := ⟨w.heap.size, 1, none⟩) hcb (.string nm))) (p := ⟨w.heap.size, 2, none⟩) hcb (.slice (some ⟨g, 0, none⟩) m cap))) (p := ⟨w.heap.size, 3, none⟩) hcb (.int .i64 y))
            clear hr5 hg5 hc5
            go_wp2
            refine bodyPost_ret (v := .agg #[.int .i64 z, .string nm, .slice (some ⟨g, 0, none⟩) m cap, .int .i64 y]) (by simp [results, Try.results89, go_sem, cr0, cr1, cr2, cr3, hne, hnf]) rfl ⟨(⟨z, nm, m, bX l, y⟩, g, cap), rfl, fok_row HROW.out (by exact HLN.out) (by omega) (by omega) (by omega) (by omega), HGR.out, HCU.out.more (by omega)⟩
          · have e2 : (x == 2) = false := by simp [e2]
            by_cases e3 : x = 3
            · subst e3
              have hcap1 : (1 : Int) ≤ (cap : Int) := by omega
              have hcap2 : 1 ≤ cap := by omega
              have c0 := hF4.cell 0; have c1 := hF4.cell 1; have c2 := hF4.cell 2; have c3 := hF4.cell 3
              have cr0 := hR4.cell 0; have cr1 := hR4.cell 1; have cr2 := hR4.cell 2; have cr3 := hR4.cell 3
              simp at c0 c1 c2 c3 cr0 cr1 cr2 cr3
              have kl := hF4.lt; have rl := hR4.lt
              have f0 := hR4.frozen 0; have f1 := hR4.frozen 1; have f2 := hR4.frozen 2; have f3 := hR4.frozen 3
              have fs := hF4.frozen 2
              have hne : ¬ w2.heap.size = w.heap.size := by omega
              have hnf : ¬ w.heap.size = w2.heap.size := by omega
              have HROW := hide (row_farF ((row_farF ((row_farF ((row_farF ((row_farF (hr4) (p := ⟨w2.heap.size, 2, none⟩) (Nat.lt_succ_self _) (.slice (some ⟨g, 0, none⟩) 1 cap))) (p := ⟨w.heap.size, 0, none⟩) (by show w.heap.size < w2.heap.size + 1; omega) (.int .i64 z))) (p := ⟨w.heap.size, 1, none⟩) (by show w.heap.size < w2.heap.size + 1; omega) (.string nm))) (p := ⟨w.heap.size, 2, none⟩) (by show w.heap.size < w2.heap.size + 1; omega) (.slice (some ⟨g, 0, none⟩) 1 cap))) (p := ⟨w.heap.size, 3, none⟩) (by show w.heap.size < w2.heap.size + 1; omega) (.int .i64 sl))
              have HGR := hide (grown_setNew ((grown_setNew ((grown_setNew ((grown_setNew ((grown_setNew (hg4) (p := ⟨w2.heap.size, 2, none⟩) (by show w.heap.size ≤ w2.heap.size; omega) (.slice (some ⟨g, 0, none⟩) 1 cap))) (p := ⟨w.heap.size, 0, none⟩) (Nat.le_refl _) (.int .i64 z))) (p := ⟨w.heap.size, 1, none⟩) (Nat.le_refl _) (.string nm))) (p := ⟨w.heap.size, 2, none⟩) (Nat.le_refl _) (.slice (some ⟨g, 0, none⟩) 1 cap))) (p := ⟨w.heap.size, 3, none⟩) (Nat.le_refl _) (.int .i64 sl))
              have HCU := hide (Cur.setCell ((Cur.setCell ((Cur.setCell ((Cur.setCell ((Cur.setCell (hc4) (p := ⟨w2.heap.size, 2, none⟩) hcf (.slice (some ⟨g, 0, none⟩) 1 cap))) (p := ⟨w.heap.size, 0, none⟩) hcb (.int .i64 z))) (p := ⟨w.heap.size, 1, none⟩) hcb (.string nm))) (p := ⟨w.heap.size, 2, none⟩) hcb (.slice (some ⟨g, 0, none⟩) 1 cap))) (p := ⟨w.heap.size, 3, none⟩) hcb (.int .i64 sl))
              clear hr4 hg4 hc4
              go_wp2
              refine bodyPost_ret (v := .agg #[.int .i64 z, .string nm, .slice (some ⟨g, 0, none⟩) 1 cap, .int .i64 sl]) (by simp [results, Try.results89, go_sem, cr0, cr1, cr2, cr3, hne, hnf]) rfl ⟨(⟨z, nm, 1, bX l, sl⟩, g, cap), rfl, fok_one HROW.out (by exact HLN.out) (by omega) (by omega) (by omega), HGR.out, HCU.out.more (by omega)⟩
            · have e3 : (x == 3) = false := by simp [e3]
              by_cases e4 : x = 4
              · subst e4
                have hF5 := (blk_set_toF hF4 2 (.slice (some ⟨w4.heap.size, 0, none⟩) 0 0) (cs' := #[.int .i64 z, .string nm, .slice (some ⟨w4.heap.size, 0, none⟩) 0 0, .int .i64 sl]) rfl).alloc (.cells #[] 26)
                have hR5 := (blk_set_farF hR4 (b := w2.heap.size) (i := 2) (by omega) (.slice (some ⟨w4.heap.size, 0, none⟩) 0 0)).alloc (.cells #[] 26)
                have hg5 := (grown_setNew hg4 (p := ⟨w2.heap.size, 2, none⟩) (by show w.heap.size ≤ w2.heap.size; omega) (.slice (some ⟨w4.heap.size, 0, none⟩) 0 0)).trans (World.grownBy_alloc _ (.cells #[] 26) _)
                have hc5 := (hc4.setCell (p := ⟨w2.heap.size, 2, none⟩) hcf (.slice (some ⟨w4.heap.size, 0, none⟩) 0 0)).alloc (.cells #[] 26)
                have hfl4 := hF4.lt
                have hr5 := row_new_at (w4.setCell ⟨w2.heap.size, 2, none⟩ (.slice (some ⟨w4.heap.size, 0, none⟩) 0 0)) w4.heap.size (w2.heap.size + 1) 2 26 (by simp) (by simp; omega)
                have c0 := hF4.cell 2
                simp at c0
                have kf := hF4.frozen 2
                have kl := hF4.lt
                have HG5 := hide hg5; have HC5 := hide hc5; have HR5 := hide hR5; have HF5 := hide hF5; have HW5 := hide hr5
                clear hg5 hc5 hR5 hF5 hr5 hg4 hc4 hR4 hF4 hr4 HLN
                go_wp2
                go_loopw [8] (fun y wr => ∃ (k : Nat) (v : Value) (l : List (Int × Int)), y = .int .i64 k ∧ k ≤ 9 ∧ l.length = k ∧ w.grownBy wr (some cb) ∧ Cur wr cb K (M + 80 + 2 * k) ∧ Blk wr w.heap.size 36 #[.int .i64 0, .string ⟨#[]⟩, .slice none 0 0, .int .i64 0] ∧ Blk wr w2.heap.size 36 #[.int .i64 z, .string nm, v, .int .i64 sl] ∧ wr.ownsRow (w2.heap.size + 1) 26 2 v k (l.flatMap bC)) (fun y _ => 10 - (intOf y).toNat)
                case atStart => exact ⟨0, _, [], rfl, Nat.zero_le _, rfl, HG5.out, HC5.out.more (by omega), HR5.out, HF5.out, HW5.out⟩
                case round =>
                  clear HG5 HC5 HR5 HF5 HW5 c0 kf kl hfl4
                  obtain ⟨k, v, l, rfl, hk9, hl, hg5, hc5, hR5, hF5, hr5⟩ := hrel
                  have HLN := hide hl
                  clear hl
                  go_wp2_with fail
                  refine (spec_pick cb K (M + 80 + 2 * k) 2 _ (by omega) (by omega) hc5).mono ?_
                  rintro e w4 ⟨P, rfl, P0, P1, _, hd⟩
                  have P2 := P1 (by omega)
                  have hg6 := hg5.trans hd.1
                  have hc6 := hd.2
                  have hR6 := blk_drawn hd hR5 hcb
                  have hF6 := blk_drawn hd hF5 hcf
                  have hr6 := row_drawnF hr5 hd.1 (by omega)
                  clear hd hg5 hc5 hR5 hF5 hr5
                  clear P1
                  by_cases hlt : (k : Int) < 8 + P
                  · have htm : Int.tmod (k : Int) 2 = (k : Int) % 2 := rfl
                    have hz4 := hg6.size
                    have k2 := hF6.cell 2
                    simp at k2
                    have kf2 := hF6.frozen 2
                    have kl := hF6.lt
                    have hlt6 := hr6.lt
                    have hF7 := hF6.alloc (.cells (bC ((k : Int), (k : Int) % 2)).toArray 26)
                    have hc7 := hc6.alloc (.cells (bC ((k : Int), (k : Int) % 2)).toArray 26)
                    have hR7 := hR6.alloc (.cells (bC ((k : Int), (k : Int) % 2)).toArray 26)
                    have hg7 := hg6.trans (World.grownBy_alloc _ (.cells (bC ((k : Int), (k : Int) % 2)).toArray 26) _)
                    have HF7 := hide hF7; have HC7 := hide hc7; have HR7 := hide hR7; have HG7 := hide hg7; have HRR := hide hr6
                    clear hF6 hc6 hR6 hg6 hF7 hc7 hR7 hg7 hr6
                    go_wp2_with (at_builtin; refine wpList_append_far _ rfl _ _ 34 rfl (w2.heap.size + 1) 26 i0 (.agg #[.int .i64 0, .int .i64 0]) 2 16 Try.underlying34 hi0 hy0 hy1 hy2 rfl (by decide) _ _ _ (by rfl) (HRR.out.alloc _) ⟨w4.heap.size, 0, none⟩ 1 1 (bC ((k : Int), (k : Int) % 2)) (by rfl) rfl (cells_at w4 _ _ _ (by first | rfl | simp)) (bC_one _) (by unfold maxLen; omega) (by omega) (by have := HG7.out.size; simp only [World.size_alloc] at this ⊢; omega) ?_; intro v6 w6 hown6 hgrow6 _; obtain ⟨g6, cap6, rfl, hm6, hx6⟩ := row_formF hown6 (Nat.succ_pos _); have hF8 := blk_apart HF7.out hgrow6 (fun g hg => by have := (hlt6 g hg).1; omega); have q2 := hF8.cell 2; have qf2 := hF8.frozen 2; simp at q2; have ql := hF8.lt)
                    have hR8 := blk_apart HR7.out hgrow6 (fun g hg => by have := (hlt6 g hg).1; omega)
                    have hc8 := HC7.out.apart hgrow6 (fun g hg => by have := (hlt6 g hg).1; omega)
                    have hg8 : w.grownBy w6 (some cb) := grown_new HG7.out hgrow6 (fun g hg => by have := (hlt6 g hg).1; omega)
                    have hr8 : w6.ownsRow (w2.heap.size + 1) 26 2 (.slice (some ⟨g6, 0, none⟩) (k + 1) cap6) (k + 1) ((l ++ [((k : Int), (k : Int) % 2)]).flatMap bC) := by rw [← flat_snoc]; exact hown6
                    have H1 := hide (blk_set_farF hR8 (b := w2.heap.size) (i := 2) (by omega) (.slice (some ⟨g6, 0, none⟩) (k + 1) cap6))
                    have H2 := hide (hF8.set_ 2 (.slice (some ⟨g6, 0, none⟩) (k + 1) cap6))
                    have H3 := hide (hc8.setCell (p := ⟨w2.heap.size, 2, none⟩) hcf (.slice (some ⟨g6, 0, none⟩) (k + 1) cap6))
                    have H4 := hide (grown_setNew hg8 (p := ⟨w2.heap.size, 2, none⟩) (by show w.heap.size ≤ w2.heap.size; omega) (.slice (some ⟨g6, 0, none⟩) (k + 1) cap6))
                    have H5 := hide (row_farF hr8 (p := ⟨w2.heap.size, 2, none⟩) (Nat.lt_succ_self _) (.slice (some ⟨g6, 0, none⟩) (k + 1) cap6))
                    clear hown6 hgrow6 hF8 hR8 hc8 hg8 hr8 hlt6
                    go_wp2
                    go_roundw
                    case rel => exact ⟨k + 1, .slice (some ⟨g6, 0, none⟩) (k + 1) cap6, l ++ [((k : Int), (k : Int) % 2)], by first | (congr 1; omega) | go_num, by omega, by simp [HLN.out], H4.out, H3.out.more (by omega), H1.out, H2.out, H5.out⟩
                    case measure => simp [intOf]; omega
                  · obtain ⟨g, cap, rfl, hmc, hcm⟩ := row_formF hr6 (by omega)
                    have c0 := hF6.cell 0; have c1 := hF6.cell 1; have c2 := hF6.cell 2; have c3 := hF6.cell 3
                    have cr0 := hR6.cell 0; have cr1 := hR6.cell 1; have cr2 := hR6.cell 2; have cr3 := hR6.cell 3
                    simp at c0 c1 c2 c3 cr0 cr1 cr2 cr3
                    have kl := hF6.lt; have rl := hR6.lt
                    have f0 := hR6.frozen 0; have f1 := hR6.frozen 1; have f2 := hR6.frozen 2; have f3 := hR6.frozen 3
                    have hne : ¬ w2.heap.size = w.heap.size := by omega
                    have hnf : ¬ w.heap.size = w2.heap.size := by omega
                    have HROW := hide (row_farF ((row_farF ((row_farF ((row_farF (hr6) (p := ⟨w.heap.size, 0, none⟩) (by show w.heap.size < w2.heap.size + 1; omega) (.int .i64 z))) (p := ⟨w.heap.size, 1, none⟩) (by show w.heap.size < w2.heap.size + 1; omega) (.string nm))) (p := ⟨w.heap.size, 2, none⟩) (by show w.heap.size < w2.heap.size + 1; omega) (.slice (some ⟨g, 0, none⟩) k cap))) (p := ⟨w.heap.size, 3, none⟩) (by show w.heap.size < w2.heap.size + 1; omega) (.int .i64 sl))
                    have HGR := hide (grown_setNew ((grown_setNew ((grown_setNew ((grown_setNew (hg6) (p := ⟨w.heap.size, 0, none⟩) (Nat.le_refl _) (.int .i64 z))) (p := ⟨w.heap.size, 1, none⟩) (Nat.le_refl _) (.string nm))) (p := ⟨w.heap.size, 2, none⟩) (Nat.le_refl _) (.slice (some ⟨g, 0, none⟩) k cap))) (p := ⟨w.heap.size, 3, none⟩) (Nat.le_refl _) (.int .i64 sl))
                    have HCU := hide (Cur.setCell ((Cur.setCell ((Cur.setCell ((Cur.setCell (hc6) (p := ⟨w.heap.size, 0, none⟩) hcb (.int .i64 z))) (p := ⟨w.heap.size, 1, none⟩) hcb (.string nm))) (p := ⟨w.heap.size, 2, none⟩) hcb (.slice (some ⟨g, 0, none⟩) k cap))) (p := ⟨w.heap.size, 3, none⟩) hcb (.int .i64 sl))
                    clear hr6 hg6 hc6
                    go_wp2
                    refine bodyPost_ret (v := .agg #[.int .i64 z, .string nm, .slice (some ⟨g, 0, none⟩) k cap, .int .i64 sl]) (by simp [results, Try.results89, go_sem, cr0, cr1, cr2, cr3, hne, hnf]) rfl ⟨(⟨z, nm, k, bX l, sl⟩, g, cap), rfl, fok_row HROW.out (by exact HLN.out) (by omega) (by omega) (by omega) (by omega), HGR.out, HCU.out.more (by omega)⟩
              · have e4 : (x == 4) = false := by simp [e4]
                have c0 := hF4.cell 0; have c1 := hF4.cell 1; have c2 := hF4.cell 2; have c3 := hF4.cell 3
                have cr0 := hR4.cell 0; have cr1 := hR4.cell 1; have cr2 := hR4.cell 2; have cr3 := hR4.cell 3
                simp at c0 c1 c2 c3 cr0 cr1 cr2 cr3
                have kl := hF4.lt; have rl := hR4.lt
                have f0 := hR4.frozen 0; have f1 := hR4.frozen 1; have f2 := hR4.frozen 2; have f3 := hR4.frozen 3
                have hne : ¬ w2.heap.size = w.heap.size := by omega
                have hnf : ¬ w.heap.size = w2.heap.size := by omega
                have HROW := hide (row_farF ((row_farF ((row_farF ((row_farF (hr4) (p := ⟨w.heap.size, 0, none⟩) (by show w.heap.size < w2.heap.size + 1; omega) (.int .i64 z))) (p := ⟨w.heap.size, 1, none⟩) (by show w.heap.size < w2.heap.size + 1; omega) (.string nm))) (p := ⟨w.heap.size, 2, none⟩) (by show w.heap.size < w2.heap.size + 1; omega) (.slice (some ⟨g, 0, none⟩) m cap))) (p := ⟨w.heap.size, 3, none⟩) (by show w.heap.size < w2.heap.size + 1; omega) (.int .i64 sl))
                have HGR := hide (grown_setNew ((grown_setNew ((grown_setNew ((grown_setNew (hg4) (p := ⟨w.heap.size, 0, none⟩) (Nat.le_refl _) (.int .i64 z))) (p := ⟨w.heap.size, 1, none⟩) (Nat.le_refl _) (.string nm))) (p := ⟨w.heap.size, 2, none⟩) (Nat.le_refl _) (.slice (some ⟨g, 0, none⟩) m cap))) (p := ⟨w.heap.size, 3, none⟩) (Nat.le_refl _) (.int .i64 sl))
                have HCU := hide (Cur.setCell ((Cur.setCell ((Cur.setCell ((Cur.setCell (hc4) (p := ⟨w.heap.size, 0, none⟩) hcb (.int .i64 z))) (p := ⟨w.heap.size, 1, none⟩) hcb (.string nm))) (p := ⟨w.heap.size, 2, none⟩) hcb (.slice (some ⟨g, 0, none⟩) m cap))) (p := ⟨w.heap.size, 3, none⟩) hcb (.int .i64 sl))
                clear hr4 hg4 hc4
                go_wp2
                refine bodyPost_ret (v := .agg #[.int .i64 z, .string nm, .slice (some ⟨g, 0, none⟩) m cap, .int .i64 sl]) (by simp [results, Try.results89, go_sem, cr0, cr1, cr2, cr3, hne, hnf]) rfl ⟨(⟨z, nm, m, bX l, sl⟩, g, cap), rfl, fok_row HROW.out (by exact HLN.out) (by omega) (by omega) (by omega) (by omega), HGR.out, HCU.out.more (by omega)⟩
end Go.Proofs.Ytbpeamjgddikjaa
