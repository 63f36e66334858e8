/- The cursor of the draws: numbers out of bytes. -/
import Derived.Test.YteklalbjlmkagaaList
import Derived.Test.YteklalbjlmkagaaGrow
import Derived.Maps.AppendAt
import Derived.Laws.Bits64b
import Derived.IntWalk
namespace Go.Proofs.Yteklalbjlmkagaa
open Go.RowKit
set_option linter.unusedVariables false
set_option linter.unusedSimpArgs false

def bv (C : Nat → Int) (i _j : Nat) : Value := .int .u8 (C i)
/-- The code, and the cursor in its block cb. -/
structure Code where
  A : Option Addr
  n : Nat
  c : Nat
  C : Nat → Int
def Code.ok (K : Code) (w : World) (B : Nat) : Prop := K.n ≤ 65536 ∧ Arr w B K.A K.n 1 (bv K.C) ∧ ∀ i, i < K.n → 0 ≤ K.C i ∧ K.C i ≤ 255
def Code.val (K : Code) : Value := .slice K.A K.n K.c
def Cur (w : World) (cb : Nat) (K : Code) (M : Nat) : Prop :=
  K.ok w cb ∧ ∃ (a : Nat) (s : Int), a ≤ M ∧ Blk w cb 60 #[K.val, .int .i64 a, .int .u64 s]
theorem Arr.grownc {w w' : World} {cb n k : Nat} {A : Option Addr} {f : Nat → Nat → Value} (h : Arr w cb A n k f) (hg : w.grownBy w' (some cb)) (hcb : cb < w.heap.size) : Arr w' cb A n k f := fun h0 => by
  obtain ⟨b, off, e, hb, hc⟩ := h h0
  exact ⟨b, off, e, hb, fun i j hi hj => (World.cell?_of_block (hg.block b (by omega) (fun e => by injection e with e; omega))).trans (hc i j hi hj)⟩
theorem Cur.lt {w : World} {cb M : Nat} {K : Code} (h : Cur w cb K M) : cb < w.heap.size := by
  obtain ⟨_, _, _, _, hb⟩ := h
  exact hb.lt
theorem Cur.more {w : World} {cb M M' : Nat} {K : Code} (h : Cur w cb K M) (hM : M ≤ M') : Cur w cb K M' := by
  obtain ⟨h1, a, s, h2, h3⟩ := h
  exact ⟨h1, a, s, Nat.le_trans h2 hM, h3⟩
theorem Cur.on {w w' : World} {cb M : Nat} {K : Code} (h : Cur w cb K M) (hb : Below w.heap.size w w') : Cur w' cb K M := by
  obtain ⟨⟨h0, h1, h2⟩, a, s, h3, h6⟩ := h
  have hlt := h6.lt
  refine ⟨⟨h0, ?_, h2⟩, a, s, h3, h6.below hb hlt⟩
  intro hn
  obtain ⟨b, off, e, hbb, hc⟩ := h1 hn
  exact ⟨b, off, e, hbb, fun i j hi hj => (hb.cell (p := ⟨b, _, none⟩) (by show b < _; omega)).trans (hc i j hi hj)⟩
/-- A number is drawn. -/
def Drawn (w : World) (cb : Nat) (K : Code) (M : Nat) (w' : World) : Prop := w.grownBy w' (some cb) ∧ Cur w' cb K M
theorem and255 (x : Int) : 0 ≤ bits .and .u64 x 255 ∧ bits .and .u64 x 255 ≤ 255 := by
  have h : (BitVec.ofInt 64 x &&& BitVec.ofInt 64 255).toNat ≤ 255 := by
    rw [BitVec.toNat_and]
    exact Nat.le_trans Nat.and_le_right (by decide)
  have e : bits .and .u64 x 255 = IntKind.u64.wrap ((BitVec.ofInt 64 x &&& BitVec.ofInt 64 255).toNat : Int) := rfl
  rw [e, IntKind.wrap_u64]
  omega
theorem and255w (x : Int) : 0 ≤ wrap64 (bits .and .u64 x 255) ∧ wrap64 (bits .and .u64 x 255) ≤ 255 := by
  have h := and255 x
  unfold wrap64
  omega
theorem grown_belowC {w a w' : World} {row : Option Nat} (h : w.grownBy a row) (hb : Below a.heap.size a w') : w.grownBy w' row :=
  grown_trans h ⟨hb.os, hb.tape, hb.output, hb.size, fun i hi _ => hb.block i hi⟩
theorem drawn_next {w w3 : World} {cb M a : Nat} {K : Code} {s : Int} (hok : K.ok w cb) (hcb : cb < w.heap.size) (ha : a ≤ M) (hg : w.grownBy w3 (some cb))
    {y : Value} (hy : ∃ s : Int, y = .int .u64 s) (hb : Blk w3 cb 60 ((#[K.val, .int .i64 a, .int .u64 s].setIfInBounds 1 (.int .i64 ((a : Int) + 1))).setIfInBounds 2 y)) : Drawn w cb K (M + 1) w3 := by
  obtain ⟨z, rfl⟩ := hy
  exact ⟨hg, ⟨hok.1, Arr.grownc hok.2.1 hg hcb, hok.2.2⟩, a + 1, z, by omega, hb⟩
set_option maxHeartbeats 4000000 in
theorem spec_next (cb : Nat) (K : Code) (M : Nat) (w : World) (hM : M ≤ 1099511627776) (h : Cur w cb K M) :
    Calls Try.prog 67 #[.pointer (some ⟨cb, 0, none⟩)] w fun e w' => ∃ x : Int, e = .returned (.int .i64 x) ∧ 0 ≤ x ∧ x ≤ 255 ∧ Drawn w cb K (M + 1) w' := by
  have hok := h.1
  obtain ⟨⟨hn, ha, hC⟩, a, s, haM, hblk⟩ := h
  obtain ⟨A, n, c, C⟩ := K
  simp only [Code.val] at *
  have hcb := hblk.lt
  have HOK := hide hok
  clear hok
  by_cases hlt : a < n
  · obtain ⟨b, off, rfl, hbb, hc⟩ := ha (by omega)
    have c0 := hc a 0 hlt (by omega)
    obtain ⟨x0, x1⟩ := hC a hlt
    simp only [Nat.add_zero, Nat.mul_one, bv] at c0
    have d0 := hblk.cell 0; have d1 := hblk.cell 1; have d2 := hblk.cell 2
    simp at d0 d1 d2
    have HB := hide hblk
    have hx := BW.cell (w := w)
    have hbl : b < w.heap.size := by omega
    clear ha hC hc hblk
    go_enter Try.func67, Try.ntmps67
    go_wp2
    refine wp_region_bw (by kernel_rfl) (by kernel_rfl) ?_
    repeat (go_big_quiet_step (fail))
    refine wpQuiet_end fun w1 hb1 => ?_
    have hblk1 := HB.out.below hb1 hcb
    have c1 := (hb1.cell (p := ⟨b, _, none⟩) hbl).trans c0
    have hbl1 : b < w1.heap.size := by have := hb1.size; omega
    have hcb1 := hblk1.lt
    clear hx d0 d1 d2 c0
    have d0 := hblk1.cell 0; have d1 := hblk1.cell 1; have d2 := hblk1.cell 2
    have f1 := hblk1.frozen 1; have f2 := hblk1.frozen 2; have f0 := hblk1.frozen 0
    simp at d0 d1 d2
    have HB1 := hide hblk1
    have hx := BW.cell (w := w1)
    clear hblk1
    go_wp2
    refine wp_region_bw (by kernel_rfl) (by kernel_rfl) ?_
    repeat (go_big_quiet_step (fail))
    refine wpQuiet_end fun w2 hb2 => ?_
    have hblk2 := HB1.out.below hb2 hcb1
    clear hx d0 d1 d2 f0 f1 f2
    have hz2 : cb < w2.heap.size := hblk2.lt
    have d0 := hblk2.cell 0; have d1 := hblk2.cell 1; have d2 := hblk2.cell 2
    have f1 := hblk2.frozen 1; have f2 := hblk2.frozen 2; have f0 := hblk2.frozen 0
    simp at d0 d1 d2
    have HB2 := hide hblk2
    have hx2 := fun (v : Value) => BW.cell (w := (w2.setCell ⟨cb, 1, none⟩ (.int .i64 ((a : Int) + 1))).setCell ⟨cb, 2, none⟩ v)
    have hg2 : w.grownBy w2 (some cb) := grown_belowC (grown_belowC (grown_refl _ _) hb1) hb2
    have HG := hide hg2
    clear hblk2 hg2
    go_wp2
    refine wp_region_bw (by kernel_rfl) (by kernel_rfl) ?_
    repeat (go_big_quiet_step (fail))
    refine wpQuiet_end fun w3 hb3 => ?_
    have hblk3 := ((HB2.out.set_ 1 (.int .i64 ((a : Int) + 1))).set_ 2 _).below hb3 (by simpa [World.setCell] using hz2)
    have hg3 := grown_belowC (grown_setCell (grown_setCell HG.out 1 (.int .i64 ((a : Int) + 1))) 2 _) hb3
    have hD : Drawn w cb ⟨(some ⟨b, off, none⟩), n, c, C⟩ (M + 1) w3 := drawn_next HOK.out hcb haM hg3 ⟨_, rfl⟩ hblk3
    have HD := hide hD
    have l0 := hblk3.cell 0; have l1 := hblk3.cell 1; have l2 := hblk3.cell 2
    simp at l0 l1 l2
    clear hx2 hblk3 hg3 hD d0 d1 d2 f0 f1 f2
    go_wp2
    go_returns
    exact ⟨_, rfl, x0, x1, HD.out⟩
  · have d0 := hblk.cell 0; have d1 := hblk.cell 1; have d2 := hblk.cell 2
    simp at d0 d1 d2
    have HB := hide hblk
    have hx := BW.cell (w := w)
    clear ha hC hblk
    go_enter Try.func67, Try.ntmps67
    go_wp2
    refine wp_region_bw (by kernel_rfl) (by kernel_rfl) ?_
    repeat (go_big_quiet_step (fail))
    refine wpQuiet_end fun w1 hb1 => ?_
    have hblk1 := HB.out.below hb1 hcb
    clear hx d0 d1 d2
    have hz1 : cb < w1.heap.size := hblk1.lt
    have d0 := hblk1.cell 0; have d1 := hblk1.cell 1; have d2 := hblk1.cell 2
    have f1 := hblk1.frozen 1; have f2 := hblk1.frozen 2; have f0 := hblk1.frozen 0
    simp at d0 d1 d2
    have HB1 := hide hblk1
    have hx2 := fun (v : Value) => BW.cell (w := (w1.setCell ⟨cb, 1, none⟩ (.int .i64 ((a : Int) + 1))).setCell ⟨cb, 2, none⟩ v)
    have hg1 : w.grownBy w1 (some cb) := grown_belowC (grown_refl _ _) hb1
    have HG := hide hg1
    clear hblk1 hg1
    go_wp2
    refine wp_region_bw (by kernel_rfl) (by kernel_rfl) ?_
    repeat (go_big_quiet_step (fail))
    refine wpQuiet_end fun w3 hb3 => ?_
    have hblk3 := ((HB1.out.set_ 1 (.int .i64 ((a : Int) + 1))).set_ 2 _).below hb3 (by simpa [World.setCell] using hz1)
    have hg3 := grown_belowC (grown_setCell (grown_setCell HG.out 1 (.int .i64 ((a : Int) + 1))) 2 _) hb3
    have hD : Drawn w cb ⟨A, n, c, C⟩ (M + 1) w3 := drawn_next HOK.out hcb haM hg3 ⟨_, rfl⟩ hblk3
    have HD := hide hD
    have l0 := hblk3.cell 0; have l1 := hblk3.cell 1; have l2 := hblk3.cell 2
    simp at l0 l1 l2
    clear hx2 hblk3 hg3 hD d0 d1 d2 f0 f1 f2
    go_wp2
    go_returns
    exact ⟨_, rfl, (and255w _).1, (and255w _).2, HD.out⟩
theorem Drawn.trans {w a w' : World} {cb M M' : Nat} {K : Code} (h : w.grownBy a (some cb)) (k : Drawn a cb K M' w') : Drawn w cb K M' w' := ⟨h.trans k.1, k.2⟩
theorem Drawn.below {w w' : World} {cb M : Nat} {K : Code} (h : Cur w cb K M) (hb : Below w.heap.size w w') : Drawn w cb K M w' := ⟨grown_belowC (grown_refl _ _) hb, h.on hb⟩
theorem tmod_in {x n : Int} (hx : 0 ≤ x) (hn : 0 < n) : 0 ≤ x % n ∧ x % n < n := by
  exact ⟨Int.emod_nonneg _ (by omega), Int.emod_lt_of_pos _ hn⟩
set_option maxHeartbeats 1000000 in
theorem spec_pick (cb : Nat) (K : Code) (M : Nat) (n : Int) (w : World) (hn : -1048576 ≤ n ∧ n ≤ 1048576) (hM : M ≤ 1000000000000) (h : Cur w cb K M) :
    Calls Try.prog 35 #[.pointer (some ⟨cb, 0, none⟩), .int .i64 n] w fun e w' => ∃ x : Int, e = .returned (.int .i64 x) ∧ 0 ≤ x ∧ (1 < n → x < n) ∧ (n ≤ 1 → x = 0) ∧ Drawn w cb K (M + 2) w' := by
  by_cases h1 : n ≤ 1
  · go_enter Try.func35, Try.ntmps35
    go_wp2
    go_returns
    exact ⟨_, rfl, Int.le_refl _, fun h => absurd h (by omega), fun _ => rfl, grown_refl _ _, h.more (by omega)⟩
  · by_cases h2 : n ≤ 200
    · go_enter Try.func35, Try.ntmps35
      go_wp2_with fail
      refine (spec_next cb K M _ (by omega) h).mono ?_
      rintro e w1 ⟨x, rfl, x0, x1, hd⟩
      obtain ⟨m0, m1⟩ := tmod_in (x := x) (n := n) x0 (by omega)
      have HD := hide hd
      clear hd h
      go_wp2
      go_returns
      exact ⟨_, rfl, m0, fun _ => m1, fun h => absurd h (by omega), HD.out.1, HD.out.2.more (by omega)⟩
    · go_enter Try.func35, Try.ntmps35
      go_wp2_with fail
      refine (spec_next cb K M _ (by omega) h).mono ?_
      rintro e w1 ⟨x, rfl, x0, x1, hd⟩
      have HD := hide hd
      clear hd h
      go_wp2_with fail
      refine (spec_next cb K (M + 1) _ (by omega) HD.out.2).mono ?_
      rintro e w2 ⟨y, rfl, y0, y1, hd2⟩
      have HD2 := hide hd2
      clear hd2
      obtain ⟨m0, m1⟩ := tmod_in (x := x * 256 + y) (n := n) (by omega) (by omega)
      go_wp2
      go_returns
      exact ⟨_, rfl, m0, fun _ => m1, fun h => absurd h (by omega), HD.out.1.trans HD2.out.1, HD2.out.2.more (by omega)⟩
theorem spec_one (cb : Nat) (K : Code) (M : Nat) (n : Int) (w : World) (hn : -1048576 ≤ n ∧ n ≤ 1048576) (hM : M ≤ 1000000000000) (h : Cur w cb K M) :
    Calls Try.prog 72 #[.pointer (some ⟨cb, 0, none⟩), .int .i64 n] w fun e w' => ∃ b : Bool, e = .returned (.bool b) ∧ Drawn w cb K (M + 2) w' := by
  go_enter Try.func72, Try.ntmps72
  go_wp2_with fail
  refine (spec_pick cb K M n _ hn hM h).mono ?_
  rintro e w1 ⟨x, rfl, x0, _, _, hd⟩
  have HD := hide hd
  clear hd h
  go_wp2
  go_ret
  exact ⟨_, rfl, HD.out⟩
/-- A list that is written down in the text, in its new block. -/
theorem arr_lit {W : World} {g : Nat} {t : TypeId} {l : List Int} (hb : Blk W g t (l.map (Value.int .i64)).toArray) : Arr W W.heap.size (some ⟨g, 0, none⟩) l.length 1 (iv fun i _ => l.getD i 0) := by
  intro h0
  refine ⟨g, 0, rfl, hb.lt, fun i j hi hj => ?_⟩
  obtain rfl : j = 0 := by omega
  rw [show 0 + i * 1 + 0 = i from by omega, hb.cell i]
  simp [iv, List.getD, hi]
theorem spec_among (cb : Nat) (K : Code) (M : Nat) (A : Option Addr) (n c : Nat) (X : Nat → Nat → Int) (w : World) (h0 : 0 < n) (hn : n ≤ 1048576) (ha : Arr w w.heap.size A n 1 (iv X)) (hne : ∀ b o, A = some ⟨b, o, none⟩ → b ≠ cb) (hM : M ≤ 1000000000000) (h : Cur w cb K M) :
    Calls Try.prog 34 #[.pointer (some ⟨cb, 0, none⟩), .slice A n c] w fun e w' => ∃ j, j < n ∧ e = .returned (.int .i64 (X j 0)) ∧ Drawn w cb K (M + 2) w' := by
  obtain ⟨b, off, rfl, hbb, hc⟩ := ha h0
  have hbc := hne b off rfl
  go_enter Try.func34, Try.ntmps34
  go_wp2_with fail
  refine (spec_pick cb K M n _ (by omega) hM h).mono ?_
  rintro e w1 ⟨x, rfl, x0, x1, x2, hd⟩
  have hxn : x < n := by
    by_cases h1 : (1 : Int) < n
    · exact x1 h1
    · have := x2 (by omega); omega
  obtain ⟨j, rfl⟩ : ∃ j : Nat, x = j := ⟨x.toNat, by omega⟩
  have hj : j < n := by omega
  have c0 := (grown_cell hd.1 (b := b) (o := off + (j * 1 + 0)) hbb (fun g hg => by injection hg with hg; omega)).trans (hc j 0 hj (by omega))
  simp only [Nat.add_zero, Nat.mul_one, iv] at c0
  have hbl : b < w1.heap.size := by have := hd.1.size; omega
  have HD := hide hd
  clear hd h hc x1 x2
  go_wp2
  go_returns
  exact ⟨j, hj, rfl, HD.out⟩
end Go.Proofs.Yteklalbjlmkagaa
