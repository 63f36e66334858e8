/- Chapter 17: the draw of an hour; of duties. -/
import Derived.Test.YteklalbjlmkagaaDuU
import Derived.Test.YteklalbjlmkagaaDuL
namespace Go.Proofs.Yteklalbjlmkagaa
open Go.RowKit
set_option linter.unusedVariables false
set_option linter.unusedSimpArgs false

/-- One of the first of some numbers. -/
theorem spec_amongP (cb : Nat) (K : Code) (M : Nat) (l : List Int) (lo hi : Int) (n m g : Nat) (w : World) (hl : l.length = n) (hmn : m ≤ n) (h0 : 0 < m) (hn : n ≤ 1000) (hlo : ∀ x, x ∈ l → lo ≤ x ∧ x ≤ hi) (cs : Array Value) (hcs : cs = (l.map (Value.int .i64)).toArray) (hb : Blk w g 3 cs) (hg : cb ≠ g) (hM : M ≤ 1000000000000) (h : Cur w cb K M) :
    Calls Try.prog 34 #[.pointer (some ⟨cb, 0, none⟩), .slice (some ⟨g, 0, none⟩) m n] w fun e w' => ∃ x : Int, e = .returned (.int .i64 x) ∧ lo ≤ x ∧ x ≤ hi ∧ Drawn w cb K (M + 2) w' := by
  subst hl hcs
  have ha : Arr w w.heap.size (some ⟨g, 0, none⟩) m 1 (iv fun i _ => l.getD i 0) := fun _ => by
    obtain ⟨b, off, e, h1, h2⟩ := arr_lit hb (by omega)
    exact ⟨b, off, e, h1, fun i j hi hj => h2 i j (by omega) hj⟩
  refine (spec_among cb K M _ _ _ _ w h0 (by omega) ha (fun b o e => by injection e with e; injection e with e; omega) hM h).mono ?_
  rintro e w' ⟨j, hj, rfl, hd⟩
  have hm := hlo (l.getD j 0) (by simp [List.getD, show j < l.length by omega])
  exact ⟨_, rfl, hm.1, hm.2, hd⟩
theorem tdiv11 {x : Int} (h0 : 0 ≤ x) (h1 : x < 24) : ∃ q : Nat, Int.tdiv x 11 = q ∧ q ≤ 2 := by
  refine ⟨(Int.tdiv x 11).toNat, ?_, ?_⟩
  · have := Int.tdiv_nonneg h0 (show (0 : Int) ≤ 11 by omega); omega
  · rw [Int.tdiv_eq_ediv_of_nonneg h0]; omega
set_option maxHeartbeats 4000000 in
set_option maxRecDepth 100000 in
theorem spec_hour17 (cb : Nat) (K : Code) (M : Nat) (w : World) (hM : M ≤ 900000000000) (h : Cur w cb K M) :
    Calls Try.prog 33 #[.pointer (some ⟨cb, 0, none⟩)] w fun e w' => ∃ x : Int, e = .returned (.int .i64 x) ∧ -1 ≤ x ∧ x ≤ 9999 ∧ Drawn w cb K (M + 4) w' := by
  have hcb := h.lt
  have hq : Blk (w.alloc (.cells #[.int .i64 0, .int .i64 6, .int .i64 10, .int .i64 13, .int .i64 14, .int .i64 25, .int .i64 9998, .int .i64 (-1), .int .i64 9999] 3)) w.heap.size 3 #[.int .i64 0, .int .i64 6, .int .i64 10, .int .i64 13, .int .i64 14, .int .i64 25, .int .i64 9998, .int .i64 (-1), .int .i64 9999] := Blk.new _ _ _
  go_enter Try.func33, Try.ntmps33
  go_wp2_with fail
  refine (spec_pick cb K M 24 _ (by omega) (by omega) (h.alloc _)).mono ?_
  rintro e w1 ⟨x, rfl, x0, x1, _, hd1⟩
  have hx24 := x1 (by omega)
  obtain ⟨q, hq1, hq2⟩ := tdiv11 x0 hx24
  have HG1 : w.grownBy w1 (some cb) := World.grownBy.trans (by (repeat (first | with_reducible assumption | (with_reducible refine World.grownBy.trans ?_ (World.grownBy_alloc _ _ _)) | (with_reducible refine grown_setNew ?_ (by (first | with_reducible assumption | omega | (simp; done) | (simp; omega))) _) | with_reducible exact grown_refl _ _))) hd1.1
  have HQ1 := blk_drawn hd1 hq hcb
  have HC1 := hd1.2
  have hw1 : IntKind.i64.wrap (q : Int) = q := IntWalk.i64_in _ (by omega)
  have hw2 : IntKind.i64.wrap (7 + (q : Int)) = 7 + q := IntWalk.i64_in _ (by omega)
  have hw3 : 7 + (q : Int) ≤ 9 := by omega
  have hw4 : (0 : Int) ≤ 7 + (q : Int) := by omega
  clear hd1 hq
  go_wp2_with fail
  refine (spec_amongP cb K (M + 2) [0, 6, 10, 13, 14, 25, 9998, -1, 9999] (-1) 9999 9 (7 + q) w.heap.size _ rfl (by omega) (by omega) (by omega) (by decide) _ rfl HQ1 (by omega) (by omega) HC1).mono ?_
  rintro e w2 ⟨y, rfl, y0, y1, hd2⟩
  have HG2 := HG1.trans hd2.1
  have HC2 := hd2.2
  clear hd2
  go_wp2
  go_returns
  exact ⟨y, rfl, y0, y1, HG2, HC2⟩
theorem grown_newD {w a b : World} {cb : Nat} {row : Option Nat} (h : w.grownBy a (some cb)) (hg : a.grownBy b row) (hr : ∀ g, row = some g → w.heap.size ≤ g) : w.grownBy b (some cb) :=
  ⟨hg.os.trans h.os, hg.tape.trans h.tape, hg.output.trans h.output, Nat.le_trans h.size hg.size, fun k hk hne => (hg.block k (Nat.lt_of_lt_of_le hk h.size) (fun e => by have := hr k e.symm; omega)).trans (h.block k hk hne)⟩
theorem Cur.apartD {w w' : World} {cb M : Nat} {K : Code} {row : Option Nat} (h : Cur w cb K M) (hg : w.grownBy w' row) (hne : ∀ g, row = some g → cb < g) : Cur w' cb K M := by
  obtain ⟨⟨h0, h1, h2⟩, a, s, h3, h4⟩ := h
  have hlt := h4.lt
  refine ⟨⟨h0, fun hn => ?_, h2⟩, a, s, h3, (hg.block cb hlt (fun e => by have := hne cb e.symm; omega)).trans h4⟩
  obtain ⟨b, off, e, hb, hc⟩ := h1 hn
  exact ⟨b, off, e, hb, fun i j hi hj => (World.cell?_of_block (hg.block b (by omega) (fun e => by have := hne b e.symm; omega))).trans (hc i j hi hj)⟩
theorem row_drawnD {w w' : World} {base n s cb : Nat} {E : TypeId} {v : Value} {xs : List Value} (h : w.ownsRow base E s v n xs) (hd : w.grownBy w' (some cb)) (hb : cb < base) : w'.ownsRow base E s v n xs :=
  h.kept (row := some cb) hd (.inr fun e => by have := (h.lt cb e).1; omega)
theorem grown_belowD {w a w' : World} {row : Option Nat} (h : w.grownBy a row) (hb : Below a.heap.size a w') : w.grownBy w' row :=
  grown_trans h ⟨hb.os, hb.tape, hb.output, hb.size, fun i hi _ => hb.block i hi⟩
/-- Duties that are drawn. -/
def DrwL (L : List Du) : Prop := L.length ≤ 13 ∧ ∀ i, i < L.length → WhoOk (dg L i)
theorem drw_good {L : List Du} (h : goodB L.length (dg L) = true) : L.length ≤ 12 ∧ DrwL L := by
  obtain ⟨h1, h2⟩ := good_of h
  refine ⟨h1, by omega, fun i hi => ?_⟩
  have a := (h2 i hi).1
  have := a.w1; have := a.w2
  exact ⟨by omega, by omega⟩
theorem drw_snoc {L : List Du} {d : Du} (h : DrwL L) (hl : L.length ≤ 12) (hd : WhoOk d) : DrwL (L ++ [d]) := by
  refine ⟨by simp; omega, fun i hi => ?_⟩
  rw [List.length_append, List.length_singleton] at hi
  by_cases e : i = L.length
  · subst e
    have : dg (L ++ [d]) L.length = d := by simp [dg, List.getD]
    rw [this]; exact hd
  · have : dg (L ++ [d]) i = dg L i := by
      unfold dg
      rw [List.getD, List.getD, List.getElem?_append_left (by omega)]
    rw [this]; exact h.2 i (by omega)
def fixD (k : Nat) : List Du := (List.range k).map fun i : Nat => ⟨(i : Int) + 1, 5, 9, false⟩
theorem fixD_succ (k : Nat) : fixD (k + 1) = fixD k ++ [⟨(k : Int) + 1, 5, 9, false⟩] := by simp [fixD, List.range_succ]
theorem fixD_len (k : Nat) : (fixD k).length = k := by simp [fixD]
theorem fixD_drw {k : Nat} (h : k ≤ 13) : DrwL (fixD k) := by
  refine ⟨by rw [fixD_len]; exact h, fun i hi => ?_⟩
  rw [fixD_len] at hi
  have : dg (fixD k) i = ⟨(i : Int) + 1, 5, 9, false⟩ := by simp [dg, fixD, List.getD, hi]
  rw [this]
  exact ⟨by show (0 : Int) ≤ (i : Int) + 1; omega, by show (i : Int) + 1 ≤ 100; omega⟩
theorem Ln_dg (L : List Du) : Ln (dg L) L.length = L := by
  apply List.ext_getElem
  · simp [Ln]
  · intro i h1 h2
    simp [Ln, dg, List.getD, h2]
end Go.Proofs.Yteklalbjlmkagaa
