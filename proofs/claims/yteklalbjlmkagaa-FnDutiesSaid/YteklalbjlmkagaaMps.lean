/- A list of pairs ([][]int, two numbers each) of the call's own: how it lies in memory, and how it grows. -/
import Derived.Test.YteklalbjlmkagaaList
namespace Go.Proofs.Yteklalbjlmkagaa
open Go.RowKit
set_option linter.unusedVariables false
set_option linter.unusedSimpArgs false

def gl (gs : List Nat) : List Value := gs.map fun g => .slice (some ⟨g, 0, none⟩) 2 2
theorem gl_snoc (gs : List Nat) (g : Nat) : gl gs ++ [.slice (some ⟨g, 0, none⟩) 2 2] = gl (gs ++ [g]) := by simp [gl]
structure MPs (w : World) (base : Nat) (v : Value) (ps : List (Int × Int)) (gs : List Nat) : Prop where
  len : gs.length = ps.length
  row : w.ownsRow base 31 1 v ps.length (gl gs)
  lo : ∀ g, g ∈ gs → base ≤ g ∧ g < w.heap.size ∧ v.ownBlock ≠ some g
  nd : gs.Nodup
  blk : ∀ i, i < ps.length → Blk w (gs.getD i 0) 3 #[.int .i64 (ps.getD i (0, 0)).1, .int .i64 (ps.getD i (0, 0)).2]
theorem gs_in {gs : List Nat} {i : Nat} (h : i < gs.length) : gs.getD i 0 ∈ gs := by simp [List.getD, h]
theorem MPs.below {w w' : World} {base : Nat} {v : Value} {ps : List (Int × Int)} {gs : List Nat} (h : MPs w base v ps gs) (hb : Below w.heap.size w w') : MPs w' base v ps gs := by
  obtain ⟨h1, h2, h3, h4, h5⟩ := h
  refine ⟨h1, row_below h2 hb, fun g hg => ⟨(h3 g hg).1, Nat.lt_of_lt_of_le (h3 g hg).2.1 hb.size, (h3 g hg).2.2⟩, h4, fun i hi => ?_⟩
  have hl := (h3 _ (gs_in (by omega : i < gs.length))).2.1
  exact (h5 i hi).below hb hl
/-- One more pair: its own block g lies behind what was there, the outer row grew. -/
theorem MPs.app {W w w' : World} {base g : Nat} {v v' : Value} {ps : List (Int × Int)} {gs : List Nat} {x y : Int} (h : MPs W base v ps gs) (hb : Below W.heap.size W w) (hg1 : W.heap.size ≤ g) (hg2 : g < w.heap.size) (hbase : base ≤ W.heap.size)
    (hx : Blk w g 3 #[.int .i64 x, .int .i64 y]) (hv : ∀ b, v.ownBlock = some b → b < W.heap.size)
    (hgr : w.grownBy w' v.ownBlock) (hrow : w'.ownsRow base 31 1 v' (ps.length + 1) (gl gs ++ [.slice (some ⟨g, 0, none⟩) 2 2])) (hfar : ∀ b, v'.ownBlock = some b → v.ownBlock = some b ∨ w.heap.size ≤ b) :
    MPs w' base v' (ps ++ [(x, y)]) (gs ++ [g]) := by
  obtain ⟨h1, h2, h3, h4, h5⟩ := h
  have hs := hgr.size
  have hbs := hb.size
  have hgo : v.ownBlock ≠ some g := fun e => by have := hv g e; omega
  refine ⟨by simp [h1], ?_, fun b hbm => ?_, ?_, fun i hi => ?_⟩
  · rw [gl_snoc] at hrow
    simpa using hrow
  · rcases List.mem_append.1 hbm with hm | hm
    · obtain ⟨a1, a2, a3⟩ := h3 b hm
      refine ⟨a1, by omega, fun e => ?_⟩
      rcases hfar b e with e | e
      · exact a3 e
      · omega
    · rw [List.mem_singleton] at hm
      subst hm
      refine ⟨by omega, by omega, fun e => ?_⟩
      rcases hfar b e with e | e
      · exact hgo e
      · omega
  · refine List.nodup_append.2 ⟨h4, by simp, fun a ha b hb2 e => ?_⟩
    rw [List.mem_singleton] at hb2
    have := (h3 a ha).2.1
    omega
  · by_cases hl : i < ps.length
    · have hi2 : i < gs.length := by omega
      have a := h3 _ (gs_in hi2)
      have e1 : (gs ++ [g]).getD i 0 = gs.getD i 0 := by simp [List.getD, List.getElem?_append_left hi2]
      have e2 : (ps ++ [(x, y)]).getD i (0, 0) = ps.getD i (0, 0) := by simp [List.getD, List.getElem?_append_left hl]
      rw [e1, e2]
      have al := a.2.1
      exact (hgr.block (gs.getD i 0) (by omega) (fun e => a.2.2 e.symm)).trans ((h5 i hl).below hb a.2.1)
    · obtain rfl : i = ps.length := by simp at hi; omega
      have e1 : (gs ++ [g]).getD ps.length 0 = g := by rw [← h1]; simp [List.getD]
      have e2 : (ps ++ [(x, y)]).getD ps.length (0, 0) = (x, y) := by simp [List.getD]
      rw [e1, e2]
      exact (hgr.block _ hg2 (fun e => hgo e.symm)).trans hx
end Go.Proofs.Yteklalbjlmkagaa
