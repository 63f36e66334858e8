/- A box of the call's own: some cells at the head of a block. -/
import Derived.Test.YteklalbjlmkagaaGrow
namespace Go.Proofs.Yteklalbjlmkagaa
open Go.RowKit
set_option linter.unusedVariables false
set_option linter.unusedSimpArgs false

def Cells (w : World) (b : Nat) (l : List Value) : Prop := b < w.heap.size ∧ ∀ j u, l[j]? = some u → w.cell? ⟨b, j, none⟩ = some u
theorem Cells.new (w : World) (b : Nat) (l : List Value) (t : TypeId) (h : b = w.heap.size) : Cells (w.alloc (.cells l.toArray t)) b l := by
  subst h
  refine ⟨by simp, fun j u hu => ?_⟩
  rw [(Blk.new w t l.toArray).cell j]
  simpa using hu
theorem Cells.below {w w' : World} {b B : Nat} {l : List Value} (h : Cells w b l) (hb : Below B w w') (hB : b < B) (hs : w.heap.size ≤ w'.heap.size) : Cells w' b l :=
  ⟨Nat.lt_of_lt_of_le h.1 hs, fun j u hu => (hb.cell (p := ⟨b, j, none⟩) hB).trans (h.2 j u hu)⟩
theorem Cells.on {w w' : World} {b : Nat} {l : List Value} (h : Cells w b l) (hb : Below w.heap.size w w') : Cells w' b l := h.below hb h.1 hb.size
theorem Cells.alloc {w : World} {b : Nat} {l : List Value} (h : Cells w b l) (o : Obj) : Cells (w.alloc o) b l := h.on (below_al (Below.refl _ _))
theorem Cells.grown {w w' : World} {b : Nat} {l : List Value} {row : Option Nat} (h : Cells w b l) (hg : w.grownBy w' row) (hne : ∀ g, row = some g → b < g) : Cells w' b l :=
  ⟨Nat.lt_of_lt_of_le h.1 hg.size, fun j u hu => (World.cell?_of_block (hg.block b h.1 (fun e => by have := hne b e.symm; omega))).trans (h.2 j u hu)⟩
theorem Cells.setCell {w : World} {b g o : Nat} {l : List Value} {x : Value} (h : Cells w b l) (hne : b < g) : Cells (w.setCell ⟨g, o, none⟩ x) b l :=
  h.grown (grown_setCell (grown_refl w (some g)) o x) (fun g' e => by injection e with e; omega)
/-- A list that does not lie in block b. -/
def NotIn (v : Value) (b : Nat) : Prop := ∀ g, v.ownBlock = some g → g ≠ b
theorem NotIn.app {v v' : Value} {b S : Nat} (h : NotIn v b) (hf : ∀ g, v'.ownBlock = some g → v.ownBlock = some g ∨ S ≤ g) (hS : b < S) : NotIn v' b := fun g hg => by
  rcases hf g hg with e | e
  · exact h g e
  · omega
end Go.Proofs.Yteklalbjlmkagaa
