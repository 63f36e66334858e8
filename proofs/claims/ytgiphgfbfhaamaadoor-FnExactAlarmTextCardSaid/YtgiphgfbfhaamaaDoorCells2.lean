/- A box lies apart from a list that grows. -/
import Derived.Test.YtgiphgfbfhaamaaDoorCells
namespace Go.Proofs.YtgiphgfbfhaamaaDoor
open Go.RowKit
set_option linter.unusedVariables false
set_option linter.unusedSimpArgs false

theorem Cells.apart3 {w w' : World} {b : Nat} {l : List Value} {row : Option Nat} (h : Cells w b l) (hg : w.grownBy w' row) (hne : row ≠ some b) : Cells w' b l :=
  ⟨Nat.lt_of_lt_of_le h.1 hg.size, fun j u hu => (World.cell?_of_block (hg.block b h.1 (fun e => hne e.symm))).trans (h.2 j u hu)⟩
end Go.Proofs.YtgiphgfbfhaamaaDoor
