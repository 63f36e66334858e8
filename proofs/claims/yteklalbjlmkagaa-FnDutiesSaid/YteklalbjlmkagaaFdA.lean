/- Draws of a text and of a bend: made by fdrgen.py. -/
import Derived.Test.YteklalbjlmkagaaDrwA
import Derived.Test.YteklalbjlmkagaaRowsC
namespace Go.Proofs.Yteklalbjlmkagaa
open Go.RowKit
set_option linter.unusedVariables false
set_option linter.unusedSimpArgs false

theorem spec_amongY (cb : Nat) (K : Code) (M : Nat) (l : List Int) (lo hi : Int) (n g : Nat) (w : World) (hl : l.length = n) (h0 : 0 < n) (hn : n ≤ 1000) (hlo : ∀ x, x ∈ l → lo ≤ x ∧ x ≤ hi) (cs : Array Value) (hcs : cs = (l.map (Value.int .i64)).toArray) (hb : Blk w g 3 cs) (hg : cb < g) (hM : M ≤ 1000000000000) (h : Cur w cb K M) :
    Calls Try.prog 34 #[.pointer (some ⟨cb, 0, none⟩), .slice (some ⟨g, 0, none⟩) n n] w fun e w' => ∃ x : Int, e = .returned (.int .i64 x) ∧ lo ≤ x ∧ x ≤ hi ∧ Drawn w cb K (M + 2) w' := by
  subst hl hcs
  refine (spec_among cb K M _ _ _ _ w h0 (by omega) (arr_lit hb) (fun b o e => by injection e with e; injection e with e; omega) hM h).mono ?_
  rintro e w' ⟨j, hj, rfl, hd⟩
  have hm := hlo (l.getD j 0) (by simp [List.getD, hj])
  exact ⟨_, rfl, hm.1, hm.2, hd⟩
end Go.Proofs.Yteklalbjlmkagaa
