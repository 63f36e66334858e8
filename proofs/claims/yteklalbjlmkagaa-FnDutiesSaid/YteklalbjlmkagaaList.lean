/- Lists of numbers that a call appends to. -/
import Derived.Test.YteklalbjlmkagaaTyInt
import Derived.Laws.AppendOwn
import Derived.OwnWalk
namespace Go.Proofs.Yteklalbjlmkagaa
open Go.RowKit
set_option linter.unusedVariables false
set_option linter.unusedSimpArgs false

def il (l : List Int) : List Value := l.map (.int .i64)
theorem il_snoc (l : List Int) (x : Int) : il l ++ [.int .i64 x] = il (l ++ [x]) := by simp [il]
/-- A number only if .. -/
def onlyN (ok : Bool) (m : Nat) : Nat := if ok then m else 0
def onlyI (ok : Bool) (z : Int) : Int := if ok then z else 0
theorem onlyN_le {ok : Bool} {m b : Nat} (h : m ≤ b) : onlyN ok m ≤ b := by unfold onlyN; split <;> omega
/-- A list as a function of places. -/
def lf (l : List Int) (i _j : Nat) : Int := l.getD i 0
theorem own_of_il {w : World} {base n : Nat} {E : TypeId} {v : Value} {l : List Int} (hn : n = l.length) (h : w.ownsRow base E 1 v n (il l)) : Own w base E 1 v n (iv (lf l)) := by
  rcases h.2 with ⟨rfl, h0⟩ | ⟨g, cap, cur, rfl, hg, hh, hc, hm, hs, ht⟩
  · exact .inl ⟨rfl, h0⟩
  · refine .inr ⟨g, cap, cur, rfl, hg, hh, hc, hm, hs, fun i j hi hj => ?_⟩
    obtain rfl : j = 0 := by omega
    have h1 : (cur.toList.take (n * 1))[i]? = (il l)[i]? := by rw [ht]
    rw [List.getElem?_take, if_pos (by omega)] at h1
    have hil : i < l.length := by omega
    simp only [il, List.getElem?_map, List.getElem?_eq_getElem hil, Option.map_some, Array.getElem?_toList] at h1
    simpa [iv, lf, List.getD, hil] using h1
theorem row_below {w w' : World} {base n s : Nat} {E : TypeId} {v : Value} {xs : List Value} (h : w.ownsRow base E s v n xs) (hb : Below w.heap.size w w') : w'.ownsRow base E s v n xs :=
  h.kept (row := none) ⟨hb.os, hb.tape, hb.output, hb.size, fun k hk _ => hb.block k hk⟩ (by cases hv : v.ownBlock <;> simp)
theorem row_base {w : World} {base base' n s : Nat} {E : TypeId} {v : Value} {xs : List Value} (h : w.ownsRow base E s v n xs) (hb : base' ≤ base) : w.ownsRow base' E s v n xs := by
  refine ⟨h.1, ?_⟩
  rcases h.2 with h | ⟨g, cap, cur, h1, h2, h3⟩
  · exact .inl h
  · exact .inr ⟨g, cap, cur, h1, Nat.le_trans hb h2, h3⟩
theorem blk_far {w : World} {g : Nat} {t : TypeId} {cs : Array Value} (h : Blk w g t cs) {p : Addr} (hp : g ≠ p.block) (x : Value) : Blk (w.setCell p x) g t cs := (Below.heap_setCell w p x g hp).trans h
/-- The empty list of the call's own, made at the heap's end; or nil. -/
theorem own_nil (w : World) (base : Nat) (E : TypeId) (k : Nat) (F : Nat → Nat → Value) : Own w base E k (.slice none 0 0) 0 F := .inl ⟨rfl, rfl⟩
theorem own_new {w : World} {base : Nat} {E : TypeId} {k : Nat} {F : Nat → Nat → Value} (h : base ≤ w.heap.size) : Own (w.alloc (.cells #[] E)) base E k (.slice (some ⟨w.heap.size, 0, none⟩) 0 0) 0 F :=
  .inr ⟨w.heap.size, 0, _, rfl, h, Blk.new _ _ _, Nat.le_refl _, by unfold maxLen; omega, by simp, fun i j hi => absurd hi (by omega)⟩
end Go.Proofs.Yteklalbjlmkagaa
