/- A map from keys to bools that a call makes, asked by 'if seen[k]', over any program. -/
import Derived.Test.YtbpeamjgddikjaaNum
import Derived.Maps.Own
import Derived.Maps.OwnOps
import Derived.Maps.Views
namespace Go.Proofs.Ytbpeamjgddikjaa
open Go.RowKit Go.Maps
set_option linter.unusedVariables false
set_option linter.unusedSimpArgs false

/-- The keys that have been seen: what the map's block b says of a key. -/
def Seen (P : Program) (kt bt : TypeId) (w : World) (b n : Nat) (S : Lit → Bool) : Prop :=
  ∃ D : DataW Unit, IsMap D ∧ w.ownsMap P kt (plainElem P bt) b n D ∧ ∀ x : Lit, WideAt.IsKeyLit x → D.atKey x (.lit (.bool false)) = .lit (.bool (S x))
theorem Seen.made (w : World) (P : Program) (kt bt : TypeId) : Seen P kt bt (w.alloc (.map #[] 0)) w.heap.size 0 (fun _ => false) :=
  ⟨.map [], isMap_empty, World.ownsMap_made w P kt _, fun _ _ => rfl⟩
theorem Seen.kept {P : Program} {kt bt : TypeId} {w w' : World} {b n : Nat} {S : Lit → Bool} (h : Seen P kt bt w b n S) (hb : Below w.heap.size w w') : Seen P kt bt w' b n S := by
  obtain ⟨D, h1, h2, h3⟩ := h
  exact ⟨D, h1, h2.kept (row := none) ⟨hb.os, hb.tape, hb.output, hb.size, fun k hk _ => hb.block k hk⟩ (by simp), h3⟩
theorem Seen.lt {P : Program} {kt bt : TypeId} {w : World} {b n : Nat} {S : Lit → Bool} (h : Seen P kt bt w b n S) : b < w.heap.size := by
  obtain ⟨D, _, h2, _⟩ := h
  exact h2.lt
theorem plainElem_bool_inv {P : Program} {e : TypeId} (he : P.underlying e = some .bool) {v : Value} {z : DataW Unit × List MemPlace} (h : plainElem P e v = some z) : ∃ x, v = .bool x ∧ z = (.lit (.bool x), []) := by
  unfold plainElem at h
  rw [he] at h
  cases v <;> simp at h
  exact ⟨_, rfl, h.symm⟩
/-- The look-up: the world stands. -/
theorem Seen.ask {P : Program} {kt bt : TypeId} {w : World} {b n : Nat} {S : Lit → Bool} (h : Seen P kt bt w b n S) (K : Keyed P kt) {t : TypeId} (ht : P.underlying t = some (.map kt bt)) (hbt : P.underlying bt = some .bool) (hz : (zeroValue bt).run P w = .ok (.bool false) w)
    {key : Value} {kl : Lit} (hk : WideAt.IsKeyLit kl) (hkey : keyOf P kt key = some kl) : (Instr.lookup t (.map (some b)) key false).run P w = .ok (.bool (S kl)) w := by
  obtain ⟨D, _, h2, h3⟩ := h
  obtain ⟨v, ps, hrun, hv⟩ := h2.lookup K ht hz (plainElem_bool hbt false) hkey
  obtain ⟨x, rfl, hx⟩ := plainElem_bool_inv hbt hv
  rw [h3 kl hk] at hx
  simp only [Prod.mk.injEq] at hx
  have : S kl = x := by simpa using hx.1
  rw [hrun, this]
/-- The store. -/
theorem Seen.put {P : Program} {kt bt : TypeId} {w : World} {b n : Nat} {S : Lit → Bool} (h : Seen P kt bt w b n S) (K : Keyed P kt) {t : TypeId} (ht : P.underlying t = some (.map kt bt)) (hbt : P.underlying bt = some .bool) (hn : n < maxLen)
    {key : Value} {kl : Lit} (hk : WideAt.IsKeyLit kl) (hkey : keyOf P kt key = some kl) {S' : Lit → Bool} (s1 : S' kl = true) (s2 : ∀ x, x ≠ kl → S' x = S x) :
    ∃ w', (Instr.mapUpdate t (.map (some b)) key (.bool true)).run P w = .ok () w' ∧ Seen P kt bt w' b (n + 1) S' ∧ w.grownBy w' (some b) := by
  obtain ⟨D, h1, h2, h3⟩ := h
  obtain ⟨w', hrun, h4, hg⟩ := h2.update K ht hn hkey (plainElem_bool hbt true)
  refine ⟨w', hrun, ⟨_, h1.put kl _, h4, fun x hx => ?_⟩, hg⟩
  by_cases e : x = kl
  · subst e
    rw [atKey_put_same h1 hx, s1]
  · rw [atKey_put_other e, h3 x hx, s2 x e]
theorem wpList_ask {P : Program} (w : World) {ops : Array Oper} {rest : List Oper} {o : Oper} {a : Act} {Q : Exit → Act → World → Prop} (hg : o.guard = none) (m x : Operand) (t : TypeId) (hop : o.op = Op.lookup t m x false)
    {kt bt : TypeId} {b n : Nat} {S : Lit → Bool} (h : Seen P kt bt w b n S) (K : Keyed P kt) (ht : P.underlying t = some (.map kt bt)) (hbt : P.underlying bt = some .bool) (hz : (zeroValue bt).run P w = .ok (.bool false) w)
    (hm : a.eval m = .map (some b)) (key : Value) (kl : Lit) (hx : a.eval x = key) (hk : WideAt.IsKeyLit kl) (hkey : keyOf P kt key = some kl)
    (hK : wpList P ops Q rest (a.put o.dst (.bool (S kl))) w) : wpList P ops Q (o :: rest) a w := by
  refine wpList_plain hg fun K' hK' => ?_
  have hrun := h.ask K ht hbt hz hk hkey
  unfold Oper.wp
  simp [execOp, hop, hm, hx, hrun, Result.andThen]
  exact hK' _ _ hK
theorem wpList_see {P : Program} (w : World) {ops : Array Oper} {rest : List Oper} {o : Oper} {a : Act} {Q : Exit → Act → World → Prop} (hg : o.guard = none) (m x v : Operand) (t : TypeId) (hop : o.op = Op.mapUpdate t m x v)
    {kt bt : TypeId} {b n : Nat} {S : Lit → Bool} (h : Seen P kt bt w b n S) (K : Keyed P kt) (ht : P.underlying t = some (.map kt bt)) (hbt : P.underlying bt = some .bool) (hn : n < maxLen)
    (hm : a.eval m = .map (some b)) (key : Value) (kl : Lit) (hx : a.eval x = key) (hv : a.eval v = .bool true) (hk : WideAt.IsKeyLit kl) (hkey : keyOf P kt key = some kl)
    {S' : Lit → Bool} (s1 : S' kl = true) (s2 : ∀ x, x ≠ kl → S' x = S x)
    (hK : ∀ w', Seen P kt bt w' b (n + 1) S' → w.grownBy w' (some b) → wpList P ops Q rest (a.put o.dst undef) w') : wpList P ops Q (o :: rest) a w := by
  refine wpList_plain hg fun K' hK' => ?_
  obtain ⟨w', hrun, h1, h2⟩ := h.put K ht hbt hn hk hkey s1 s2
  unfold Oper.wp
  simp [execOp, hop, hm, hx, hv, hrun, Result.andThen]
  exact hK' _ _ (hK w' h1 h2)
end Go.Proofs.Ytbpeamjgddikjaa
