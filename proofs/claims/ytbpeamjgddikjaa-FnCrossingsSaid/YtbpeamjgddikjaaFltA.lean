/- A list of faults: how it lies in memory, and how the argument is opened. -/
import Derived.Test.YtbpeamjgddikjaaRow2
import Derived.Test.YtbpeamjgddikjaaFauS
namespace Go.Proofs.Ytbpeamjgddikjaa
open Go.RowKit Go.ChangeShapes Go.WideShapes Go.ChangeAt Go.Deep Go.Joins
set_option linter.unusedVariables false
set_option linter.unusedSimpArgs false
set_option maxRecDepth 100000

/-- What a fault says. -/
structure FauE where
  id : Int
  nm : ByteArray
  m : Nat
  Y : Nat → Nat → Int
  sl : Int
/-- Its cells, its bends at Q. -/
def fcv (E : Nat → FauE) (Q : Nat → Option Addr × Nat) (i j : Nat) : Value :=
  match j with
  | 0 => .int .i64 (E i).id
  | 1 => .string (E i).nm
  | 2 => .slice (Q i).1 (E i).m (Q i).2
  | _ => .int .i64 (E i).sl
theorem fcv0 (E : Nat → FauE) (Q : Nat → Option Addr × Nat) (i : Nat) : fcv E Q i 0 = .int .i64 (E i).id := rfl
theorem fcv1 (E : Nat → FauE) (Q : Nat → Option Addr × Nat) (i : Nat) : fcv E Q i 1 = .string (E i).nm := rfl
theorem fcv2 (E : Nat → FauE) (Q : Nat → Option Addr × Nat) (i : Nat) : fcv E Q i 2 = .slice (Q i).1 (E i).m (Q i).2 := rfl
theorem fcv3 (E : Nat → FauE) (Q : Nat → Option Addr × Nat) (i : Nat) : fcv E Q i 3 = .int .i64 (E i).sl := rfl
/-- The list reads. -/
structure FauL (w : World) (A : Option Addr) (n : Nat) (E : Nat → FauE) (Q : Nat → Option Addr × Nat) : Prop where
  arr : Arr w w.heap.size A n 4 (fcv E Q)
  deep : ∀ i, i < n → Arr w w.heap.size (Q i).1 (E i).m 2 (iv (E i).Y)
theorem FauL.on {w w' : World} {A : Option Addr} {n : Nat} {E : Nat → FauE} {Q : Nat → Option Addr × Nat} (h : FauL w A n E Q) (hb : Below w.heap.size w w') : FauL w' A n E Q :=
  ⟨h.arr.on hb, fun i hi => (h.deep i hi).on hb⟩
/-- How much the first k say. -/
def fsz (E : Nat → FauE) : Nat → Int
  | 0 => 0
  | k + 1 => fsz E k + (((E k).nm.size : Int) + ((E k).m : Int))
theorem fsz_nn (E : Nat → FauE) : ∀ k, 0 ≤ fsz E k
  | 0 => Int.le_refl _
  | k + 1 => by have := fsz_nn E k; simp only [fsz]; omega
theorem fsz_le (E : Nat → FauE) {k n : Nat} (h : k ≤ n) : fsz E k ≤ fsz E n := by
  induction n with
  | zero => obtain rfl : k = 0 := by omega
            exact Int.le_refl _
  | succ n ih =>
    by_cases hk : k = n + 1
    · subst hk; exact Int.le_refl _
    · have := ih (by omega); simp only [fsz]; omega
theorem fsz_at (E : Nat → FauE) {i n : Nat} (h : i < n) : ((E i).nm.size : Int) + ((E i).m : Int) ≤ fsz E n := by
  have h1 := fsz_le E (show i + 1 ≤ n from h)
  have h2 := fsz_nn E i
  simp only [fsz] at h1; omega
section
variable {H : Type} {enc : TypeId × Value → H} {P : Program} {w : World}
/-- A slice of structs whose fields are one cell each. -/
theorem open_slice_ones {t e : TypeId} {fs : Array Field} {c0 : Value} {fuel : Nat} {y : DataW H × List MemPlace} (ht : P.underlying t = some (.slice e)) (he : P.underlying e = some (.struct fs)) (hi : oneFields P fs = true) (hC : P.cellsOf e = fs.size)
    (hpos : 0 < fs.size) (hf : DataW.trod enc P w 0 (fun _ => true) true fuel t [c0] = some y) :
    ∃ (A : Option Addr) (n c : Nat) (F : Nat → Nat → Value), c0 = .slice A n c ∧ n ≤ c ∧ c ≤ maxLen ∧ Arr w w.heap.size A n fs.size F ∧ ∀ i, i < n → ∀ (j : Nat) (f : Field), fs[j]? = some f → ∃ m z, DataW.trod enc P w 0 (fun _ => true) true m f.type [F i j] = some z := by
  rcases open_slice ht hf with ⟨hcs, _⟩ | ⟨a, len0, cap, m, n, D, Pl, hcs, hb, hl, hm, hmm, hx, hel⟩
  · injection hcs with hcs _
    exact ⟨none, 0, 0, fun _ _ => undef, hcs, Nat.le_refl _, Nat.zero_le _, fun h => absurd h (by omega), fun i hi => absurd hi (by omega)⟩
  · injection hcs with hcs _
    simp only [if_true] at hmm
    subst hmm
    have key : ∀ i, i < len0 → ∃ cs', w.cells? 0 (a.add (i * fs.size)) fs.size = some cs' ∧ ∀ (j : Nat) (f : Field), fs[j]? = some f → ∃ c m y, cs'[j]? = some c ∧ DataW.trod enc P w 0 (fun _ => true) true m f.type [c] = some y := by
      intro i hil
      obtain ⟨cs', hc, ht'⟩ := hel i (by omega)
      rw [hC] at hc
      obtain ⟨_, hcl, _⟩ := World.cells?_some hc
      exact ⟨cs', hc, struct_ones he hi hcl ht'⟩
    have cell : ∀ i j, i < len0 → j < fs.size → ∃ c : Value, w.cell? (a.add (i * fs.size + j)) = some c ∧ ∀ f, fs[j]? = some f → ∃ m y, DataW.trod enc P w 0 (fun _ => true) true m f.type [c] = some y := by
      intro i j hil hj
      obtain ⟨cs', hc, hx'⟩ := key i hil
      obtain ⟨_, hcl, hat⟩ := World.cells?_some hc
      obtain ⟨c, m, y, hx1, hx2⟩ := hx' j _ (Array.getElem?_eq_getElem hj)
      refine ⟨c, ?_, fun f hff => ?_⟩
      · rw [← Go.Deep.add_add, hat j hj, hx1]
      · rw [Array.getElem?_eq_getElem hj] at hff
        injection hff with hff
        subst hff
        exact ⟨m, y, hx2⟩
    obtain ⟨F, hF⟩ : ∃ F : Nat → Nat → Value, ∀ i j, i < len0 → j < fs.size → (w.cell? (a.add (i * fs.size + j)) = some (F i j) ∧ ∀ f, fs[j]? = some f → ∃ m y, DataW.trod enc P w 0 (fun _ => true) true m f.type [F i j] = some y) :=
      ⟨fun i j => if h : i < len0 ∧ j < fs.size then Classical.choose (cell i j h.1 h.2) else undef, fun i j hi hj => by
        simp only [dif_pos (And.intro hi hj)]
        exact Classical.choose_spec (cell i j hi hj)⟩
    refine ⟨_, _, _, F, hcs, hl, hm, fun hn => ?_, fun i hi j f hf => ?_⟩
    · have h0 := (hF 0 0 hn hpos).1
      obtain ⟨b, off, spot⟩ := a
      have hspot : spot = none := by simpa [Addr.add] using World.cell?_spot h0
      subst hspot
      refine ⟨b, off, rfl, ?_, fun i j hi hj => ?_⟩
      · have := World.block_lt_of_cell? _ _ h0
        simpa [Addr.add] using this
      · have h1 := (hF i j hi hj).1
        rw [← h1, Go.WideShapes.add_plain, Nat.add_assoc]
    · have hj : j < fs.size := (Array.getElem?_eq_some_iff.1 hf).1
      exact (hF i j hi hj).2 f hf
end
section
variable {H : Type} {enc : TypeId × Value → H} {W : World}
theorem open_faults {c0 : Value} {fuel : Nat} {y : DataW H × List MemPlace} (hf : DataW.trod enc Try.prog W 0 (fun _ => true) true fuel 44 [c0] = some y) :
    ∃ (A : Option Addr) (n c : Nat) (E : Nat → FauE) (Q : Nat → Option Addr × Nat), c0 = .slice A n c ∧ n ≤ maxLen ∧ FauL W A n E Q ∧ ∀ i, i < n → (E i).nm.size ≤ maxLen ∧ (E i).m ≤ maxLen := by
  obtain ⟨A, n, c, F, rfl, h1, h2, h3, h4⟩ := open_slice_ones Try.underlying44 Try.underlying31 (by kernel_rfl) (by kernel_rfl) (by decide) hf
  have key : ∀ i, ∃ z : FauE × (Option Addr × Nat), i < n → (F i 0 = .int .i64 z.1.id ∧ F i 1 = .string z.1.nm ∧ F i 2 = .slice z.2.1 z.1.m z.2.2 ∧ F i 3 = .int .i64 z.1.sl) ∧ Arr W W.heap.size z.2.1 z.1.m 2 (iv z.1.Y) ∧ z.1.nm.size ≤ maxLen ∧ z.1.m ≤ maxLen := by
    intro i
    by_cases hi : i < n
    · obtain ⟨m0, y0, t0⟩ := h4 i hi 0 _ rfl
      obtain ⟨m1, y1, t1⟩ := h4 i hi 1 _ rfl
      obtain ⟨m2, y2, t2⟩ := h4 i hi 2 _ rfl
      obtain ⟨m3, y3, t3⟩ := h4 i hi 3 _ rfl
      obtain ⟨x0, e0, _⟩ := one_int Try.underlying3 t0
      obtain ⟨s, e1, hs⟩ := one_string Try.underlying9 t1
      obtain ⟨A', m, c', X, e2, g1, g2, g3, _⟩ := one_slice_ints Try.underlying29 Try.underlying23 (by kernel_rfl) (by kernel_rfl) (by decide) t2
      obtain ⟨x3, e3, _⟩ := one_int Try.underlying3 t3
      exact ⟨(⟨x0, s, m, X, x3⟩, (A', c')), fun _ => ⟨⟨e0, e1, e2, e3⟩, g3, hs, Nat.le_trans g1 g2⟩⟩
    · exact ⟨(⟨0, .empty, 0, fun _ _ => 0, 0⟩, (none, 0)), fun h => absurd h hi⟩
  obtain ⟨Z, hZ⟩ := Classical.axiomOfChoice key
  refine ⟨A, n, c, fun i => (Z i).1, fun i => (Z i).2, rfl, by omega, ⟨fun hn => ?_, fun i hi => (hZ i hi).2.1⟩, fun i hi => (hZ i hi).2.2⟩
  obtain ⟨b, off, e, hb, hc⟩ := h3 hn
  refine ⟨b, off, e, hb, fun i j hi hj => ?_⟩
  have hc1 := hc i j hi hj
  obtain ⟨⟨e0, e1, e2, e3⟩, _⟩ := hZ i hi
  have hj4 : j < 4 := hj
  rcases (by omega : j = 0 ∨ j = 1 ∨ j = 2 ∨ j = 3) with rfl | rfl | rfl | rfl
  · rw [fcv0, ← e0]; exact hc1
  · rw [fcv1, ← e1]; exact hc1
  · rw [fcv2, ← e2]; exact hc1
  · rw [fcv3, ← e3]; exact hc1
end
end Go.Proofs.Ytbpeamjgddikjaa
