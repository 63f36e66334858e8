/- How an argument is opened whose fields are not all numbers. -/
import Derived.Test.YtbpeamjgddikjaaRow
namespace Go.Proofs.Ytbpeamjgddikjaa
open Go.RowKit Go.ChangeShapes Go.WideShapes Go.ChangeAt Go.Deep Go.Joins
set_option linter.unusedVariables false
set_option linter.unusedSimpArgs false
set_option maxRecDepth 100000

/-- Every field is one cell. -/
def oneFields (P : Program) (fs : Array Field) : Bool := (List.range fs.size).all fun i => match fs[i]? with
  | some f => f.offset == i && P.cellsOf f.type == 1
  | none => false
section
variable {H : Type} {enc : TypeId × Value → H} {P : Program} {w : World}
theorem struct_ones {spare : Nat → Bool} {held : Bool} {base : Nat} {t : TypeId} {fs : Array Field} (hs : P.underlying t = some (.struct fs)) (hi : oneFields P fs = true) {cs : List Value} {fuel : Nat} {x : DataW H × List MemPlace}
    (hlen : cs.length = fs.size) (h : DataW.trod enc P w base spare held fuel t cs = some x) : ∀ (j : Nat) (f : Field), fs[j]? = some f → ∃ c m y, cs[j]? = some c ∧ DataW.trod enc P w base spare held m f.type [c] = some y := by
  intro j f hf
  obtain ⟨xs, n, _, _, _, hxl, hg⟩ := DataW.trod_struct hs h
  have hj : j < fs.size := (Array.getElem?_eq_some_iff.1 hf).1
  have h0 := List.all_eq_true.1 hi j (by simpa using hj)
  rw [hf] at h0
  simp only [Bool.and_eq_true, beq_iff_eq] at h0
  have h1 := hg j f hf
  rw [h0.1, h0.2] at h1
  have hx : xs[j]? = some (xs[j]'(by omega)) := List.getElem?_eq_getElem (by omega)
  have hone : (cs.drop j).take 1 = [cs[j]'(by omega)] := by
    rw [List.drop_eq_getElem_cons (by omega)]
    rfl
  rw [hone, hx] at h1
  exact ⟨_, n, _, List.getElem?_eq_getElem (by omega), h1⟩
theorem one_int {spare : Nat → Bool} {held : Bool} {base : Nat} {t : TypeId} (ht : P.underlying t = some (.int .i64)) {c : Value} {m : Nat} {y : DataW H × List MemPlace} (h : DataW.trod enc P w base spare held m t [c] = some y) : ∃ n : Int, c = .int .i64 n ∧ -9223372036854775808 ≤ n ∧ n ≤ 9223372036854775807 := by
  obtain ⟨n, hn, _, hwf⟩ := DataW.trod_int ht h
  have hb := lit_bd hwf
  injection hn with hn _
  exact ⟨n, hn, hb.1, hb.2⟩
theorem one_string {spare : Nat → Bool} {held : Bool} {base : Nat} {t : TypeId} (ht : P.underlying t = some .string) {c : Value} {m : Nat} {y : DataW H × List MemPlace} (h : DataW.trod enc P w base spare held m t [c] = some y) : ∃ s : ByteArray, c = .string s ∧ s.size ≤ maxLen := by
  obtain ⟨s, hs, _, hl⟩ := DataW.trod_string ht h
  injection hs with hs _
  exact ⟨s, hs, hl⟩
/-- A cell with a slice of structs of ints. -/
theorem one_slice_ints {t e : TypeId} {fs : Array Field} {c0 : Value} {fuel : Nat} {y : DataW H × List MemPlace} (ht : P.underlying t = some (.slice e)) (he : P.underlying e = some (.struct fs)) (hi : intFields P fs = true) (hC : P.cellsOf e = fs.size)
    (hpos : 0 < fs.size) (hf : DataW.trod enc P w 0 (fun _ => true) true fuel t [c0] = some y) :
    ∃ (A : Option Addr) (n c : Nat) (X : Nat → Nat → Int), c0 = .slice A n c ∧ n ≤ c ∧ c ≤ maxLen ∧ Arr w w.heap.size A n fs.size (iv X) ∧ ∀ i j, i < n → j < fs.size → -9223372036854775808 ≤ X i j ∧ X i j ≤ 9223372036854775807 := by
  rcases open_slice ht hf with ⟨hcs, _⟩ | ⟨a, len0, cap, m, n, D, Pl, hcs, hb, hl, hm, hmm, hx, hel⟩
  · injection hcs with hcs _
    exact ⟨none, 0, 0, fun _ _ => 0, hcs, Nat.le_refl _, Nat.zero_le _, fun h => absurd h (by omega), fun i j hi => absurd hi (by omega)⟩
  · injection hcs with hcs _
    simp only [if_true] at hmm
    subst hmm
    have key : ∀ i, i < len0 → ∃ cs', w.cells? 0 (a.add (i * fs.size)) fs.size = some cs' ∧ ∀ j, j < fs.size → ∃ x : Int, cs'[j]? = some (.int .i64 x) ∧ -9223372036854775808 ≤ x ∧ x ≤ 9223372036854775807 := by
      intro i hil
      obtain ⟨cs', hc, ht'⟩ := hel i (by omega)
      rw [hC] at hc
      obtain ⟨_, hcl, _⟩ := World.cells?_some hc
      exact ⟨cs', hc, struct_ints he hi hcl ht'⟩
    have cell : ∀ i j, i < len0 → j < fs.size → ∃ x : Int, w.cell? (a.add (i * fs.size + j)) = some (.int .i64 x) ∧ -9223372036854775808 ≤ x ∧ x ≤ 9223372036854775807 := by
      intro i j hil hj
      obtain ⟨cs', hc, hx'⟩ := key i hil
      obtain ⟨_, hcl, hat⟩ := World.cells?_some hc
      obtain ⟨x, hx1, hx2⟩ := hx' j hj
      refine ⟨x, ?_, hx2⟩
      rw [← Go.Deep.add_add, hat j hj, hx1]
    refine ⟨_, _, _, fun i j => if h : i < len0 ∧ j < fs.size then Classical.choose (cell i j h.1 h.2) else 0, hcs, hl, hm, fun hn => ?_, fun i j hi hj => ?_⟩
    · obtain ⟨x0, h0, _⟩ := cell 0 0 hn hpos
      obtain ⟨b, off, spot⟩ := a
      have hspot : spot = none := by simpa [Addr.add] using World.cell?_spot h0
      subst hspot
      refine ⟨b, off, rfl, ?_, fun i j hi hj => ?_⟩
      · have := World.block_lt_of_cell? _ _ h0
        simpa [Addr.add] using this
      · have h1 := Classical.choose_spec (cell i j hi hj)
        simp only [iv]
        rw [dif_pos ⟨hi, hj⟩, ← h1.1, Go.WideShapes.add_plain, Nat.add_assoc]
    · have := Classical.choose_spec (cell i j hi hj)
      show _ ≤ (if h : i < len0 ∧ j < fs.size then Classical.choose (cell i j h.1 h.2) else 0) ∧ (if h : i < len0 ∧ j < fs.size then Classical.choose (cell i j h.1 h.2) else 0) ≤ _
      rw [dif_pos ⟨hi, hj⟩]
      exact this.2
/-- A struct whose fields are one cell each. -/
theorem open_agg_ones {r : Reach} {b0 base : Nat} {spare : Nat → Bool} {held : Bool} {t : TypeId} {fs : Array Field} {v : Value} {d : DataW H} {p : List MemPlace} (hs : P.underlying t = some (.struct fs)) (hi : oneFields P fs = true) (hC : P.cellsOf t = fs.size)
    (hv : Value.okWide P w r b0 t v) (h : DataW.Trod enc P w base spare held t v d p) :
    ∃ cs : List Value, v = .agg cs.toArray ∧ cs.length = fs.size ∧ ∀ (j : Nat) (f : Field), fs[j]? = some f → ∃ c m y, cs[j]? = some c ∧ DataW.trod enc P w base spare held m f.type [c] = some y := by
  obtain ⟨cs, rfl, hsz⟩ := okWide_struct hs hv
  obtain ⟨fuel, hf⟩ := h
  have hl : cs.toList.length = fs.size := by rw [Array.length_toList]; exact hsz.trans hC
  exact ⟨cs.toList, by simp, hl, struct_ones hs hi hl (by simpa [Value.cells] using hf)⟩
theorem list4 {cs : List Value} {k : Nat} (hk : k = 4) (hl : cs.length = k) {a b c d : Value} (h0 : cs[0]? = some a) (h1 : cs[1]? = some b) (h2 : cs[2]? = some c) (h3 : cs[3]? = some d) : cs = [a, b, c, d] := by
  subst hk
  match cs, hl with
  | [c0, c1, c2, c3], _ => simp at h0 h1 h2 h3; subst h0 h1 h2 h3; rfl
theorem list5 {cs : List Value} {k : Nat} (hk : k = 5) (hl : cs.length = k) {a b c d e : Value} (h0 : cs[0]? = some a) (h1 : cs[1]? = some b) (h2 : cs[2]? = some c) (h3 : cs[3]? = some d) (h4 : cs[4]? = some e) : cs = [a, b, c, d, e] := by
  subst hk
  match cs, hl with
  | [c0, c1, c2, c3, c4], _ => simp at h0 h1 h2 h3 h4; subst h0 h1 h2 h3 h4; rfl
end
section
variable {H : Type} {enc : TypeId × Value → H} {W : World}
theorem open_fault {r : Reach} {b0 : Nat} {v : Value} {d : DataW H} {p : List MemPlace} (hv : Value.okWide Try.prog W r b0 31 v) (h : DataW.Trod enc Try.prog W 0 (fun _ => true) true 31 v d p) :
    ∃ (x0 : Int) (s : ByteArray) (A : Option Addr) (n c : Nat) (X : Nat → Nat → Int) (x3 : Int), v = .agg #[.int .i64 x0, .string s, .slice A n c, .int .i64 x3] ∧ s.size ≤ maxLen ∧ n ≤ c ∧ c ≤ maxLen ∧ Arr W W.heap.size A n 2 (iv X) := by
  obtain ⟨cs, rfl, hl, hx⟩ := open_agg_ones Try.underlying31 (by kernel_rfl) (by kernel_rfl) hv h
  obtain ⟨c0, m0, y0, e0, t0⟩ := hx 0 _ rfl; obtain ⟨c1, m1, y1, e1, t1⟩ := hx 1 _ rfl; obtain ⟨c2, m2, y2, e2, t2⟩ := hx 2 _ rfl; obtain ⟨c3, m3, y3, e3, t3⟩ := hx 3 _ rfl
  obtain ⟨x0, rfl, _⟩ := one_int Try.underlying3 t0; obtain ⟨s, rfl, hs⟩ := one_string Try.underlying9 t1
  obtain ⟨A, n, c, X, rfl, h1, h2, h3, _⟩ := one_slice_ints Try.underlying29 Try.underlying23 (by kernel_rfl) (by kernel_rfl) (by decide) t2
  obtain ⟨x3, rfl, _⟩ := one_int Try.underlying3 t3
  obtain rfl := list4 rfl hl e0 e1 e2 e3
  exact ⟨x0, s, A, n, c, X, x3, rfl, hs, h1, h2, h3⟩
end
end Go.Proofs.Ytbpeamjgddikjaa
