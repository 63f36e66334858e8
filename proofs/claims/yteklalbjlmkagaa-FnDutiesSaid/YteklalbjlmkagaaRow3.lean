/- How a code (a slice of bytes) is opened. -/
import Derived.Test.YteklalbjlmkagaaRow
import Derived.Test.YteklalbjlmkagaaCur
namespace Go.Proofs.Yteklalbjlmkagaa
open Go.RowKit Go.ChangeShapes Go.WideShapes Go.ChangeAt Go.Deep Go.Joins
set_option linter.unusedVariables false
set_option linter.unusedSimpArgs false
set_option maxRecDepth 100000

section
variable {H : Type} {enc : TypeId × Value → H} {P : Program} {w : World}
theorem lit_u8 {x : Int} (h : (Lit.int .u8 x).wf = true) : 0 ≤ x ∧ x ≤ 255 := by
  simpa [Lit.wf, IntKind.min, IntKind.max, IntKind.signed, IntKind.bits] using h
/-- A slice of bytes. -/
theorem open_slice_bytes {r : Reach} {b0 : Nat} {t e : TypeId} {v : Value} {d : DataW H} {p : List MemPlace} (ht : P.underlying t = some (.slice e)) (he : P.underlying e = some (.int .u8)) (hC : P.cellsOf e = 1)
    (hv : Value.okWide P w r b0 t v) (h : DataW.Trod enc P w 0 (fun _ => true) true t v d p) :
    ∃ (A : Option Addr) (n c : Nat) (C : Nat → Int), v = .slice A n c ∧ n ≤ c ∧ c ≤ maxLen ∧ Arr w w.heap.size A n 1 (bv C) ∧ ∀ i, i < n → 0 ≤ C i ∧ C i ≤ 255 := by
  obtain ⟨a0, len0, cap0, rfl⟩ := okWide_slice ht hv
  obtain ⟨fuel, hf⟩ := h
  rcases open_slice ht hf with ⟨hcs, _⟩ | ⟨a, len, cap, m, n, D, Pl, hcs, hb, hl, hm, hmm, hx, hel⟩
  · simp [Value.cells] at hcs
    obtain ⟨rfl, rfl, rfl⟩ := hcs
    exact ⟨none, 0, 0, fun _ => 0, rfl, Nat.le_refl _, Nat.zero_le _, fun h => absurd h (by omega), fun i hi => absurd hi (by omega)⟩
  · simp [Value.cells] at hcs
    obtain ⟨rfl, rfl, rfl⟩ := hcs
    simp only [if_true] at hmm
    subst hmm
    have cell : ∀ i, i < len0 → ∃ x : Int, w.cell? (a.add i) = some (.int .u8 x) ∧ 0 ≤ x ∧ x ≤ 255 := by
      intro i hil
      obtain ⟨cs', hc, ht'⟩ := hel i (by omega)
      rw [hC, Nat.mul_one] at hc
      obtain ⟨_, hcl, hat⟩ := World.cells?_some hc
      obtain ⟨x, hx1, _, hwf⟩ := DataW.trod_int he ht'
      have hb' := lit_u8 hwf
      refine ⟨x, ?_, hb'.1, hb'.2⟩
      have := hat 0 (by omega)
      rw [hx1] at this
      simpa [Addr.add] using this
    refine ⟨_, _, _, fun i => if h : i < len0 then Classical.choose (cell i h) else 0, rfl, hl, hm, fun hn => ?_, fun i hi => ?_⟩
    · obtain ⟨x0, h0, _⟩ := cell 0 hn
      obtain ⟨b, off, spot⟩ := a
      have hspot : spot = none := by simpa [Addr.add] using World.cell?_spot h0
      subst hspot
      refine ⟨b, off, rfl, ?_, fun i j hi hj => ?_⟩
      · have := World.block_lt_of_cell? _ _ h0
        simpa [Addr.add] using this
      · obtain rfl : j = 0 := by omega
        have h1 := Classical.choose_spec (cell i hi)
        simp only [bv]
        rw [dif_pos hi, ← h1.1, Go.WideShapes.add_plain, Nat.mul_one, Nat.add_zero]
    · have := Classical.choose_spec (cell i hi)
      show _ ≤ (if h : i < len0 then Classical.choose (cell i h) else 0) ∧ (if h : i < len0 then Classical.choose (cell i h) else 0) ≤ _
      rw [dif_pos hi]
      exact this.2
end
end Go.Proofs.Yteklalbjlmkagaa
