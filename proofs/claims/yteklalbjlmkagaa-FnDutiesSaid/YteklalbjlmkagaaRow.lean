/- Any law's row, from its walk: 'it returns true, and below the first new block the world is as it was'. And how an argument is opened. -/
import Derived.Test.YteklalbjlmkagaaLib
import Derived.Lib.SmallJoins
namespace Go.Proofs.Yteklalbjlmkagaa
open Go.RowKit Go.ChangeShapes Go.WideShapes Go.ChangeAt Go.Deep Go.Joins
set_option linter.unusedVariables false
set_option linter.unusedSimpArgs false

theorem own : ownKnob Try.prog.godebug = none := by kernel_rfl
theorem laidOut : laidOutB Try.prog = true := by kernel_rfl

section
variable {H : Type} {enc : TypeId × Value → H}
theorem args_stay {P : Program} (hl : laidOutB P = true) {W W' : World} (hb : Below W.heap.size W W') {sp : Nat → Bool} : ∀ {ts : List TypeId} {vs : List Value} {ds : List (DataW H)} {ps : List MemPlace},
    ts.all (fun t => P.readableRec t && decide (t < P.types.size)) = true → DataW.TrodAll enc P W 0 (fun _ => true) true ts vs ds ps → (∀ p ∈ ps, p.block < W.heap.size) → (∀ p ∈ ps, sp p.block = true) →
    DataW.TrodAll enc P W' 0 sp true ts vs ds ps
  | [], vs, ds, ps, _, h, _, _ => by
    obtain ⟨rfl, rfl, rfl⟩ := trodAll_nil h
    exact trodAll_mk0
  | t :: ts, vs, ds, ps, hr, h, hlt, hs => by
    obtain ⟨v, vs', d, ds', p, q, rfl, rfl, rfl, h1, h2⟩ := trodAll_cons h
    simp only [List.all_cons, Bool.and_eq_true, decide_eq_true_eq] at hr
    exact trodAll_cons_mk (WideElems.Trod_stays hl hr.1.1 hr.1.2 h1 (fun x hx => hb.same (hlt x (by simp [hx]))) (fun x hx => hs x (by simp [hx])))
      (args_stay hl hb hr.2 h2 (fun x hx => hlt x (by simp [hx])) (fun x hx => hs x (by simp [hx])))

theorem law_post {P : Program} (hl : laidOutB P = true) {f : Func} {s : ChangeSpec} {W W' : World} {args : Array Value} {ds gs : List (DataW H)} {before : List MemPlace} {bt : TypeId}
    (hr : f.params.toList.all (fun t => P.readableRec t && decide (t < P.types.size)) = true) (hbt : P.underlying bt = some .bool) (hres : f.resultTypes = #[bt]) (hvs : s.vars = [])
    (hW : DataW.Whole enc P f.params.toList s.vars false W args.toList ds gs before) (hfn : s.fn H (ds ++ gs) = { results := [.lit (.bool true)], args := ds }) (hb : Below W.heap.size W W') :
    s.post enc P f false true false false W args (.bool true) W' := by
  have hlt : ∀ p ∈ before, p.block < W.heap.size := fun p hp => hW.lt p hp
  have hW0 := hW
  obtain ⟨p, q, hA, hV, hbe, _, _⟩ := hW
  rw [hvs] at hV
  obtain ⟨rfl, rfl⟩ := trodVars_none hV
  simp only [List.append_nil] at hbe
  subst hbe
  refine ⟨ds, [], before, [], before, [], hW0, ?_, ?_, ?_, World.keptBut_mono (fun x hx => ⟨hx, ?_⟩) (hb.frame (· ∈ before)), fun h => by cases h⟩
  · rw [hfn, hres]
    exact trodAll_mk1 (shut_bool hbt true)
  · rw [hfn]
    exact args_stay hl hb hr hA hlt (fun x hx => by simpa using hlt x hx)
  · rw [hfn, hvs]
    exact rfl
  · simpa using hx
end

/-- Every field is an int, one cell each. -/
def intFields (P : Program) (fs : Array Field) : Bool := (List.range fs.size).all fun i => match fs[i]? with
  | some f => f.offset == i && P.cellsOf f.type == 1 && (match P.underlying f.type with | some (.int .i64) => true | _ => false)
  | none => false
theorem intFields_at {P : Program} {fs : Array Field} (h : intFields P fs = true) (i : Nat) (hi : i < fs.size) : ∃ f, fs[i]? = some f ∧ f.offset = i ∧ P.cellsOf f.type = 1 ∧ P.underlying f.type = some (.int .i64) := by
  have h1 := List.all_eq_true.1 h i (by simpa using hi)
  have hf : fs[i]? = some (fs[i]'hi) := Array.getElem?_eq_getElem hi
  rw [hf] at h1
  simp only [Bool.and_eq_true, beq_iff_eq] at h1
  refine ⟨_, hf, h1.1.1, h1.1.2, ?_⟩
  have h2 := h1.2
  split at h2
  · assumption
  · cases h2

section
variable {H : Type} {enc : TypeId × Value → H} {P : Program} {w : World}
theorem lit_bd {x : Int} (h : (Lit.int .i64 x).wf = true) : -9223372036854775808 ≤ x ∧ x ≤ 9223372036854775807 := by
  simpa [Lit.wf, IntKind.min, IntKind.max, IntKind.signed, IntKind.bits] using h
/-- The cells of a struct of ints. -/
theorem struct_ints {spare : Nat → Bool} {held : Bool} {base : Nat} {t : TypeId} {fs : Array Field} (hs : P.underlying t = some (.struct fs)) (hi : intFields P fs = true) {cs : List Value} {fuel : Nat} {x : DataW H × List MemPlace}
    (hlen : cs.length = fs.size) (h : DataW.trod enc P w base spare held fuel t cs = some x) : ∀ j, j < fs.size → ∃ n : Int, cs[j]? = some (.int .i64 n) ∧ -9223372036854775808 ≤ n ∧ n ≤ 9223372036854775807 := by
  intro j hj
  obtain ⟨xs, n, _, _, _, hxl, hg⟩ := DataW.trod_struct hs h
  obtain ⟨f, hf, ho, hc, hu⟩ := intFields_at hi j hj
  have h1 := hg j f hf
  rw [ho, hc] at h1
  have hx : xs[j]? = some (xs[j]'(by omega)) := List.getElem?_eq_getElem (by omega)
  have hone : (cs.drop j).take 1 = [cs[j]'(by omega)] := by
    rw [List.drop_eq_getElem_cons (by omega)]
    rfl
  rw [hone, hx] at h1
  obtain ⟨m, hm, _, hwf⟩ := DataW.trod_int hu h1
  have hb := lit_bd hwf
  refine ⟨m, ?_, hb.1, hb.2⟩
  rw [List.getElem?_eq_getElem (by omega)]
  simpa using hm
theorem open_agg_ints {r : Reach} {b0 base : Nat} {spare : Nat → Bool} {held : Bool} {t : TypeId} {fs : Array Field} {v : Value} {d : DataW H} {p : List MemPlace} (hs : P.underlying t = some (.struct fs)) (hi : intFields P fs = true) (hC : P.cellsOf t = fs.size)
    (hv : Value.okWide P w r b0 t v) (h : DataW.Trod enc P w base spare held t v d p) :
    ∃ cs : List Value, v = .agg cs.toArray ∧ cs.length = fs.size ∧ ∀ j, j < fs.size → ∃ n : Int, cs[j]? = some (.int .i64 n) ∧ -9223372036854775808 ≤ n ∧ n ≤ 9223372036854775807 := by
  obtain ⟨cs, rfl, hsz⟩ := okWide_struct hs hv
  obtain ⟨fuel, hf⟩ := h
  have hl : cs.toList.length = fs.size := by rw [Array.length_toList]; exact hsz.trans hC
  exact ⟨cs.toList, by simp, hl, struct_ints hs hi hl (by simpa [Value.cells] using hf)⟩
theorem agg2 {cs : List Value} {k : Nat} (hk : k = 2) (hl : cs.length = k) (h : ∀ j, j < k → ∃ n : Int, cs[j]? = some (.int .i64 n) ∧ -9223372036854775808 ≤ n ∧ n ≤ 9223372036854775807) : ∃ a b : Int, cs = [.int .i64 a, .int .i64 b] := by
  subst hk
  match cs, hl with
  | [c0, c1], _ =>
    obtain ⟨a, ha, _⟩ := h 0 (by omega); obtain ⟨b, hb, _⟩ := h 1 (by omega)
    simp at ha hb; subst ha hb; exact ⟨a, b, rfl⟩
theorem agg3 {cs : List Value} {k : Nat} (hk : k = 3) (hl : cs.length = k) (h : ∀ j, j < k → ∃ n : Int, cs[j]? = some (.int .i64 n) ∧ -9223372036854775808 ≤ n ∧ n ≤ 9223372036854775807) : ∃ a b c : Int, cs = [.int .i64 a, .int .i64 b, .int .i64 c] := by
  subst hk
  match cs, hl with
  | [c0, c1, c2], _ =>
    obtain ⟨a, ha, _⟩ := h 0 (by omega); obtain ⟨b, hb, _⟩ := h 1 (by omega); obtain ⟨c, hc, _⟩ := h 2 (by omega)
    simp at ha hb hc; subst ha hb hc; exact ⟨a, b, c, rfl⟩
theorem agg4 {cs : List Value} {k : Nat} (hk : k = 4) (hl : cs.length = k) (h : ∀ j, j < k → ∃ n : Int, cs[j]? = some (.int .i64 n) ∧ -9223372036854775808 ≤ n ∧ n ≤ 9223372036854775807) : ∃ a b c d : Int, cs = [.int .i64 a, .int .i64 b, .int .i64 c, .int .i64 d] := by
  subst hk
  match cs, hl with
  | [c0, c1, c2, c3], _ =>
    obtain ⟨a, ha, _⟩ := h 0 (by omega); obtain ⟨b, hb, _⟩ := h 1 (by omega); obtain ⟨c, hc, _⟩ := h 2 (by omega); obtain ⟨d, hd, _⟩ := h 3 (by omega)
    simp at ha hb hc hd; subst ha hb hc hd; exact ⟨a, b, c, d, rfl⟩
theorem agg7 {cs : List Value} {k : Nat} (hk : k = 7) (hl : cs.length = k) (h : ∀ j, j < k → ∃ n : Int, cs[j]? = some (.int .i64 n) ∧ -9223372036854775808 ≤ n ∧ n ≤ 9223372036854775807) :
    ∃ a b c d e f g : Int, cs = [.int .i64 a, .int .i64 b, .int .i64 c, .int .i64 d, .int .i64 e, .int .i64 f, .int .i64 g] := by
  subst hk
  match cs, hl with
  | [c0, c1, c2, c3, c4, c5, c6], _ =>
    obtain ⟨a, ha, _⟩ := h 0 (by omega); obtain ⟨b, hb, _⟩ := h 1 (by omega); obtain ⟨c, hc, _⟩ := h 2 (by omega); obtain ⟨d, hd, _⟩ := h 3 (by omega)
    obtain ⟨e, he, _⟩ := h 4 (by omega); obtain ⟨f, hf, _⟩ := h 5 (by omega); obtain ⟨g, hg, _⟩ := h 6 (by omega)
    simp at ha hb hc hd he hf hg; subst ha hb hc hd he hf hg; exact ⟨a, b, c, d, e, f, g, rfl⟩

/-- A slice of structs of ints, as the walks want it. -/
theorem open_slice_ints {r : Reach} {b0 : Nat} {t e : TypeId} {fs : Array Field} {v : Value} {d : DataW H} {p : List MemPlace} (ht : P.underlying t = some (.slice e)) (he : P.underlying e = some (.struct fs)) (hi : intFields P fs = true) (hC : P.cellsOf e = fs.size)
    (hpos : 0 < fs.size) (hv : Value.okWide P w r b0 t v) (h : DataW.Trod enc P w 0 (fun _ => true) true t v d p) :
    ∃ (A : Option Addr) (n c : Nat) (X : Nat → Nat → Int), v = .slice A n c ∧ n ≤ c ∧ c ≤ maxLen ∧ Arr w w.heap.size A n fs.size (iv X) ∧ ∀ i j, i < n → j < fs.size → -9223372036854775808 ≤ X i j ∧ X i j ≤ 9223372036854775807 := by
  obtain ⟨a0, len0, cap0, rfl⟩ := okWide_slice ht hv
  obtain ⟨fuel, hf⟩ := h
  rcases open_slice ht hf with ⟨hcs, _⟩ | ⟨a, len, cap, m, n, D, Pl, hcs, hb, hl, hm, hmm, hx, hel⟩
  · simp [Value.cells] at hcs
    obtain ⟨rfl, rfl, rfl⟩ := hcs
    exact ⟨none, 0, 0, fun _ _ => 0, rfl, Nat.le_refl _, Nat.zero_le _, fun h => absurd h (by omega), fun i j hi => absurd hi (by omega)⟩
  · simp [Value.cells] at hcs
    obtain ⟨rfl, rfl, rfl⟩ := hcs
    simp only [if_true] at hmm
    subst hmm
    have key : ∀ i, i < len0 → ∃ cs', w.cells? 0 (a.add (i * fs.size)) fs.size = some cs' ∧ ∀ j, j < fs.size → ∃ x : Int, cs'[j]? = some (.int .i64 x) ∧ -9223372036854775808 ≤ x ∧ x ≤ 9223372036854775807 := by
      intro i hil
      obtain ⟨cs', hc, ht'⟩ := hel i (by omega)
      rw [hC] at hc
      obtain ⟨_, hcl, _⟩ := World.cells?_some hc
      exact ⟨cs', hc, struct_ints he hi hcl ht'⟩
    have cell : ∀ i j, i < len0 → j < fs.size → ∃ x : Int, w.cell? (a.add (i * fs.size + j)) = some (.int .i64 x) ∧ -9223372036854775808 ≤ x ∧ x ≤ 9223372036854775807 := by
      intro i j hil hj
      obtain ⟨cs', hc, hx'⟩ := key i hil
      obtain ⟨_, hcl, hat⟩ := World.cells?_some hc
      obtain ⟨x, hx1, hx2⟩ := hx' j hj
      refine ⟨x, ?_, hx2⟩
      rw [← Go.Deep.add_add, hat j hj, hx1]
    refine ⟨_, _, _, fun i j => if h : i < len0 ∧ j < fs.size then Classical.choose (cell i j h.1 h.2) else 0, rfl, hl, hm, fun hn => ?_, fun i j hi hj => ?_⟩
    · obtain ⟨x0, h0, _⟩ := cell 0 0 hn hpos
      obtain ⟨b, off, spot⟩ := a
      have hspot : spot = none := by simpa [Addr.add] using World.cell?_spot h0
      subst hspot
      refine ⟨b, off, rfl, ?_, fun i j hi hj => ?_⟩
      · have := World.block_lt_of_cell? _ _ h0
        simpa [Addr.add] using this
      · have h1 := Classical.choose_spec (cell i j hi hj)
        simp only [iv]
        rw [dif_pos ⟨hi, hj⟩, ← h1.1, Go.WideShapes.add_plain, Nat.add_assoc]
    · have := Classical.choose_spec (cell i j hi hj)
      show _ ≤ (if h : i < len0 ∧ j < fs.size then Classical.choose (cell i j h.1 h.2) else 0) ∧ (if h : i < len0 ∧ j < fs.size then Classical.choose (cell i j h.1 h.2) else 0) ≤ _
      rw [dif_pos ⟨hi, hj⟩]
      exact this.2
/-- A slice of ints. -/
theorem open_slice_int {r : Reach} {b0 : Nat} {t e : TypeId} {v : Value} {d : DataW H} {p : List MemPlace} (ht : P.underlying t = some (.slice e)) (he : P.underlying e = some (.int .i64)) (hC : P.cellsOf e = 1)
    (hv : Value.okWide P w r b0 t v) (h : DataW.Trod enc P w 0 (fun _ => true) true t v d p) :
    ∃ (A : Option Addr) (n c : Nat) (X : Nat → Nat → Int), v = .slice A n c ∧ n ≤ c ∧ c ≤ maxLen ∧ Arr w w.heap.size A n 1 (iv X) ∧ ∀ i j, i < n → j < 1 → -9223372036854775808 ≤ X i j ∧ X i j ≤ 9223372036854775807 := by
  obtain ⟨a0, len0, cap0, rfl⟩ := okWide_slice ht hv
  obtain ⟨fuel, hf⟩ := h
  rcases open_slice ht hf with ⟨hcs, _⟩ | ⟨a, len, cap, m, n, D, Pl, hcs, hb, hl, hm, hmm, hx, hel⟩
  · simp [Value.cells] at hcs
    obtain ⟨rfl, rfl, rfl⟩ := hcs
    exact ⟨none, 0, 0, fun _ _ => 0, rfl, Nat.le_refl _, Nat.zero_le _, fun h => absurd h (by omega), fun i j hi => absurd hi (by omega)⟩
  · simp [Value.cells] at hcs
    obtain ⟨rfl, rfl, rfl⟩ := hcs
    simp only [if_true] at hmm
    subst hmm
    have cell : ∀ i, i < len0 → ∃ x : Int, w.cell? (a.add i) = some (.int .i64 x) ∧ -9223372036854775808 ≤ x ∧ x ≤ 9223372036854775807 := by
      intro i hil
      obtain ⟨cs', hc, ht'⟩ := hel i (by omega)
      rw [hC, Nat.mul_one] at hc
      obtain ⟨_, hcl, hat⟩ := World.cells?_some hc
      obtain ⟨x, hx1, _, hwf⟩ := DataW.trod_int he ht'
      have hb' := lit_bd hwf
      refine ⟨x, ?_, hb'.1, hb'.2⟩
      have := hat 0 (by omega)
      rw [hx1] at this
      simpa [Addr.add] using this
    refine ⟨_, _, _, fun i _ => if h : i < len0 then Classical.choose (cell i h) else 0, rfl, hl, hm, fun hn => ?_, fun i j hi hj => ?_⟩
    · obtain ⟨x0, h0, _⟩ := cell 0 hn
      obtain ⟨b, off, spot⟩ := a
      have hspot : spot = none := by simpa [Addr.add] using World.cell?_spot h0
      subst hspot
      refine ⟨b, off, rfl, ?_, fun i j hi hj => ?_⟩
      · have := World.block_lt_of_cell? _ _ h0
        simpa [Addr.add] using this
      · obtain rfl : j = 0 := by omega
        have h1 := Classical.choose_spec (cell i hi)
        simp only [iv]
        rw [dif_pos hi, ← h1.1, Go.WideShapes.add_plain, Nat.mul_one, Nat.add_zero]
    · have := Classical.choose_spec (cell i hi)
      show _ ≤ (if h : i < len0 then Classical.choose (cell i h) else 0) ∧ (if h : i < len0 then Classical.choose (cell i h) else 0) ≤ _
      rw [dif_pos hi]
      exact this.2
end
end Go.Proofs.Yteklalbjlmkagaa
