/- A quake is put into a catalogue: the reference's l16Put and PutQuake: made by pqgen.py. -/
import Derived.Test.YthpagjkkccimiaaQuakeB
import Derived.Test.YthpagjkkccimiaaRowsC
import Derived.Test.YthpagjkkccimiaaCells
import Derived.Deep.RegionHeld3
import Derived.Test.YthpagjkkccimiaaReg
import Derived.IntWalk
namespace Go.Proofs.Ythpagjkkccimiaa
open Go.RowKit
set_option linter.unusedVariables false
set_option linter.unusedSimpArgs false

def qC (p : Int × Int × Int × Int) : List Value := [.int .i64 p.1, .int .i64 p.2.1, .int .i64 p.2.2.1, .int .i64 p.2.2.2]
def qX (l : List (Int × Int × Int × Int)) (i j : Nat) : Int := if j = 0 then (l.getD i (0, 0, 0, 0)).1 else if j = 1 then (l.getD i (0, 0, 0, 0)).2.1 else if j = 2 then (l.getD i (0, 0, 0, 0)).2.2.1 else (l.getD i (0, 0, 0, 0)).2.2.2
theorem qC_get (l : List (Int × Int × Int × Int)) : ∀ i j (hi : i < l.length), j < 4 → (qC l[i])[j]? = some (iv (qX l) i j) := by
  intro i j hi hj
  have e : l.getD i (0, 0, 0, 0) = l[i] := by simp [List.getD, hi]
  unfold iv qX
  rw [e]
  rcases (by omega : j = 0 ∨ j = 1 ∨ j = 2 ∨ j = 3) with rfl | rfl | rfl | rfl <;> rfl
theorem qC_one (p : Int × Int × Int × Int) : ∀ u ∈ qC p, u.oneCell' = true := by
  intro u hu
  simp only [qC, List.mem_cons, List.not_mem_nil, or_false] at hu
  rcases hu with rfl | rfl | rfl | rfl <;> rfl
theorem qCs_one (l : List (Int × Int × Int × Int)) : ∀ u ∈ l.flatMap qC, u.oneCell' = true := by
  intro u hu
  rw [List.mem_flatMap] at hu
  obtain ⟨p, _, h⟩ := hu
  exact qC_one p u h
theorem qC_len (l : List (Int × Int × Int × Int)) : (l.flatMap qC).length = l.length * 4 := flat_len (g := qC) (k := 4) (fun _ => rfl) l
theorem own_q {w : World} {base n : Nat} {E : TypeId} {v : Value} {l : List (Int × Int × Int × Int)} (hn : n = l.length) (h : w.ownsRow base E 4 v n (l.flatMap qC)) : Own w base E 4 v n (iv (qX l)) :=
  own_of_rows hn (fun _ => rfl) (qC_get l) h
theorem qC_take {l : List (Int × Int × Int × Int)} {t j : Nat} {u : Value} (hu : ((l.take t).flatMap qC)[j]? = some u) : (l.flatMap qC)[j]? = some u := by
  have hj : j < ((l.take t).flatMap qC).length := by
    by_cases h : j < ((l.take t).flatMap qC).length
    · exact h
    · rw [List.getElem?_eq_none (by omega)] at hu; cases hu
  conv => lhs; rw [← List.take_append_drop t l]
  rw [List.flatMap_append, List.getElem?_append_left hj]
  exact hu
theorem qC_drop {l : List (Int × Int × Int × Int)} {t j : Nat} {u : Value} (ht : t ≤ l.length) (hu : ((l.drop t).flatMap qC)[j]? = some u) : (l.flatMap qC)[t * 4 + j]? = some u := by
  conv => lhs; rw [← List.take_append_drop t l]
  have hl : ((l.take t).flatMap qC).length = t * 4 := by rw [qC_len, List.length_take]; congr 1; omega
  rw [List.flatMap_append, List.getElem?_append_right (by omega), hl, Nat.add_sub_cancel_left]
  exact hu
theorem addr_at (g d j : Nat) : (⟨g, d, none⟩ : Addr).add j = ⟨g, d + j, none⟩ := by
  unfold Addr.add
  by_cases hj : j = 0 <;> simp [hj]
/-- The cells of a row, in a later world. -/
theorem news_rowS {W w : World} {base n cap g B s : Nat} {E : TypeId} {xs news : List Value} {d : Nat} (h : W.ownsRow base E s (.slice (some ⟨g, 0, none⟩) n cap) n xs) (hb : Below B W w) (hg : g < B) (hd : ∀ j u, news[j]? = some u → xs[d + j]? = some u) :
    ∀ j u, news[j]? = some u → w.cell? ((⟨g, d, none⟩ : Addr).add j) = some u := by
  intro j u hu
  have h1 := h.cells (g := g) rfl _ _ (hd j u hu)
  rw [addr_at, Nat.zero_add] at h1
  rw [addr_at, hb.cell (p := ⟨g, d + j, none⟩) hg]
  exact h1
theorem news_keptQ {w w' : World} {v : Value} {b : Nat} {xs : List Value} (hk : ∀ b o, b < w.heap.size → v.ownBlock ≠ some b → w'.cell? ⟨b, o, none⟩ = w.cell? ⟨b, o, none⟩) (h : ∀ j u, xs[j]? = some u → w.cell? ((⟨b, 0, none⟩ : Addr).add j) = some u) (hb : b < w.heap.size) (hv : v.ownBlock ≠ some b) :
    ∀ j u, xs[j]? = some u → w'.cell? ((⟨b, 0, none⟩ : Addr).add j) = some u := fun j u hu => by
  have := h j u hu
  rw [addr_at] at this ⊢
  rw [hk b _ hb hv]
  exact this
theorem news_alQ {w : World} {o : Obj} {b : Nat} {xs : List Value} (h : ∀ j u, xs[j]? = some u → w.cell? ((⟨b, 0, none⟩ : Addr).add j) = some u) (hb : b < w.heap.size) : ∀ j u, xs[j]? = some u → (w.alloc o).cell? ((⟨b, 0, none⟩ : Addr).add j) = some u := fun j u hu => by
  have := h j u hu
  rw [addr_at] at this ⊢
  exact (World.cell?_alloc_lt w o ⟨b, _, none⟩ hb).trans this
theorem row_capQ {w : World} {base n cap g s : Nat} {E : TypeId} {xs : List Value} (h : w.ownsRow base E s (.slice (some ⟨g, 0, none⟩) n cap) n xs) : n ≤ cap := by
  rcases h.2 with ⟨hv, _⟩ | ⟨gg, cp, cur, hv, _, _, hc, _⟩
  · cases hv
  · injection hv with _ _ e3
    omega
theorem row_formQ {w : World} {base n s : Nat} {E : TypeId} {v : Value} {xs : List Value} (h : w.ownsRow base E s v n xs) (hn : 0 < n) : ∃ g cap, v = .slice (some ⟨g, 0, none⟩) n cap := by
  rcases h.2 with ⟨_, h0⟩ | ⟨gg, cp, cur, hv, _, _, hc, _⟩
  · omega
  · exact ⟨gg, cp, hv⟩
/-- The four cells of an element of a row. -/
theorem q_cell {w : World} {base n cap g : Nat} {E : TypeId} {l : List (Int × Int × Int × Int)} (h : w.ownsRow base E 4 (.slice (some ⟨g, 0, none⟩) n cap) n (l.flatMap qC)) {k j : Nat} (hk : k < l.length) (hj : j < 4) : w.cell? ⟨g, k * 4 + j, none⟩ = some (.int .i64 (qX l k j)) := by
  have h1 := h.cells (g := g) rfl (k * 4 + j) (.int .i64 (qX l k j)) (by rw [flat_get (g := qC) (k := 4) (fun _ => rfl) hk hj, qC_get l k j hk hj]; rfl)
  rw [addr_at, Nat.zero_add] at h1
  exact h1

theorem eq_q4 (x0 x1 x2 x3 y0 y1 y2 y3 : Int) (w : World) : (Op.equalIn 10000 60 (.agg #[.int .i64 x0, .int .i64 x1, .int .i64 x2, .int .i64 x3]) (.agg #[.int .i64 y0, .int .i64 y1, .int .i64 y2, .int .i64 y3])).run Try.prog w = .ok (x0 == y0 && x1 == y1 && x2 == y2 && x3 == y3) w := by
  rw [Op.equalIn]
  have hp : Try.prog.stoodInHeld 60 = false := by kernel_rfl
  have he := @Try.underlying3
  have hq : ∀ (a b : Int) w, (Op.equalIn 9999 3 (.int .i64 a) (.int .i64 b)).run Try.prog w = .ok (a == b) w := fun a b w => run_equalIn_int w 9998 3 .i64 .i64 a b he
  have p : ∀ (a b c d : Int) w, (part 3 #[.int .i64 a, .int .i64 b, .int .i64 c, .int .i64 d] 0).run Try.prog w = .ok (.int .i64 a) w ∧ (part 3 #[.int .i64 a, .int .i64 b, .int .i64 c, .int .i64 d] 1).run Try.prog w = .ok (.int .i64 b) w ∧ (part 3 #[.int .i64 a, .int .i64 b, .int .i64 c, .int .i64 d] 2).run Try.prog w = .ok (.int .i64 c) w ∧ (part 3 #[.int .i64 a, .int .i64 b, .int .i64 c, .int .i64 d] 3).run Try.prog w = .ok (.int .i64 d) w := fun a b c d w => by simp [part, isAgg, run_underlying he]
  simp only [Sem.run_bind, run_underlying Try.underlying60, Result.andThen_ok, run_program, hp, Bool.false_eq_true, if_false]
  rw [← Array.forIn_toList]
  simp only [List.forIn_cons, Sem.run_bind, List.forIn_nil]
  generalize hb0 : (x0 == y0) = b0
  generalize hb1 : (x1 == y1) = b1
  generalize hb2 : (x2 == y2) = b2
  generalize hb3 : (x3 == y3) = b3
  cases b0 <;> cases b1 <;> cases b2 <;> cases b3 <;> simp [p, hq, hb0, hb1, hb2, hb3]
theorem eq_q4v (x0 x1 x2 x3 y0 y1 y2 y3 : Int) (v : Bool) (hv : (x0 == y0 && x1 == y1 && x2 == y2 && x3 == y3) = v) (w : World) : (Op.equalIn 10000 60 (.agg #[.int .i64 x0, .int .i64 x1, .int .i64 x2, .int .i64 x3]) (.agg #[.int .i64 y0, .int .i64 y1, .int .i64 y2, .int .i64 y3])).run Try.prog w = .ok v w := by
  rw [eq_q4, hv]

attribute [local go_sem ↓] Go.wp_at_zero Go.wp_at_succ
theorem sP_of {W w' : World} {g : Nat} {x y z u : Value} (hc : Cells W g [x, y, z, u]) (h : Below W.heap.size W w') : Below W.heap.size W w' ∧ w'.cell? ⟨g, 0, none⟩ = some x ∧ w'.cell? ⟨g, 1, none⟩ = some y ∧ w'.cell? ⟨g, 2, none⟩ = some z ∧ w'.cell? ⟨g, 3, none⟩ = some u :=
  have k := hc.on h
  ⟨h, k.2 0 _ rfl, k.2 1 _ rfl, k.2 2 _ rfl, k.2 3 _ rfl⟩
set_option maxHeartbeats 4000000 in
set_option maxRecDepth 100000 in
theorem spec_put16 (g cap m base : Nat) (l : List (Int × Int × Int × Int)) (a b c d : Int) (w : World) (hl : l.length = m) (hm : m ≤ 40) (hown : w.ownsRow base 60 4 (.slice (some ⟨g, 0, none⟩) m cap) m (l.flatMap qC)) :
    Calls Try.prog 138 #[.slice (some ⟨g, 0, none⟩) m cap, .agg #[.int .i64 a, .int .i64 b, .int .i64 c, .int .i64 d]] w fun e w' => ∃ (g' cap' m' : Nat) (l' : List (Int × Int × Int × Int)), e = .returned (.slice (some ⟨g', 0, none⟩) m' cap') ∧ l'.length = m' ∧ m ≤ m' ∧ m' ≤ m + 1 ∧ Below w.heap.size w w' ∧ w'.ownsRow base 60 4 (.slice (some ⟨g', 0, none⟩) m' cap') m' (l'.flatMap qC) := by
  obtain ⟨i0, hi0, hy0, hy1, hy2⟩ := info_parts info_quake
  have hgl : g < w.heap.size := (hown.lt g rfl).2
  have hbl : base ≤ w.heap.size := by have := (hown.lt g rfl).1; omega
  have hkc : m ≤ cap := row_capQ hown
  have HO := hide hown; have HL := hide hl
  clear hown hl
  have hb0 : Below w.heap.size w (w.alloc (.cells #[.int .i64 a, .int .i64 b, .int .i64 c, .int .i64 d] 60)) := below_al (Below.refl _ _)
  have hc0 : Cells (w.alloc (.cells #[.int .i64 a, .int .i64 b, .int .i64 c, .int .i64 d] 60)) w.heap.size [.int .i64 a, .int .i64 b, .int .i64 c, .int .i64 d] := Cells.new w _ _ _ rfl
  have HB0 := hide hb0; have HC0 := hide hc0
  clear hb0 hc0
  go_enter Try.func138, Try.ntmps138
  go_wp2
  go_loopw [5] (fun y wr => ∃ t : Nat, t ≤ m ∧ y = .int .i64 t ∧ Below w.heap.size w wr ∧ Cells wr w.heap.size [.int .i64 a, .int .i64 b, .int .i64 c, .int .i64 d]) (fun y _ => m - (intOf y).toNat)
  case atStart => exact ⟨0, Nat.zero_le _, rfl, HB0.out, HC0.out⟩
  case round =>
    obtain ⟨t, ht, rfl, hbr, hcr⟩ := hrel
    have l0 := hcr.2 0 _ rfl; have l1 := hcr.2 1 _ rfl; have l2 := hcr.2 2 _ rfl; have l3 := hcr.2 3 _ rfl; have l4 := hcr.1
    have HCR := hide hcr; have HBR := hide hbr
    have hx := BW.cell (w := wr)
    have hgr : g < wr.heap.size := by have := hbr.size; omega
    by_cases htm : t < m
    · have d0 := (hbr.cell (p := ⟨g, _, none⟩) hgl).trans (q_cell HO.out (k := t) (j := 0) (by rw [HL.out]; exact htm) (by omega))
      have d1 := (hbr.cell (p := ⟨g, _, none⟩) hgl).trans (q_cell HO.out (k := t) (j := 1) (by rw [HL.out]; exact htm) (by omega))
      have d2 := (hbr.cell (p := ⟨g, _, none⟩) hgl).trans (q_cell HO.out (k := t) (j := 2) (by rw [HL.out]; exact htm) (by omega))
      have d3 := (hbr.cell (p := ⟨g, _, none⟩) hgl).trans (q_cell HO.out (k := t) (j := 3) (by rw [HL.out]; exact htm) (by omega))
      obtain ⟨x0, hx0⟩ : ∃ x, qX l t 0 = x := ⟨_, rfl⟩
      obtain ⟨x1, hx1⟩ : ∃ x, qX l t 1 = x := ⟨_, rfl⟩
      obtain ⟨x2, hx2⟩ : ∃ x, qX l t 2 = x := ⟨_, rfl⟩
      obtain ⟨x3, hx3⟩ : ∃ x, qX l t 3 = x := ⟨_, rfl⟩
      rw [hx0] at d0; rw [hx1] at d1; rw [hx2] at d2; rw [hx3] at d3
      simp only [Nat.add_zero] at d0
      have hkc2 : t < cap := by omega
      clear hx0 hx1 hx2 hx3 hbr hcr
      cases h3 : befB x0 x1 x2 x3 a b c d
      · go_wp2
        refine wp_region_bw (by kernel_rfl) (by kernel_rfl) ?_
        repeat (go_big_quiet_step ((first | (go_at_call 136; exact BW.call (spec_bef _ _ _ _ _ _ _ _ _ (by assumption) _)))))
        refine wpQuiet_end fun w1 hb1 => ?_
        obtain ⟨q1, qf1⟩ := bcell hb1
        have hcr1 := HCR.out.on hb1
        clear hx
        have m0 := (q1 g _ hgr).trans d0; have m1 := (q1 g _ hgr).trans d1; have m2 := (q1 g _ hgr).trans d2; have m3 := (q1 g _ hgr).trans d3
        have l0 := hcr1.2 0 _ rfl; have l1 := hcr1.2 1 _ rfl; have l2 := hcr1.2 2 _ rfl; have l3 := hcr1.2 3 _ rfl; have l4 := hcr1.1
        have HCR1 := hide hcr1; have HBR1 := hide (below_call HBR.out hb1)
        have hgr1 : g < w1.heap.size := by have := hb1.size; omega
        have hx := BW.cell (w := w1)
        obtain ⟨v, hv⟩ : ∃ v, (x0 == a && x1 == b && x2 == c && x3 == d) = v := ⟨_, rfl⟩
        have heq := eq_q4v x0 x1 x2 x3 a b c d v hv
        clear d0 d1 d2 d3 q1 qf1 hb1 hcr1 hv
        cases v
        · go_wp2
          refine wp_region_bw (by kernel_rfl) (by kernel_rfl) ?_
          repeat (go_big_quiet_step ((first | fail)))
          refine wpQuiet_end fun w1 hb1 => ?_
          clear m0 m1 m2 m3 heq l0 l1 l2 l3 l4
          have hbQ := below_call HBR1.out hb1
          have HC2 := hide (HCR1.out.on hb1)
          have hbase : base ≤ w1.heap.size := by have := hbQ.size; omega
          have HO1 := hide (row_below HO.out hbQ)
          have hgl1 : g < w1.heap.size := by have := hbQ.size; omega
          have l0 := HC2.out.2 0 _ rfl; have l1 := HC2.out.2 1 _ rfl; have l2 := HC2.out.2 2 _ rfl; have l3 := HC2.out.2 3 _ rfl; have l4 := HC2.out.1
          have htc : (t : Int) ≤ (cap : Int) := by omega
          have hll : l.length = m := HL.out
          have hA4 : ∃ A4, (if cap = t then some ⟨g, 0, none⟩ else some ⟨g, t * 4, none⟩ : Option Addr) = some A4 ∧ ∀ W, Below w1.heap.size w1 W → ∀ j u, ((l.drop t).flatMap qC)[j]? = some u → W.cell? (A4.add j) = some u := by
            by_cases e : cap = t
            · refine ⟨_, if_pos e, fun W _ j u hu => ?_⟩
              rw [List.drop_of_length_le (by omega)] at hu
              simp at hu
            · exact ⟨_, if_neg e, fun W hW => news_rowS HO1.out hW hgl1 (by intro j u hu; exact qC_drop (by omega) hu)⟩
          obtain ⟨A4, hA, hnA⟩ := hA4
          have HA4 := hide hnA
          clear hnA hx
          go_wp2
          go_region_held3 (fun w' => Below w1.heap.size w1 w' ∧ w'.cell? ⟨w.heap.size, 0, none⟩ = some (.int .i64 a) ∧ w'.cell? ⟨w.heap.size, 1, none⟩ = some (.int .i64 b) ∧ w'.cell? ⟨w.heap.size, 2, none⟩ = some (.int .i64 c) ∧ w'.cell? ⟨w.heap.size, 3, none⟩ = some (.int .i64 d)) (first | assumption | exact sP_of HC2.out (by first | assumption | exact And.left (by assumption) | exact below_al (by assumption) | exact below_al (And.left (by assumption)) | go_grown)) (first
            | (refine step_app_b w1 _ (by rfl) _ _ _ (by rfl) 60 i0 (.agg #[.int .i64 0, .int .i64 0, .int .i64 0, .int .i64 0]) 4 32 Try.underlying28 hi0 hy0 hy1 hy2 rfl (by decide) (.slice (some ⟨_, 0, none⟩) 0 0) 0 [] (by rfl) (by first | assumption | exact And.left (by assumption) | exact below_al (by assumption) | exact below_al (And.left (by assumption)) | go_grown) (by first | exact row_new_at _ _ _ _ _ (by first | rfl | simp) (by first | exact Nat.le_refl _ | simp) | exact (row_new_at _ _ _ _ _ (by first | rfl | simp) (by first | exact Nat.le_refl _ | simp)).alloc _) ⟨g, 0, none⟩ t cap ((l.take t).flatMap qC) (by rfl) (by rw [qC_len, List.length_take]; congr 1; omega) (news_rowS HO1.out (by first | assumption | exact And.left (by assumption) | exact below_al (by assumption) | exact below_al (And.left (by assumption)) | go_grown) hgl1 (by intro j u hu; rw [Nat.zero_add]; exact qC_take hu)) (qCs_one _) (by unfold maxLen; omega) (by omega) ?_; intro v2 w2 hb2 ho2 hk2 hz2)
            | (refine step_app_b w1 _ (by rfl) _ _ _ (by rfl) 60 i0 (.agg #[.int .i64 0, .int .i64 0, .int .i64 0, .int .i64 0]) 4 32 Try.underlying28 hi0 hy0 hy1 hy2 rfl (by decide) _ (0 + t) ([] ++ (l.take t).flatMap qC) (by rfl) (by first | assumption | exact And.left (by assumption) | exact below_al (by assumption) | exact below_al (And.left (by assumption)) | go_grown) (by first | exact ho2.alloc _ | exact ho2) _ 1 1 (qC (a, b, c, d)) (by rfl) rfl (by first | exact cells_at _ _ _ _ (by first | rfl | simp) | exact news_keptQ hk2 (cells_at _ _ _ _ (by first | rfl | simp)) (by first | (simp; done) | (simp; omega)) (by simp [Value.ownBlock]) | exact news_keptQ hk2 (news_alQ (cells_at _ _ _ _ (by first | rfl | simp)) (by first | (simp; done) | (simp; omega))) (by first | (simp; done) | (simp; omega)) (by simp [Value.ownBlock])) (qC_one _) (by unfold maxLen; omega) (by omega) ?_; intro v3 w3 hb3 ho3 hk3 hz3)
            | (refine step_app_b w1 _ (by rfl) _ _ _ (by rfl) 60 i0 (.agg #[.int .i64 0, .int .i64 0, .int .i64 0, .int .i64 0]) 4 32 Try.underlying28 hi0 hy0 hy1 hy2 rfl (by decide) _ (0 + t + 1) (([] ++ (l.take t).flatMap qC) ++ qC (a, b, c, d)) (by rfl) (by first | assumption | exact And.left (by assumption) | exact below_al (by assumption) | exact below_al (And.left (by assumption)) | go_grown) ho3 A4 (m - t) (cap - t) ((l.drop t).flatMap qC) (by rfl) (by rw [qC_len, List.length_drop]; congr 1; omega) (HA4.out _ (by first | assumption | exact And.left (by assumption) | exact below_al (by assumption) | exact below_al (And.left (by assumption)) | go_grown)) (qCs_one _) (by unfold maxLen; omega) (by omega) ?_; intro v4 w4 hb4 ho4 hk4 hz4))
          all_goals
            have hrow := ho4
            have hb5 : Below w.heap.size w w4 := below_call hbQ hb4
            rw [show 0 + t + 1 + (m - t) = m + 1 from by omega, List.nil_append, flat_snoc, ← List.flatMap_append] at hrow
            obtain ⟨g4, cap4, rfl⟩ := row_formQ hrow (by omega)
            have HR := hide (row_base hrow hbase); have HB4 := hide hb5
            clear hb2 ho2 hk2 hb3 ho3 hk3 hb4 ho4 hk4 hrow hb5
            go_wp2
            go_returns
            exact ⟨g4, cap4, m + 1, (l.take t ++ [(a, b, c, d)]) ++ l.drop t, by first | rfl | trivial, by first | (simp [HL.out]; done) | (simp [HL.out]; omega), by omega, Nat.le_refl _, HB4.out, HR.out⟩
        · go_wp2
          refine wp_region_bw (by kernel_rfl) (by kernel_rfl) ?_
          repeat (go_big_quiet_step ((first | fail)))
          refine wpQuiet_end fun w1 hb1 => ?_
          obtain ⟨q1, qf1⟩ := bcell hb1
          go_wp2
          go_returns
          exact ⟨g, cap, m, l, by first | rfl | trivial, HL.out, Nat.le_refl _, by omega, below_call HBR1.out hb1, row_below HO.out (below_call HBR1.out hb1)⟩
      · go_wp2
        refine wp_region_bw (by kernel_rfl) (by kernel_rfl) ?_
        repeat (go_big_quiet_step ((first | (go_at_call 136; exact BW.call (spec_bef _ _ _ _ _ _ _ _ _ (by assumption) _)))))
        refine wpQuiet_end fun w1 hb1 => ?_
        have hcr1 := HCR.out.on hb1
        have HCR1 := hide hcr1
        clear hcr1
        go_wp2
        go_roundw
        case rel => exact ⟨t + 1, by omega, by go_num, below_call HBR.out hb1, HCR1.out⟩
        case measure => simp [intOf]; omega
    · obtain rfl : t = m := by omega
      go_wp2
      refine wp_region_bw (by kernel_rfl) (by kernel_rfl) ?_
      repeat (go_big_quiet_step ((first | fail)))
      refine wpQuiet_end fun w1 hb1 => ?_
      have hcr1 := HCR.out.on hb1
      have HCR1 := hide hcr1; have HBR1 := hide (below_call HBR.out hb1)
      clear hx l0 l1 l2 l3 l4 hcr1 hcr hbr
      have hx := BW.cell (w := w1)
      go_wp2
      refine wp_region_bw (by kernel_rfl) (by kernel_rfl) ?_
      repeat (go_big_quiet_step ((first | fail)))
      refine wpQuiet_end fun w1 hb1 => ?_
      skip
      have hbQ := below_call HBR1.out hb1
      have HC2 := hide (HCR1.out.on hb1)
      have hbase : base ≤ w1.heap.size := by have := hbQ.size; omega
      have HO1 := hide (row_below HO.out hbQ)
      have hgl1 : g < w1.heap.size := by have := hbQ.size; omega
      have l0 := HC2.out.2 0 _ rfl; have l1 := HC2.out.2 1 _ rfl; have l2 := HC2.out.2 2 _ rfl; have l3 := HC2.out.2 3 _ rfl; have l4 := HC2.out.1
      have htc : (t : Int) ≤ (cap : Int) := by omega
      have hll : l.length = t := HL.out
      have hA4 : ∃ A4, (if cap = t then some ⟨g, 0, none⟩ else some ⟨g, t * 4, none⟩ : Option Addr) = some A4 ∧ ∀ W, Below w1.heap.size w1 W → ∀ j u, ((l.drop t).flatMap qC)[j]? = some u → W.cell? (A4.add j) = some u := by
        by_cases e : cap = t
        · refine ⟨_, if_pos e, fun W _ j u hu => ?_⟩
          rw [List.drop_of_length_le (by omega)] at hu
          simp at hu
        · exact ⟨_, if_neg e, fun W hW => news_rowS HO1.out hW hgl1 (by intro j u hu; exact qC_drop (by omega) hu)⟩
      obtain ⟨A4, hA, hnA⟩ := hA4
      have HA4 := hide hnA
      clear hnA hx
      go_wp2
      go_region_held3 (fun w' => Below w1.heap.size w1 w' ∧ w'.cell? ⟨w.heap.size, 0, none⟩ = some (.int .i64 a) ∧ w'.cell? ⟨w.heap.size, 1, none⟩ = some (.int .i64 b) ∧ w'.cell? ⟨w.heap.size, 2, none⟩ = some (.int .i64 c) ∧ w'.cell? ⟨w.heap.size, 3, none⟩ = some (.int .i64 d)) (first | assumption | exact sP_of HC2.out (by first | assumption | exact And.left (by assumption) | exact below_al (by assumption) | exact below_al (And.left (by assumption)) | go_grown)) (first
        | (refine step_app_b w1 _ (by rfl) _ _ _ (by rfl) 60 i0 (.agg #[.int .i64 0, .int .i64 0, .int .i64 0, .int .i64 0]) 4 32 Try.underlying28 hi0 hy0 hy1 hy2 rfl (by decide) (.slice (some ⟨_, 0, none⟩) 0 0) 0 [] (by rfl) (by first | assumption | exact And.left (by assumption) | exact below_al (by assumption) | exact below_al (And.left (by assumption)) | go_grown) (by first | exact row_new_at _ _ _ _ _ (by first | rfl | simp) (by first | exact Nat.le_refl _ | simp) | exact (row_new_at _ _ _ _ _ (by first | rfl | simp) (by first | exact Nat.le_refl _ | simp)).alloc _) ⟨g, 0, none⟩ t cap ((l.take t).flatMap qC) (by rfl) (by rw [qC_len, List.length_take]; congr 1; omega) (news_rowS HO1.out (by first | assumption | exact And.left (by assumption) | exact below_al (by assumption) | exact below_al (And.left (by assumption)) | go_grown) hgl1 (by intro j u hu; rw [Nat.zero_add]; exact qC_take hu)) (qCs_one _) (by unfold maxLen; omega) (by omega) ?_; intro v2 w2 hb2 ho2 hk2 hz2)
        | (refine step_app_b w1 _ (by rfl) _ _ _ (by rfl) 60 i0 (.agg #[.int .i64 0, .int .i64 0, .int .i64 0, .int .i64 0]) 4 32 Try.underlying28 hi0 hy0 hy1 hy2 rfl (by decide) _ (0 + t) ([] ++ (l.take t).flatMap qC) (by rfl) (by first | assumption | exact And.left (by assumption) | exact below_al (by assumption) | exact below_al (And.left (by assumption)) | go_grown) (by first | exact ho2.alloc _ | exact ho2) _ 1 1 (qC (a, b, c, d)) (by rfl) rfl (by first | exact cells_at _ _ _ _ (by first | rfl | simp) | exact news_keptQ hk2 (cells_at _ _ _ _ (by first | rfl | simp)) (by first | (simp; done) | (simp; omega)) (by simp [Value.ownBlock]) | exact news_keptQ hk2 (news_alQ (cells_at _ _ _ _ (by first | rfl | simp)) (by first | (simp; done) | (simp; omega))) (by first | (simp; done) | (simp; omega)) (by simp [Value.ownBlock])) (qC_one _) (by unfold maxLen; omega) (by omega) ?_; intro v3 w3 hb3 ho3 hk3 hz3)
        | (refine step_app_b w1 _ (by rfl) _ _ _ (by rfl) 60 i0 (.agg #[.int .i64 0, .int .i64 0, .int .i64 0, .int .i64 0]) 4 32 Try.underlying28 hi0 hy0 hy1 hy2 rfl (by decide) _ (0 + t + 1) (([] ++ (l.take t).flatMap qC) ++ qC (a, b, c, d)) (by rfl) (by first | assumption | exact And.left (by assumption) | exact below_al (by assumption) | exact below_al (And.left (by assumption)) | go_grown) ho3 A4 0 (cap - t) ((l.drop t).flatMap qC) (by rfl) (by rw [qC_len, List.length_drop]; congr 1; omega) (HA4.out _ (by first | assumption | exact And.left (by assumption) | exact below_al (by assumption) | exact below_al (And.left (by assumption)) | go_grown)) (qCs_one _) (by unfold maxLen; omega) (by omega) ?_; intro v4 w4 hb4 ho4 hk4 hz4))
      all_goals
        have hrow := ho4
        have hb5 : Below w.heap.size w w4 := below_call hbQ hb4
        rw [show 0 + t + 1 + 0 = t + 1 from by omega, List.nil_append, flat_snoc, ← List.flatMap_append] at hrow
        obtain ⟨g4, cap4, rfl⟩ := row_formQ hrow (by omega)
        have HR := hide (row_base hrow hbase); have HB4 := hide hb5
        clear hb2 ho2 hk2 hb3 ho3 hk3 hb4 ho4 hk4 hrow hb5
        go_wp2
        go_returns
        exact ⟨g4, cap4, t + 1, (l.take t ++ [(a, b, c, d)]) ++ l.drop t, by first | rfl | trivial, by first | (simp [HL.out]; done) | (simp [HL.out]; omega), by omega, Nat.le_refl _, HB4.out, HR.out⟩
set_option maxHeartbeats 2000000 in
theorem spec_putQ (g cap m base : Nat) (l : List (Int × Int × Int × Int)) (a b c d : Int) (w : World) (hl : l.length = m) (hm : m ≤ 40) (hown : w.ownsRow base 60 4 (.slice (some ⟨g, 0, none⟩) m cap) m (l.flatMap qC)) :
    Calls Try.prog 125 #[.slice (some ⟨g, 0, none⟩) m cap, .agg #[.int .i64 a, .int .i64 b, .int .i64 c, .int .i64 d]] w fun e w' => ∃ (g' cap' m' : Nat) (l' : List (Int × Int × Int × Int)) (ok : Bool), e = .returned (.tuple #[.slice (some ⟨g', 0, none⟩) m' cap', .bool ok]) ∧ l'.length = m' ∧ m' ≤ m + 1 ∧ Below w.heap.size w w' ∧ w'.ownsRow base 60 4 (.slice (some ⟨g', 0, none⟩) m' cap') m' (l'.flatMap qC) := by
  have hbl : base ≤ w.heap.size := by have := (hown.lt g rfl).1; have := (hown.lt g rfl).2; omega
  have HO := hide hown; have HL := hide hl
  clear hown hl
  go_enter Try.func125, Try.ntmps125
  go_wp2_with fail
  refine (spec_put16 g cap m base l a b c d _ HL.out hm (row_below HO.out (below_al (Below.refl _ _)))).mono ?_
  rintro e w1 ⟨g1, cap1, m1, l1, rfl, hl1, hm1, hm2, hb1, ho1⟩
  have hq1 : Below w.heap.size w w1 := below_call (by go_grown) hb1
  have hA := (own_q HL.out.symm (row_below HO.out hq1)).arr1
  have hA' := (own_q hl1.symm ho1).arr1
  have HA := hide hA; have HA' := hide hA'; have HO1 := hide ho1; have HL1 := hide hl1
  have hs1 := hq1.size
  clear hA hA' ho1 hl1 hb1
  obtain ⟨v1, H1⟩ : ∃ v, Hid (catB m (qX l) = v) := ⟨_, rfl⟩
  obtain ⟨v2, H2⟩ : ∃ v, Hid (catB m1 (qX l1) = v) := ⟨_, rfl⟩
  cases v1
  · go_wp2_with fail
    refine (spec_good16 _ _ _ (qX l) _ H1.out _ (by omega) (HA.out.on (by go_grown))).mono ?_
    rintro e w2 ⟨rfl, hb2⟩
    have hq2 : Below w1.heap.size w1 w2 := below_call (by go_grown) hb2
    have hq := below_call hq1 hq2
    have hsz : base ≤ w2.heap.size := by have := hq.size; omega
    clear hb2
    go_wp2
    go_returns
    exact ⟨w2.heap.size, 0, 0, [], false, rfl, rfl, by omega, below_al hq, row_new_at _ _ _ _ _ rfl hsz⟩
  · rcases (by omega : m1 = m ∨ m1 = m + 1) with rfl | rfl
    · have e1 : ((m1 : Int) == (m1 : Int)) = true := by simp
      go_wp2_with fail
      refine (spec_good16 _ _ _ (qX l) _ H1.out _ (by omega) (HA.out.on (by go_grown))).mono ?_
      rintro e w2 ⟨rfl, hb2⟩
      have hq2 : Below w1.heap.size w1 w2 := below_call (by go_grown) hb2
      have hq := below_call hq1 hq2
      have hsz : base ≤ w2.heap.size := by have := hq.size; omega
      clear hb2
      go_wp2
      go_returns
      exact ⟨w2.heap.size, 0, 0, [], false, rfl, rfl, by omega, below_al hq, row_new_at _ _ _ _ _ rfl hsz⟩
    · have e1 : (((m + 1 : Nat) : Int) == (m : Int)) = false := by simp; omega
      have e2 : ((m : Int) + 1 == (m : Int)) = false := by simp; omega
      cases v2
      · go_wp2_with fail
        refine (spec_good16 _ _ _ (qX l) _ H1.out _ (by omega) (HA.out.on (by go_grown))).mono ?_
        rintro e w2 ⟨rfl, hb2⟩
        have hq2 : Below w1.heap.size w1 w2 := below_call (by go_grown) hb2
        go_wp2_with fail
        refine (spec_good16 _ _ _ (qX l1) _ H2.out _ (by omega) (HA'.out.on (by go_grown))).mono ?_
        rintro e w3 ⟨rfl, hb3⟩
        have hq3 : Below w1.heap.size w1 w3 := below_call (by go_grown) hb3
        have hq := below_call hq1 hq3
        have hsz : base ≤ w3.heap.size := by have := hq.size; omega
        clear hb2
        go_wp2
        go_returns
        exact ⟨w3.heap.size, 0, 0, [], false, rfl, rfl, by omega, below_al hq, row_new_at _ _ _ _ _ rfl hsz⟩
      · go_wp2_with fail
        refine (spec_good16 _ _ _ (qX l) _ H1.out _ (by omega) (HA.out.on (by go_grown))).mono ?_
        rintro e w2 ⟨rfl, hb2⟩
        have hq2 : Below w1.heap.size w1 w2 := below_call (by go_grown) hb2
        go_wp2_with fail
        refine (spec_good16 _ _ _ (qX l1) _ H2.out _ (by omega) (HA'.out.on (by go_grown))).mono ?_
        rintro e w3 ⟨rfl, hb3⟩
        have hq3 : Below w1.heap.size w1 w3 := below_call (by go_grown) hb3
        have hq := below_call hq1 hq3
        have HR := hide (row_below HO1.out hq3)
        clear hb2
        go_wp2
        go_returns
        exact ⟨g1, cap1, m + 1, l1, true, rfl, HL1.out, by omega, hq, HR.out⟩
end Go.Proofs.Ythpagjkkccimiaa
