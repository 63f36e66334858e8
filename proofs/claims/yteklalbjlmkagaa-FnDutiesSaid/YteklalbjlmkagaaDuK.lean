/- Chapter 17: a duty is put into a list: the reference's l17Put and AddDuty: made by dukgen.py. -/
import Derived.Test.YteklalbjlmkagaaDuJ
import Derived.Test.YteklalbjlmkagaaCells
import Derived.Deep.RegionHeld3
import Derived.Test.YteklalbjlmkagaaReg
import Derived.IntWalk
namespace Go.Proofs.Yteklalbjlmkagaa
open Go.RowKit
set_option linter.unusedVariables false
set_option linter.unusedSimpArgs false

def putD (d : Du) (L : List Du) : List Du := L.takeWhile (fun e => decide (bef e d)) ++ d :: L.dropWhile (fun e => decide (bef e d))
theorem put_split {p : Du → Bool} : ∀ {L : List Du} {t : Nat}, t ≤ L.length → (∀ i, i < t → p (dg L i) = true) → (t < L.length → p (dg L t) = false) → L.takeWhile p = L.take t ∧ L.dropWhile p = L.drop t
  | [], t, h, _, _ => by simp
  | a :: L, 0, _, _, h => by
    have e : p a = false := h (by simp)
    simp [List.takeWhile_cons, List.dropWhile_cons, e]
  | a :: L, t + 1, hl, h1, h2 => by
    have e : p a = true := h1 0 (Nat.succ_pos _)
    have ih := put_split (p := p) (L := L) (t := t) (by simpa using hl) (fun i hi => by have := h1 (i + 1) (by omega); simpa [dg] using this) (fun h => by have := h2 (by simpa using h); simpa [dg] using this)
    simp [List.takeWhile_cons, List.dropWhile_cons, e, ih.1, ih.2]
theorem putD_at {D : Nat → Du} {d : Du} {n t : Nat} (ht : t ≤ n) (h1 : ∀ i, i < t → bef (D i) d) (h2 : t < n → ¬ bef (D t) d) : putD d (Ln D n) = (Ln D n).take t ++ d :: (Ln D n).drop t := by
  obtain ⟨e1, e2⟩ := put_split (p := fun e => decide (bef e d)) (L := Ln D n) (t := t) (by rw [Ln_len]; exact ht) (fun i hi => by rw [dg_Ln D (by omega)]; exact decide_eq_true (h1 i hi)) (fun h => by rw [Ln_len] at h; rw [dg_Ln D h]; exact decide_eq_false (h2 h))
  unfold putD
  rw [e1, e2]
theorem putD_len (d : Du) (L : List Du) : (putD d L).length = L.length + 1 := by
  unfold putD
  rw [List.length_append, List.length_cons]
  have := congrArg List.length (List.takeWhile_append_dropWhile (p := fun e => decide (bef e d)) (l := L))
  rw [List.length_append] at this
  omega
theorem dC_take {l : List Du} {t j : Nat} {u : Value} (hu : ((l.take t).flatMap dC)[j]? = some u) : (l.flatMap dC)[j]? = some u := by
  have hj : j < ((l.take t).flatMap dC).length := by
    by_cases h : j < ((l.take t).flatMap dC).length
    · exact h
    · rw [List.getElem?_eq_none (by omega)] at hu; cases hu
  conv => lhs; rw [← List.take_append_drop t l]
  rw [List.flatMap_append, List.getElem?_append_left hj]
  exact hu
theorem dC_drop {l : List Du} {t j : Nat} {u : Value} (ht : t ≤ l.length) (hu : ((l.drop t).flatMap dC)[j]? = some u) : (l.flatMap dC)[t * 4 + j]? = some u := by
  conv => lhs; rw [← List.take_append_drop t l]
  have hl : ((l.take t).flatMap dC).length = t * 4 := by rw [dC_len, List.length_take]; congr 1; omega
  rw [List.flatMap_append, List.getElem?_append_right (by omega), hl, Nat.add_sub_cancel_left]
  exact hu
/-- The cells of a list that is read. -/
theorem arr_news {W : World} {B g n : Nat} {D : Nat → Du} (h : Arr W B (some ⟨g, 0, none⟩) n 4 (dv D)) {j : Nat} {u : Value} (hu : ((Ln D n).flatMap dC)[j]? = some u) : W.cell? ⟨g, j, none⟩ = some u := by
  have hj := (List.getElem?_eq_some_iff.1 hu).1
  rw [dC_len, Ln_len] at hj
  obtain ⟨b, off, e, _, hc⟩ := h (by omega)
  injection e with e; injection e with e1 e2 _
  subst e1 e2
  have hi : j / 4 < n := by omega
  have h1 := hc (j / 4) (j % 4) hi (by omega)
  have e0 : 0 + j / 4 * 4 + j % 4 = j := by omega
  rw [e0] at h1
  rw [h1, ← hu]
  conv => rhs; rw [show j = j / 4 * 4 + j % 4 by omega]
  have hil : j / 4 < (Ln D n).length := by rw [Ln_len]; exact hi
  rw [flat_get (g := dC) (k := 4) (fun _ => rfl) hil (by omega), dC_get _ _ _ hil (by omega)]
  have e4 := dg_Ln D hi
  rcases (by omega : j % 4 = 0 ∨ j % 4 = 1 ∨ j % 4 = 2 ∨ j % 4 = 3) with e5 | e5 | e5 | e5 <;> rw [e5] <;> simp only [dv, e4]
theorem news_keptD {w w' : World} {v : Value} {b : Nat} {xs : List Value} (hk : ∀ b o, b < w.heap.size → v.ownBlock ≠ some b → w'.cell? ⟨b, o, none⟩ = w.cell? ⟨b, o, none⟩) (h : ∀ j u, xs[j]? = some u → w.cell? ((⟨b, 0, none⟩ : Addr).add j) = some u) (hb : b < w.heap.size) (hv : v.ownBlock ≠ some b) :
    ∀ j u, xs[j]? = some u → w'.cell? ((⟨b, 0, none⟩ : Addr).add j) = some u := fun j u hu => by
  have := h j u hu
  rw [addr_atD] at this ⊢
  rw [hk b _ hb hv]
  exact this
theorem news_alD {w : World} {o : Obj} {b : Nat} {xs : List Value} (h : ∀ j u, xs[j]? = some u → w.cell? ((⟨b, 0, none⟩ : Addr).add j) = some u) (hb : b < w.heap.size) : ∀ j u, xs[j]? = some u → (w.alloc o).cell? ((⟨b, 0, none⟩ : Addr).add j) = some u := fun j u hu => by
  have := h j u hu
  rw [addr_atD] at this ⊢
  exact (World.cell?_alloc_lt w o ⟨b, _, none⟩ hb).trans this
theorem sP_ofD {W w' : World} {g : Nat} {x y z u : Value} (hc : Cells W g [x, y, z, u]) (h : Below W.heap.size W w') : Below W.heap.size W w' ∧ w'.cell? ⟨g, 0, none⟩ = some x ∧ w'.cell? ⟨g, 1, none⟩ = some y ∧ w'.cell? ⟨g, 2, none⟩ = some z ∧ w'.cell? ⟨g, 3, none⟩ = some u :=
  have k := hc.on h
  ⟨h, k.2 0 _ rfl, k.2 1 _ rfl, k.2 2 _ rfl, k.2 3 _ rfl⟩
attribute [local go_sem ↓] Go.wp_at_zero Go.wp_at_succ
set_option maxHeartbeats 4000000 in
set_option maxRecDepth 100000 in
theorem spec_put17 (g n c : Nat) (D : Nat → Du) (d : Du) (w : World) (hn : n ≤ 40) (hnc : n ≤ c) (ha : Arr w w.heap.size (some ⟨g, 0, none⟩) n 4 (dv D)) :
    Calls Try.prog 47 #[.slice (some ⟨g, 0, none⟩) n c, .agg #[.int .i64 d.who, .int .i64 d.beg, .int .i64 d.fin, .bool d.chief]] w fun e w' => ∃ (g' cap' : Nat), e = .returned (.slice (some ⟨g', 0, none⟩) (n + 1) cap') ∧ Below w.heap.size w w' ∧ w'.ownsRow w.heap.size 39 4 (.slice (some ⟨g', 0, none⟩) (n + 1) cap') (n + 1) ((putD d (Ln D n)).flatMap dC) := by
  obtain ⟨i0, hi0, hy0, hy1, hy2⟩ := info_parts info_duty
  have HA := hide ha
  have HB0 := hide (below_al (o := .cells #[.int .i64 d.who, .int .i64 d.beg, .int .i64 d.fin, .bool d.chief] 39) (Below.refl _ w))
  have HC0 := hide (Cells.new w w.heap.size [.int .i64 d.who, .int .i64 d.beg, .int .i64 d.fin, .bool d.chief] 39 rfl)
  clear ha
  go_enter Try.func47, Try.ntmps47
  go_wp2
  go_loopw [5] (fun y wr => ∃ t : Nat, t ≤ n ∧ y = .int .i64 t ∧ (∀ i, i < t → bef (D i) d) ∧ Below w.heap.size w wr ∧ Cells wr w.heap.size [.int .i64 d.who, .int .i64 d.beg, .int .i64 d.fin, .bool d.chief]) (fun y _ => n - (intOf y).toNat)
  case atStart => exact ⟨0, Nat.zero_le _, rfl, all_zero, HB0.out, HC0.out⟩
  case round =>
    obtain ⟨t, ht, rfl, hbf, hbr, hcr⟩ := hrel
    have l0 := hcr.2 0 _ rfl; have l1 := hcr.2 1 _ rfl; have l2 := hcr.2 2 _ rfl; have l3 := hcr.2 3 _ rfl; have l4 := hcr.1
    have HCR := hide hcr; have HBR := hide hbr; have HBF := hide hbf
    clear hbf
    by_cases htn : t < n
    · obtain ⟨b, off, hA, hbb, hc⟩ := (HA.out.on hbr) (by omega)
      injection hA with hA; injection hA with hA1 hA2 _
      subst hA1 hA2
      obtain ⟨c0, c1, c2, c3⟩ := load4 htn hc
      rw [dv0] at c0; rw [dv1] at c1
      simp only [Nat.zero_add] at c0 c1
      have htc : t < c := by omega
      obtain ⟨x, hx0⟩ : ∃ x, (D t).who = x := ⟨_, rfl⟩
      obtain ⟨y, hy⟩ : ∃ x, (D t).beg = x := ⟨_, rfl⟩
      rw [hx0] at c0; rw [hy] at c1
      have HX := hide hx0; have HY := hide hy
      have hx := BW.cell (w := wr)
      clear c2 c3 hc hbr hcr hx0 hy
      by_cases h1 : y < d.beg
      · have HT := hide (show bef (D t) d from .inl (by rw [HY.out]; exact h1))
        have g1 : decide (y < d.beg) = true := decide_eq_true h1
        go_wp2
        refine wp_region_bw (by kernel_rfl) (by kernel_rfl) ?_
        repeat (go_big_quiet_step ((first | fail)))
        refine wpQuiet_end fun w1 hb1 => ?_
        have HCR1 := hide (HCR.out.on hb1); have HBR1 := hide (below_call HBR.out hb1)
        clear hx l0 l1 l2 l3 l4 hb1 c0 c1
        go_wp2
        go_roundw
        case rel => exact ⟨t + 1, by omega, by go_num, fun i hi => by
          by_cases e : i = t
          · subst e; exact HT.out
          · exact HBF.out i (by omega), HBR1.out, HCR1.out⟩
        case measure => simp [intOf]; omega
      · have g1 : decide (y < d.beg) = false := decide_eq_false h1
        by_cases h2 : y = d.beg
        · have g2 : (y == d.beg) = true := by simp [h2]
          by_cases h3 : x < d.who
          · have HT := hide (show bef (D t) d from .inr ⟨by rw [HY.out]; exact h2, by rw [HX.out]; exact h3⟩)
            have g3 : decide (x < d.who) = true := decide_eq_true h3
            clear h2
            go_wp2
            refine wp_region_bw (by kernel_rfl) (by kernel_rfl) ?_
            repeat (go_big_quiet_step ((first | fail)))
            refine wpQuiet_end fun w1 hb1 => ?_
            have HCR1 := hide (HCR.out.on hb1); have HBR1 := hide (below_call HBR.out hb1)
            clear hx l0 l1 l2 l3 l4 hb1 c0 c1
            go_wp2
            go_roundw
            case rel => exact ⟨t + 1, by omega, by go_num, fun i hi => by
              by_cases e : i = t
              · subst e; exact HT.out
              · exact HBF.out i (by omega), HBR1.out, HCR1.out⟩
            case measure => simp [intOf]; omega
          · have HP := hide (putD_at (n := n) ht HBF.out (fun _ h => by unfold bef at h; rw [HY.out, HX.out] at h; omega))
            have g3 : decide (x < d.who) = false := decide_eq_false h3
            clear h2
            go_wp2
            refine wp_region_bw (by kernel_rfl) (by kernel_rfl) ?_
            repeat (go_big_quiet_step ((first | fail)))
            refine wpQuiet_end fun w1 hb1 => ?_
            have HCR1 := hide (HCR.out.on hb1); have HBR1 := hide (below_call HBR.out hb1)
            clear hx l0 l1 l2 l3 l4 hb1 c0 c1
            have HC2 := HCR1
            have hbQ := HBR1.out
            have HA1 := hide (HA.out.on hbQ)
            have l0 := HC2.out.2 0 _ rfl; have l1 := HC2.out.2 1 _ rfl; have l2 := HC2.out.2 2 _ rfl; have l3 := HC2.out.2 3 _ rfl; have l4 := HC2.out.1
            have htc : (t : Int) ≤ (c : Int) := by omega
            have hll : (Ln D n).length = n := Ln_len _ _
            have hA4 : ∃ A4, (if c = t then some ⟨g, 0, none⟩ else some ⟨g, t * 4, none⟩ : Option Addr) = some A4 ∧ ∀ W, Below w1.heap.size w1 W → ∀ j u, (((Ln D n).drop t).flatMap dC)[j]? = some u → W.cell? (A4.add j) = some u := by
              by_cases e : c = t
              · refine ⟨_, if_pos e, fun W _ j u hu => ?_⟩
                rw [List.drop_of_length_le (by omega)] at hu
                simp at hu
              · exact ⟨_, if_neg e, fun W hW j u hu => by rw [addr_atD]; exact arr_news (HA1.out.on hW) (dC_drop (by omega) hu)⟩
            obtain ⟨A4, hA, hnA⟩ := hA4
            have HA4 := hide hnA
            have HNT := hide (show ∀ W, Below w1.heap.size w1 W → ∀ j u, (((Ln D n).take t).flatMap dC)[j]? = some u → W.cell? ((⟨g, 0, none⟩ : Addr).add j) = some u from fun W hW j u hu => by rw [addr_atD, Nat.zero_add]; exact arr_news (HA1.out.on hW) (dC_take hu))
            clear hnA
            go_wp2
            go_region_held3 (fun w' => Below w1.heap.size w1 w' ∧ w'.cell? ⟨w.heap.size, 0, none⟩ = some (.int .i64 d.who) ∧ w'.cell? ⟨w.heap.size, 1, none⟩ = some (.int .i64 d.beg) ∧ w'.cell? ⟨w.heap.size, 2, none⟩ = some (.int .i64 d.fin) ∧ w'.cell? ⟨w.heap.size, 3, none⟩ = some (.bool d.chief)) (first | assumption | exact sP_ofD HC2.out (by first | assumption | exact And.left (by assumption) | exact below_al (by assumption) | exact below_al (And.left (by assumption)) | go_grown)) (first
              | (refine step_app_b w1 _ (by rfl) _ _ _ (by rfl) 39 i0 (.agg #[.int .i64 0, .int .i64 0, .int .i64 0, .bool false]) 4 32 Try.underlying24 hi0 hy0 hy1 hy2 rfl (by decide) (.slice (some ⟨_, 0, none⟩) 0 0) 0 [] (by rfl) (by first | assumption | exact And.left (by assumption) | exact below_al (by assumption) | exact below_al (And.left (by assumption)) | go_grown) (by first | exact row_new_at _ _ _ _ _ (by first | rfl | simp) (by first | exact Nat.le_refl _ | simp) | exact (row_new_at _ _ _ _ _ (by first | rfl | simp) (by first | exact Nat.le_refl _ | simp)).alloc _) ⟨g, 0, none⟩ t c (((Ln D n).take t).flatMap dC) (by rfl) (by rw [dC_len, List.length_take]; congr 1; omega) (HNT.out _ (by first | assumption | exact And.left (by assumption) | exact below_al (by assumption) | exact below_al (And.left (by assumption)) | go_grown)) (dCs_one _) (by unfold maxLen; omega) (by omega) ?_; intro v2 w2 hb2 ho2 hk2 hz2)
              | (refine step_app_b w1 _ (by rfl) _ _ _ (by rfl) 39 i0 (.agg #[.int .i64 0, .int .i64 0, .int .i64 0, .bool false]) 4 32 Try.underlying24 hi0 hy0 hy1 hy2 rfl (by decide) _ (0 + t) ([] ++ ((Ln D n).take t).flatMap dC) (by rfl) (by first | assumption | exact And.left (by assumption) | exact below_al (by assumption) | exact below_al (And.left (by assumption)) | go_grown) (by first | exact ho2.alloc _ | exact ho2) _ 1 1 (dC d) (by rfl) rfl (by first | exact cells_at _ _ _ _ (by first | rfl | simp) | exact news_keptD hk2 (cells_at _ _ _ _ (by first | rfl | simp)) (by first | (simp; done) | (simp; omega)) (by simp [Value.ownBlock]) | exact news_keptD hk2 (news_alD (cells_at _ _ _ _ (by first | rfl | simp)) (by first | (simp; done) | (simp; omega))) (by first | (simp; done) | (simp; omega)) (by simp [Value.ownBlock])) (dC_one _) (by unfold maxLen; omega) (by omega) ?_; intro v3 w3 hb3 ho3 hk3 hz3)
              | (refine step_app_b w1 _ (by rfl) _ _ _ (by rfl) 39 i0 (.agg #[.int .i64 0, .int .i64 0, .int .i64 0, .bool false]) 4 32 Try.underlying24 hi0 hy0 hy1 hy2 rfl (by decide) _ (0 + t + 1) (([] ++ ((Ln D n).take t).flatMap dC) ++ dC d) (by rfl) (by first | assumption | exact And.left (by assumption) | exact below_al (by assumption) | exact below_al (And.left (by assumption)) | go_grown) ho3 A4 (n - t) (c - t) (((Ln D n).drop t).flatMap dC) (by rfl) (by rw [dC_len, List.length_drop]; congr 1; omega) (HA4.out _ (by first | assumption | exact And.left (by assumption) | exact below_al (by assumption) | exact below_al (And.left (by assumption)) | go_grown)) (dCs_one _) (by unfold maxLen; omega) (by omega) ?_; intro v4 w4 hb4 ho4 hk4 hz4))
            all_goals
              have hrow := ho4
              have hb5 : Below w.heap.size w w4 := below_call hbQ hb4
              rw [show 0 + t + 1 + (n - t) = n + 1 from by omega, List.nil_append, flat_snoc, ← List.flatMap_append, List.append_assoc, List.singleton_append, ← HP.out] at hrow
              obtain ⟨g4, cap4, rfl⟩ := row_formD hrow (by omega)
              have HR := hide (row_base hrow hbQ.size); have HB4 := hide hb5
              clear hb2 ho2 hk2 hb3 ho3 hk3 hb4 ho4 hk4 hrow hb5
              go_wp2
              go_returns
              exact ⟨g4, cap4, by first | rfl | trivial, HB4.out, HR.out⟩
        · have HP := hide (putD_at (n := n) ht HBF.out (fun _ h => by unfold bef at h; rw [HY.out, HX.out] at h; omega))
          have g2 : (y == d.beg) = false := by simp [h2]
          go_wp2
          refine wp_region_bw (by kernel_rfl) (by kernel_rfl) ?_
          repeat (go_big_quiet_step ((first | fail)))
          refine wpQuiet_end fun w1 hb1 => ?_
          have HCR1 := hide (HCR.out.on hb1); have HBR1 := hide (below_call HBR.out hb1)
          clear hx l0 l1 l2 l3 l4 hb1 c0 c1
          have HC2 := HCR1
          have hbQ := HBR1.out
          have HA1 := hide (HA.out.on hbQ)
          have l0 := HC2.out.2 0 _ rfl; have l1 := HC2.out.2 1 _ rfl; have l2 := HC2.out.2 2 _ rfl; have l3 := HC2.out.2 3 _ rfl; have l4 := HC2.out.1
          have htc : (t : Int) ≤ (c : Int) := by omega
          have hll : (Ln D n).length = n := Ln_len _ _
          have hA4 : ∃ A4, (if c = t then some ⟨g, 0, none⟩ else some ⟨g, t * 4, none⟩ : Option Addr) = some A4 ∧ ∀ W, Below w1.heap.size w1 W → ∀ j u, (((Ln D n).drop t).flatMap dC)[j]? = some u → W.cell? (A4.add j) = some u := by
            by_cases e : c = t
            · refine ⟨_, if_pos e, fun W _ j u hu => ?_⟩
              rw [List.drop_of_length_le (by omega)] at hu
              simp at hu
            · exact ⟨_, if_neg e, fun W hW j u hu => by rw [addr_atD]; exact arr_news (HA1.out.on hW) (dC_drop (by omega) hu)⟩
          obtain ⟨A4, hA, hnA⟩ := hA4
          have HA4 := hide hnA
          have HNT := hide (show ∀ W, Below w1.heap.size w1 W → ∀ j u, (((Ln D n).take t).flatMap dC)[j]? = some u → W.cell? ((⟨g, 0, none⟩ : Addr).add j) = some u from fun W hW j u hu => by rw [addr_atD, Nat.zero_add]; exact arr_news (HA1.out.on hW) (dC_take hu))
          clear hnA
          go_wp2
          go_region_held3 (fun w' => Below w1.heap.size w1 w' ∧ w'.cell? ⟨w.heap.size, 0, none⟩ = some (.int .i64 d.who) ∧ w'.cell? ⟨w.heap.size, 1, none⟩ = some (.int .i64 d.beg) ∧ w'.cell? ⟨w.heap.size, 2, none⟩ = some (.int .i64 d.fin) ∧ w'.cell? ⟨w.heap.size, 3, none⟩ = some (.bool d.chief)) (first | assumption | exact sP_ofD HC2.out (by first | assumption | exact And.left (by assumption) | exact below_al (by assumption) | exact below_al (And.left (by assumption)) | go_grown)) (first
            | (refine step_app_b w1 _ (by rfl) _ _ _ (by rfl) 39 i0 (.agg #[.int .i64 0, .int .i64 0, .int .i64 0, .bool false]) 4 32 Try.underlying24 hi0 hy0 hy1 hy2 rfl (by decide) (.slice (some ⟨_, 0, none⟩) 0 0) 0 [] (by rfl) (by first | assumption | exact And.left (by assumption) | exact below_al (by assumption) | exact below_al (And.left (by assumption)) | go_grown) (by first | exact row_new_at _ _ _ _ _ (by first | rfl | simp) (by first | exact Nat.le_refl _ | simp) | exact (row_new_at _ _ _ _ _ (by first | rfl | simp) (by first | exact Nat.le_refl _ | simp)).alloc _) ⟨g, 0, none⟩ t c (((Ln D n).take t).flatMap dC) (by rfl) (by rw [dC_len, List.length_take]; congr 1; omega) (HNT.out _ (by first | assumption | exact And.left (by assumption) | exact below_al (by assumption) | exact below_al (And.left (by assumption)) | go_grown)) (dCs_one _) (by unfold maxLen; omega) (by omega) ?_; intro v2 w2 hb2 ho2 hk2 hz2)
            | (refine step_app_b w1 _ (by rfl) _ _ _ (by rfl) 39 i0 (.agg #[.int .i64 0, .int .i64 0, .int .i64 0, .bool false]) 4 32 Try.underlying24 hi0 hy0 hy1 hy2 rfl (by decide) _ (0 + t) ([] ++ ((Ln D n).take t).flatMap dC) (by rfl) (by first | assumption | exact And.left (by assumption) | exact below_al (by assumption) | exact below_al (And.left (by assumption)) | go_grown) (by first | exact ho2.alloc _ | exact ho2) _ 1 1 (dC d) (by rfl) rfl (by first | exact cells_at _ _ _ _ (by first | rfl | simp) | exact news_keptD hk2 (cells_at _ _ _ _ (by first | rfl | simp)) (by first | (simp; done) | (simp; omega)) (by simp [Value.ownBlock]) | exact news_keptD hk2 (news_alD (cells_at _ _ _ _ (by first | rfl | simp)) (by first | (simp; done) | (simp; omega))) (by first | (simp; done) | (simp; omega)) (by simp [Value.ownBlock])) (dC_one _) (by unfold maxLen; omega) (by omega) ?_; intro v3 w3 hb3 ho3 hk3 hz3)
            | (refine step_app_b w1 _ (by rfl) _ _ _ (by rfl) 39 i0 (.agg #[.int .i64 0, .int .i64 0, .int .i64 0, .bool false]) 4 32 Try.underlying24 hi0 hy0 hy1 hy2 rfl (by decide) _ (0 + t + 1) (([] ++ ((Ln D n).take t).flatMap dC) ++ dC d) (by rfl) (by first | assumption | exact And.left (by assumption) | exact below_al (by assumption) | exact below_al (And.left (by assumption)) | go_grown) ho3 A4 (n - t) (c - t) (((Ln D n).drop t).flatMap dC) (by rfl) (by rw [dC_len, List.length_drop]; congr 1; omega) (HA4.out _ (by first | assumption | exact And.left (by assumption) | exact below_al (by assumption) | exact below_al (And.left (by assumption)) | go_grown)) (dCs_one _) (by unfold maxLen; omega) (by omega) ?_; intro v4 w4 hb4 ho4 hk4 hz4))
          all_goals
            have hrow := ho4
            have hb5 : Below w.heap.size w w4 := below_call hbQ hb4
            rw [show 0 + t + 1 + (n - t) = n + 1 from by omega, List.nil_append, flat_snoc, ← List.flatMap_append, List.append_assoc, List.singleton_append, ← HP.out] at hrow
            obtain ⟨g4, cap4, rfl⟩ := row_formD hrow (by omega)
            have HR := hide (row_base hrow hbQ.size); have HB4 := hide hb5
            clear hb2 ho2 hk2 hb3 ho3 hk3 hb4 ho4 hk4 hrow hb5
            go_wp2
            go_returns
            exact ⟨g4, cap4, by first | rfl | trivial, HB4.out, HR.out⟩
    · obtain rfl : t = n := by omega
      have HP := hide (putD_at (n := t) ht HBF.out (fun h => absurd h (by omega)))
      have hx := BW.cell (w := wr)
      clear hcr hbr
      go_wp2
      refine wp_region_bw (by kernel_rfl) (by kernel_rfl) ?_
      repeat (go_big_quiet_step ((first | fail)))
      refine wpQuiet_end fun w1 hb1 => ?_
      have HCR1 := hide (HCR.out.on hb1); have HBR1 := hide (below_call HBR.out hb1)
      clear hx l0 l1 l2 l3 l4 hb1
      have HC2 := HCR1
      have hbQ := HBR1.out
      have HA1 := hide (HA.out.on hbQ)
      have l0 := HC2.out.2 0 _ rfl; have l1 := HC2.out.2 1 _ rfl; have l2 := HC2.out.2 2 _ rfl; have l3 := HC2.out.2 3 _ rfl; have l4 := HC2.out.1
      have htc : (t : Int) ≤ (c : Int) := by omega
      have hll : (Ln D t).length = t := Ln_len _ _
      have hA4 : ∃ A4, (if c = t then some ⟨g, 0, none⟩ else some ⟨g, t * 4, none⟩ : Option Addr) = some A4 ∧ ∀ W, Below w1.heap.size w1 W → ∀ j u, (((Ln D t).drop t).flatMap dC)[j]? = some u → W.cell? (A4.add j) = some u := by
        by_cases e : c = t
        · refine ⟨_, if_pos e, fun W _ j u hu => ?_⟩
          rw [List.drop_of_length_le (by omega)] at hu
          simp at hu
        · exact ⟨_, if_neg e, fun W hW j u hu => by rw [addr_atD]; exact arr_news (HA1.out.on hW) (dC_drop (by omega) hu)⟩
      obtain ⟨A4, hA, hnA⟩ := hA4
      have HA4 := hide hnA
      have HNT := hide (show ∀ W, Below w1.heap.size w1 W → ∀ j u, (((Ln D t).take t).flatMap dC)[j]? = some u → W.cell? ((⟨g, 0, none⟩ : Addr).add j) = some u from fun W hW j u hu => by rw [addr_atD, Nat.zero_add]; exact arr_news (HA1.out.on hW) (dC_take hu))
      clear hnA
      go_wp2
      go_region_held3 (fun w' => Below w1.heap.size w1 w' ∧ w'.cell? ⟨w.heap.size, 0, none⟩ = some (.int .i64 d.who) ∧ w'.cell? ⟨w.heap.size, 1, none⟩ = some (.int .i64 d.beg) ∧ w'.cell? ⟨w.heap.size, 2, none⟩ = some (.int .i64 d.fin) ∧ w'.cell? ⟨w.heap.size, 3, none⟩ = some (.bool d.chief)) (first | assumption | exact sP_ofD HC2.out (by first | assumption | exact And.left (by assumption) | exact below_al (by assumption) | exact below_al (And.left (by assumption)) | go_grown)) (first
        | (refine step_app_b w1 _ (by rfl) _ _ _ (by rfl) 39 i0 (.agg #[.int .i64 0, .int .i64 0, .int .i64 0, .bool false]) 4 32 Try.underlying24 hi0 hy0 hy1 hy2 rfl (by decide) (.slice (some ⟨_, 0, none⟩) 0 0) 0 [] (by rfl) (by first | assumption | exact And.left (by assumption) | exact below_al (by assumption) | exact below_al (And.left (by assumption)) | go_grown) (by first | exact row_new_at _ _ _ _ _ (by first | rfl | simp) (by first | exact Nat.le_refl _ | simp) | exact (row_new_at _ _ _ _ _ (by first | rfl | simp) (by first | exact Nat.le_refl _ | simp)).alloc _) ⟨g, 0, none⟩ t c (((Ln D t).take t).flatMap dC) (by rfl) (by rw [dC_len, List.length_take]; congr 1; omega) (HNT.out _ (by first | assumption | exact And.left (by assumption) | exact below_al (by assumption) | exact below_al (And.left (by assumption)) | go_grown)) (dCs_one _) (by unfold maxLen; omega) (by omega) ?_; intro v2 w2 hb2 ho2 hk2 hz2)
        | (refine step_app_b w1 _ (by rfl) _ _ _ (by rfl) 39 i0 (.agg #[.int .i64 0, .int .i64 0, .int .i64 0, .bool false]) 4 32 Try.underlying24 hi0 hy0 hy1 hy2 rfl (by decide) _ (0 + t) ([] ++ ((Ln D t).take t).flatMap dC) (by rfl) (by first | assumption | exact And.left (by assumption) | exact below_al (by assumption) | exact below_al (And.left (by assumption)) | go_grown) (by first | exact ho2.alloc _ | exact ho2) _ 1 1 (dC d) (by rfl) rfl (by first | exact cells_at _ _ _ _ (by first | rfl | simp) | exact news_keptD hk2 (cells_at _ _ _ _ (by first | rfl | simp)) (by first | (simp; done) | (simp; omega)) (by simp [Value.ownBlock]) | exact news_keptD hk2 (news_alD (cells_at _ _ _ _ (by first | rfl | simp)) (by first | (simp; done) | (simp; omega))) (by first | (simp; done) | (simp; omega)) (by simp [Value.ownBlock])) (dC_one _) (by unfold maxLen; omega) (by omega) ?_; intro v3 w3 hb3 ho3 hk3 hz3)
        | (refine step_app_b w1 _ (by rfl) _ _ _ (by rfl) 39 i0 (.agg #[.int .i64 0, .int .i64 0, .int .i64 0, .bool false]) 4 32 Try.underlying24 hi0 hy0 hy1 hy2 rfl (by decide) _ (0 + t + 1) (([] ++ ((Ln D t).take t).flatMap dC) ++ dC d) (by rfl) (by first | assumption | exact And.left (by assumption) | exact below_al (by assumption) | exact below_al (And.left (by assumption)) | go_grown) ho3 A4 (0) (c - t) (((Ln D t).drop t).flatMap dC) (by rfl) (by rw [dC_len, List.length_drop]; congr 1; omega) (HA4.out _ (by first | assumption | exact And.left (by assumption) | exact below_al (by assumption) | exact below_al (And.left (by assumption)) | go_grown)) (dCs_one _) (by unfold maxLen; omega) (by omega) ?_; intro v4 w4 hb4 ho4 hk4 hz4))
      all_goals
        have hrow := ho4
        have hb5 : Below w.heap.size w w4 := below_call hbQ hb4
        rw [show 0 + t + 1 + (0) = t + 1 from by omega, List.nil_append, flat_snoc, ← List.flatMap_append, List.append_assoc, List.singleton_append, ← HP.out] at hrow
        obtain ⟨g4, cap4, rfl⟩ := row_formD hrow (by omega)
        have HR := hide (row_base hrow hbQ.size); have HB4 := hide hb5
        clear hb2 ho2 hk2 hb3 ho3 hk3 hb4 ho4 hk4 hrow hb5
        go_wp2
        go_returns
        exact ⟨g4, cap4, by first | rfl | trivial, HB4.out, HR.out⟩
end Go.Proofs.Yteklalbjlmkagaa
