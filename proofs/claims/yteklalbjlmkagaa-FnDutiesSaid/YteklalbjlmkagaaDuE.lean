/- Chapter 17: who is on duty: made by duegen.py. -/
import Derived.Test.YteklalbjlmkagaaDuD
import Derived.Test.YteklalbjlmkagaaApp
import Derived.Test.YteklalbjlmkagaaReg
import Derived.Test.YteklalbjlmkagaaPut
namespace Go.Proofs.Yteklalbjlmkagaa
open Go.RowKit
set_option linter.unusedVariables false
set_option linter.unusedSimpArgs false

theorem info_duty : (Try.prog.info? 39).map (fun i => (i.zero, i.size, i.bytes)) = some (some (.agg #[.int .i64 0, .int .i64 0, .int .i64 0, .bool false]), 4, 32) := by kernel_rfl
def dg (L : List Du) (i : Nat) : Du := L.getD i dZ
def Ln (D : Nat → Du) (n : Nat) : List Du := (List.range n).map D
theorem Ln_succ (D : Nat → Du) (n : Nat) : Ln D (n + 1) = Ln D n ++ [D n] := by simp [Ln, List.range_succ]
theorem Ln_len (D : Nat → Du) (n : Nat) : (Ln D n).length = n := by simp [Ln]
theorem mem_Ln {D : Nat → Du} {n : Nat} {d : Du} : d ∈ Ln D n ↔ ∃ i, i < n ∧ D i = d := by simp [Ln]
theorem dg_Ln (D : Nat → Du) {n i : Nat} (h : i < n) : dg (Ln D n) i = D i := by simp [dg, Ln, List.getD, h]
theorem dC_one (d : Du) : ∀ u ∈ dC d, u.oneCell' = true := by
  intro u hu
  simp only [dC, List.mem_cons, List.not_mem_nil, or_false] at hu
  rcases hu with rfl | rfl | rfl | rfl <;> rfl
theorem dCs_one (l : List Du) : ∀ u ∈ l.flatMap dC, u.oneCell' = true := by
  intro u hu
  rw [List.mem_flatMap] at hu
  obtain ⟨p, _, h⟩ := hu
  exact dC_one p u h
theorem dC_len (l : List Du) : (l.flatMap dC).length = l.length * 4 := flat_len (g := dC) (k := 4) (fun _ => rfl) l
theorem dC_get (L : List Du) (i j : Nat) (hi : i < L.length) (hj : j < 4) : (dC L[i])[j]? = some (dv (dg L) i j) := by
  have e : dg L i = L[i] := by simp [dg, List.getD, hi]
  rcases (by omega : j = 0 ∨ j = 1 ∨ j = 2 ∨ j = 3) with rfl | rfl | rfl | rfl <;> simp only [dC, dv, e] <;> rfl
theorem addr_atD (g o : Nat) (j : Nat) : (⟨g, o, none⟩ : Addr).add j = ⟨g, o + j, none⟩ := by
  unfold Addr.add
  by_cases hj : j = 0 <;> simp [hj]
theorem arr_row {w : World} {base n cap g : Nat} {L : List Du} (h : w.ownsRow base 39 4 (.slice (some ⟨g, 0, none⟩) n cap) n (L.flatMap dC)) (hl : L.length = n) : Arr w w.heap.size (some ⟨g, 0, none⟩) n 4 (dv (dg L)) := by
  intro hn
  refine ⟨g, 0, rfl, (h.lt g rfl).2, fun i j hi hj => ?_⟩
  have h1 := h.cells (g := g) rfl (i * 4 + j) (dv (dg L) i j) (by rw [flat_get (g := dC) (k := 4) (fun _ => rfl) (by omega : i < L.length) hj, dC_get L i j (by omega) hj])
  rw [addr_atD] at h1
  have e0 : 0 + i * 4 + j = 0 + (i * 4 + j) := by omega
  rw [e0]; exact h1
theorem row_formD {w : World} {base n s : Nat} {E : TypeId} {v : Value} {xs : List Value} (h : w.ownsRow base E s v n xs) (hn : 0 < n) : ∃ g cap, v = .slice (some ⟨g, 0, none⟩) n cap := by
  rcases h.2 with ⟨_, h0⟩ | ⟨gg, cp, cur, hv, _, _, hc, _⟩
  · omega
  · exact ⟨gg, cp, hv⟩
theorem row_capsD {w : World} {base n cap g s : Nat} {E : TypeId} {xs : List Value} (h : w.ownsRow base E s (.slice (some ⟨g, 0, none⟩) n cap) n xs) : n ≤ cap ∧ cap ≤ maxLen := by
  rcases h.2 with ⟨hv, _⟩ | ⟨gg, cp, cur, hv, _, _, hc, hm, _⟩
  · cases hv
  · injection hv with _ _ e3
    subst e3
    exact ⟨hc, hm⟩
set_option maxHeartbeats 2000000 in
set_option maxRecDepth 100000 in
theorem filter_on (bh : Nat) (A : Option Addr) (n c : Nat) (D : Nat → Du) (P : Du → Bool) (w : World) (hn : n ≤ 14) (ha : Arr w w.heap.size A n 4 (dv D))
    (hF : ∀ (W : World) (k : Nat), k < n → Below w.heap.size w W → Calls Try.prog 68 #[.agg #[.int .i64 (D k).who, .int .i64 (D k).beg, .int .i64 (D k).fin, .bool (D k).chief], .pointer (some ⟨bh, 0, none⟩)] W fun e w' => e = .returned (.bool (P (D k))) ∧ Below W.heap.size W w') :
    Calls Try.prog 54 #[.slice A n c, .func (.func 68) #[] #[.pointer (some ⟨bh, 0, none⟩)]] w fun e w' => ∃ g cap m, e = .returned (.slice (some ⟨g, 0, none⟩) m cap) ∧ m = ((Ln D n).filter P).length ∧ Below w.heap.size w w' ∧ w'.ownsRow w.heap.size 39 4 (.slice (some ⟨g, 0, none⟩) m cap) m (((Ln D n).filter P).flatMap dC) := by
  have hfa := frozen_al; have hfo := frozen_out
  obtain ⟨i0, hi0, hy0, hy1, hy2⟩ := info_parts info_duty
  have HA := hide ha; have HF := hide hF
  clear ha hF
  go_enter Try.func54, Try.ntmps54
  go_wp2
  go_loopw [5, 11] (fun v y wr => ∃ (k g cap m : Nat), k ≤ n ∧ y = .int .i64 k ∧ v = .slice (some ⟨g, 0, none⟩) m cap ∧ m = ((Ln D k).filter P).length ∧ m ≤ k ∧ Below w.heap.size w wr ∧ wr.ownsRow w.heap.size 39 4 (.slice (some ⟨g, 0, none⟩) m cap) m (((Ln D k).filter P).flatMap dC)) (fun _ y _ => n - (intOf y).toNat)
  case atStart => exact ⟨0, _, _, 0, Nat.zero_le _, rfl, rfl, rfl, Nat.le_refl _, by go_grown, row_new_at _ _ _ _ _ rfl (Nat.le_refl _)⟩
  case round =>
    obtain ⟨k, g, cap, m, hk, rfl, rfl, hm, hmk, hbw, hown⟩ := hrel
    have HO := hide hown; have HM := hide hm
    clear hown hm
    by_cases hlt : k < n
    · obtain ⟨b, off, hA, hbb, hc⟩ := (HA.out.on hbw) (by omega)
      subst hA
      obtain ⟨c0, c1, c2, c3⟩ := load4 hlt hc
      rw [dv0] at c0; rw [dv1] at c1; rw [dv2] at c2; rw [dv3] at c3
      have hbx := below_al (o := .cells #[.int .i64 (D k).who, .int .i64 (D k).beg, .int .i64 (D k).fin, .bool (D k).chief] 39) hbw
      have HBX := hide (Blk.new wr 39 #[.int .i64 (D k).who, .int .i64 (D k).beg, .int .i64 (D k).fin, .bool (D k).chief])
      obtain ⟨u, hu⟩ : ∃ u, P (D k) = u := ⟨_, rfl⟩
      have HU := hide hu
      have HT := hide (fun W hW => HF.out W k hlt hW)
      clear hc hu
      go_wp2_with fail
      refine (HT.out _ hbx).mono ?_
      rintro e w1 ⟨rfl, hb1⟩
      rw [HU.out]
      have hq1 := below_call hbx hb1
      have HB1 := HBX.out.below hb1 HBX.out.lt
      have l0 := HB1.cell 0; have l1 := HB1.cell 1; have l2 := HB1.cell 2; have l3 := HB1.cell 3; have l4 := HB1.lt
      simp only [List.getElem?_toArray, List.getElem?_cons_zero, List.getElem?_cons_succ] at l0 l1 l2 l3
      have HO1 := hide (row_below (row_below HO.out (below_al (o := .cells #[.int .i64 (D k).who, .int .i64 (D k).beg, .int .i64 (D k).fin, .bool (D k).chief] 39) (Below.refl _ _))) hb1)
      clear HB1 hb1 HT HO c0 c1 c2 c3
      cases u
      · have hL : (Ln D (k + 1)).filter P = (Ln D k).filter P := by rw [Ln_succ, List.filter_append]; simp [HU.out]
        have HL := hide hL
        clear hL
        go_wp2
        go_roundw
        case rel => exact ⟨k + 1, g, cap, m, by omega, by go_num, rfl, by rw [HL.out]; exact HM.out, by omega, hq1, by rw [HL.out]; exact HO1.out⟩
        case measure => simp [intOf]; omega
      · have hL : (Ln D (k + 1)).filter P = (Ln D k).filter P ++ [D k] := by rw [Ln_succ, List.filter_append]; simp [HU.out]
        have HL := hide hL
        have hlt1 := HO1.out.lt
        clear hL
        go_wp2_with (at_builtin; refine wpList_append_far _ rfl _ _ 24 rfl w.heap.size 39 i0 (.agg #[.int .i64 0, .int .i64 0, .int .i64 0, .bool false]) 4 32 Try.underlying24 hi0 hy0 hy1 hy2 rfl (by decide) _ _ _ (by rfl) (HO1.out.alloc _) ⟨w1.heap.size, 0, none⟩ 1 1 (dC (D k)) (by rfl) rfl (cells_at _ _ _ _ rfl) (dC_one _) (by unfold maxLen; omega) (by omega) (by have := hq1.size; simp only [World.size_alloc]; omega) ?_; intro v6 w6 hown6 hgrow6 _; obtain ⟨g6, cap6, rfl⟩ := row_formD hown6 (Nat.succ_pos _))
        have hrow : w6.ownsRow w.heap.size 39 4 (.slice (some ⟨g6, 0, none⟩) (m + 1) cap6) (m + 1) (((Ln D (k + 1)).filter P).flatMap dC) := by
          rw [HL.out, ← flat_snoc]; exact hown6
        have hbw6 := (below_al (o := .cells (dC (D k)).toArray 39) hq1).grown hgrow6 (by have := hq1.size; simp only [World.size_alloc]; omega) (fun gg hg => (hlt1 gg hg).1)
        have H1 := hide hrow; have H2 := hide hbw6
        clear hown6 hgrow6 hrow hbw6 hlt1
        go_wp2
        go_roundw
        case rel => exact ⟨k + 1, g6, cap6, m + 1, by omega, by go_num, rfl, by rw [HL.out, List.length_append, ← HM.out]; rfl, by omega, H2.out, H1.out⟩
        case measure => simp [intOf]; omega
    · obtain rfl : k = n := by omega
      go_wp2
      go_returns
      exact ⟨g, cap, m, rfl, HM.out, hbw, HO.out⟩
set_option maxHeartbeats 2000000 in
set_option maxRecDepth 100000 in
theorem filter_ch (A : Option Addr) (n c : Nat) (D : Nat → Du) (P : Du → Bool) (w : World) (hn : n ≤ 14) (ha : Arr w w.heap.size A n 4 (dv D))
    (hF : ∀ (W : World) (k : Nat), k < n → Below w.heap.size w W → Calls Try.prog 55 #[.agg #[.int .i64 (D k).who, .int .i64 (D k).beg, .int .i64 (D k).fin, .bool (D k).chief]] W fun e w' => e = .returned (.bool (P (D k))) ∧ Below W.heap.size W w') :
    Calls Try.prog 54 #[.slice A n c, .func (.func 55) #[] #[]] w fun e w' => ∃ g cap m, e = .returned (.slice (some ⟨g, 0, none⟩) m cap) ∧ m = ((Ln D n).filter P).length ∧ Below w.heap.size w w' ∧ w'.ownsRow w.heap.size 39 4 (.slice (some ⟨g, 0, none⟩) m cap) m (((Ln D n).filter P).flatMap dC) := by
  have hfa := frozen_al; have hfo := frozen_out
  obtain ⟨i0, hi0, hy0, hy1, hy2⟩ := info_parts info_duty
  have HA := hide ha; have HF := hide hF
  clear ha hF
  go_enter Try.func54, Try.ntmps54
  go_wp2
  go_loopw [5, 11] (fun v y wr => ∃ (k g cap m : Nat), k ≤ n ∧ y = .int .i64 k ∧ v = .slice (some ⟨g, 0, none⟩) m cap ∧ m = ((Ln D k).filter P).length ∧ m ≤ k ∧ Below w.heap.size w wr ∧ wr.ownsRow w.heap.size 39 4 (.slice (some ⟨g, 0, none⟩) m cap) m (((Ln D k).filter P).flatMap dC)) (fun _ y _ => n - (intOf y).toNat)
  case atStart => exact ⟨0, _, _, 0, Nat.zero_le _, rfl, rfl, rfl, Nat.le_refl _, by go_grown, row_new_at _ _ _ _ _ rfl (Nat.le_refl _)⟩
  case round =>
    obtain ⟨k, g, cap, m, hk, rfl, rfl, hm, hmk, hbw, hown⟩ := hrel
    have HO := hide hown; have HM := hide hm
    clear hown hm
    by_cases hlt : k < n
    · obtain ⟨b, off, hA, hbb, hc⟩ := (HA.out.on hbw) (by omega)
      subst hA
      obtain ⟨c0, c1, c2, c3⟩ := load4 hlt hc
      rw [dv0] at c0; rw [dv1] at c1; rw [dv2] at c2; rw [dv3] at c3
      have hbx := below_al (o := .cells #[.int .i64 (D k).who, .int .i64 (D k).beg, .int .i64 (D k).fin, .bool (D k).chief] 39) hbw
      have HBX := hide (Blk.new wr 39 #[.int .i64 (D k).who, .int .i64 (D k).beg, .int .i64 (D k).fin, .bool (D k).chief])
      obtain ⟨u, hu⟩ : ∃ u, P (D k) = u := ⟨_, rfl⟩
      have HU := hide hu
      have HT := hide (fun W hW => HF.out W k hlt hW)
      clear hc hu
      go_wp2_with fail
      refine (HT.out _ hbx).mono ?_
      rintro e w1 ⟨rfl, hb1⟩
      rw [HU.out]
      have hq1 := below_call hbx hb1
      have HB1 := HBX.out.below hb1 HBX.out.lt
      have l0 := HB1.cell 0; have l1 := HB1.cell 1; have l2 := HB1.cell 2; have l3 := HB1.cell 3; have l4 := HB1.lt
      simp only [List.getElem?_toArray, List.getElem?_cons_zero, List.getElem?_cons_succ] at l0 l1 l2 l3
      have HO1 := hide (row_below (row_below HO.out (below_al (o := .cells #[.int .i64 (D k).who, .int .i64 (D k).beg, .int .i64 (D k).fin, .bool (D k).chief] 39) (Below.refl _ _))) hb1)
      clear HB1 hb1 HT HO c0 c1 c2 c3
      cases u
      · have hL : (Ln D (k + 1)).filter P = (Ln D k).filter P := by rw [Ln_succ, List.filter_append]; simp [HU.out]
        have HL := hide hL
        clear hL
        go_wp2
        go_roundw
        case rel => exact ⟨k + 1, g, cap, m, by omega, by go_num, rfl, by rw [HL.out]; exact HM.out, by omega, hq1, by rw [HL.out]; exact HO1.out⟩
        case measure => simp [intOf]; omega
      · have hL : (Ln D (k + 1)).filter P = (Ln D k).filter P ++ [D k] := by rw [Ln_succ, List.filter_append]; simp [HU.out]
        have HL := hide hL
        have hlt1 := HO1.out.lt
        clear hL
        go_wp2_with (at_builtin; refine wpList_append_far _ rfl _ _ 24 rfl w.heap.size 39 i0 (.agg #[.int .i64 0, .int .i64 0, .int .i64 0, .bool false]) 4 32 Try.underlying24 hi0 hy0 hy1 hy2 rfl (by decide) _ _ _ (by rfl) (HO1.out.alloc _) ⟨w1.heap.size, 0, none⟩ 1 1 (dC (D k)) (by rfl) rfl (cells_at _ _ _ _ rfl) (dC_one _) (by unfold maxLen; omega) (by omega) (by have := hq1.size; simp only [World.size_alloc]; omega) ?_; intro v6 w6 hown6 hgrow6 _; obtain ⟨g6, cap6, rfl⟩ := row_formD hown6 (Nat.succ_pos _))
        have hrow : w6.ownsRow w.heap.size 39 4 (.slice (some ⟨g6, 0, none⟩) (m + 1) cap6) (m + 1) (((Ln D (k + 1)).filter P).flatMap dC) := by
          rw [HL.out, ← flat_snoc]; exact hown6
        have hbw6 := (below_al (o := .cells (dC (D k)).toArray 39) hq1).grown hgrow6 (by have := hq1.size; simp only [World.size_alloc]; omega) (fun gg hg => (hlt1 gg hg).1)
        have H1 := hide hrow; have H2 := hide hbw6
        clear hown6 hgrow6 hrow hbw6 hlt1
        go_wp2
        go_roundw
        case rel => exact ⟨k + 1, g6, cap6, m + 1, by omega, by go_num, rfl, by rw [HL.out, List.length_append, ← HM.out]; rfl, by omega, H2.out, H1.out⟩
        case measure => simp [intOf]; omega
    · obtain rfl : k = n := by omega
      go_wp2
      go_returns
      exact ⟨g, cap, m, rfl, HM.out, hbw, HO.out⟩

def hasB (h : Int) (d : Du) : Bool := inB h d.beg (d.fin - 1)
set_option maxHeartbeats 1000000 in
theorem has_hour (d : Du) (h : Int) (hd : OneD d) (bh : Nat) (w : World) (hh : Cells w bh [.int .i64 h]) :
    Calls Try.prog 68 #[.agg #[.int .i64 d.who, .int .i64 d.beg, .int .i64 d.fin, .bool d.chief], .pointer (some ⟨bh, 0, none⟩)] w fun e w' => e = .returned (.bool (hasB h d)) ∧ Below w.heap.size w w' := by
  have hfa := frozen_al; have hfo := frozen_out
  obtain ⟨a1, a2, a3, a4, a5, a6⟩ := hd
  have hb0 : Below w.heap.size w (w.alloc (.cells #[.int .i64 d.who, .int .i64 d.beg, .int .i64 d.fin, .bool d.chief] 39)) := below_al (Below.refl _ _)
  have l0 := (hh.on hb0).2 0 _ rfl
  have l1 := (hh.on hb0).1
  obtain ⟨v, hv⟩ : ∃ v, inB h d.beg (d.fin - 1) = v := ⟨_, rfl⟩
  have HV := hide (show v = hasB h d from hv.symm)
  go_enter Try.func68, Try.ntmps68
  go_wp2_with (go_at_call 40; refine (impl_in _ _ _ _ (by assumption) _).mono ?_; rintro e w' ⟨rfl, rfl⟩)
  go_returns
  exact ⟨ret_bool (by rw [← HV.out]; try rfl), hb0⟩
set_option maxHeartbeats 1000000 in
theorem impl_on (A : Option Addr) (n c : Nat) (D : Nat → Du) (h : Int) (w : World) (hn : n ≤ 14) (ha : Arr w w.heap.size A n 4 (dv D)) (hD : ∀ i, i < n → OneD (D i)) :
    Calls Try.prog 36 #[.slice A n c, .int .i64 h] w fun e w' => ∃ g cap m, e = .returned (.slice (some ⟨g, 0, none⟩) m cap) ∧ m = ((Ln D n).filter (hasB h)).length ∧ Below w.heap.size w w' ∧ w'.ownsRow w.heap.size 39 4 (.slice (some ⟨g, 0, none⟩) m cap) m (((Ln D n).filter (hasB h)).flatMap dC) := by
  have HA := hide ha; have HD := hide hD
  clear ha hD
  have hbh : Cells (w.alloc (.cells #[.int .i64 h] 3)) w.heap.size [.int .i64 h] := Cells.new w _ _ _ rfl
  have hb0 : Below w.heap.size w (w.alloc (.cells #[.int .i64 h] 3)) := below_al (Below.refl _ _)
  have HB := hide hbh
  go_enter Try.func36, Try.ntmps36
  go_wp2_with fail
  refine (filter_on w.heap.size A n c D (hasB h) _ hn (HA.out.on hb0) (fun W k hk hW => has_hour (D k) h (HD.out k hk) w.heap.size W (HB.out.on hW))).mono ?_
  rintro e w1 ⟨g, cap, m, rfl, hm, hb1, hrow⟩
  have HR := hide hrow; have HM := hide hm
  have hq := below_call hb0 hb1
  clear hrow hm
  go_wp2
  go_returns
  exact ⟨g, cap, m, rfl, HM.out, hq, row_base HR.out hb0.size⟩
def whoN (D : Nat → Du) (i : Nat) : Nat := (D i).who.toNat
def whoS (D : Nat → Du) (n : Nat) : List Nat := (List.range n).map (whoN D)
theorem whoS_succ (D : Nat → Du) (n : Nat) : whoS D (n + 1) = whoS D n ++ [whoN D n] := by simp [whoS, List.range_succ]
theorem whoS_len (D : Nat → Du) (n : Nat) : (whoS D n).length = n := by simp [whoS]
def whoL (D : Nat → Du) (n : Nat) : List Nat := (List.range 51).filter fun x => decide (∃ i, i < n ∧ whoN D i = x)
theorem rng_up (p : Nat → Bool) : ((List.range 51).filter p).Pairwise (· < ·) := List.Pairwise.filter _ List.pairwise_lt_range
theorem whoL_eq {D : Nat → Du} {n : Nat} (hD : ∀ i, i < n → OneD (D i)) : compS (insG (whoS D n) n) n = whoL D n := by
  refine asc_ext (compS_up (insG_up _ _) (by rw [insG_len]; exact Nat.le_refl _)) (rng_up _) fun x => ?_
  have hg : ∀ k, k < n → (whoS D n).getD k 0 = whoN D k := fun k hk => by simp [whoS, List.getD, hk]
  rw [mem_compS]
  unfold whoL
  rw [List.mem_filter, List.mem_range, decide_eq_true_eq]
  constructor
  · rintro ⟨j, hj, e⟩
    have hm : x ∈ insG (whoS D n) n := by rw [e]; simp [List.getD, insG_len, hj]
    obtain ⟨k, hk, e2⟩ := mem_insG.1 hm
    rw [hg k hk] at e2
    have := hD k hk
    have h1 := this.w1; have h2 := this.w2
    refine ⟨by rw [e2]; unfold whoN; omega, k, hk, e2.symm⟩
  · rintro ⟨_, k, hk, e⟩
    have hm : x ∈ insG (whoS D n) n := mem_insG.2 ⟨k, hk, by rw [hg k hk]; exact e.symm⟩
    obtain ⟨j, hj, e2⟩ := List.getElem_of_mem hm
    rw [insG_len] at hj
    exact ⟨j, hj, by rw [← e2]; simp [List.getD, insG_len, hj]⟩
set_option maxRecDepth 100000 in
theorem sort_any (g cap n base : Nat) (l : List Nat) (w : World) (hl : l.length = n) (hn : n ≤ 12) (hown : w.ownsRow base 3 1 (.slice (some ⟨g, 0, none⟩) n cap) n (nl l)) :
    Calls Try.prog 70 #[.slice (some ⟨g, 0, none⟩) n cap] w
      fun e w' => e = .returned (.tuple #[]) ∧ w.grownBy w' (some g) ∧ CeS cap w' g n (fun p => (insG l n).getD p 0) := by
  obtain ⟨hcel, hb, hnc, hcm⟩ := ces_of_nl hl hown
  have HC := hide hcel
  clear hcel hown
  go_enter Try.func70, Try.ntmps70
  go_wp2_with fail
  refine (len_short n hn _).mono ?_
  rintro e w1 ⟨z, rfl, rfl⟩
  go_wp2_with fail
  refine (pdq_short _ _ _ _ l _ hl hn hnc HC.out).mono ?_
  rintro e w2 ⟨rfl, hg2, hc2⟩
  have H2 := hide hc2; have HG := hide hg2
  clear hc2 hg2
  go_wp2
  exact bodyPost_end (v := .tuple #[]) (by simp [results, Try.results70, go_sem]) rfl ⟨rfl, HG.out, H2.out⟩
set_option maxHeartbeats 2000000 in
set_option maxRecDepth 100000 in
theorem impl_whos (A : Option Addr) (n c : Nat) (D : Nat → Du) (w : World) (hn : n ≤ 12) (ha : Arr w w.heap.size A n 4 (dv D)) (hD : ∀ i, i < n → OneD (D i)) :
    Calls Try.prog 41 #[.slice A n c] w fun e w' => ∃ g cap m, e = .returned (.slice (some ⟨g, 0, none⟩) m cap) ∧ m = (whoL D n).length ∧ Below w.heap.size w w' ∧ w'.ownsRow w.heap.size 3 1 (.slice (some ⟨g, 0, none⟩) m cap) m (nl (whoL D n)) := by
  have hfa := frozen_al; have hfo := frozen_out
  obtain ⟨i0, hi0, hy0, hy1, hy2⟩ := info_parts info_int
  have HA := hide ha; have HD := hide hD
  clear ha hD
  go_enter Try.func41, Try.ntmps41
  go_wp2
  go_loopw [3, 9] (fun v y wr => ∃ (k g cap : Nat), k ≤ n ∧ y = .int .i64 k ∧ v = .slice (some ⟨g, 0, none⟩) k cap ∧ Below w.heap.size w wr ∧ wr.ownsRow w.heap.size 3 1 (.slice (some ⟨g, 0, none⟩) k cap) k (nl (whoS D k))) (fun _ y _ => n - (intOf y).toNat)
  case atStart => exact ⟨0, _, _, Nat.zero_le _, rfl, rfl, by go_grown, row_new_at _ _ _ _ _ rfl (Nat.le_refl _)⟩
  case round =>
    obtain ⟨k, g, cap, hk, rfl, rfl, hbw, hown⟩ := hrel
    have HO := hide hown
    clear hown
    by_cases hlt : k < n
    · obtain ⟨b, off, hA, hbb, hc⟩ := (HA.out.on hbw) (by omega)
      subst hA
      obtain ⟨c0, c1, c2, c3⟩ := load4 hlt hc
      rw [dv0] at c0; rw [dv1] at c1; rw [dv2] at c2; rw [dv3] at c3
      have hw1 := (HD.out k hlt).w1
      have hwn : (D k).who = ((whoN D k : Nat) : Int) := by unfold whoN; omega
      rw [hwn] at c0
      obtain ⟨x, hx⟩ : ∃ x, whoN D k = x := ⟨_, rfl⟩
      rw [hx] at c0
      have HX := hide hx
      have hbx := below_al (o := .cells #[.int .i64 (x : Int), .int .i64 (D k).beg, .int .i64 (D k).fin, .bool (D k).chief] 39) hbw
      have hlt1 := HO.out.lt
      clear hc hx hwn
      go_wp2_with (at_builtin; refine wpList_append_far _ rfl _ _ 31 rfl w.heap.size 3 i0 (.int .i64 0) 1 8 Try.underlying31 hi0 hy0 hy1 hy2 rfl (by decide) _ _ _ (by rfl) ((HO.out.alloc _).alloc _) ⟨wr.heap.size + 1, 0, none⟩ 1 1 [.int .i64 (x : Int)] (by rfl) rfl (cell_one_at _ _ _ _ (by simp)) (by intro u hu; simp only [List.mem_singleton] at hu; subst hu; rfl) (by unfold maxLen; omega) (by omega) (by have := hbw.size; simp only [World.size_alloc]; omega) ?_; intro v6 w6 hown6 hgrow6 _; obtain ⟨g6, cap6, rfl⟩ := row_formD hown6 (Nat.succ_pos _))
      have hrow : w6.ownsRow w.heap.size 3 1 (.slice (some ⟨g6, 0, none⟩) (k + 1) cap6) (k + 1) (nl (whoS D (k + 1))) := by
        rw [whoS_succ, HX.out, ← nl_app]; exact hown6
      have hbw6 := (below_al (o := .cells #[.int .i64 (x : Int)] 3) hbx).grown hgrow6 (by have := hbw.size; simp only [World.size_alloc]; omega) (fun gg hg => (hlt1 gg hg).1)
      have H1 := hide hrow; have H2 := hide hbw6
      clear hown6 hgrow6 hrow hbw6 hlt1
      go_wp2
      go_roundw
      case rel => exact ⟨k + 1, g6, cap6, by omega, by go_num, rfl, H2.out, H1.out⟩
      case measure => simp [intOf]; omega
    · obtain rfl : k = n := by omega
      obtain ⟨hcb, hcm⟩ := row_capsD HO.out
      have hg0 := (HO.out.lt g rfl)
      go_wp2_with fail
      refine (sort_any g cap k w.heap.size (whoS D k) _ (whoS_len D k) hn HO.out).mono ?_
      rintro e w1 ⟨rfl, hg1, hc1⟩
      have HC1 := hide hc1; have HG1 := hide hg1
      clear hc1 hg1
      go_wp2_with fail
      refine (compact_short g cap k (insG (whoS D k) k) _ (insG_len _ _) hn hcb hcm HC1.out).mono ?_
      rintro e w2 ⟨m, rfl, hm, hmk, hg2, hc2⟩
      rw [whoL_eq HD.out] at hm hc2
      have HM := hide hm
      have HR := hide (nl_of_ces hm.symm hc2 hg0.1 (by omega) hcm)
      have HB := hide ((hbw.grown HG1.out (by omega) (fun gg e => by injection e with e; omega)).grown hg2 (by have := HG1.out.size; omega) (fun gg e => by injection e with e; omega))
      clear hm hc2 hg2
      go_wp2
      go_returns
      exact ⟨g, cap, m, rfl, HM.out, HB.out, HR.out⟩
end Go.Proofs.Yteklalbjlmkagaa
