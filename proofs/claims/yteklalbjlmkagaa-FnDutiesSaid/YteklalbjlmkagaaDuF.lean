/- Chapter 17: OnDuty, both sides. -/
import Derived.Test.YteklalbjlmkagaaDuE
namespace Go.Proofs.Yteklalbjlmkagaa
open Go.RowKit
set_option linter.unusedVariables false
set_option linter.unusedSimpArgs false

def onL (n : Nat) (D : Nat → Du) (h : Int) : List Nat := (List.range 51).filter fun x => decide (∃ i, i < n ∧ hasB h (D i) = true ∧ whoN D i = x)
theorem onL_up (n : Nat) (D : Nat → Du) (h : Int) : (onL n D h).Pairwise (· < ·) := rng_up _
theorem mem_onL {n : Nat} {D : Nat → Du} {h : Int} (hD : ∀ i, i < n → OneD (D i)) {x : Nat} : x ∈ onL n D h ↔ ∃ i, i < n ∧ hasB h (D i) = true ∧ whoN D i = x := by
  unfold onL
  rw [List.mem_filter, List.mem_range, decide_eq_true_eq]
  refine ⟨fun h => h.2, fun hh => ⟨?_, hh⟩⟩
  obtain ⟨i, hi, _, e⟩ := hh
  have := (hD i hi).w2
  rw [← e]; unfold whoN; omega
theorem who_filter {D : Nat → Du} {n : Nat} {P : Du → Bool} {x : Nat} : (∃ i, i < ((Ln D n).filter P).length ∧ whoN (dg ((Ln D n).filter P)) i = x) ↔ ∃ i, i < n ∧ P (D i) = true ∧ whoN D i = x := by
  constructor
  · rintro ⟨i, hi, e⟩
    have hm : dg ((Ln D n).filter P) i ∈ (Ln D n).filter P := by simp [dg, List.getD, hi]
    rw [List.mem_filter] at hm
    obtain ⟨j, hj, ej⟩ := mem_Ln.1 hm.1
    refine ⟨j, hj, by rw [ej]; exact hm.2, ?_⟩
    unfold whoN at e ⊢
    rw [ej]; exact e
  · rintro ⟨i, hi, hp, e⟩
    have hm : D i ∈ (Ln D n).filter P := List.mem_filter.2 ⟨mem_Ln.2 ⟨i, hi, rfl⟩, hp⟩
    obtain ⟨j, hj, ej⟩ := List.getElem_of_mem hm
    refine ⟨j, hj, ?_⟩
    unfold whoN at e ⊢
    rw [show dg ((Ln D n).filter P) j = D i by simp [dg, List.getD, hj, ej]]
    exact e
theorem whoL_filter (D : Nat → Du) (n : Nat) (h : Int) : whoL (dg ((Ln D n).filter (hasB h))) ((Ln D n).filter (hasB h)).length = onL n D h := by
  unfold whoL onL
  congr 1
  funext x
  exact decide_eq_decide.2 who_filter
theorem filter_one {D : Nat → Du} {n : Nat} {P : Du → Bool} (hD : ∀ i, i < n → OneD (D i)) : ∀ i, i < ((Ln D n).filter P).length → OneD (dg ((Ln D n).filter P) i) := by
  intro i hi
  have hm : dg ((Ln D n).filter P) i ∈ (Ln D n).filter P := by simp [dg, List.getD, hi]
  rw [List.mem_filter] at hm
  obtain ⟨j, hj, ej⟩ := mem_Ln.1 hm.1
  rw [← ej]; exact hD j hj
theorem filter_le (D : Nat → Du) (n : Nat) (P : Du → Bool) : ((Ln D n).filter P).length ≤ n := by
  have := List.length_filter_le P (Ln D n)
  rw [Ln_len] at this
  exact this
theorem has_eq (d : Du) (h : Int) : (decide (d.beg ≤ h) && decide (h < d.fin)) = hasB h d := by
  unfold hasB inB
  rw [Bool.eq_iff_iff]
  simp only [Bool.and_eq_true, decide_eq_true_eq]
  omega
/-- Nobody has an hour twice. -/
theorem on_new {n : Nat} {D : Nat → Du} {h : Int} (hok : ∀ i, i < n → okAt D i) {k : Nat} (hk : k < n) (hh : hasB h (D k) = true) : whoN D k ∉ onL k D h := by
  intro hm
  obtain ⟨j, hj, hhj, e⟩ := (mem_onL (fun i hi => (hok i (by omega)).1)).1 hm
  have hc := (hok k hk).2.2 j hj
  have a := (hok k hk).1; have b := (hok j (by omega)).1
  have h1 := inB_of hh; have h2 := inB_of hhj
  have w1 := a.w1; have w2 := b.w1
  unfold whoN at e
  unfold clashB at hc
  rw [decide_eq_true (show (D j).who = (D k).who by omega), decide_eq_true (show (D k).beg < (D j).fin + 8 by omega), decide_eq_true (show (D k).beg ≠ (D j).fin by omega)] at hc
  simp at hc
theorem onL_yes {n : Nat} {D : Nat → Du} {h : Int} (hok : ∀ i, i < n → okAt D i) {k : Nat} (hk : k < n) (hh : hasB h (D k) = true) : onL (k + 1) D h = putL (whoN D k) (onL k D h) := by
  refine asc_ext (onL_up _ _ _) (putL_up (on_new hok hk hh) (onL_up _ _ _)) fun x => ?_
  rw [mem_onL (fun i hi => (hok i (by omega)).1), mem_putL, mem_onL (fun i hi => (hok i (by omega)).1)]
  constructor
  · rintro ⟨i, hi, h1, h2⟩
    by_cases e : i = k
    · subst e; exact .inl h2.symm
    · exact .inr ⟨i, by omega, h1, h2⟩
  · rintro (e | ⟨i, hi, h1, h2⟩)
    · exact ⟨k, Nat.lt_succ_self _, hh, e.symm⟩
    · exact ⟨i, by omega, h1, h2⟩
theorem onL_no {D : Nat → Du} {h : Int} {k : Nat} (hh : hasB h (D k) = false) : onL (k + 1) D h = onL k D h := by
  unfold onL
  congr 1
  funext x
  refine decide_eq_decide.2 ⟨fun ⟨i, hi, h1, h2⟩ => ⟨i, ?_, h1, h2⟩, fun ⟨i, hi, h1, h2⟩ => ⟨i, by omega, h1, h2⟩⟩
  by_cases e : i = k
  · subst e; rw [hh] at h1; cases h1
  · omega
theorem onL_zero (D : Nat → Du) (h : Int) : onL 0 D h = [] := by
  unfold onL
  rw [List.filter_eq_nil_iff]
  intro x _
  simp
def onOk (n : Nat) (D : Nat → Du) (h : Int) : Bool := goodB n D && inB h 0 9998
def OnPost (w : World) (ok : Bool) (R : List Nat) (e : Ending) (w' : World) : Prop := ∃ V, e = .returned (.tuple #[V, .bool ok]) ∧ Below w.heap.size w w' ∧ w'.ownsRow w.heap.size 3 1 V R.length (nl R)
theorem on_post {w w' : World} {ok : Bool} {R : List Nat} {e : Ending} {V : Value} {m : Nat} (he : e = .returned (.tuple #[V, .bool ok])) (hb : Below w.heap.size w w') (hm : m = R.length) (hr : w'.ownsRow w.heap.size 3 1 V m (nl R)) : OnPost w ok R e w' := ⟨V, he, hb, by rw [← hm]; exact hr⟩
theorem row_none (w : World) (base : Nat) (E : TypeId) (s : Nat) : w.ownsRow base E s (.slice none 0 0) 0 [] := ⟨by simp, .inl ⟨rfl, rfl⟩⟩
set_option maxHeartbeats 1000000 in
theorem impl_onDuty (A : Option Addr) (n c : Nat) (D : Nat → Du) (h : Int) (ok : Bool) (hk : onOk n D h = ok) (R : List Nat) (hR : (if ok = true then onL n D h else []) = R) (w : World) (hn : n ≤ 1048576) (hnc : n ≤ c) (hcm : c ≤ maxLen) (ha : Arr w w.heap.size A n 4 (dv D)) :
    Calls Try.prog 10 #[.slice A n c, .int .i64 h] w (OnPost w ok R) := by
  have hfa := frozen_al; have hfo := frozen_out
  have HA := hide ha; have HK := hide hk; have HR := hide hR
  clear ha hk hR
  cases hg : goodB n D
  · obtain rfl : false = ok := by rw [← HK.out, onOk, hg]; rfl
    obtain rfl : [] = R := HR.out
    have HG := hide hg
    clear hg
    go_enter Try.func10, Try.ntmps10
    go_wp2_with fail
    refine (impl_good17 A n c D _ HG.out _ hn hnc hcm (HA.out.on (by go_grown))).mono ?_
    rintro e w1 ⟨rfl, hb1⟩
    obtain ⟨qc1, qf1⟩ := bcell hb1
    have hz1 := hb1.size
    try simp only [World.size_alloc, World.size_setCell, World.size_drew] at hz1
    have hq1 : Below w.heap.size w w1 := below_call (by go_grown) hb1
    try have hl0_1 : w.heap.size < w1.heap.size := by omega
    try have hl1_1 : w.heap.size + 1 < w1.heap.size := by omega
    try have hl2_1 : w.heap.size + 2 < w1.heap.size := by omega
    try have hl3_1 : w.heap.size + 3 < w1.heap.size := by omega
    go_wp2
    go_returns
    exact on_post rfl hq1 rfl (row_none _ _ _ _)
  · cases hi : inB h 0 9998
    · obtain rfl : false = ok := by rw [← HK.out, onOk, hg, hi]; rfl
      obtain rfl : [] = R := HR.out
      have HG := hide hg
      clear hg
      go_enter Try.func10, Try.ntmps10
      go_wp2_with fail
      refine (impl_good17 A n c D _ HG.out _ hn hnc hcm (HA.out.on (by go_grown))).mono ?_
      rintro e w1 ⟨rfl, hb1⟩
      obtain ⟨qc1, qf1⟩ := bcell hb1
      have hz1 := hb1.size
      try simp only [World.size_alloc, World.size_setCell, World.size_drew] at hz1
      have hq1 : Below w.heap.size w w1 := below_call (by go_grown) hb1
      try have hl0_1 : w.heap.size < w1.heap.size := by omega
      try have hl1_1 : w.heap.size + 1 < w1.heap.size := by omega
      try have hl2_1 : w.heap.size + 2 < w1.heap.size := by omega
      try have hl3_1 : w.heap.size + 3 < w1.heap.size := by omega
      go_wp2_with (go_at_call 40; refine (impl_in _ _ _ _ (by assumption) _).mono ?_; rintro e w' ⟨rfl, rfl⟩)
      go_returns
      exact on_post rfl hq1 rfl (row_none _ _ _ _)
    · obtain rfl : true = ok := by rw [← HK.out, onOk, hg, hi]; rfl
      obtain rfl : onL n D h = R := HR.out
      obtain ⟨hn12, hok⟩ := good_of hg
      have HG := hide hg; have HD := hide (fun i hi => (hok i hi).1)
      clear hg hok
      go_enter Try.func10, Try.ntmps10
      go_wp2_with fail
      refine (impl_good17 A n c D _ HG.out _ hn hnc hcm (HA.out.on (by go_grown))).mono ?_
      rintro e w1 ⟨rfl, hb1⟩
      obtain ⟨qc1, qf1⟩ := bcell hb1
      have hz1 := hb1.size
      try simp only [World.size_alloc, World.size_setCell, World.size_drew] at hz1
      have hq1 : Below w.heap.size w w1 := below_call (by go_grown) hb1
      try have hl0_1 : w.heap.size < w1.heap.size := by omega
      try have hl1_1 : w.heap.size + 1 < w1.heap.size := by omega
      try have hl2_1 : w.heap.size + 2 < w1.heap.size := by omega
      try have hl3_1 : w.heap.size + 3 < w1.heap.size := by omega
      go_wp2_with (go_at_call 40; refine (impl_in _ _ _ _ (by assumption) _).mono ?_; rintro e w' ⟨rfl, rfl⟩)
      refine (impl_on A n c D h _ (by omega) (HA.out.on (by go_grown)) HD.out).mono ?_
      rintro e w2 ⟨g, cap, m, rfl, hm, hb2, hrow⟩
      have hq2 := below_call hq1 hb2
      have HM := hide hm; have HRW := hide hrow
      have hml : m ≤ n := by rw [hm]; exact filter_le _ _ _
      clear hm hrow hb2
      go_wp2_with fail
      refine (impl_whos (some ⟨g, 0, none⟩) m cap (dg ((Ln D n).filter (hasB h))) _ (by omega) (arr_row HRW.out HM.out.symm) (fun i hi => filter_one HD.out i (by rw [← HM.out]; exact hi))).mono ?_
      rintro e w3 ⟨g3, cap3, m3, rfl, hm3, hb3, hrow3⟩
      have hq3 := below_call hq2 hb3
      rw [HM.out, whoL_filter] at hm3 hrow3
      have HM3 := hide hm3; have HR3 := hide (row_base hrow3 hq2.size)
      clear hm3 hrow3 hb3
      go_wp2
      go_returns
      exact on_post rfl hq3 HM3.out HR3.out
set_option maxHeartbeats 2000000 in
set_option maxRecDepth 100000 in
theorem spec_onDuty (A : Option Addr) (n c : Nat) (D : Nat → Du) (h : Int) (ok : Bool) (hk : onOk n D h = ok) (R : List Nat) (hR : (if ok = true then onL n D h else []) = R) (w : World) (hn : n ≤ 1048576) (ha : Arr w w.heap.size A n 4 (dv D)) :
    Calls Try.prog 18 #[.slice A n c, .int .i64 h] w (OnPost w ok R) := by
  have hfa := frozen_al; have hfo := frozen_out
  have HA := hide ha; have HK := hide hk; have HR := hide hR
  have hba : Below w.heap.size w (w.alloc (.cells #[] 3)) := below_al (Below.refl _ _)
  have HR0 := hide (row_new_at w w.heap.size w.heap.size 1 3 rfl (Nat.le_refl _))
  clear ha hk hR
  cases hg : goodB n D
  · obtain rfl : false = ok := by rw [← HK.out, onOk, hg]; rfl
    obtain rfl : [] = R := HR.out
    have HG := hide hg
    clear hg
    go_enter Try.func18, Try.ntmps18
    go_wp2_with fail
    refine (spec_good17 A n c D _ HG.out _ hn (HA.out.on (by go_grown))).mono ?_
    rintro e w1 ⟨rfl, hb1⟩
    obtain ⟨qc1, qf1⟩ := bcell hb1
    have hz1 := hb1.size
    try simp only [World.size_alloc, World.size_setCell, World.size_drew] at hz1
    have hq1 : Below w.heap.size w w1 := below_call (by go_grown) hb1
    try have hl0_1 : w.heap.size < w1.heap.size := by omega
    try have hl1_1 : w.heap.size + 1 < w1.heap.size := by omega
    try have hl2_1 : w.heap.size + 2 < w1.heap.size := by omega
    try have hl3_1 : w.heap.size + 3 < w1.heap.size := by omega
    have HR1 := hide (row_below HR0.out hb1)
    go_wp2
    go_returns
    exact on_post rfl hq1 rfl HR1.out
  · cases hi : inB h 0 9998
    · obtain rfl : false = ok := by rw [← HK.out, onOk, hg, hi]; rfl
      obtain rfl : [] = R := HR.out
      have HG := hide hg
      clear hg
      go_enter Try.func18, Try.ntmps18
      go_wp2_with fail
      refine (spec_good17 A n c D _ HG.out _ hn (HA.out.on (by go_grown))).mono ?_
      rintro e w1 ⟨rfl, hb1⟩
      obtain ⟨qc1, qf1⟩ := bcell hb1
      have hz1 := hb1.size
      try simp only [World.size_alloc, World.size_setCell, World.size_drew] at hz1
      have hq1 : Below w.heap.size w w1 := below_call (by go_grown) hb1
      try have hl0_1 : w.heap.size < w1.heap.size := by omega
      try have hl1_1 : w.heap.size + 1 < w1.heap.size := by omega
      try have hl2_1 : w.heap.size + 2 < w1.heap.size := by omega
      try have hl3_1 : w.heap.size + 3 < w1.heap.size := by omega
      have HR1 := hide (row_below HR0.out hb1)
      go_wp2_with (go_at_call 38; refine (spec_in _ _ _ _ (by assumption) _).mono ?_; rintro e w' ⟨rfl, rfl⟩)
      go_returns
      exact on_post rfl hq1 rfl HR1.out
    · obtain rfl : true = ok := by rw [← HK.out, onOk, hg, hi]; rfl
      obtain rfl : onL n D h = R := HR.out
      obtain ⟨hn12, hok⟩ := good_of hg
      have HG := hide hg; have HOK := hide hok
      clear hg hok
      go_enter Try.func18, Try.ntmps18
      go_wp2_with fail
      refine (spec_good17 A n c D _ HG.out _ hn (HA.out.on (by go_grown))).mono ?_
      rintro e w1 ⟨rfl, hb1⟩
      obtain ⟨qc1, qf1⟩ := bcell hb1
      have hz1 := hb1.size
      try simp only [World.size_alloc, World.size_setCell, World.size_drew] at hz1
      have hq1 : Below w.heap.size w w1 := below_call (by go_grown) hb1
      try have hl0_1 : w.heap.size < w1.heap.size := by omega
      try have hl1_1 : w.heap.size + 1 < w1.heap.size := by omega
      try have hl2_1 : w.heap.size + 2 < w1.heap.size := by omega
      try have hl3_1 : w.heap.size + 3 < w1.heap.size := by omega
      have HR1 := hide (row_below HR0.out hb1)
      clear HR0
      go_wp2_with (go_at_call 38; refine (spec_in _ _ _ _ (by assumption) _).mono ?_; rintro e w' ⟨rfl, rfl⟩)
      go_loopw [6, 7] (fun v y wr => ∃ (k g cap m : Nat), k ≤ n ∧ y = .int .i64 k ∧ v = .slice (some ⟨g, 0, none⟩) m cap ∧ m = (onL k D h).length ∧ m ≤ k ∧ Below w.heap.size w wr ∧ wr.ownsRow w.heap.size 3 1 (.slice (some ⟨g, 0, none⟩) m cap) m (nl (onL k D h))) (fun _ y _ => n - (intOf y).toNat)
      case atStart => exact ⟨0, _, _, 0, Nat.zero_le _, rfl, rfl, by rw [onL_zero]; rfl, Nat.le_refl _, hq1, by rw [onL_zero]; exact HR1.out⟩
      case round =>
        clear HR1
        obtain ⟨k, g, cap, m, hk, rfl, rfl, hm, hmk, hbw, hown⟩ := hrel
        have HO := hide hown; have HM := hide hm
        clear hown hm
        by_cases hlt : k < n
        · obtain ⟨b, off, hA, hbb, hc⟩ := (HA.out.on hbw) (by omega)
          subst hA
          obtain ⟨c0, c1, c2, c3⟩ := load4 hlt hc
          rw [dv0] at c0; rw [dv1] at c1; rw [dv2] at c2; rw [dv3] at c3
          have hw1 := (HOK.out k hlt).1.w1
          have hwn : (D k).who = ((whoN D k : Nat) : Int) := by unfold whoN; omega
          obtain ⟨u, hu⟩ : ∃ u, hasB h (D k) = u := ⟨_, rfl⟩
          have HU := hide hu
          have HT := hide (fun W => (spec_has17 (D k) h u ((has_eq _ _).trans hu) W : Calls Try.prog 39 _ _ _))
          have HWN := hide hwn
          clear hc hu hwn
          go_wp2_with fail
          refine (HT.out _).mono ?_
          rintro e w1 ⟨rfl, hb2⟩
          have hq2 := below_call hbw hb2
          have HO2 := hide (row_below HO.out hb2)
          have c0' := (hb2.cell (p := ⟨b, off + k * 4, none⟩) hbb).trans c0
          have hbb2 : b < w1.heap.size := by have := hb2.size; omega
          clear HO HT hb2 c0 c1 c2 c3
          cases u
          · have HL := hide (onL_no HU.out)
            go_wp2
            go_roundw
            case rel => exact ⟨k + 1, g, cap, m, by omega, by go_num, rfl, by rw [HL.out]; exact HM.out, by omega, hq2, by rw [HL.out]; exact HO2.out⟩
            case measure => simp [intOf]; omega
          · have HL := hide (onL_yes HOK.out hlt HU.out)
            have HN := hide (on_new HOK.out hlt HU.out)
            rw [HWN.out] at c0'
            go_wp2_with fail
            refine (spec_put g cap m w.heap.size (onL k D h) (whoN D k) _ HM.out.symm (by omega) HN.out HO2.out).mono ?_
            rintro e w3 ⟨g3, cap3, rfl, hb3, _, hrow3⟩
            have hq3 := below_call hq2 hb3
            have HO3 := hide (row_base hrow3 hq2.size)
            clear hb3 hrow3
            go_wp2
            go_roundw
            case rel => exact ⟨k + 1, g3, cap3, m + 1, by omega, by go_num, rfl, by rw [HL.out, putL_len, ← HM.out], by omega, hq3, by rw [HL.out]; exact HO3.out⟩
            case measure => simp [intOf]; omega
        · obtain rfl : k = n := by omega
          go_wp2
          go_returns
          exact on_post rfl hbw HM.out HO.out
end Go.Proofs.Yteklalbjlmkagaa
