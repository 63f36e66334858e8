/- Chapter 17: the program's test of a list of duties: made by ducgen.py. -/
import Derived.Test.YteklalbjlmkagaaDuB
import Derived.Test.YteklalbjlmkagaaCmp
namespace Go.Proofs.Yteklalbjlmkagaa
open Go.RowKit
set_option linter.unusedVariables false
set_option linter.unusedSimpArgs false

def cmp2 (a b : Du) : Int := if cmpI a.beg b.beg ≠ 0 then cmpI a.beg b.beg else cmpI a.who b.who
theorem cmpI_neg {a b : Int} : cmpI a b < 0 ↔ a < b := by unfold cmpI; split <;> (try split) <;> omega
theorem cmpI_zero {a b : Int} : cmpI a b = 0 ↔ a = b := by unfold cmpI; split <;> (try split) <;> omega
theorem cmp2_bef {a b : Du} : cmp2 a b < 0 ↔ bef a b := by
  unfold cmp2 bef
  by_cases h : cmpI a.beg b.beg = 0
  · rw [if_neg (by omega), cmpI_neg]
    have := cmpI_zero.1 h
    omega
  · rw [if_pos h, cmpI_neg]
    have : ¬ a.beg = b.beg := fun e => h (cmpI_zero.2 e)
    omega
theorem or2 (a b : Int) : OrOk (fun i => if i = 0 then a else b) 2 (if a ≠ 0 then a else b) := by
  by_cases h0 : a ≠ 0
  · rw [if_pos h0]; exact .inl ⟨0, by omega, rfl, h0, by omega⟩
  · rw [if_neg h0]
    have e0 : a = 0 := by omega
    by_cases h1 : b ≠ 0
    · exact .inl ⟨1, by omega, rfl, h1, fun j hj => by obtain rfl : j = 0 := (by omega); exact e0⟩
    · exact .inr ⟨by omega, fun j hj => by rcases (by omega : j = 0 ∨ j = 1) with rfl | rfl; exact e0; show b = 0; omega⟩
theorem arr2 {W : World} {g : Nat} {t : TypeId} {a b : Int} (hb : Blk W g t #[.int .i64 a, .int .i64 b]) : Arr W W.heap.size (some ⟨g, 0, none⟩) 2 1 (iv fun i _ => if i = 0 then a else b) := by
  intro _
  refine ⟨g, 0, rfl, hb.lt, fun i j hi hj => ?_⟩
  obtain rfl : j = 0 := by omega
  rcases (by omega : i = 0 ∨ i = 1) with rfl | rfl
  · exact hb.cell 0
  · exact hb.cell 1
theorem blk_drewU {X : World} {t : TypeId} {cs : Array Value} {g : Nat} (h : g = X.heap.size) : Blk (X.alloc (.cells cs t)).drew g t cs := by
  subst h; exact Blk.new X t cs
set_option maxHeartbeats 2000000 in
set_option maxRecDepth 100000 in
theorem compare_du (d e : Du) (v : Int) (hv : cmp2 d e = v) (w : World) :
    Calls Try.prog 50 #[.agg #[.int .i64 d.who, .int .i64 d.beg, .int .i64 d.fin, .bool d.chief], .agg #[.int .i64 e.who, .int .i64 e.beg, .int .i64 e.fin, .bool e.chief]] w fun e w' => e = .returned (.int .i64 v) ∧ Below w.heap.size w w' := by
  have HV := hide hv
  clear hv
  go_enter Try.func50, Try.ntmps50
  go_wp2
  refine wp_region_still_tail 10 (by kernel_rfl) (by kernel_rfl) ?_
  change wpStill _ _ (World.drew _) (fun a' => wpList _ _ _ _ a' (World.drew _)) _ _
  simp only [List.take_succ_cons, List.take_zero, List.drop_succ_cons, List.drop_zero]
  repeat (first | still_step | still_call (compare_still _ _ _))
  refine wpStill_nil ?_
  have HO : OrOk (fun i => if i = 0 then cmpI d.beg e.beg else cmpI d.who e.who) 2 v := by rw [← HV.out]; exact or2 _ _
  go_wp2_with fail
  refine (or_ints _ 2 2 (fun i => if i = 0 then cmpI d.beg e.beg else cmpI d.who e.who) v HO _ (by omega) (arr2 (blk_drewU (by simp only [World.size_alloc])))).mono ?_
  rintro e w' ⟨rfl, rfl⟩
  go_wp2
  go_returns
  exact ⟨rfl, by go_grown⟩
def clAll (n : Nat) (D : Nat → Du) (d : Du) : Bool := decide (∀ i, i < n → clashB (D i) d = false)
theorem clAll_no {n k : Nat} {D : Nat → Du} {d : Du} (hk : k < n) (h : clashB (D k) d = true) : clAll n D d = false := decide_eq_false (fun H => by have := H k hk; rw [h] at this; cases this)
theorem clAll_yes {n : Nat} {D : Nat → Du} {d : Du} (h : ∀ i, i < n → clashB (D i) d = false) : clAll n D d = true := decide_eq_true h
theorem clAll_of {n : Nat} {D : Nat → Du} {d : Du} (h : clAll n D d = true) : ∀ i, i < n → clashB (D i) d = false := of_decide_eq_true h
theorem cells_of {w : World} {g : Nat} {t : TypeId} {x y z u : Value} (h : Blk w g t #[x, y, z, u]) : Cells w g [x, y, z, u] :=
  ⟨h.lt, fun j v hj => by
    rcases (by have := (List.getElem?_eq_some_iff.1 hj).1; simp at this; omega : j = 0 ∨ j = 1 ∨ j = 2 ∨ j = 3) with rfl | rfl | rfl | rfl <;> · simp at hj; subst hj; rw [h.cell]; rfl⟩
theorem arr_pre {w : World} {B n m k : Nat} {A : Option Addr} {f : Nat → Nat → Value} (h : Arr w B A n k f) (hm : m ≤ n) : Arr w B A m k f := by
  intro h0
  obtain ⟨b, off, rfl, hb, hc⟩ := h (by omega)
  exact ⟨b, off, rfl, hb, fun i j hi hj => hc i j (by omega) hj⟩
set_option maxHeartbeats 1000000 in
theorem free_du (d e : Du) (v : Bool) (hv : clashB e d = v) (hd : OneD d) (he : OneD e) (bd : Nat) (w : World) (hh : Cells w bd [.int .i64 d.who, .int .i64 d.beg, .int .i64 d.fin, .bool d.chief]) :
    Calls Try.prog 57 #[.agg #[.int .i64 e.who, .int .i64 e.beg, .int .i64 e.fin, .bool e.chief], .pointer (some ⟨bd, 0, none⟩)] w fun e w' => e = .returned (.bool (!v)) ∧ Below w.heap.size w w' := by
  have hfa := frozen_al; have hfo := frozen_out
  have hct := clash_together (d := e) (e := d)
  rw [hv] at hct
  have HCT := hide hct
  clear hct hv
  obtain ⟨ew, eb, ef, ec⟩ := e
  dsimp only
  have hb0 : Below w.heap.size w (w.alloc (.cells #[.int .i64 ew, .int .i64 eb, .int .i64 ef, .bool ec] 39)) := below_al (Below.refl _ _)
  have HB0 := hide hb0
  have hhc := hh.on hb0
  have l5 := hh.1
  clear hh hb0
  by_cases h1 : ew = d.who
  · subst h1
    have h2 := HCT.out
    rw [decide_eq_true (rfl : d.who = d.who)] at h2
    simp only [Bool.not_true, Bool.false_or] at h2
    have H2 := hide h2
    have l0 := hhc.2 0 _ rfl; have l1 := hhc.2 1 _ rfl; have l2 := hhc.2 2 _ rfl; have l3 := hhc.2 3 _ rfl; have l4 := hhc.1
    clear h2 HCT hhc
    go_enter Try.func57, Try.ntmps57
    go_wp2_with fail
    refine (impl_together ⟨d.who, eb, ef, ec⟩ d _ H2.out.symm he hd _).mono ?_
    rintro e w1 ⟨rfl, hb1⟩
    go_wp2
    go_returns
    exact ⟨rfl, below_call HB0.out hb1⟩
  · have h1b : (ew == d.who) = false := by simp [h1]
    obtain rfl : v = false := by
      have h2 := HCT.out
      rw [decide_eq_false h1] at h2
      cases v
      · rfl
      · simp at h2
    have l0 := hhc.2 0 _ rfl; have l1 := hhc.2 1 _ rfl; have l2 := hhc.2 2 _ rfl; have l3 := hhc.2 3 _ rfl; have l4 := hhc.1
    clear HCT hhc
    go_enter Try.func57, Try.ntmps57
    go_wp2
    go_returns
    exact ⟨rfl, HB0.out⟩
theorem not_duty (d e : Du) (v : Bool) (hv : clashB e d = v) (hd : OneD d) (he : OneD e) (bd bh : Nat) (w : World) (hh : Cells w bd [.int .i64 d.who, .int .i64 d.beg, .int .i64 d.fin, .bool d.chief]) (hf : Cells w bh [.func (.func 57) #[] #[.pointer (some ⟨bd, 0, none⟩)]]) :
    Calls Try.prog 78 #[.agg #[.int .i64 e.who, .int .i64 e.beg, .int .i64 e.fin, .bool e.chief], .pointer (some ⟨bh, 0, none⟩)] w fun e w' => e = .returned (.bool v) ∧ Below w.heap.size w w' := by
  have hfa := frozen_al; have hfo := frozen_out
  have hb0 : Below w.heap.size w (w.alloc (.cells #[.int .i64 e.who, .int .i64 e.beg, .int .i64 e.fin, .bool e.chief] 39)) := below_al (Below.refl _ _)
  have l0 := hf.2 0 _ rfl
  have l1 := hf.1
  have l2 := (hf.on hb0).2 0 _ rfl
  go_enter Try.func78, Try.ntmps78
  go_wp2_with fail
  first
    | (refine (free_du d e v hv hd he bd _ (hh.on hb0)).mono ?_; rintro e w1 ⟨rfl, hb1⟩; go_wp2; go_returns; exact ⟨ret_bool (by cases v <;> rfl), below_call hb0 hb1⟩)
    | (refine (free_du d e v hv hd he bd _ hh).mono ?_; rintro e w1 ⟨rfl, hb1⟩; go_wp2; go_returns; exact ⟨ret_bool (by cases v <;> rfl), hb1⟩)
set_option maxHeartbeats 1000000 in
theorem idx_duty (bd bh : Nat) (A : Option Addr) (n c : Nat) (D : Nat → Du) (d : Du) (w : World) (hn : n ≤ 1048576) (ha : Arr w w.heap.size A n 4 (dv D)) (hh : Cells w bd [.int .i64 d.who, .int .i64 d.beg, .int .i64 d.fin, .bool d.chief]) (hf : Cells w bh [.func (.func 57) #[] #[.pointer (some ⟨bd, 0, none⟩)]]) (hd : OneD d) (hD : ∀ i, i < n → OneD (D i)) :
    Calls Try.prog 88 #[.slice A n c, .func (.func 78) #[] #[.pointer (some ⟨bh, 0, none⟩)]] w fun e w' => ∃ r : Int, e = .returned (.int .i64 r) ∧ (!decide (0 ≤ r)) = clAll n D d ∧ Below w.heap.size w w' := by
  have HD := hide hD
  clear hD
  go_enter Try.func88, Try.ntmps88
  go_wp2
  go_loopw [8] (fun y wr => ∃ k : Nat, k ≤ n ∧ y = .int .i64 k ∧ Below w.heap.size w wr ∧ ∀ i, i < k → clashB (D i) d = false) (fun y _ => n - (intOf y).toNat)
  case atStart => exact ⟨0, Nat.zero_le _, rfl, by go_grown, all_zero⟩
  case round =>
    obtain ⟨k, hk, rfl, hbw, hall⟩ := hrel
    by_cases hlt : k < n
    · obtain ⟨b, off, rfl, hbb, hc⟩ := (ha.on hbw) (by omega)
      obtain ⟨c0, c1, c2, c3⟩ := load4 hlt hc
      rw [dv0] at c0; rw [dv1] at c1; rw [dv2] at c2; rw [dv3] at c3
      have HA := hide hall
      have hhr := hh.on hbw
      have hfr := hf.on hbw
      clear hall hc ha
      obtain ⟨u, hu⟩ : ∃ u, clashB (D k) d = u := ⟨_, rfl⟩
      have HU := hide hu
      go_wp2_with fail
      refine (not_duty d (D k) u hu hd (HD.out k hlt) bd bh _ hhr hfr).mono ?_
      rintro e w1 ⟨rfl, hb1⟩
      clear hu
      cases u
      · go_wp2
        go_roundw
        case rel => exact ⟨k + 1, by omega, by go_num, below_call hbw hb1, all_snoc HA.out HU.out⟩
        case measure => simp [intOf]; omega
      · go_wp2
        go_returns
        exact ⟨_, rfl, by rw [clAll_no hlt HU.out]; simp <;> omega, below_call hbw hb1⟩
    · obtain rfl : k = n := by omega
      have HA := hide hall
      clear hall
      go_wp2
      go_returns
      exact ⟨_, rfl, by rw [clAll_yes HA.out]; rfl, hbw⟩
theorem has_duty (bd bh : Nat) (A : Option Addr) (n c : Nat) (D : Nat → Du) (d : Du) (v : Bool) (hv : clAll n D d = v) (w : World) (hn : n ≤ 1048576) (ha : Arr w w.heap.size A n 4 (dv D)) (hh : Cells w bd [.int .i64 d.who, .int .i64 d.beg, .int .i64 d.fin, .bool d.chief]) (hf : Cells w bh [.func (.func 57) #[] #[.pointer (some ⟨bd, 0, none⟩)]]) (hd : OneD d) (hD : ∀ i, i < n → OneD (D i)) :
    Calls Try.prog 77 #[.slice A n c, .func (.func 78) #[] #[.pointer (some ⟨bh, 0, none⟩)]] w fun e w' => e = .returned (.bool (!v)) ∧ Below w.heap.size w w' := by
  go_enter Try.func77, Try.ntmps77
  go_wp2_with fail
  refine (idx_duty bd bh _ _ _ D d _ hn ha hh hf hd hD).mono ?_
  rintro e w1 ⟨r, rfl, hr, hb1⟩
  rw [hv] at hr
  go_wp2
  go_ret
  exact ⟨ret_bool (by rw [← hr]; simp), hb1⟩
theorem all_duty (bd : Nat) (A : Option Addr) (n c : Nat) (D : Nat → Du) (d : Du) (v : Bool) (hv : clAll n D d = v) (w : World) (hn : n ≤ 1048576) (ha : Arr w w.heap.size A n 4 (dv D)) (hh : Cells w bd [.int .i64 d.who, .int .i64 d.beg, .int .i64 d.fin, .bool d.chief]) (hd : OneD d) (hD : ∀ i, i < n → OneD (D i)) :
    Calls Try.prog 56 #[.slice A n c, .func (.func 57) #[] #[.pointer (some ⟨bd, 0, none⟩)]] w fun e w' => e = .returned (.bool v) ∧ Below w.heap.size w w' := by
  have hfh : Cells (w.alloc (.cells #[.func (.func 57) #[] #[.pointer (some ⟨bd, 0, none⟩)]] 48)) w.heap.size [.func (.func 57) #[] #[.pointer (some ⟨bd, 0, none⟩)]] := Cells.new w _ _ _ rfl
  have hb0 : Below w.heap.size w (w.alloc (.cells #[.func (.func 57) #[] #[.pointer (some ⟨bd, 0, none⟩)]] 48)) := below_al (Below.refl _ _)
  go_enter Try.func56, Try.ntmps56
  go_wp2_with fail
  refine (has_duty bd _ _ _ _ D d _ hv _ hn (ha.on hb0) (hh.on hb0) hfh hd hD).mono ?_
  rintro e w1 ⟨rfl, hb1⟩
  obtain ⟨qc1, qf1⟩ := bcell hb1
  have hz1 := hb1.size
  try simp only [World.size_alloc, World.size_setCell, World.size_drew] at hz1
  have hq1 : Below w.heap.size w w1 := below_call (by go_grown) hb1
  try have hl0_1 : w.heap.size < w1.heap.size := by omega
  try have hl1_1 : w.heap.size + 1 < w1.heap.size := by omega
  try have hl2_1 : w.heap.size + 2 < w1.heap.size := by omega
  try have hl3_1 : w.heap.size + 3 < w1.heap.size := by omega
  go_wp2
  go_ret
  exact ⟨ret_bool (by cases v <;> rfl), hq1⟩
set_option maxHeartbeats 8000000 in
set_option maxRecDepth 100000 in
theorem impl_good17 (A : Option Addr) (n c : Nat) (D : Nat → Du) (v : Bool) (hv : goodB n D = v) (w : World) (hn : n ≤ 1048576) (hnc : n ≤ c) (hcm : c ≤ maxLen) (ha : Arr w w.heap.size A n 4 (dv D)) :
    Calls Try.prog 26 #[.slice A n c] w fun e w' => e = .returned (.bool v) ∧ Below w.heap.size w w' := by
  have HV := hide hv; have HA := hide ha
  have hcx : c ≤ 9223372036854775807 := hcm
  clear hv ha
  go_enter Try.func26, Try.ntmps26
  go_wp2
  go_loopw [7] (fun i wr => ∃ k : Nat, k ≤ n ∧ i = .int .i64 k ∧ Below w.heap.size w wr ∧ ∀ i, i < k → okAt D i) (fun i _ => n - (intOf i).toNat)
  case atStart => exact ⟨0, Nat.zero_le _, rfl, by go_grown, all_zero⟩
  case round =>
    obtain ⟨k, hk, rfl, hb, hall⟩ := hrel
    have HALL := hide hall
    clear hall
    by_cases hlt : k < n
    · obtain ⟨b, off, hA, hbb, hc⟩ := (HA.out.on hb) (by omega)
      subst hA
      obtain ⟨c0, c1, c2, c3⟩ := load4 hlt hc
      rw [dv0] at c0; rw [dv1] at c1; rw [dv2] at c2; rw [dv3] at c3
      have HAL := hide (show Below wr.heap.size wr (wr.alloc (.cells #[.int .i64 (D k).who, .int .i64 (D k).beg, .int .i64 (D k).fin, .bool (D k).chief] 39)) from below_al (Below.refl _ _))
      have HCX := hide (Blk.new wr 39 #[.int .i64 (D k).who, .int .i64 (D k).beg, .int .i64 (D k).fin, .bool (D k).chief])
      have l0 := HCX.out.cell 0; have l1 := HCX.out.cell 1; have l2 := HCX.out.cell 2; have l3 := HCX.out.cell 3; have l4 := HCX.out.lt
      have l5 : wr.heap.size < wr.heap.size + 1 := Nat.lt_succ_self _
      simp only [List.getElem?_toArray, List.getElem?_cons_zero, List.getElem?_cons_succ] at l0 l1 l2 l3
      have hbb3 : b < wr.heap.size + 1 := by omega
      cases h0 : oneB (D k)
      · have HE := hide h0
        clear hc
        have hx := BW.cell (w := wr.alloc (.cells #[.int .i64 (D k).who, .int .i64 (D k).beg, .int .i64 (D k).fin, .bool (D k).chief] 39))
        go_wp2
        refine wp_region_bw (by kernel_rfl) (by kernel_rfl) ?_
        repeat (go_big_quiet_step ((first | (go_at_call 25; exact BW.call (impl_duty _ _ (by assumption) _)) | (go_at_call 50; exact BW.call (compare_du _ _ _ (by assumption) _)))))
        refine wpQuiet_end fun w1 hb1 => ?_
        clear hx
        go_wp2
        go_ret
        exact ⟨ret_bool (by rw [← HV.out, good_no hlt (fun h => by have := oneD_iff.1 h.1; rw [HE.out] at this; cases this)]; try rfl), hb.trans ((HAL.out.trans (hb1.mono (by simp only [World.size_alloc]; omega))).mono hb.size)⟩
      · have HE := hide h0
        rcases k with _ | p
        · simp only [Nat.zero_mul, Nat.add_zero] at c0 c1 c2 c3
          clear hc
          have hx := BW.cell (w := wr.alloc (.cells #[.int .i64 (D 0).who, .int .i64 (D 0).beg, .int .i64 (D 0).fin, .bool (D 0).chief] 39))
          go_wp2
          refine wp_region_bw (by kernel_rfl) (by kernel_rfl) ?_
          repeat (go_big_quiet_step ((first | (go_at_call 25; exact BW.call (impl_duty _ _ (by assumption) _)) | (go_at_call 50; exact BW.call (compare_du _ _ _ (by assumption) _)))))
          refine wpQuiet_end fun w1 hb1 => ?_
          clear hx
          have HC1 := hide (HCX.out.below hb1 (by simp))
          have hq0 : Below wr.heap.size wr w1 := below_call HAL.out hb1
          have hkc : (0 : Nat) ≤ c := by omega
          have hkc2 : ((0 : Nat) : Int) ≤ (c : Int) := by omega
          clear hb1 l0 l1 l2 l3 l4 c0 c1 c2 c3 
          obtain ⟨u, hu⟩ : ∃ u, clAll (0) D (D (0)) = u := ⟨_, rfl⟩
          have HU := hide hu
          have HT := hide (fun W (hW : Below w1.heap.size w1 W) => (all_duty wr.heap.size (some ⟨b, off, none⟩) (0) c D (D (0)) u hu W (by omega) (arr_pre (HA.out.on (below_call hb (below_call hq0 hW))) (by omega)) (cells_of (HC1.out.below hW HC1.out.lt)) (one_of HE.out) (fun i hi => (HALL.out i (by omega)).1) : Calls Try.prog 56 _ _ _))
          clear hu
          go_wp2_with fail
          refine (HT.out _ (by go_grown)).mono ?_
          rintro e w2 ⟨rfl, hb2⟩
          have hq2 : Below wr.heap.size wr w2 := below_call hq0 (show Below w1.heap.size w1 w2 from below_call (by go_grown) hb2)
          clear HT HC1 hb2 hq0
          cases u
          · go_wp2
            go_ret
            exact ⟨ret_bool (by rw [← HV.out, good_no hlt (fun h => by have := clAll_yes (n := 0) (fun i hi => h.2.2 i hi); rw [HU.out] at this; cases this)]; try rfl), below_call hb hq2⟩
          · go_wp2
            go_roundw
            case rel => exact ⟨0 + 1, by omega, by go_num, below_call hb hq2, fun i hi => by
              by_cases e : i = 0
              · rw [e]; exact ⟨one_of HE.out, fun h => absurd h (by omega), clAll_of HU.out⟩
              · exact HALL.out i (by omega)⟩
            case measure => simp [intOf]; omega
        · skip
          have hp : p < n := by omega
          obtain ⟨e0, e1, e2, e3⟩ := load4 hp hc
          rw [dv0] at e0; rw [dv1] at e1; rw [dv2] at e2; rw [dv3] at e3
          have p0 := (World.cell?_alloc_lt wr (.cells #[.int .i64 (D (p + 1)).who, .int .i64 (D (p + 1)).beg, .int .i64 (D (p + 1)).fin, .bool (D (p + 1)).chief] 39) ⟨b, off + p * 4, none⟩ hbb).trans e0
          have p1 := (World.cell?_alloc_lt wr (.cells #[.int .i64 (D (p + 1)).who, .int .i64 (D (p + 1)).beg, .int .i64 (D (p + 1)).fin, .bool (D (p + 1)).chief] 39) ⟨b, off + p * 4 + 1, none⟩ hbb).trans e1
          have p2 := (World.cell?_alloc_lt wr (.cells #[.int .i64 (D (p + 1)).who, .int .i64 (D (p + 1)).beg, .int .i64 (D (p + 1)).fin, .bool (D (p + 1)).chief] 39) ⟨b, off + p * 4 + 2, none⟩ hbb).trans e2
          have p3 := (World.cell?_alloc_lt wr (.cells #[.int .i64 (D (p + 1)).who, .int .i64 (D (p + 1)).beg, .int .i64 (D (p + 1)).fin, .bool (D (p + 1)).chief] 39) ⟨b, off + p * 4 + 3, none⟩ hbb).trans e3
          have hj1 : (0 : Int) ≤ (p : Int) := by omega
          obtain ⟨r, hr⟩ : ∃ r, cmp2 (D p) (D (p + 1)) = r := ⟨_, rfl⟩
          have HR := hide hr
          clear hc e0 e1 e2 e3
          by_cases h1 : r < 0
          · have g1 : decide ((0 : Int) ≤ r) = false := decide_eq_false (by omega)
            have HUP := hide (show bef (D p) (D (p + 1)) from cmp2_bef.1 (by rw [HR.out]; exact h1))
            have hx := BW.cell (w := wr.alloc (.cells #[.int .i64 (D (p + 1)).who, .int .i64 (D (p + 1)).beg, .int .i64 (D (p + 1)).fin, .bool (D (p + 1)).chief] 39))
            go_wp2
            refine wp_region_bw (by kernel_rfl) (by kernel_rfl) ?_
            repeat (go_big_quiet_step ((first | (go_at_call 25; exact BW.call (impl_duty _ _ (by assumption) _)) | (go_at_call 50; exact BW.call (compare_du _ _ _ (by assumption) _)))))
            refine wpQuiet_end fun w1 hb1 => ?_
            clear hx
            have HC1 := hide (HCX.out.below hb1 (by simp))
            have hq0 : Below wr.heap.size wr w1 := below_call HAL.out hb1
            have hkc : (p + 1 : Nat) ≤ c := by omega
            have hkc2 : ((p + 1 : Nat) : Int) ≤ (c : Int) := by omega
            clear hb1 l0 l1 l2 l3 l4 c0 c1 c2 c3 p0 p1 p2 p3 g1 h1
            obtain ⟨u, hu⟩ : ∃ u, clAll (p + 1) D (D (p + 1)) = u := ⟨_, rfl⟩
            have HU := hide hu
            have HT := hide (fun W (hW : Below w1.heap.size w1 W) => (all_duty wr.heap.size (some ⟨b, off, none⟩) (p + 1) c D (D (p + 1)) u hu W (by omega) (arr_pre (HA.out.on (below_call hb (below_call hq0 hW))) (by omega)) (cells_of (HC1.out.below hW HC1.out.lt)) (one_of HE.out) (fun i hi => (HALL.out i (by omega)).1) : Calls Try.prog 56 _ _ _))
            clear hu
            go_wp2_with fail
            refine (HT.out _ (by go_grown)).mono ?_
            rintro e w2 ⟨rfl, hb2⟩
            have hq2 : Below wr.heap.size wr w2 := below_call hq0 (show Below w1.heap.size w1 w2 from below_call (by go_grown) hb2)
            clear HT HC1 hb2 hq0
            cases u
            · go_wp2
              go_ret
              exact ⟨ret_bool (by rw [← HV.out, good_no hlt (fun h => by have := clAll_yes (n := p + 1) (fun i hi => h.2.2 i hi); rw [HU.out] at this; cases this)]; try rfl), below_call hb hq2⟩
            · go_wp2
              go_roundw
              case rel => exact ⟨p + 1 + 1, by omega, by go_num, below_call hb hq2, fun i hi => by
                by_cases e : i = p + 1
                · rw [e]; exact ⟨one_of HE.out, fun _ => HUP.out, clAll_of HU.out⟩
                · exact HALL.out i (by omega)⟩
              case measure => simp [intOf]; omega
          · have g1 : decide ((0 : Int) ≤ r) = true := decide_eq_true (by omega)
            have hx := BW.cell (w := wr.alloc (.cells #[.int .i64 (D (p + 1)).who, .int .i64 (D (p + 1)).beg, .int .i64 (D (p + 1)).fin, .bool (D (p + 1)).chief] 39))
            go_wp2
            refine wp_region_bw (by kernel_rfl) (by kernel_rfl) ?_
            repeat (go_big_quiet_step ((first | (go_at_call 25; exact BW.call (impl_duty _ _ (by assumption) _)) | (go_at_call 50; exact BW.call (compare_du _ _ _ (by assumption) _)))))
            refine wpQuiet_end fun w1 hb1 => ?_
            clear hx
            go_wp2
            go_ret
            exact ⟨ret_bool (by rw [← HV.out, good_no hlt (fun h => by have := h.2.1 (Nat.succ_pos _); rw [Nat.add_sub_cancel] at this; have := cmp2_bef.2 this; rw [HR.out] at this; omega)]; try rfl), hb.trans ((HAL.out.trans (hb1.mono (by simp only [World.size_alloc]; omega))).mono hb.size)⟩
    · obtain rfl : k = n := by omega
      go_wp2
      go_ret
      exact ⟨ret_bool (by rw [← HV.out, good_yes HALL.out]; simp; omega), hb⟩
end Go.Proofs.Yteklalbjlmkagaa
