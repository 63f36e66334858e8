/- Chapter 17: LeaderAt, both sides. -/
import Derived.Test.YteklalbjlmkagaaDuF
namespace Go.Proofs.Yteklalbjlmkagaa
open Go.RowKit
set_option linter.unusedVariables false
set_option linter.unusedSimpArgs false

def leadL (n : Nat) (D : Nat → Du) (h : Int) : List Nat := (List.range 51).filter fun x => decide (∃ i, i < n ∧ (hasB h (D i) = true ∧ (D i).chief = true) ∧ whoN D i = x)
theorem leadL_up (n : Nat) (D : Nat → Du) (h : Int) : (leadL n D h).Pairwise (· < ·) := rng_up _
theorem mem_leadL {n : Nat} {D : Nat → Du} {h : Int} (hD : ∀ i, i < n → OneD (D i)) {x : Nat} : x ∈ leadL n D h ↔ ∃ i, i < n ∧ (hasB h (D i) = true ∧ (D i).chief = true) ∧ whoN D i = x := by
  unfold leadL
  rw [List.mem_filter, List.mem_range, decide_eq_true_eq]
  refine ⟨fun h => h.2, fun hh => ⟨?_, hh⟩⟩
  obtain ⟨i, hi, _, e⟩ := hh
  have := (hD i hi).w2
  rw [← e]; unfold whoN; omega
theorem ex_filter {D : Nat → Du} {n : Nat} {P : Du → Bool} {Q : Du → Prop} : (∃ i, i < ((Ln D n).filter P).length ∧ Q (dg ((Ln D n).filter P) i)) ↔ ∃ i, i < n ∧ P (D i) = true ∧ Q (D i) := by
  constructor
  · rintro ⟨i, hi, e⟩
    have hm : dg ((Ln D n).filter P) i ∈ (Ln D n).filter P := by simp [dg, List.getD, hi]
    rw [List.mem_filter] at hm
    obtain ⟨j, hj, ej⟩ := mem_Ln.1 hm.1
    exact ⟨j, hj, by rw [ej]; exact hm.2, by rw [ej]; exact e⟩
  · rintro ⟨i, hi, hp, e⟩
    have hm : D i ∈ (Ln D n).filter P := List.mem_filter.2 ⟨mem_Ln.2 ⟨i, hi, rfl⟩, hp⟩
    obtain ⟨j, hj, ej⟩ := List.getElem_of_mem hm
    exact ⟨j, hj, by rw [show dg ((Ln D n).filter P) j = D i by simp [dg, List.getD, hj, ej]]; exact e⟩
theorem whoL_lead (D : Nat → Du) (n m : Nat) (h : Int) (hm : m = ((Ln D n).filter (hasB h)).length) :
    whoL (dg ((Ln (dg ((Ln D n).filter (hasB h))) m).filter fun d => d.chief)) ((Ln (dg ((Ln D n).filter (hasB h))) m).filter fun d => d.chief).length = leadL n D h := by
  subst hm
  unfold whoL leadL
  congr 1
  funext x
  refine decide_eq_decide.2 ?_
  have h1 := ex_filter (D := dg ((Ln D n).filter (hasB h))) (n := ((Ln D n).filter (hasB h)).length) (P := fun d => d.chief) (Q := fun d => d.who.toNat = x)
  have h2 := ex_filter (D := D) (n := n) (P := hasB h) (Q := fun d => d.chief = true ∧ d.who.toNat = x)
  unfold whoN
  rw [h1, h2]
  constructor
  · rintro ⟨i, hi, a, b, c⟩; exact ⟨i, hi, ⟨a, b⟩, c⟩
  · rintro ⟨i, hi, ⟨a, b⟩, c⟩; exact ⟨i, hi, a, b, c⟩
theorem head_min {l : List Nat} (h : l.Pairwise (· < ·)) {z : Nat} (hz : z ∈ l) (hm : ∀ y, y ∈ l → z ≤ y) : l.getD 0 0 = z := by
  cases l with
  | nil => cases hz
  | cons a t =>
    rw [List.pairwise_cons] at h
    show a = z
    have h1 := hm a (List.mem_cons_self ..)
    rcases List.mem_cons.1 hz with e | e
    · exact e.symm
    · have := h.1 z e; omega
def BestI (l : List Nat) (z : Nat) : Prop := (z = 0 ∧ ∀ y, y ∉ l) ∨ (1 ≤ z ∧ z ∈ l ∧ ∀ y, y ∈ l → z ≤ y)
theorem lead_no {n : Nat} {D : Nat → Du} {h : Int} {k z : Nat} (hD : ∀ i, i < k + 1 → OneD (D i)) (hh : ¬ (hasB h (D k) = true ∧ (D k).chief = true)) (hb : BestI (leadL k D h) z) : BestI (leadL (k + 1) D h) z := by
  have e : leadL (k + 1) D h = leadL k D h := by
    unfold leadL
    congr 1
    funext x
    refine decide_eq_decide.2 ⟨fun ⟨i, hi, h1, h2⟩ => ⟨i, ?_, h1, h2⟩, fun ⟨i, hi, h1, h2⟩ => ⟨i, by omega, h1, h2⟩⟩
    by_cases e : i = k
    · subst e; exact absurd h1 hh
    · omega
  rw [e]; exact hb
theorem lead_mem {D : Nat → Du} {h : Int} {k : Nat} (hD : ∀ i, i < k + 1 → OneD (D i)) (hh : hasB h (D k) = true ∧ (D k).chief = true) {y : Nat} : y ∈ leadL (k + 1) D h ↔ y = whoN D k ∨ y ∈ leadL k D h := by
  rw [mem_leadL hD, mem_leadL (fun i hi => hD i (by omega))]
  constructor
  · rintro ⟨i, hi, h1, h2⟩
    by_cases e : i = k
    · subst e; exact .inl h2.symm
    · exact .inr ⟨i, by omega, h1, h2⟩
  · rintro (e | ⟨i, hi, h1, h2⟩)
    · exact ⟨k, Nat.lt_succ_self _, hh, e.symm⟩
    · exact ⟨i, by omega, h1, h2⟩
theorem lead_take {D : Nat → Du} {h : Int} {k z : Nat} (hD : ∀ i, i < k + 1 → OneD (D i)) (hh : hasB h (D k) = true ∧ (D k).chief = true) (hb : BestI (leadL k D h) z) (hz : z = 0 ∨ whoN D k < z) : BestI (leadL (k + 1) D h) (whoN D k) := by
  have hw := (hD k (Nat.lt_succ_self _)).w1
  refine .inr ⟨by unfold whoN; omega, (lead_mem hD hh).2 (.inl rfl), fun y hy => ?_⟩
  rcases (lead_mem hD hh).1 hy with e | e
  · omega
  · rcases hb with ⟨_, h2⟩ | ⟨_, _, h2⟩
    · exact absurd e (h2 y)
    · have := h2 y e; omega
theorem lead_keep {D : Nat → Du} {h : Int} {k z : Nat} (hD : ∀ i, i < k + 1 → OneD (D i)) (hh : hasB h (D k) = true ∧ (D k).chief = true) (hb : BestI (leadL k D h) z) (h0 : ¬ z = 0) (hz : ¬ whoN D k < z) : BestI (leadL (k + 1) D h) z := by
  rcases hb with ⟨h1, _⟩ | ⟨h1, h2, h3⟩
  · exact absurd h1 h0
  · refine .inr ⟨h1, (lead_mem hD hh).2 (.inr h2), fun y hy => ?_⟩
    rcases (lead_mem hD hh).1 hy with e | e
    · omega
    · exact h3 y e
theorem best_end {l : List Nat} {z : Nat} (hu : l.Pairwise (· < ·)) (hb : BestI l z) : decide (0 < z) = decide (0 < l.length) ∧ (0 < z → l.getD 0 0 = z) := by
  rcases hb with ⟨h1, h2⟩ | ⟨h1, h2, h3⟩
  · have : l = [] := List.eq_nil_iff_forall_not_mem.2 h2
    subst this; subst h1
    exact ⟨rfl, fun h => absurd h (by omega)⟩
  · have hl : 0 < l.length := List.length_pos_of_mem h2
    exact ⟨by rw [decide_eq_true hl, decide_eq_true (by omega)], fun _ => head_min hu h2 h3⟩
def leadR (l : List Nat) (b : Bool) : Int := if b = true then (l.getD 0 0 : Nat) else 0
set_option maxHeartbeats 2000000 in
theorem impl_lead (A : Option Addr) (n c : Nat) (D : Nat → Du) (h : Int) (ok : Bool) (hk : onOk n D h = ok) (b : Bool) (hb : (ok && decide (0 < (leadL n D h).length)) = b) (r : Int) (hr : leadR (leadL n D h) b = r) (w : World) (hn : n ≤ 1048576) (hnc : n ≤ c) (hcm : c ≤ maxLen) (ha : Arr w w.heap.size A n 4 (dv D)) :
    Calls Try.prog 19 #[.slice A n c, .int .i64 h] w fun e w' => e = .returned (.tuple #[.int .i64 r, .bool b]) ∧ Below w.heap.size w w' := by
  have hfa := frozen_al; have hfo := frozen_out
  have HA := hide ha; have HK := hide hk; have HR := hide hr; have HB := hide hb
  clear ha hk hr hb
  cases hg : goodB n D
  · obtain rfl : false = ok := by rw [← HK.out, onOk, hg]; rfl
    obtain rfl : false = b := HB.out
    obtain rfl : 0 = r := HR.out
    have HG := hide hg
    clear hg
    go_enter Try.func19, Try.ntmps19
    go_wp2_with fail
    refine (impl_good17 A n c D _ HG.out _ hn hnc hcm (HA.out.on (by go_grown))).mono ?_
    rintro e w1 ⟨rfl, hb1⟩
    obtain ⟨qc1, qf1⟩ := bcell hb1
    have hz1 := hb1.size
    try simp only [World.size_alloc, World.size_setCell, World.size_drew] at hz1
    have hq1 : Below w.heap.size w w1 := below_call (by go_grown) hb1
    try have hl0_1 : w.heap.size < w1.heap.size := by omega
    try have hl1_1 : w.heap.size + 1 < w1.heap.size := by omega
    try have hl2_1 : w.heap.size + 2 < w1.heap.size := by omega
    try have hl3_1 : w.heap.size + 3 < w1.heap.size := by omega
    go_wp2
    go_returns
    exact ⟨rfl, hq1⟩
  · cases hi : inB h 0 9998
    · obtain rfl : false = ok := by rw [← HK.out, onOk, hg, hi]; rfl
      obtain rfl : false = b := HB.out
      obtain rfl : 0 = r := HR.out
      have HG := hide hg
      clear hg
      go_enter Try.func19, Try.ntmps19
      go_wp2_with fail
      refine (impl_good17 A n c D _ HG.out _ hn hnc hcm (HA.out.on (by go_grown))).mono ?_
      rintro e w1 ⟨rfl, hb1⟩
      obtain ⟨qc1, qf1⟩ := bcell hb1
      have hz1 := hb1.size
      try simp only [World.size_alloc, World.size_setCell, World.size_drew] at hz1
      have hq1 : Below w.heap.size w w1 := below_call (by go_grown) hb1
      try have hl0_1 : w.heap.size < w1.heap.size := by omega
      try have hl1_1 : w.heap.size + 1 < w1.heap.size := by omega
      try have hl2_1 : w.heap.size + 2 < w1.heap.size := by omega
      try have hl3_1 : w.heap.size + 3 < w1.heap.size := by omega
      go_wp2_with (go_at_call 40; refine (impl_in _ _ _ _ (by assumption) _).mono ?_; rintro e w' ⟨rfl, rfl⟩)
      go_returns
      exact ⟨rfl, hq1⟩
    · obtain rfl : true = ok := by rw [← HK.out, onOk, hg, hi]; rfl
      obtain ⟨hn12, hok⟩ := good_of hg
      have HG := hide hg; have HD := hide (fun i hi => (hok i hi).1)
      clear hg hok
      go_enter Try.func19, Try.ntmps19
      go_wp2_with fail
      refine (impl_good17 A n c D _ HG.out _ hn hnc hcm (HA.out.on (by go_grown))).mono ?_
      rintro e w1 ⟨rfl, hb1⟩
      obtain ⟨qc1, qf1⟩ := bcell hb1
      have hz1 := hb1.size
      try simp only [World.size_alloc, World.size_setCell, World.size_drew] at hz1
      have hq1 : Below w.heap.size w w1 := below_call (by go_grown) hb1
      try have hl0_1 : w.heap.size < w1.heap.size := by omega
      try have hl1_1 : w.heap.size + 1 < w1.heap.size := by omega
      try have hl2_1 : w.heap.size + 2 < w1.heap.size := by omega
      try have hl3_1 : w.heap.size + 3 < w1.heap.size := by omega
      go_wp2_with (go_at_call 40; refine (impl_in _ _ _ _ (by assumption) _).mono ?_; rintro e w' ⟨rfl, rfl⟩)
      refine (impl_on A n c D h _ (by omega) (HA.out.on (by go_grown)) HD.out).mono ?_
      rintro e w2 ⟨g, cap, m, rfl, hm, hb2, hrow⟩
      have hq2 := below_call hq1 hb2
      have HM := hide hm; have HRW := hide hrow
      have hml : m ≤ n := by rw [hm]; exact filter_le _ _ _
      have HD2 := hide (show ∀ i, i < m → OneD (dg ((Ln D n).filter (hasB h)) i) from fun i hi => filter_one HD.out i (by rw [← hm]; exact hi))
      clear hm hrow hb2
      have hch : ∀ (W : World) (k : Nat), k < m → Below w2.heap.size w2 W → Calls Try.prog 55 #[.agg #[.int .i64 (dg ((Ln D n).filter (hasB h)) k).who, .int .i64 (dg ((Ln D n).filter (hasB h)) k).beg, .int .i64 (dg ((Ln D n).filter (hasB h)) k).fin, .bool (dg ((Ln D n).filter (hasB h)) k).chief]] W fun e w' => e = .returned (.bool ((fun d : Du => d.chief) (dg ((Ln D n).filter (hasB h)) k))) ∧ Below W.heap.size W w' := by
        intro W k _ _
        go_enter Try.func55, Try.ntmps55
        go_wp2
        go_returns
        exact ⟨rfl, by go_grown⟩
      have HCH := hide hch
      clear hch
      go_wp2_with fail
      refine (filter_ch (some ⟨g, 0, none⟩) m cap (dg ((Ln D n).filter (hasB h))) (fun d => d.chief) _ (by omega) (arr_row HRW.out HM.out.symm) HCH.out).mono ?_
      rintro e w3 ⟨g3, cap3, m3, rfl, hm3, hb3, hrow3⟩
      have hq3 := below_call hq2 hb3
      have HM3 := hide hm3; have HR3 := hide hrow3
      have hml3 : m3 ≤ m := by rw [hm3]; exact filter_le _ _ _
      clear hm3 hrow3 hb3 HCH
      go_wp2_with fail
      refine (impl_whos (some ⟨g3, 0, none⟩) m3 cap3 (dg ((Ln (dg ((Ln D n).filter (hasB h))) m).filter fun d => d.chief)) _ (by omega) (arr_row HR3.out HM3.out.symm) (fun i hi => filter_one HD2.out i (by rw [← HM3.out]; exact hi))).mono ?_
      rintro e w4 ⟨g4, cap4, m4, rfl, hm4, hb4, hrow4⟩
      have hq4 := below_call hq3 hb4
      rw [HM3.out, whoL_lead D n m h HM.out] at hm4 hrow4
      have HM4 := hide hm4
      by_cases h0 : m4 = 0
      · obtain rfl : false = b := by rw [← HB.out, ← HM4.out, h0]; rfl
        obtain rfl : 0 = r := HR.out
        have h0b : ((m4 : Int) == 0) = true := by simp [h0]
        subst h0
        clear hm4 hrow4
        go_wp2
        go_returns
        exact ⟨rfl, hq4⟩
      · obtain rfl : true = b := by rw [← HB.out, ← HM4.out]; simp; omega
        have h0b : ((m4 : Int) == 0) = false := by simp; omega
        have h0c : 0 < m4 := by omega
        have h0d : (0 : Int) < (m4 : Int) := by omega
        have c0 := row_cell hrow4 (j := 0) (by rw [← hm4]; exact h0c)
        obtain ⟨x, hx⟩ : ∃ x, (leadL n D h).getD 0 0 = x := ⟨_, rfl⟩
        rw [hx] at c0
        obtain rfl : (x : Int) = r := by rw [← HR.out, leadR, if_pos rfl, hx]
        have hgl := (hrow4.lt g4 rfl).2
        clear hm4 hrow4 hx
        go_wp2
        go_returns
        exact ⟨rfl, hq4⟩
set_option maxHeartbeats 4000000 in
set_option maxRecDepth 100000 in
theorem spec_lead (A : Option Addr) (n c : Nat) (D : Nat → Du) (h : Int) (ok : Bool) (hk : onOk n D h = ok) (b : Bool) (hb : (ok && decide (0 < (leadL n D h).length)) = b) (r : Int) (hr : leadR (leadL n D h) b = r) (w : World) (hn : n ≤ 1048576) (ha : Arr w w.heap.size A n 4 (dv D)) :
    Calls Try.prog 20 #[.slice A n c, .int .i64 h] w fun e w' => e = .returned (.tuple #[.int .i64 r, .bool b]) ∧ Below w.heap.size w w' := by
  have hfa := frozen_al; have hfo := frozen_out
  have HA := hide ha; have HK := hide hk; have HR := hide hr; have HB := hide hb
  clear ha hk hr hb
  cases hg : goodB n D
  · obtain rfl : false = ok := by rw [← HK.out, onOk, hg]; rfl
    obtain rfl : false = b := HB.out
    obtain rfl : 0 = r := HR.out
    have HG := hide hg
    clear hg
    go_enter Try.func20, Try.ntmps20
    go_wp2_with fail
    refine (spec_good17 A n c D _ HG.out _ hn (HA.out.on (by go_grown))).mono ?_
    rintro e w1 ⟨rfl, hb1⟩
    obtain ⟨qc1, qf1⟩ := bcell hb1
    have hz1 := hb1.size
    try simp only [World.size_alloc, World.size_setCell, World.size_drew] at hz1
    have hq1 : Below w.heap.size w w1 := below_call (by go_grown) hb1
    try have hl0_1 : w.heap.size < w1.heap.size := by omega
    try have hl1_1 : w.heap.size + 1 < w1.heap.size := by omega
    try have hl2_1 : w.heap.size + 2 < w1.heap.size := by omega
    try have hl3_1 : w.heap.size + 3 < w1.heap.size := by omega
    go_wp2
    go_returns
    exact ⟨rfl, hq1⟩
  · cases hi : inB h 0 9998
    · obtain rfl : false = ok := by rw [← HK.out, onOk, hg, hi]; rfl
      obtain rfl : false = b := HB.out
      obtain rfl : 0 = r := HR.out
      have HG := hide hg
      clear hg
      go_enter Try.func20, Try.ntmps20
      go_wp2_with fail
      refine (spec_good17 A n c D _ HG.out _ hn (HA.out.on (by go_grown))).mono ?_
      rintro e w1 ⟨rfl, hb1⟩
      obtain ⟨qc1, qf1⟩ := bcell hb1
      have hz1 := hb1.size
      try simp only [World.size_alloc, World.size_setCell, World.size_drew] at hz1
      have hq1 : Below w.heap.size w w1 := below_call (by go_grown) hb1
      try have hl0_1 : w.heap.size < w1.heap.size := by omega
      try have hl1_1 : w.heap.size + 1 < w1.heap.size := by omega
      try have hl2_1 : w.heap.size + 2 < w1.heap.size := by omega
      try have hl3_1 : w.heap.size + 3 < w1.heap.size := by omega
      go_wp2_with (go_at_call 38; refine (spec_in _ _ _ _ (by assumption) _).mono ?_; rintro e w' ⟨rfl, rfl⟩)
      go_returns
      exact ⟨rfl, hq1⟩
    · obtain rfl : true = ok := by rw [← HK.out, onOk, hg, hi]; rfl
      obtain ⟨hn12, hok⟩ := good_of hg
      have HG := hide hg; have HD := hide (fun i hi => (hok i hi).1)
      clear hg hok
      go_enter Try.func20, Try.ntmps20
      go_wp2_with fail
      refine (spec_good17 A n c D _ HG.out _ hn (HA.out.on (by go_grown))).mono ?_
      rintro e w1 ⟨rfl, hb1⟩
      obtain ⟨qc1, qf1⟩ := bcell hb1
      have hz1 := hb1.size
      try simp only [World.size_alloc, World.size_setCell, World.size_drew] at hz1
      have hq1 : Below w.heap.size w w1 := below_call (by go_grown) hb1
      try have hl0_1 : w.heap.size < w1.heap.size := by omega
      try have hl1_1 : w.heap.size + 1 < w1.heap.size := by omega
      try have hl2_1 : w.heap.size + 2 < w1.heap.size := by omega
      try have hl3_1 : w.heap.size + 3 < w1.heap.size := by omega
      go_wp2_with (go_at_call 38; refine (spec_in _ _ _ _ (by assumption) _).mono ?_; rintro e w' ⟨rfl, rfl⟩)
      go_loopw [6, 7] (fun z y wr => ∃ (k q : Nat), k ≤ n ∧ y = .int .i64 k ∧ z = .int .i64 (q : Int) ∧ q ≤ 50 ∧ Below w.heap.size w wr ∧ BestI (leadL k D h) q) (fun _ y _ => n - (intOf y).toNat)
      case atStart => exact ⟨0, 0, Nat.zero_le _, rfl, rfl, by omega, hq1, .inl ⟨rfl, fun y hy => by have := (mem_leadL (fun i hi => absurd hi (by omega))).1 hy; obtain ⟨i, hi, _⟩ := this; omega⟩⟩
      case round =>
        obtain ⟨k, q, hk, rfl, rfl, hq50, hbw, hbest⟩ := hrel
        have HBE := hide hbest
        clear hbest
        by_cases hlt : k < n
        · obtain ⟨b0, off, hA, hbb, hc⟩ := (HA.out.on hbw) (by omega)
          subst hA
          obtain ⟨c0, c1, c2, c3⟩ := load4 hlt hc
          rw [dv0] at c0; rw [dv1] at c1; rw [dv2] at c2; rw [dv3] at c3
          have hD := HD.out k hlt
          have hw1 := hD.w1; have hw2 := hD.w2
          have hwn : (D k).who = ((whoN D k : Nat) : Int) := by unfold whoN; omega
          have hbx := below_al (o := .cells #[.int .i64 (D k).who, .int .i64 (D k).beg, .int .i64 (D k).fin, .bool (D k).chief] 39) hbw
          have HBX := hide (Blk.new wr 39 #[.int .i64 (D k).who, .int .i64 (D k).beg, .int .i64 (D k).fin, .bool (D k).chief])
          have HDK := hide (fun i (hi : i < k + 1) => HD.out i (by omega))
          have HWN := hide hwn
          clear hc hD hwn
          cases hch : (D k).chief
          · rw [hch] at c3 hbx HBX
            have HN := hide (lead_no (n := n) HDK.out (fun e => by rw [hch] at e; exact Bool.false_ne_true e.2) HBE.out)
            clear hch
            go_wp2
            go_roundw
            case rel => exact ⟨k + 1, q, by omega, by go_num, rfl, hq50, hbx, HN.out⟩
            case measure => simp [intOf]; omega
          · have HCH := hide hch
            rw [hch] at c3 hbx HBX
            obtain ⟨u, hu⟩ : ∃ u, hasB h (D k) = u := ⟨_, rfl⟩
            have HU := hide hu
            have HT := hide (fun W => (spec_has17 (D k) h u ((has_eq _ _).trans hu) W : Calls Try.prog 39 _ _ _))
            rw [hch] at HT
            clear hch hu
            have hl5 : wr.heap.size < wr.heap.size + 1 := Nat.lt_succ_self _
            cases u
            · have HN := hide (lead_no (n := n) HDK.out (fun e => by rw [HU.out] at e; exact Bool.false_ne_true e.1) HBE.out)
              go_wp2_with fail
              refine (HT.out _).mono ?_
              rintro e w1 ⟨rfl, hb2⟩
              have hq2 := below_call hbx hb2
              go_wp2
              go_roundw
              case rel => exact ⟨k + 1, q, by omega, by go_num, rfl, hq50, hq2, HN.out⟩
              case measure => simp [intOf]; omega
            · by_cases hz : q = 0
              · subst hz
                have HN := hide (lead_take HDK.out ⟨HU.out, HCH.out⟩ HBE.out (.inl rfl))
                go_wp2_with fail
                refine (HT.out _).mono ?_
                rintro e w1 ⟨rfl, hb2⟩
                have hq2 := below_call hbx hb2
                have hB2 := HBX.out.below hb2 HBX.out.lt
                have e0 := hB2.cell 0; have e1 := hB2.cell 1; have e2 := hB2.cell 2; have e3 := hB2.cell 3
                simp only [List.getElem?_toArray, List.getElem?_cons_zero, List.getElem?_cons_succ] at e0 e1 e2 e3
                rw [HWN.out] at e0
                go_wp2
                go_roundw
                case rel => exact ⟨k + 1, whoN D k, by omega, by go_num, rfl, by unfold whoN; omega, hq2, HN.out⟩
                case measure => simp [intOf]; omega
              · have hzb : ((q : Int) == 0) = false := by simp; omega
                have hzb2 : (q == 0) = false := by simp [hz]
                by_cases hlw : whoN D k < q
                · have HN := hide (lead_take HDK.out ⟨HU.out, HCH.out⟩ HBE.out (.inr hlw))
                  have hlw2 : ((whoN D k : Nat) : Int) < (q : Int) := by omega
                  go_wp2_with fail
                  refine (HT.out _).mono ?_
                  rintro e w1 ⟨rfl, hb2⟩
                  have hq2 := below_call hbx hb2
                  have hB2 := HBX.out.below hb2 HBX.out.lt
                  have e0 := hB2.cell 0
                  simp only [List.getElem?_toArray, List.getElem?_cons_zero, List.getElem?_cons_succ] at e0
                  rw [HWN.out] at e0
                  go_wp2
                  go_roundw
                  case rel => exact ⟨k + 1, whoN D k, by omega, by go_num, rfl, by unfold whoN; omega, hq2, HN.out⟩
                  case measure => simp [intOf]; omega
                · have HN := hide (lead_keep HDK.out ⟨HU.out, HCH.out⟩ HBE.out hz hlw)
                  have hlw2 : ¬ ((whoN D k : Nat) : Int) < (q : Int) := by omega
                  go_wp2_with fail
                  refine (HT.out _).mono ?_
                  rintro e w1 ⟨rfl, hb2⟩
                  have hq2 := below_call hbx hb2
                  have hB2 := HBX.out.below hb2 HBX.out.lt
                  have e0 := hB2.cell 0
                  simp only [List.getElem?_toArray, List.getElem?_cons_zero, List.getElem?_cons_succ] at e0
                  rw [HWN.out] at e0
                  go_wp2
                  go_roundw
                  case rel => exact ⟨k + 1, q, by omega, by go_num, rfl, hq50, hq2, HN.out⟩
                  case measure => simp [intOf]; omega
        · obtain rfl : k = n := by omega
          obtain ⟨e1, e2⟩ := best_end (leadL_up _ _ _) HBE.out
          have hbv : decide ((0 : Int) < (q : Int)) = b := by
            rw [← HB.out, Bool.true_and, ← e1]
            exact decide_eq_decide.2 (by omega)
          have hrv : (q : Int) = r := by
            rw [← HR.out, leadR]
            by_cases h0 : 0 < q
            · have : b = true := by rw [← hbv]; exact decide_eq_true (by omega)
              rw [if_pos this, e2 h0]
            · have : b = false := by rw [← hbv]; exact decide_eq_false (by omega)
              rw [this, if_neg Bool.false_ne_true]; omega
          have HBV := hide hbv; have HRV := hide hrv
          clear e1 e2 hbv hrv
          go_wp2
          go_returns
          exact ⟨by rw [← HRV.out, ← HBV.out]; first | rfl | simp, hbw⟩
end Go.Proofs.Yteklalbjlmkagaa
