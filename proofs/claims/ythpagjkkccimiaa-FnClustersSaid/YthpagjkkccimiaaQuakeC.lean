/- Chapter 16: is a list a catalogue? (the program's side) -/
import Derived.Test.YthpagjkkccimiaaQuakeB
import Derived.IntWalk
namespace Go.Proofs.Ythpagjkkccimiaa
open Go.RowKit
set_option linter.unusedVariables false
set_option linter.unusedSimpArgs false

def cmpQ (a0 a1 a2 a3 b0 b1 b2 b3 : Int) : Int := if cmpI a0 b0 ≠ 0 then cmpI a0 b0 else if cmpI a1 b1 ≠ 0 then cmpI a1 b1 else if cmpI a2 b2 ≠ 0 then cmpI a2 b2 else cmpI a3 b3
theorem cmpI_neg {a b : Int} : cmpI a b < 0 ↔ a < b := by unfold cmpI; split <;> (try split) <;> omega
theorem cmpI_zero {a b : Int} : cmpI a b = 0 ↔ a = b := by unfold cmpI; split <;> (try split) <;> omega
theorem cmpQ_bef (a0 a1 a2 a3 b0 b1 b2 b3 : Int) : cmpQ a0 a1 a2 a3 b0 b1 b2 b3 < 0 ↔ befB a0 a1 a2 a3 b0 b1 b2 b3 = true := by
  have h0 := @cmpI_neg a0 b0; have h1 := @cmpI_neg a1 b1; have h2 := @cmpI_neg a2 b2; have h3 := @cmpI_neg a3 b3
  have z0 := @cmpI_zero a0 b0; have z1 := @cmpI_zero a1 b1; have z2 := @cmpI_zero a2 b2
  unfold cmpQ befB
  rw [decide_eq_true_eq]
  split
  · omega
  · split
    · omega
    · split <;> omega
def f4 (a b c d : Int) (i : Nat) : Int := if i = 0 then a else if i = 1 then b else if i = 2 then c else d
theorem or4 (a b c d : Int) : OrOk (f4 a b c d) 4 (if a ≠ 0 then a else if b ≠ 0 then b else if c ≠ 0 then c else d) := by
  by_cases h0 : a ≠ 0
  · rw [if_pos h0]; exact .inl ⟨0, by omega, rfl, h0, by omega⟩
  · rw [if_neg h0]
    have e0 : a = 0 := by omega
    by_cases h1 : b ≠ 0
    · rw [if_pos h1]; exact .inl ⟨1, by omega, rfl, h1, fun j hj => by obtain rfl : j = 0 := (by omega); exact e0⟩
    · rw [if_neg h1]
      have e1 : b = 0 := by omega
      by_cases h2 : c ≠ 0
      · rw [if_pos h2]; exact .inl ⟨2, by omega, rfl, h2, fun j hj => by rcases (by omega : j = 0 ∨ j = 1) with rfl | rfl; exact e0; exact e1⟩
      · rw [if_neg h2]
        have e2 : c = 0 := by omega
        by_cases h3 : d ≠ 0
        · exact .inl ⟨3, by omega, rfl, h3, fun j hj => by rcases (by omega : j = 0 ∨ j = 1 ∨ j = 2) with rfl | rfl | rfl; exact e0; exact e1; exact e2⟩
        · exact .inr ⟨by omega, fun j hj => by rcases (by omega : j = 0 ∨ j = 1 ∨ j = 2 ∨ j = 3) with rfl | rfl | rfl | rfl; exact e0; exact e1; exact e2; show d = 0; omega⟩
theorem arr4 {W : World} {g : Nat} {t : TypeId} {a b c d : Int} (hb : Blk W g t #[.int .i64 a, .int .i64 b, .int .i64 c, .int .i64 d]) : Arr W W.heap.size (some ⟨g, 0, none⟩) 4 1 (iv fun i _ => f4 a b c d i) := by
  intro _
  refine ⟨g, 0, rfl, hb.lt, fun i j hi hj => ?_⟩
  obtain rfl : j = 0 := by omega
  rcases (by omega : i = 0 ∨ i = 1 ∨ i = 2 ∨ i = 3) with rfl | rfl | rfl | rfl
  · exact hb.cell 0
  · exact hb.cell 1
  · exact hb.cell 2
  · exact hb.cell 3
theorem blk_drew {X : World} {t : TypeId} {cs : Array Value} {g : Nat} (h : g = X.heap.size) : Blk (X.alloc (.cells cs t)).drew g t cs := by
  subst h; exact Blk.new X t cs
set_option maxHeartbeats 2000000 in
set_option maxRecDepth 100000 in
theorem impl_cmpq (a0 a1 a2 a3 b0 b1 b2 b3 v : Int) (hv : cmpQ a0 a1 a2 a3 b0 b1 b2 b3 = v) (w : World) :
    Calls Try.prog 131 #[.agg #[.int .i64 a0, .int .i64 a1, .int .i64 a2, .int .i64 a3], .agg #[.int .i64 b0, .int .i64 b1, .int .i64 b2, .int .i64 b3]] w fun e w' => e = .returned (.int .i64 v) ∧ Below w.heap.size w w' := by
  have HV := hide hv
  clear hv
  go_enter Try.func131, Try.ntmps131
  go_wp2
  refine wp_region_still_tail 20 (by kernel_rfl) (by kernel_rfl) ?_
  change wpStill _ _ (World.drew _) (fun a' => wpList _ _ _ _ a' (World.drew _)) _ _
  simp only [List.take_succ_cons, List.take_zero, List.drop_succ_cons, List.drop_zero]
  repeat (first | still_step | still_call (compare_still _ _ _))
  refine wpStill_nil ?_
  have HO : OrOk (f4 (cmpI a0 b0) (cmpI a1 b1) (cmpI a2 b2) (cmpI a3 b3)) 4 v := by rw [← HV.out]; exact or4 _ _ _ _
  go_wp2_with fail
  refine (or_ints _ 4 4 (f4 (cmpI a0 b0) (cmpI a1 b1) (cmpI a2 b2) (cmpI a3 b3)) v HO _ (by omega) (arr4 (blk_drew (by simp only [World.size_alloc])))).mono ?_
  rintro e w' ⟨rfl, rfl⟩
  go_wp2
  go_returns
  exact ⟨rfl, by go_grown⟩

/-- Closures of 'all'. -/
theorem all_notq (t x y s : Int) (bf : Nat) (v : Bool) (hv : qkB t x y s = v) (w : World) (hbf : bf < w.heap.size) (hf : w.cell? ⟨bf, 0, none⟩ = some (.func (.func 133) #[] #[])) :
    Calls Try.prog 143 #[.agg #[.int .i64 t, .int .i64 x, .int .i64 y, .int .i64 s], .pointer (some ⟨bf, 0, none⟩)] w fun e w' => e = .returned (.bool (!v)) ∧ Below w.heap.size w w' := by
  go_enter Try.func143, Try.ntmps143
  go_wp2_with fail
  refine (impl_quake _ _ _ _ _ hv _).mono ?_
  rintro e w1 ⟨rfl, hb1⟩
  obtain ⟨qc1, qf1⟩ := bcell hb1
  have hz1 := hb1.size
  try simp only [World.size_alloc, World.size_setCell, World.size_drew] at hz1
  have hq1 : Below w.heap.size w w1 := below_call (by go_grown) hb1
  try have hl0_1 : w.heap.size < w1.heap.size := by omega
  try have hl1_1 : w.heap.size + 1 < w1.heap.size := by omega
  try have hl2_1 : w.heap.size + 2 < w1.heap.size := by omega
  try have hl3_1 : w.heap.size + 3 < w1.heap.size := by omega
  go_wp2
  go_returns
  exact ⟨rfl, hq1⟩
def qAt (X : Nat → Nat → Int) (k : Nat) : Bool := qkB (X k 0) (X k 1) (X k 2) (X k 3)
def badQ (X : Nat → Nat → Int) (m : Nat) (r : Int) : Prop := (∃ k : Nat, r = k ∧ k < m ∧ qAt X k = false) ∨ (r = -1 ∧ ∀ k, k < m → qAt X k = true)
def BadPostQ (X : Nat → Nat → Int) (m : Nat) (w : World) (e : Ending) (w' : World) : Prop := ∃ r, badQ X m r ∧ e = .returned (.int .i64 r) ∧ Below w.heap.size w w'
set_option maxHeartbeats 1000000 in
set_option maxRecDepth 100000 in
theorem index_quake (A : Option Addr) (n c bf : Nat) (X : Nat → Nat → Int) (w : World) (hn : n ≤ 1048576) (ha : Arr w w.heap.size A n 4 (iv X)) (hbf : bf < w.heap.size)
    (hf : w.cell? ⟨bf, 0, none⟩ = some (.func (.func 133) #[] #[])) :
    Calls Try.prog 147 #[.slice A n c, .func (.func 143) #[] #[.pointer (some ⟨bf, 0, none⟩)]] w (BadPostQ X n w) := by
  go_enter Try.func147, Try.ntmps147
  go_wp2
  go_loopw [8] (fun i wr => ∃ k : Nat, k ≤ n ∧ i = .int .i64 k ∧ Below w.heap.size w wr ∧ ∀ j, j < k → qAt X j = true) (fun i _ => n - (intOf i).toNat)
  case atStart => exact ⟨0, Nat.zero_le _, rfl, Below.refl _ _, all_zero⟩
  case round =>
    obtain ⟨k, hk, rfl, hb, hall⟩ := hrel
    have HA := hide hall
    clear hall
    by_cases hlt : k < n
    · obtain ⟨b, off, rfl, hbb, hc⟩ := ha (by omega)
      obtain ⟨q1, q2⟩ := bcell hb
      have c0 := hc k 0 hlt (by omega); have c1 := hc k 1 hlt (by omega); have c2 := hc k 2 hlt (by omega); have c3 := hc k 3 hlt (by omega)
      simp only [Nat.add_zero, iv] at c0 c1 c2 c3
      have hf2 := (q1 bf 0 hbf).trans hf
      have hbs := hb.size
      have hbf2 : bf < wr.heap.size := by omega
      clear hc ha
      obtain ⟨v, hv⟩ : ∃ v, qAt X k = v := ⟨_, rfl⟩
      have HV := hide hv
      clear hv
      go_wp2_with fail
      refine (all_notq _ _ _ _ _ v HV.out _ hbf2 hf2).mono ?_
      rintro e w1 ⟨rfl, hb1⟩
      cases v
      · go_wp2
        go_ret
        exact ⟨_, .inl ⟨k, rfl, hlt, HV.out⟩, rfl, below_call hb hb1⟩
      · go_wp2
        go_roundw
        case rel => exact ⟨k + 1, by omega, by go_num, below_call hb hb1, all_snoc HA.out HV.out⟩
        case measure => simp [intOf]; omega
    · obtain rfl : k = n := by omega
      go_wp2
      go_ret
      exact ⟨_, .inr ⟨rfl, HA.out⟩, rfl, hb⟩
def allQ (n : Nat) (X : Nat → Nat → Int) : Bool := decide (∀ k, k < n → qAt X k = true)
theorem contains_quake (A : Option Addr) (n c bf : Nat) (X : Nat → Nat → Int) (v : Bool) (hv : allQ n X = v) (w : World) (hn : n ≤ 1048576) (ha : Arr w w.heap.size A n 4 (iv X)) (hbf : bf < w.heap.size)
    (hf : w.cell? ⟨bf, 0, none⟩ = some (.func (.func 133) #[] #[])) :
    Calls Try.prog 142 #[.slice A n c, .func (.func 143) #[] #[.pointer (some ⟨bf, 0, none⟩)]] w fun e w' => e = .returned (.bool (!v)) ∧ Below w.heap.size w w' := by
  have HV := hide hv
  clear hv
  go_enter Try.func142, Try.ntmps142
  go_wp2_with fail
  refine (index_quake _ _ _ _ X _ hn ha hbf hf).mono ?_
  rintro e w1 ⟨r, hr, rfl, hb1⟩
  rcases hr with ⟨k, rfl, hk, h⟩ | ⟨rfl, h⟩
  · obtain rfl : false = v := by
      rw [← HV.out]; unfold allQ
      exact (decide_eq_false fun H => by rw [H k hk] at h; cases h).symm
    clear h
    go_wp2
    go_ret
    exact ⟨rfl, hb1⟩
  · obtain rfl : true = v := by rw [← HV.out]; exact (decide_eq_true h).symm
    clear h
    go_wp2
    go_ret
    exact ⟨rfl, hb1⟩
theorem all_quake (A : Option Addr) (n c : Nat) (X : Nat → Nat → Int) (v : Bool) (hv : allQ n X = v) (w : World) (hn : n ≤ 1048576) (ha : Arr w w.heap.size A n 4 (iv X)) :
    Calls Try.prog 132 #[.slice A n c, .func (.func 133) #[] #[]] w fun e w' => e = .returned (.bool v) ∧ Below w.heap.size w w' := by
  have HB := hide ha
  clear ha
  go_enter Try.func132, Try.ntmps132
  go_wp2_with fail
  refine (contains_quake _ _ _ _ X v hv _ hn (HB.out.on (below_al (Below.refl _ _))) (by simp) (by simp [go_sem])).mono ?_
  rintro e w1 ⟨rfl, hb1⟩
  have hq1 : Below w.heap.size w w1 := below_call (by go_grown) hb1
  go_wp2
  go_returns
  exact ⟨by cases v <;> rfl, hq1⟩

/-- All neighbours stand in order. -/
def ordQ (n : Nat) (X : Nat → Nat → Int) : Prop := ∀ i, i + 1 < n → befB (X i 0) (X i 1) (X i 2) (X i 3) (X (i + 1) 0) (X (i + 1) 1) (X (i + 1) 2) (X (i + 1) 3) = true
theorem cat_split {n : Nat} {X : Nat → Nat → Int} : catB n X = true ↔ ordQ n X ∧ n ≤ 10 ∧ allQ n X = true := by
  simp only [catB, allQ, Bool.and_eq_true, decide_eq_true_eq, ordQ]
  constructor
  · rintro ⟨h, hn⟩
    exact ⟨fun i hi => by have := (h (i + 1) hi).2 (by omega); simpa using this, hn, fun k hk => (h k hk).1⟩
  · rintro ⟨h1, hn, h2⟩
    refine ⟨fun i hi => ⟨h2 i hi, fun h0 => ?_⟩, hn⟩
    rcases i with _ | p
    · exact absurd h0 (by omega)
    · exact h1 p hi
theorem catB_f {n : Nat} {X : Nat → Nat → Int} (h : ¬ (ordQ n X ∧ n ≤ 10 ∧ allQ n X = true)) : catB n X = false := by
  cases hc : catB n X
  · rfl
  · exact absurd (cat_split.1 hc) h
set_option maxHeartbeats 2000000 in
set_option maxRecDepth 100000 in
theorem impl_cat (A : Option Addr) (n c : Nat) (X : Nat → Nat → Int) (v : Bool) (hv : catB n X = v) (w : World) (hn : n ≤ 1048576) (ha : Arr w w.heap.size A n 4 (iv X)) :
    Calls Try.prog 112 #[.slice A n c] w fun e w' => e = .returned (.bool v) ∧ Below w.heap.size w w' := by
  have HV := hide hv
  have HAR := hide ha
  clear hv
  go_enter Try.func112, Try.ntmps112
  go_wp2
  go_loopw [3] (fun i wr => ∃ k : Nat, (k + 1 ≤ n ∨ k = 0) ∧ i = .int .i64 ((k : Int) + 1) ∧ Below w.heap.size w wr ∧ ordQ (k + 1) X) (fun i _ => n - (intOf i).toNat)
  case atStart => exact ⟨0, .inr rfl, rfl, Below.refl _ _, fun i hi => absurd hi (by omega)⟩
  case round =>
    obtain ⟨k, hk, rfl, hb, hall⟩ := hrel
    have HA := hide hall
    clear hall
    by_cases hlt : k + 1 < n
    · obtain ⟨b, off, rfl, hbb, hc⟩ := ha (by omega)
      obtain ⟨q1, q2⟩ := bcell hb
      have c0 := hc (k + 1) 0 hlt (by omega); have c1 := hc (k + 1) 1 hlt (by omega); have c2 := hc (k + 1) 2 hlt (by omega); have c3 := hc (k + 1) 3 hlt (by omega)
      have d0 := hc k 0 (by omega) (by omega); have d1 := hc k 1 (by omega) (by omega); have d2 := hc k 2 (by omega) (by omega); have d3 := hc k 3 (by omega) (by omega)
      simp only [Nat.add_zero, iv] at c0 c1 c2 c3 d0 d1 d2 d3
      have hbl : b < wr.heap.size := by have := hb.size; omega
      have hx := BW.cell (w := wr)
      have hww : IntKind.i64.wrap ((k : Int) + 1 - 1) = (k : Int) := by rw [IntWalk.i64_in _ (by omega)]; omega
      have htn : ((k : Int) + 1).toNat = k + 1 := by omega
      clear hc ha
      have hbef := cmpQ_bef (X k 0) (X k 1) (X k 2) (X k 3) (X (k + 1) 0) (X (k + 1) 1) (X (k + 1) 2) (X (k + 1) 3)
      have HBF := hide hbef
      clear hbef
      by_cases hcq : cmpQ (X k 0) (X k 1) (X k 2) (X k 3) (X (k + 1) 0) (X (k + 1) 1) (X (k + 1) 2) (X (k + 1) 3) < 0
      · have hB : decide (0 ≤ cmpQ (X k 0) (X k 1) (X k 2) (X k 3) (X (k + 1) 0) (X (k + 1) 1) (X (k + 1) 2) (X (k + 1) 3)) = false := by simp; omega
        have HBE := hide (HBF.out.1 hcq)
        clear hcq
        go_wp2
        refine wp_region_bw (by kernel_rfl) (by kernel_rfl) ?_
        repeat (go_big_quiet_step ((first | (go_at_call 131; exact BW.call (impl_cmpq _ _ _ _ _ _ _ _ _ rfl _)))))
        refine wpQuiet_end fun w1 hb1 => ?_
        clear hx hww htn
        go_wp2
        go_roundw
        case rel => exact ⟨k + 1, .inl (by omega), by go_num, below_call hb hb1, fun i hi => by
          by_cases e : i = k
          · subst e; exact HBE.out
          · exact HA.out i (by omega)⟩
        case measure => simp [intOf]; omega
      · have hB : decide (0 ≤ cmpQ (X k 0) (X k 1) (X k 2) (X k 3) (X (k + 1) 0) (X (k + 1) 1) (X (k + 1) 2) (X (k + 1) 3)) = true := by simp; omega
        have hno : catB n X = false := catB_f fun h => hcq (HBF.out.2 (h.1 k hlt))
        have HNO := hide hno
        clear hcq hno
        go_wp2
        refine wp_region_bw (by kernel_rfl) (by kernel_rfl) ?_
        repeat (go_big_quiet_step ((first | (go_at_call 131; exact BW.call (impl_cmpq _ _ _ _ _ _ _ _ _ rfl _)))))
        refine wpQuiet_end fun w1 hb1 => ?_
        clear hx hww htn
        go_wp2
        go_ret
        exact ⟨ret_bool (by rw [← HV.out, HNO.out]; rfl), below_call hb hb1⟩
    · have hord : ordQ n X := fun i hi => HA.out i (by omega)
      have HO := hide hord
      clear hord
      by_cases h10 : (n : Int) ≤ 10
      · obtain ⟨u, hu⟩ : ∃ u, allQ n X = u := ⟨_, rfl⟩
        have HU := hide hu
        clear hu
        have huv : u = v := by
          rw [← HV.out]
          cases u
          · exact (catB_f fun h => by rw [HU.out] at h; exact absurd h.2.2 (by simp)).symm
          · exact (cat_split.2 ⟨HO.out, by omega, HU.out⟩).symm
        subst huv
        go_wp2_with fail
        refine (all_quake _ _ _ X _ HU.out _ hn (HAR.out.on hb)).mono ?_
        rintro e w1 ⟨rfl, hb1⟩
        go_wp2
        go_ret
        exact ⟨rfl, below_call hb hb1⟩
      · have hno : catB n X = false := catB_f fun h => h10 (by omega)
        have HNO := hide hno
        clear hno
        go_wp2
        go_ret
        exact ⟨ret_bool (by rw [← HV.out, HNO.out]; rfl), hb⟩
end Go.Proofs.Ythpagjkkccimiaa
