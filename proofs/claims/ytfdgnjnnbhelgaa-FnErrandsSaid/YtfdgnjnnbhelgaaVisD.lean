/- Chapter 23: is a list a plan? -/
import Derived.Test.YtfdgnjnnbhelgaaVisC
import Derived.Test.YtfdgnjnnbhelgaaMap
import Derived.Carry
namespace Go.Proofs.Ytfdgnjnnbhelgaa
open Go.RowKit Go.Maps
set_option linter.unusedVariables false
set_option linter.unusedSimpArgs false

def seenI (Y : Nat → Nat → Int) (k : Nat) : Lit → Bool
  | .int .i64 x => (List.range k).any fun i => decide (Y i 0 = x)
  | _ => false
theorem seenI_self (Y : Nat → Nat → Int) (k : Nat) : seenI Y (k + 1) (.int .i64 (Y k 0)) = true := by
  simp [seenI, List.range_succ]
theorem seenI_other (Y : Nat → Nat → Int) (k : Nat) (x : Lit) (h : x ≠ .int .i64 (Y k 0)) : seenI Y (k + 1) x = seenI Y k x := by
  unfold seenI
  split
  · rename_i a
    rw [List.range_succ, List.any_append]
    have : (Y k 0 = a) = False := by
      apply propext; constructor
      · intro e; exact h (by rw [e])
      · intro f; exact f.elim
    simp [this]
  · rfl
theorem seenI_zero (Y : Nat → Nat → Int) : (fun _ => false) = seenI Y 0 := by
  funext x
  unfold seenI
  split <;> simp
def diffB (m : Nat) (Y : Nat → Nat → Int) : Bool := decide (∀ i, i < m → ∀ j, j < i → Y j 0 ≠ Y i 0)
theorem diffB_no {m : Nat} {Y : Nat → Nat → Int} {k : Nat} (hk : k < m) (h : seenI Y k (.int .i64 (Y k 0)) = true) : diffB m Y = false := by
  simp only [seenI, List.any_eq_true, List.mem_range, decide_eq_true_eq] at h
  obtain ⟨i, hi, he⟩ := h
  unfold diffB
  exact decide_eq_false fun H => H k hk i hi he
theorem diffB_step {Y : Nat → Nat → Int} {k : Nat} (h : seenI Y k (.int .i64 (Y k 0)) = false) : ∀ j, j < k → Y j 0 ≠ Y k 0 := by
  intro j hj e
  have : seenI Y k (.int .i64 (Y k 0)) = true := by
    simp only [seenI, List.any_eq_true, List.mem_range, decide_eq_true_eq]
    exact ⟨j, hj, e⟩
  rw [h] at this; cases this
theorem law_int : Keyed Try.prog 3 := int_keyed Try.underlying3
theorem zero_bool (w : World) : (zeroValue 4).run Try.prog w = .ok (.bool false) w := by kernel_rfl
theorem self_int (x : Int) (w : World) : Calls Try.prog 126 #[.int .i64 x] w fun e w' => e = .returned (.int .i64 x) ∧ w = w' := by
  go_enter Try.func126, Try.ntmps126
  go_wp2
  go_ret
  exact ⟨rfl, rfl⟩
theorem wf_i64 {x : Int} (h0 : 0 ≤ x) (h1 : x ≤ 1048576) : (Lit.int .i64 x).wf = true := by
  simp [Lit.wf, IntKind.min, IntKind.max, IntKind.signed, IntKind.bits]; omega

set_option maxHeartbeats 1000000 in
set_option maxRecDepth 100000 in
theorem differ_plan (B : Option Addr) (n m d : Nat) (Y : Nat → Nat → Int) (v : Bool) (hv : diffB m Y = v) (w : World) (hn : n ≤ 1048576) (hm : m ≤ 1048576) (hb : Arr w w.heap.size B m 1 (iv Y)) (hY : planIn n m Y) :
    Calls Try.prog 125 #[.slice B m d, .func (.func 126) #[] #[]] w fun e w' => e = .returned (.bool v) ∧ Below w.heap.size w w' := by
  have HV := hide hv; have HY := hide hY
  clear hv hY
  have hmm := @run_makeMap Try.prog
  go_enter Try.func125, Try.ntmps125
  go_wp2
  clear hmm
  go_loopw [11] (fun i wr => ∃ k : Nat, k ≤ m ∧ i = .int .i64 k ∧ Below w.heap.size w wr ∧ Seen Try.prog 3 4 wr w.heap.size k (seenI Y k) ∧ ∀ i, i < k → ∀ j, j < i → Y j 0 ≠ Y i 0) (fun i _ => m - (intOf i).toNat)
  case atStart => exact ⟨0, Nat.zero_le _, rfl, by go_grown, by rw [← seenI_zero]; exact Seen.made _ _ _ _, all_zero⟩
  case round =>
    obtain ⟨k, hk, rfl, hbw, hs, hall⟩ := hrel
    by_cases hlt : k < m
    · obtain ⟨b2, off2, rfl, hbb2, hc2⟩ := hb (by omega)
      obtain ⟨y1, y2⟩ := HY.out k hlt
      have hkey : keyOf Try.prog 3 (.int .i64 (Y k 0)) = some (.int .i64 (Y k 0)) := keyOf_int_mk Try.underlying3 (wf_i64 y1 (by omega))
      obtain ⟨q1, q2⟩ := bcell hbw
      have e0 := hc2 k 0 hlt (by omega)
      simp only [Nat.add_zero, Nat.mul_one, iv] at e0
      have HA := hide hall; have HK := hide hkey; have HS := hide hs
      clear hall hc2 hb hkey hs
      obtain ⟨sb, hsb⟩ : ∃ sb, seenI Y k (.int .i64 (Y k 0)) = sb := ⟨_, rfl⟩
      have hse := hide hsb
      clear hsb
      cases sb
      · go_wp2_with (first | (go_at_call 126; refine (self_int _ _).mono ?_; rintro e w' ⟨rfl, rfl⟩) | (at_lookup; refine wpList_ask _ rfl _ _ _ rfl HS.out law_int Try.underlying133 Try.underlying4 (zero_bool _) rfl (.int .i64 (Y k 0)) (.int .i64 (Y k 0)) rfl trivial HK.out ?_; rw [hse.out]) | (at_mapUpdate; refine wpList_see _ rfl _ _ _ _ rfl HS.out law_int Try.underlying133 Try.underlying4 (by unfold maxLen; omega) rfl (.int .i64 (Y k 0)) (.int .i64 (Y k 0)) rfl rfl trivial HK.out (S' := seenI Y (k + 1)) (seenI_self Y k) (fun x hx => seenI_other Y k x hx) ?_; intro w1 hs1 hg1))
        go_roundw
        case rel => exact ⟨k + 1, by omega, by go_num, hbw.grown hg1 hbw.size (fun g hg => by injection hg with hg; omega), hs1, all_snoc HA.out (diffB_step hse.out)⟩
        case measure => simp [intOf]; omega
      · go_wp2_with (first | (go_at_call 126; refine (self_int _ _).mono ?_; rintro e w' ⟨rfl, rfl⟩) | (at_lookup; refine wpList_ask _ rfl _ _ _ rfl HS.out law_int Try.underlying133 Try.underlying4 (zero_bool _) rfl (.int .i64 (Y k 0)) (.int .i64 (Y k 0)) rfl trivial HK.out ?_; rw [hse.out]))
        go_ret
        exact ⟨ret_bool (by rw [← HV.out, diffB_no hlt hse.out]; rfl), hbw⟩
    · obtain rfl : k = m := by omega
      have HA := hide hall
      clear hall
      go_wp2
      go_ret
      exact ⟨ret_bool (by rw [← HV.out]; unfold diffB; rw [decide_eq_true HA.out]; rfl), hbw⟩
end Go.Proofs.Ytfdgnjnnbhelgaa
