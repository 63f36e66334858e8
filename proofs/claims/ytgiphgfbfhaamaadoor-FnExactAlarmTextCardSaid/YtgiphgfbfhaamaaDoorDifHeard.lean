/- No two of a list have the same key. -/
import Derived.Test.YtgiphgfbfhaamaaDoorDif
import Derived.Test.YtgiphgfbfhaamaaDoorTyHeard
namespace Go.Proofs.YtgiphgfbfhaamaaDoor
open Go.RowKit Go.Maps
set_option linter.unusedVariables false
set_option linter.unusedSimpArgs false

theorem key_heard (x0 x1 : Int) (w : World) : Calls Tryd.prog 25 #[.agg #[.int .i64 x0, .int .i64 x1]] w fun e w' => e = .returned (.int .i64 x0) ∧ Below w.heap.size w w' := by
  go_enter Tryd.func25, Tryd.ntmps25
  go_wp2
  go_returns
  exact ⟨rfl, by go_grown⟩
set_option maxHeartbeats 2000000 in
set_option maxRecDepth 100000 in
theorem differ_heard (B : Option Addr) (m d : Nat) (Y : Nat → Nat → Int) (v : Bool) (hv : diffF m (fun i => Y i 0) = v) (w : World) (hm : m ≤ 1048576) (hb : Arr w w.heap.size B m 2 (iv Y)) (hY : ∀ i, i < m → 0 ≤ Y i 0 ∧ Y i 0 ≤ 1048576) :
    Calls Tryd.prog 24 #[.slice B m d, .func (.func 25) #[] #[]] w fun e w' => e = .returned (.bool v) ∧ Below w.heap.size w w' := by
  have HV := hide hv; have HY := hide hY
  clear hv hY
  have hmm := @run_makeMap Tryd.prog
  go_enter Tryd.func24, Tryd.ntmps24
  go_wp2
  clear hmm
  go_loopw [11] (fun i wr => ∃ k : Nat, k ≤ m ∧ i = .int .i64 k ∧ Below w.heap.size w wr ∧ Seen Tryd.prog 3 4 wr w.heap.size k (seenF (fun i => Y i 0) k) ∧ ∀ i, i < k → ∀ j, j < i → Y j 0 ≠ Y i 0) (fun i _ => m - (intOf i).toNat)
  case atStart => exact ⟨0, Nat.zero_le _, rfl, by go_grown, by rw [← seenF_zero]; exact Seen.made _ _ _ _, all_zero⟩
  case round =>
    obtain ⟨k, hk, rfl, hbw, hs, hall⟩ := hrel
    by_cases hlt : k < m
    · obtain ⟨b2, off2, rfl, hbb2, hc2⟩ := hb (by omega)
      obtain ⟨y1, y2⟩ := HY.out k hlt
      have hkey : keyOf Tryd.prog 3 (.int .i64 (Y k 0)) = some (.int .i64 (Y k 0)) := keyOf_int_mk Tryd.underlying3 (wf_i64F y1 (by omega))
      obtain ⟨q1, q2⟩ := bcell hbw
      have hsw := hbw.size
      have e0 := hc2 k 0 hlt (by omega); have e1 := hc2 k 1 hlt (by omega)
      simp only [Nat.add_zero, Nat.mul_one, iv] at e0 e1
      have HA := hide hall; have HK := hide hkey; have HS := hide hs
      clear hall hc2 hb hkey hs
      have hW : Below wr.heap.size wr (wr.alloc (.cells #[.int .i64 (Y k 0), .int .i64 (Y k 1)] 44)) := below_al (Below.refl _ _)
      obtain ⟨sb, hsb⟩ : ∃ sb, seenF (fun i => Y i 0) k (.int .i64 (Y k 0)) = sb := ⟨_, rfl⟩
      have hse := hide hsb
      clear hsb
      go_wp2_with fail
      refine (key_heard _ _ _).mono ?_
      rintro e w2 ⟨rfl, hb2⟩
      have hz2 := hb2.size
      simp only [World.size_alloc] at hz2
      have hl2 : wr.heap.size < w2.heap.size := by omega
      have hq2 : Below wr.heap.size wr w2 := below_call hW hb2
      have HS2 := hide (HS.out.kept hq2)
      obtain ⟨qc2, qf2⟩ := bcell hb2
      clear hW
      cases sb
      · go_wp2_with (at_lookup; refine wpList_ask _ rfl _ _ _ rfl HS2.out law_intF Tryd.underlying53 Tryd.underlying4 (zero_boolF _) rfl (.int .i64 (Y k 0)) (.int .i64 (Y k 0)) rfl trivial HK.out ?_; rw [hse.out])
        refine (key_heard _ _ _).mono ?_
        rintro e w3 ⟨rfl, hb3⟩
        have HS3 := hide (HS2.out.kept hb3)
        have hq3 : Below wr.heap.size wr w3 := below_call hq2 hb3
        go_wp2_with (at_mapUpdate; refine wpList_see _ rfl _ _ _ _ rfl HS3.out law_intF Tryd.underlying53 Tryd.underlying4 (by unfold maxLen; omega) rfl (.int .i64 (Y k 0)) (.int .i64 (Y k 0)) rfl rfl trivial HK.out (S' := seenF (fun i => Y i 0) (k + 1)) (seenF_self (fun i => Y i 0) k) (fun x hx => seenF_other (fun i => Y i 0) k x hx) ?_; intro w4 hs4 hg4)
        go_roundw
        case rel => exact ⟨k + 1, by omega, by go_num, (hbw.trans (hq3.mono hbw.size)).grown hg4 (Nat.le_trans hbw.size hq3.size) (fun g hg => by injection hg with hg; omega), hs4, all_snoc HA.out (diffF_step hse.out)⟩
        case measure => simp [intOf]; omega
      · go_wp2_with (at_lookup; refine wpList_ask _ rfl _ _ _ rfl HS2.out law_intF Tryd.underlying53 Tryd.underlying4 (zero_boolF _) rfl (.int .i64 (Y k 0)) (.int .i64 (Y k 0)) rfl trivial HK.out ?_; rw [hse.out])
        go_ret
        exact ⟨ret_bool (by rw [← HV.out, diffF_no hlt hse.out]; try rfl), hbw.trans (hq2.mono hbw.size)⟩
    · obtain rfl : k = m := by omega
      have HA := hide hall
      clear hall
      go_wp2
      go_ret
      exact ⟨ret_bool (by rw [← HV.out]; unfold diffF; rw [decide_eq_true HA.out]; try rfl), hbw⟩
end Go.Proofs.YtgiphgfbfhaamaaDoor
