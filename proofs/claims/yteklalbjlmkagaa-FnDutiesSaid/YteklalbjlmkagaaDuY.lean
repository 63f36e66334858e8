/- Chapter 17: the law's helpers. -/
import Derived.Test.YteklalbjlmkagaaDuX
import Derived.Test.YteklalbjlmkagaaDuS
import Derived.Test.YteklalbjlmkagaaSsH
import Derived.Test.YteklalbjlmkagaaPrL
import Derived.Test.YteklalbjlmkagaaRv
import Derived.Laws.StructEq
namespace Go.Proofs.Yteklalbjlmkagaa
open Go.RowKit
set_option linter.unusedVariables false
set_option linter.unusedSimpArgs false

theorem row_arrN {w : World} {base : Nat} {V : Value} {R : List Nat} (h : w.ownsRow base 3 1 V R.length (nl R)) : ∃ A c, V = .slice A R.length c ∧ Arr w w.heap.size A R.length 1 (iv fun p _ => (R.getD p 0 : Nat)) := by
  rcases h.2 with ⟨rfl, h0⟩ | ⟨gg, cp, cur, rfl, _⟩
  · exact ⟨none, 0, by rw [h0], fun h1 => absurd h1 (by omega)⟩
  · exact ⟨_, cp, rfl, arr_rowN h rfl⟩
theorem row_arrD {w : World} {base : Nat} {V : Value} {R : List Du} (h : w.ownsRow base 39 4 V R.length (R.flatMap dC)) : ∃ A c, V = .slice A R.length c ∧ R.length ≤ c ∧ c ≤ maxLen ∧ Arr w w.heap.size A R.length 4 (dv (dg R)) := by
  rcases h.2 with ⟨rfl, h0⟩ | ⟨gg, cp, cur, rfl, _, _, h3, h4, _⟩
  · exact ⟨none, 0, by rw [h0], by omega, by unfold maxLen; omega, fun h1 => absurd h1 (by omega)⟩
  · exact ⟨_, cp, rfl, h3, h4, arr_row h rfl⟩
set_option maxHeartbeats 1000000 in
theorem r_duties (A A' : Option Addr) (n c c' : Nat) (D : Nat → Du) (w : World) (hn : n ≤ 1048576) (ha : Arr w w.heap.size A n 4 (dv D)) (ha' : Arr w w.heap.size A' n 4 (dv D)) :
    Calls Try.prog 24 #[.slice A n c, .slice A' n c'] w fun e w' => e = .returned (.bool true) ∧ Below w.heap.size w w' := by
  go_enter Try.func24, Try.ntmps24
  go_wp2
  go_loopw [5] (fun i wr => ∃ k : Nat, k ≤ n ∧ i = .int .i64 k ∧ Below w.heap.size w wr) (fun i _ => n - (intOf i).toNat)
  case atStart => exact ⟨0, Nat.zero_le _, rfl, by go_grown⟩
  case round =>
    obtain ⟨k, hk, rfl, hb⟩ := hrel
    by_cases hlt : k < n
    · obtain ⟨b, off, rfl, hbb, hc⟩ := ha (by omega)
      obtain ⟨b', off', rfl, hbb', hc'⟩ := ha' (by omega)
      obtain ⟨q1, q2⟩ := bcell hb
      have hbl : b < wr.heap.size := by have := hb.size; omega
      have hbl' : b' < wr.heap.size := by have := hb.size; omega
      have hx := BW.cell (w := wr)
      obtain ⟨c0, c1, c2, c3⟩ := load4 hlt hc
      obtain ⟨e0, e1, e2, e3⟩ := load4 hlt hc'
      rw [dv0] at c0 e0; rw [dv1] at c1 e1; rw [dv2] at c2 e2; rw [dv3] at c3 e3
      clear hc ha hc' ha'
      go_wp2
      refine wp_region_bw (by kernel_rfl) (by kernel_rfl) ?_
      repeat (go_big_quiet_step ((first | fail)))
      refine wpQuiet_end fun w1 hb1 => ?_
      go_wp2
      go_roundw
      case rel => exact ⟨k + 1, by omega, by go_num, hb.trans (hb1.mono hb.size)⟩
      case measure => simp [intOf]; omega
    · obtain rfl : k = n := by omega
      go_wp2
      go_ret
      exact ⟨rfl, hb⟩
set_option maxHeartbeats 1000000 in
theorem r_table (v1 v2 : Value) (b1 b2 : Nat) (ps : List (Int × Int)) (gs1 gs2 : List Nat) (w : World) (hn : ps.length ≤ 1000000) (h1 : MPs w b1 v1 ps gs1) (h2 : MPs w b2 v2 ps gs2) :
    Calls Try.prog 9 #[v1, v2] w fun e w' => e = .returned (.bool true) ∧ Below w.heap.size w w' := by
  obtain ⟨A1, c1, rfl, _, a1⟩ := h1.form
  obtain ⟨A2, c2, rfl, _, a2⟩ := h2.form
  have H1 := hide h1; have H2 := hide h2; have A1' := hide a1; have A2' := hide a2
  clear h1 h2 a1 a2
  obtain ⟨n, hnn⟩ : ∃ n, ps.length = n := ⟨_, rfl⟩
  rw [hnn] at hn A1' A2' ⊢
  go_enter Try.func9, Try.ntmps9
  go_wp2
  go_loopw [5] (fun i wr => ∃ k : Nat, k ≤ n ∧ i = .int .i64 k ∧ Below w.heap.size w wr) (fun i _ => n - (intOf i).toNat)
  case atStart => exact ⟨0, Nat.zero_le _, rfl, by go_grown⟩
  case round =>
    obtain ⟨k, hk, rfl, hbw⟩ := hrel
    by_cases hlt : k < n
    · obtain ⟨b, off, rfl, hbb, hc⟩ := (A1'.out.on hbw) (by omega)
      obtain ⟨b', off', rfl, hbb', hc'⟩ := (A2'.out.on hbw) (by omega)
      have c0 := hc k 0 hlt (by omega); have d0 := hc' k 0 hlt (by omega)
      simp only [Nat.add_zero, Nat.mul_one] at c0 d0
      have x1 := hide ((H1.out.inner (by omega : k < ps.length)).arr1.on hbw); have x2 := hide ((H2.out.inner (by omega : k < ps.length)).arr1.on hbw)
      have hx := BW.cell (w := wr)
      clear hc hc'
      go_wp2
      refine wp_region_bw (by kernel_rfl) (by kernel_rfl) ?_
      repeat (go_big_quiet_step ((first | (go_at_call 14; exact BW.call (r_ints _ _ _ _ _ _ (pcel ps k) (pcel ps k) true (eqX_self _ _ _) _ (by omega) (by omega) (x1.out.on (BW.prop _)) (x2.out.on (BW.prop _)))))))
      refine wpQuiet_end fun w1 hb1 => ?_
      go_wp2
      go_roundw
      case rel => exact ⟨k + 1, by omega, by go_num, hbw.trans (hb1.mono hbw.size)⟩
      case measure => simp [intOf]; omega
    · go_wp2
      go_ret
      exact ⟨rfl, hbw⟩
end Go.Proofs.Yteklalbjlmkagaa
