/- The digits of a number: the reference's way and the library's. -/
import Derived.Test.YtgiphgfbfhaamaaDoorLib
import Derived.Test.YtgiphgfbfhaamaaDoorShelf
import Derived.Lib.AppendIntMem
import Derived.Deep.QuietTactic
import Derived.BigQuiet
import Derived.IntWalk
import Derived.Lib.ItoaLen
namespace Go.Proofs.YtgiphgfbfhaamaaDoor
open Go.RowKit
set_option linter.unusedVariables false
set_option linter.unusedSimpArgs false

def dgS (n : Nat) : ByteArray := ⟨(Lib.decDigits n).toArray⟩
theorem dgS_one {n : Nat} (h : n < 10) : dgS n = ⟨#[UInt8.ofNat (48 + n)]⟩ := by
  unfold dgS; rw [Lib.decDigits, dif_pos h]
theorem dgS_step {n : Nat} (h : ¬ n < 10) : dgS n = dgS (n / 10) ++ ⟨#[UInt8.ofNat (48 + n % 10)]⟩ := by
  unfold dgS
  rw [Lib.decDigits, dif_neg h]
  apply ByteArray.ext
  simp [ByteArray.data_append]
theorem dgS_size {n : Nat} (h : n ≤ 1048576) : (dgS n).size ≤ 20 := by
  have := Lib.nDigits_le20 n (by omega)
  rw [← Lib.decDigits_length] at this
  exact this
theorem ret_str {v : Value} {s : ByteArray} (h : v = .string s) : Ending.returned v = .returned (.string s) := by rw [h]
set_option maxHeartbeats 2000000 in
theorem spec_num : ∀ (n : Nat) (hn : n ≤ 1048576) (w : World), Calls Tryd.prog 11 #[.int .i64 n] w fun e w' => e = .returned (.string (dgS n)) ∧ ∃ k, w' = w.drewN k := by
  intro n
  induction n using Nat.strongRecOn with
  | _ n ih =>
    intro hn w
    by_cases h : n < 10
    · have HS := hide (dgS_one h)
      rcases (by omega : n = 0 ∨ n = 1 ∨ n = 2 ∨ n = 3 ∨ n = 4 ∨ n = 5 ∨ n = 6 ∨ n = 7 ∨ n = 8 ∨ n = 9) with rfl | rfl | rfl | rfl | rfl | rfl | rfl | rfl | rfl | rfl
      all_goals
        clear ih
        go_enter Tryd.func11, Tryd.ntmps11
        go_wp2
        go_returns
        refine ⟨ret_str ?_, 0, rfl⟩
        rw [HS.out]
        rfl
    · obtain ⟨m, hm⟩ : ∃ m, n / 10 = m := ⟨_, rfl⟩
      have hs := dgS_step h
      rw [hm] at hs
      have HI := hide (fun (w : World) => ih m (by omega) (by omega) w)
      have hge : ¬ ((n : Int) < 10) := by omega
      have hn0 : ¬ ((n : Int) < 0) := by omega
      clear ih
      generalize hdd : n % 10 = d at hs
      have HS := hide hs
      clear hs
      rcases (by omega : d = 0 ∨ d = 1 ∨ d = 2 ∨ d = 3 ∨ d = 4 ∨ d = 5 ∨ d = 6 ∨ d = 7 ∨ d = 8 ∨ d = 9) with rfl | rfl | rfl | rfl | rfl | rfl | rfl | rfl | rfl | rfl
      case' inl => have hr : (n : Int) % 10 = 0 := by omega
      case' inr.inl => have hr : (n : Int) % 10 = 1 := by omega
      case' inr.inr.inl => have hr : (n : Int) % 10 = 2 := by omega
      case' inr.inr.inr.inl => have hr : (n : Int) % 10 = 3 := by omega
      case' inr.inr.inr.inr.inl => have hr : (n : Int) % 10 = 4 := by omega
      case' inr.inr.inr.inr.inr.inl => have hr : (n : Int) % 10 = 5 := by omega
      case' inr.inr.inr.inr.inr.inr.inl => have hr : (n : Int) % 10 = 6 := by omega
      case' inr.inr.inr.inr.inr.inr.inr.inl => have hr : (n : Int) % 10 = 7 := by omega
      case' inr.inr.inr.inr.inr.inr.inr.inr.inl => have hr : (n : Int) % 10 = 8 := by omega
      case' inr.inr.inr.inr.inr.inr.inr.inr.inr => have hr : (n : Int) % 10 = 9 := by omega
      all_goals
        have hr2 : Int.tmod (n : Int) 10 = ((n % 10 : Nat) : Int) := rfl
        rw [hdd] at hr2
        simp at hr2
        have hw : IntKind.i64.wrap (m : Int) = (m : Int) := IntWalk.i64_in _ (by omega)
        have hq : (n : Int) / 10 = (m : Int) := by omega
        have hm2 : m ≤ 1048576 := by omega
        clear hdd h hm
        have x0 : ({ data := #[48, 49, 50, 51, 52, 53, 54, 55, 56, 57] } : ByteArray).extract 0 1 = { data := #[48] } := by rfl
        have x1 : ({ data := #[48, 49, 50, 51, 52, 53, 54, 55, 56, 57] } : ByteArray).extract 1 2 = { data := #[49] } := by rfl
        have x2 : ({ data := #[48, 49, 50, 51, 52, 53, 54, 55, 56, 57] } : ByteArray).extract 2 3 = { data := #[50] } := by rfl
        have x3 : ({ data := #[48, 49, 50, 51, 52, 53, 54, 55, 56, 57] } : ByteArray).extract 3 4 = { data := #[51] } := by rfl
        have x4 : ({ data := #[48, 49, 50, 51, 52, 53, 54, 55, 56, 57] } : ByteArray).extract 4 5 = { data := #[52] } := by rfl
        have x5 : ({ data := #[48, 49, 50, 51, 52, 53, 54, 55, 56, 57] } : ByteArray).extract 5 6 = { data := #[53] } := by rfl
        have x6 : ({ data := #[48, 49, 50, 51, 52, 53, 54, 55, 56, 57] } : ByteArray).extract 6 7 = { data := #[54] } := by rfl
        have x7 : ({ data := #[48, 49, 50, 51, 52, 53, 54, 55, 56, 57] } : ByteArray).extract 7 8 = { data := #[55] } := by rfl
        have x8 : ({ data := #[48, 49, 50, 51, 52, 53, 54, 55, 56, 57] } : ByteArray).extract 8 9 = { data := #[56] } := by rfl
        have x9 : ({ data := #[48, 49, 50, 51, 52, 53, 54, 55, 56, 57] } : ByteArray).extract 9 10 = { data := #[57] } := by rfl
        obtain ⟨z, hz⟩ : ∃ z, (dgS m).size = z := ⟨_, rfl⟩
        have hz20 := dgS_size hm2
        rw [hz] at hz20
        have v0 : IntKind.i64.wrap (0 + 1) = 1 := by decide
        have u0 : IntKind.i64.wrap 1 = 1 := by decide
        have v1 : IntKind.i64.wrap (1 + 1) = 2 := by decide
        have u1 : IntKind.i64.wrap 2 = 2 := by decide
        have v2 : IntKind.i64.wrap (2 + 1) = 3 := by decide
        have u2 : IntKind.i64.wrap 3 = 3 := by decide
        have v3 : IntKind.i64.wrap (3 + 1) = 4 := by decide
        have u3 : IntKind.i64.wrap 4 = 4 := by decide
        have v4 : IntKind.i64.wrap (4 + 1) = 5 := by decide
        have u4 : IntKind.i64.wrap 5 = 5 := by decide
        have v5 : IntKind.i64.wrap (5 + 1) = 6 := by decide
        have u5 : IntKind.i64.wrap 6 = 6 := by decide
        have v6 : IntKind.i64.wrap (6 + 1) = 7 := by decide
        have u6 : IntKind.i64.wrap 7 = 7 := by decide
        have v7 : IntKind.i64.wrap (7 + 1) = 8 := by decide
        have u7 : IntKind.i64.wrap 8 = 8 := by decide
        have v8 : IntKind.i64.wrap (8 + 1) = 9 := by decide
        have u8 : IntKind.i64.wrap 9 = 9 := by decide
        have v9 : IntKind.i64.wrap (9 + 1) = 10 := by decide
        have u9 : IntKind.i64.wrap 10 = 10 := by decide
        go_enter Tryd.func11, Tryd.ntmps11
        go_wp2
        go_quiet ((go_at_call 11; exact Calls.quiet_of (HI.out _)))
        go_wp2
        go_returns
        refine ⟨ret_str ?_, _, rfl⟩
        rw [HS.out]
        rfl
theorem impl_itoa (n : Nat) (hn : n ≤ 1048576) (w : World) (htab : Lib.TabIs Tryd.prog w "internal/strconv.uint64pow10" .u64 Lib.pow10Tab) : Calls Tryd.prog 14 #[.int .i64 n] w fun e w' => e = .returned (.string (dgS n)) ∧ Below w.heap.size w w' := by
  go_enter Tryd.func14, Tryd.ntmps14
  go_wp2_with fail
  refine (Tryd.strconv_Itoa (n : Int) (by omega) (by omega) _ htab).mono ?_
  rintro e w1 ⟨rfl, k, os, rfl⟩
  have hb : Below w.heap.size w (Go.Sort.grow (w.drewN k) os) := Lib.below_grow _ _ (Nat.le_refl _) k os
  go_wp2
  go_returns
  refine ⟨ret_str ?_, hb⟩
  have : ¬ ((n : Int) < 0) := by omega
  simp [Lib.itoa, this, dgS]
end Go.Proofs.YtgiphgfbfhaamaaDoor
