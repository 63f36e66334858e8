/- laws.markText: some text, for every number. -/
import Derived.Test.YtbpeamjgddikjaaFauK
import Derived.Laws.IdiomStrings
namespace Go.Proofs.Ytbpeamjgddikjaa
open Go.RowKit
set_option linter.unusedVariables false
set_option linter.unusedSimpArgs false

theorem conv1 (w : World) (z : Int) (h0 : 0 ≤ z) (h1 : z ≤ 255) :
    (convert 54 9 (.slice (some ⟨w.heap.size, 0, none⟩) 1 1)).run Try.prog (w.alloc (.cells #[.int .u8 z] 5)) = .ok (.string ⟨#[UInt8.ofNat z.toNat]⟩) (w.alloc (.cells #[.int .u8 z] 5)) := by
  have h := run_convert_bytes_back (P := Try.prog) (w.alloc (.cells #[.int .u8 z] 5)) 54 9 5 ⟨w.heap.size, 0, none⟩ 1 [UInt8.ofNat z.toNat] Try.underlying54 Try.underlying5 Try.underlying9 (fun j hj => by
    have hj0 : j = 0 := by simpa using hj
    subst hj0
    have hu : ((UInt8.ofNat z.toNat).toNat : Int) = z := by
      rw [UInt8.toNat_ofNat_of_lt' (by show z.toNat < 256; omega)]
      omega
    simp only [List.getElem_cons_zero, hu]
    exact cell_one_new w _ _ 0 _ rfl)
  simpa using h
set_option maxHeartbeats 1000000 in
set_option maxRecDepth 100000 in
theorem mark_text (l : Int) (w : World) (h0 : 0 ≤ l) (h1 : l ≤ 1099511627776) :
    Calls Try.prog 72 #[.int .i64 l] w fun e w' => ∃ s : ByteArray, e = .returned (.string s) ∧ Below w.heap.size w w' := by
  have hfa := frozen_al; have hfo := frozen_out
  by_cases hl : l ≤ 0
  · go_enter Try.func72, Try.ntmps72
    go_wp2
    go_returns
    exact ⟨_, rfl, by go_grown⟩
  · go_enter Try.func72, Try.ntmps72
    go_wp2
    go_loopw [0, 3] (fun a s wr => ∃ (k : Nat) (t : ByteArray), a = .int .i64 k ∧ s = .string t ∧ t.size + k ≤ 1099511627776 ∧ Below w.heap.size w wr) (fun a _ _ => (intOf a).toNat)
    case atStart => exact ⟨l.toNat, ByteArray.empty, by congr 1; omega, rfl, by simp; omega, by go_grown⟩
    case round =>
      obtain ⟨k, t, rfl, rfl, hk, hbw⟩ := hrel
      by_cases hk0 : k = 0
      · subst hk0
        go_wp2
        go_returns
        exact ⟨_, rfl, hbw⟩
      · have hk1 : (0 : Int) < k := by omega
        have htm : Int.tmod (k : Int) 10 = ((k % 10 : Nat) : Int) := rfl
        have htd : Int.tdiv (k : Int) 10 = ((k / 10 : Nat) : Int) := rfl
        have hm2 : ((k % 10 : Nat) : Int) ≤ 9 := by omega
        have hm3 : (0 : Int) ≤ ((k % 10 : Nat) : Int) := by omega
        have hm4 : ((k / 10 : Nat) : Int) ≤ 1099511627776 := by omega
        have hcv := conv1 wr (48 + (k : Int) % 10) (by omega) (by omega)
        go_wp2
        go_roundw
        case rel =>
          refine ⟨k / 10, _, by go_num, rfl, ?_, below_al hbw⟩
          have e1 : ∀ b : UInt8, ((⟨#[b]⟩ : ByteArray) ++ t).size = 1 + t.size := fun b => by simp [ByteArray.size_append]; rfl
          rw [e1]
          omega
        case measure => simp [intOf]; omega
end Go.Proofs.Ytbpeamjgddikjaa
