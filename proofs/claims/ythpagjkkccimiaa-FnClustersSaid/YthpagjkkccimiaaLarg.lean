/- Chapter 20: the quakes with at least a size; a filter over quakes by a function that asks of one. -/
import Derived.Test.YthpagjkkccimiaaRateM
import Derived.Test.YthpagjkkccimiaaQuakeC
import Derived.Test.YthpagjkkccimiaaRowsC
import Derived.Test.YthpagjkkccimiaaApp
namespace Go.Proofs.Ythpagjkkccimiaa
open Go.RowKit
set_option linter.unusedVariables false
set_option linter.unusedSimpArgs false

def szP (X : Nat → Nat → Int) (s : Int) (i : Nat) : Bool := decide (s ≤ X i 3)
def selX (X : Nat → Nat → Int) (l : List Nat) (i j : Nat) : Int := X (l.getD i 0) j
def selC (X : Nat → Nat → Int) (x : Nat) : List Value := [.int .i64 (X x 0), .int .i64 (X x 1), .int .i64 (X x 2), .int .i64 (X x 3)]
theorem selC_get (X : Nat → Nat → Int) (l : List Nat) : ∀ i j (hi : i < l.length), j < 4 → (selC X l[i])[j]? = some (iv (selX X l) i j) := by
  intro i j hi hj
  have e : l.getD i 0 = l[i] := by simp [List.getD, hi]
  unfold iv selX
  rw [e]
  rcases (by omega : j = 0 ∨ j = 1 ∨ j = 2 ∨ j = 3) with rfl | rfl | rfl | rfl <;> rfl
theorem selC_one (X : Nat → Nat → Int) (x : Nat) : ∀ u ∈ selC X x, u.oneCell' = true := by
  intro u hu
  simp only [selC, List.mem_cons, List.not_mem_nil, or_false] at hu
  rcases hu with rfl | rfl | rfl | rfl <;> rfl

set_option maxHeartbeats 1000000 in
theorem spec_from (A : Option Addr) (n c : Nat) (X : Nat → Nat → Int) (s : Int) (w : World) (hn : n ≤ 1048576) (ha : Arr w w.heap.size A n 4 (iv X)) :
    Calls Try.prog 109 #[.slice A n c, .int .i64 s] w fun e w' => ∃ v, e = .returned v ∧ Below w.heap.size w w' ∧ Own w' w.heap.size 60 4 v (selL (szP X s) n).length (iv (selX X (selL (szP X s) n))) := by
  obtain ⟨i0, hi0, hz0, hz1, hz2⟩ := info_parts info_quake
  go_enter Try.func109, Try.ntmps109
  go_wp2
  go_loopw [5, 6] (fun v i wr => ∃ (k m : Nat), k ≤ n ∧ m ≤ k ∧ i = .int .i64 k ∧ m = (selL (szP X s) k).length ∧ Below w.heap.size w wr ∧ wr.ownsRow w.heap.size 60 4 v m ((selL (szP X s) k).flatMap (selC X))) (fun _ i _ => n - (intOf i).toNat)
  case atStart => exact ⟨0, 0, Nat.zero_le _, Nat.zero_le _, rfl, rfl, by go_grown, World.ownsRow_made _ #[] 0 (Nat.le_refl _) (Nat.zero_le _) (by simp)⟩
  case round =>
    obtain ⟨k, m, hk, hmk, rfl, hm, hbw, hown⟩ := hrel
    have HM := hide hm
    clear hm
    by_cases hlt : k < n
    · obtain ⟨b, off, rfl, hbb, hc⟩ := ha (by omega)
      obtain ⟨q1, q2⟩ := bcell hbw
      have c0 := hc k 0 hlt (by omega); have c1 := hc k 1 hlt (by omega); have c2 := hc k 2 hlt (by omega); have c3 := hc k 3 hlt (by omega)
      simp only [Nat.add_zero, iv] at c0 c1 c2 c3
      have hsw := hbw.size
      clear hc ha
      by_cases hs : s ≤ X k 3
      · have hP : selL (szP X s) (k + 1) = selL (szP X s) k ++ [k] := selL_yes (by simpa [szP] using hs)
        have HP := hide hP
        clear hP
        go_wp2_with (at_builtin; go_loud (refine wpList_append_far _ rfl _ _ 28 rfl w.heap.size 60 i0 (.agg #[.int .i64 0, .int .i64 0, .int .i64 0, .int .i64 0]) 4 32 Try.underlying28 hi0 hz0 hz1 hz2 rfl (by decide) _ _ _ rfl (hown.alloc _) ⟨wr.heap.size, 0, none⟩ 1 1 (selC X k) rfl rfl ?c1 ?c2 ?c3 ?c4 ?c5 ?_))
        case c1 => exact cells_at wr _ _ _ rfl
        case c2 => exact selC_one X k
        case c3 => unfold maxLen; omega
        case c4 => omega
        case c5 => simp only [World.size_alloc]; omega
        intro v1 w1 hown1 hgrow1 _
        have hlt1 := hown.lt
        rw [flat_snoc, ← HP.out] at hown1
        have HO := hide hown1; have HG := hide hgrow1; have HL := hide hlt1
        clear hown hown1 hgrow1 hlt1
        go_wp2
        go_roundw
        case rel => exact ⟨k + 1, m + 1, by omega, by omega, by go_num, by rw [HP.out]; simp; exact HM.out, (below_al hbw).grown HG.out (by simp only [World.size_alloc]; omega) (fun g hg => (HL.out g hg).1), HO.out⟩
        case measure => simp [intOf]; omega
      · have hP : selL (szP X s) (k + 1) = selL (szP X s) k := selL_no (by simpa [szP] using hs)
        have HP := hide hP
        have HO := hide hown
        clear hP hown
        go_wp2
        go_roundw
        case rel => exact ⟨k + 1, m, by omega, by omega, by go_num, by rw [HP.out]; exact HM.out, hbw, by rw [HP.out]; exact HO.out⟩
        case measure => simp [intOf]; omega
    · obtain rfl : k = n := by omega
      have HO := hide hown
      clear hown
      go_wp2
      go_ret
      exact ⟨_, rfl, hbw, by
        have := own_of_rows (F := iv (selX X (selL (szP X s) k))) (k := 4) HM.out (fun x => rfl) (selC_get X _) HO.out
        rw [HM.out] at this; exact this⟩
/-- A filter over quakes by a function that asks of one quake. -/
def AskQL (p1 : Value) (n : Nat) (X : Nat → Nat → Int) (P : Nat → Bool) (w : World) : Prop :=
  ∀ k, k < n → ∀ wr, Below w.heap.size w wr → Calls Try.prog 129 #[.agg #[.int .i64 (X k 0), .int .i64 (X k 1), .int .i64 (X k 2), .int .i64 (X k 3)], p1] wr fun e w' => e = .returned (.bool (P k)) ∧ Below wr.heap.size wr w'
set_option maxHeartbeats 1000000 in
theorem filter_quakeL (p1 : Value) (A : Option Addr) (n c : Nat) (X : Nat → Nat → Int) (P : Nat → Bool) (w : World) (hn : n ≤ 1048576) (ha : Arr w w.heap.size A n 4 (iv X)) (hask : AskQL p1 n X P w) :
    Calls Try.prog 103 #[.slice A n c, .func (.func 129) #[] #[p1]] w fun e w' => ∃ v, e = .returned v ∧ Below w.heap.size w w' ∧ Own w' w.heap.size 60 4 v (selL P n).length (iv (selX X (selL P n))) := by
  obtain ⟨i0, hi0, hz0, hz1, hz2⟩ := info_parts info_quake
  have HK := hide hask
  clear hask
  go_enter Try.func103, Try.ntmps103
  go_wp2
  go_loopw [5, 11] (fun v i wr => ∃ (k m : Nat), k ≤ n ∧ m ≤ k ∧ i = .int .i64 k ∧ m = (selL P k).length ∧ Below w.heap.size w wr ∧ wr.ownsRow w.heap.size 60 4 v m ((selL P k).flatMap (selC X))) (fun _ i _ => n - (intOf i).toNat)
  case atStart => exact ⟨0, 0, Nat.zero_le _, Nat.zero_le _, rfl, rfl, by go_grown, World.ownsRow_made _ #[] 0 (Nat.le_refl _) (Nat.zero_le _) (by simp)⟩
  case round =>
    obtain ⟨k, m, hk, hmk, rfl, hm, hbw, hown⟩ := hrel
    have HM := hide hm
    clear hm
    by_cases hlt : k < n
    · obtain ⟨b, off, rfl, hbb, hc⟩ := ha (by omega)
      obtain ⟨q1, q2⟩ := bcell hbw
      have c0 := hc k 0 hlt (by omega); have c1 := hc k 1 hlt (by omega); have c2 := hc k 2 hlt (by omega); have c3 := hc k 3 hlt (by omega)
      simp only [Nat.add_zero, iv] at c0 c1 c2 c3
      have hsw := hbw.size
      obtain ⟨p, hp⟩ : ∃ p, P k = p := ⟨_, rfl⟩
      have HP := hide hp
      have HO := hide hown
      clear hc ha hown hp
      go_wp2_with fail
      refine (HK.out k hlt _ (below_al hbw)).mono ?_
      rintro e w1 ⟨rfl, hb1⟩
      obtain ⟨qc1, qf1⟩ := bcell hb1
      have hz1' := hb1.size
      simp only [World.size_alloc] at hz1'
      have hbw1 : Below w.heap.size w w1 := below_call (below_al hbw) hb1
      have hown1 := row_below (HO.out.alloc (.cells #[.int .i64 (X k 0), .int .i64 (X k 1), .int .i64 (X k 2), .int .i64 (X k 3)] 60)) hb1
      rw [HP.out]
      cases p
      · have hP : selL P (k + 1) = selL P k := selL_no HP.out
        have HP2 := hide hP
        have HO1 := hide hown1
        clear hP hown1
        go_wp2
        go_roundw
        case rel => exact ⟨k + 1, m, by omega, by omega, by go_num, by rw [HP2.out]; exact HM.out, hbw1, by rw [HP2.out]; exact HO1.out⟩
        case measure => simp [intOf]; omega
      · have hP : selL P (k + 1) = selL P k ++ [k] := selL_yes HP.out
        have HP2 := hide hP
        clear hP
        have hbx : wr.heap.size < w1.heap.size := by omega
        go_wp2_with (at_builtin; refine wpList_append_far _ rfl _ _ 28 rfl w.heap.size 60 i0 (.agg #[.int .i64 0, .int .i64 0, .int .i64 0, .int .i64 0]) 4 32 Try.underlying28 hi0 hz0 hz1 hz2 rfl (by decide) _ _ _ rfl (hown1.alloc _) ⟨w1.heap.size, 0, none⟩ 1 1 (selC X k) rfl rfl ?c1 ?c2 ?c3 ?c4 ?c5 ?_)
        case c1 => exact cells_at w1 _ _ _ rfl
        case c2 => exact selC_one X k
        case c3 => unfold maxLen; omega
        case c4 => omega
        case c5 => simp only [World.size_alloc]; omega
        intro v2 w2 hown2 hgrow2 _
        have hlt2 := hown1.lt
        rw [flat_snoc, ← HP2.out] at hown2
        have HO2 := hide hown2; have HG := hide hgrow2; have HL := hide hlt2
        clear hown1 hown2 hgrow2 hlt2
        go_wp2
        go_roundw
        case rel => exact ⟨k + 1, m + 1, by omega, by omega, by go_num, by rw [HP2.out]; simp; exact HM.out, (below_al hbw1).grown HG.out (by simp only [World.size_alloc]; omega) (fun g hg => (HL.out g hg).1), HO2.out⟩
        case measure => simp [intOf]; omega
    · obtain rfl : k = n := by omega
      have HO := hide hown
      clear hown
      go_wp2
      go_ret
      exact ⟨_, rfl, hbw, by
        have := own_of_rows (F := iv (selX X (selL P k))) (k := 4) HM.out (fun x => rfl) (selC_get X _) HO.out
        rw [HM.out] at this; exact this⟩
/-- A filter over quakes by a function that asks of one quake. -/
def AskQR (p1 p2 : Value) (n : Nat) (X : Nat → Nat → Int) (P : Nat → Bool) (w : World) : Prop :=
  ∀ k, k < n → ∀ wr, Below w.heap.size w wr → Calls Try.prog 105 #[.agg #[.int .i64 (X k 0), .int .i64 (X k 1), .int .i64 (X k 2), .int .i64 (X k 3)], p1, p2] wr fun e w' => e = .returned (.bool (P k)) ∧ Below wr.heap.size wr w'
set_option maxHeartbeats 1000000 in
theorem filter_quakeR (p1 p2 : Value) (A : Option Addr) (n c : Nat) (X : Nat → Nat → Int) (P : Nat → Bool) (w : World) (hn : n ≤ 1048576) (ha : Arr w w.heap.size A n 4 (iv X)) (hask : AskQR p1 p2 n X P w) :
    Calls Try.prog 103 #[.slice A n c, .func (.func 105) #[] #[p1, p2]] w fun e w' => ∃ v, e = .returned v ∧ Below w.heap.size w w' ∧ Own w' w.heap.size 60 4 v (selL P n).length (iv (selX X (selL P n))) := by
  obtain ⟨i0, hi0, hz0, hz1, hz2⟩ := info_parts info_quake
  have HK := hide hask
  clear hask
  go_enter Try.func103, Try.ntmps103
  go_wp2
  go_loopw [5, 11] (fun v i wr => ∃ (k m : Nat), k ≤ n ∧ m ≤ k ∧ i = .int .i64 k ∧ m = (selL P k).length ∧ Below w.heap.size w wr ∧ wr.ownsRow w.heap.size 60 4 v m ((selL P k).flatMap (selC X))) (fun _ i _ => n - (intOf i).toNat)
  case atStart => exact ⟨0, 0, Nat.zero_le _, Nat.zero_le _, rfl, rfl, by go_grown, World.ownsRow_made _ #[] 0 (Nat.le_refl _) (Nat.zero_le _) (by simp)⟩
  case round =>
    obtain ⟨k, m, hk, hmk, rfl, hm, hbw, hown⟩ := hrel
    have HM := hide hm
    clear hm
    by_cases hlt : k < n
    · obtain ⟨b, off, rfl, hbb, hc⟩ := ha (by omega)
      obtain ⟨q1, q2⟩ := bcell hbw
      have c0 := hc k 0 hlt (by omega); have c1 := hc k 1 hlt (by omega); have c2 := hc k 2 hlt (by omega); have c3 := hc k 3 hlt (by omega)
      simp only [Nat.add_zero, iv] at c0 c1 c2 c3
      have hsw := hbw.size
      obtain ⟨p, hp⟩ : ∃ p, P k = p := ⟨_, rfl⟩
      have HP := hide hp
      have HO := hide hown
      clear hc ha hown hp
      go_wp2_with fail
      refine (HK.out k hlt _ (below_al hbw)).mono ?_
      rintro e w1 ⟨rfl, hb1⟩
      obtain ⟨qc1, qf1⟩ := bcell hb1
      have hz1' := hb1.size
      simp only [World.size_alloc] at hz1'
      have hbw1 : Below w.heap.size w w1 := below_call (below_al hbw) hb1
      have hown1 := row_below (HO.out.alloc (.cells #[.int .i64 (X k 0), .int .i64 (X k 1), .int .i64 (X k 2), .int .i64 (X k 3)] 60)) hb1
      rw [HP.out]
      cases p
      · have hP : selL P (k + 1) = selL P k := selL_no HP.out
        have HP2 := hide hP
        have HO1 := hide hown1
        clear hP hown1
        go_wp2
        go_roundw
        case rel => exact ⟨k + 1, m, by omega, by omega, by go_num, by rw [HP2.out]; exact HM.out, hbw1, by rw [HP2.out]; exact HO1.out⟩
        case measure => simp [intOf]; omega
      · have hP : selL P (k + 1) = selL P k ++ [k] := selL_yes HP.out
        have HP2 := hide hP
        clear hP
        have hbx : wr.heap.size < w1.heap.size := by omega
        go_wp2_with (at_builtin; refine wpList_append_far _ rfl _ _ 28 rfl w.heap.size 60 i0 (.agg #[.int .i64 0, .int .i64 0, .int .i64 0, .int .i64 0]) 4 32 Try.underlying28 hi0 hz0 hz1 hz2 rfl (by decide) _ _ _ rfl (hown1.alloc _) ⟨w1.heap.size, 0, none⟩ 1 1 (selC X k) rfl rfl ?c1 ?c2 ?c3 ?c4 ?c5 ?_)
        case c1 => exact cells_at w1 _ _ _ rfl
        case c2 => exact selC_one X k
        case c3 => unfold maxLen; omega
        case c4 => omega
        case c5 => simp only [World.size_alloc]; omega
        intro v2 w2 hown2 hgrow2 _
        have hlt2 := hown1.lt
        rw [flat_snoc, ← HP2.out] at hown2
        have HO2 := hide hown2; have HG := hide hgrow2; have HL := hide hlt2
        clear hown1 hown2 hgrow2 hlt2
        go_wp2
        go_roundw
        case rel => exact ⟨k + 1, m + 1, by omega, by omega, by go_num, by rw [HP2.out]; simp; exact HM.out, (below_al hbw1).grown HG.out (by simp only [World.size_alloc]; omega) (fun g hg => (HL.out g hg).1), HO2.out⟩
        case measure => simp [intOf]; omega
    · obtain rfl : k = n := by omega
      have HO := hide hown
      clear hown
      go_wp2
      go_ret
      exact ⟨_, rfl, hbw, by
        have := own_of_rows (F := iv (selX X (selL P k))) (k := 4) HM.out (fun x => rfl) (selC_get X _) HO.out
        rw [HM.out] at this; exact this⟩
/-- A filter over quakes by a function that asks of one quake. -/
def AskQW (p1 p2 : Value) (n : Nat) (X : Nat → Nat → Int) (P : Nat → Bool) (w : World) : Prop :=
  ∀ k, k < n → ∀ wr, Below w.heap.size w wr → Calls Try.prog 134 #[.agg #[.int .i64 (X k 0), .int .i64 (X k 1), .int .i64 (X k 2), .int .i64 (X k 3)], p1, p2] wr fun e w' => e = .returned (.bool (P k)) ∧ Below wr.heap.size wr w'
set_option maxHeartbeats 1000000 in
theorem filter_quakeW (p1 p2 : Value) (A : Option Addr) (n c : Nat) (X : Nat → Nat → Int) (P : Nat → Bool) (w : World) (hn : n ≤ 1048576) (ha : Arr w w.heap.size A n 4 (iv X)) (hask : AskQW p1 p2 n X P w) :
    Calls Try.prog 103 #[.slice A n c, .func (.func 134) #[] #[p1, p2]] w fun e w' => ∃ v, e = .returned v ∧ Below w.heap.size w w' ∧ Own w' w.heap.size 60 4 v (selL P n).length (iv (selX X (selL P n))) := by
  obtain ⟨i0, hi0, hz0, hz1, hz2⟩ := info_parts info_quake
  have HK := hide hask
  clear hask
  go_enter Try.func103, Try.ntmps103
  go_wp2
  go_loopw [5, 11] (fun v i wr => ∃ (k m : Nat), k ≤ n ∧ m ≤ k ∧ i = .int .i64 k ∧ m = (selL P k).length ∧ Below w.heap.size w wr ∧ wr.ownsRow w.heap.size 60 4 v m ((selL P k).flatMap (selC X))) (fun _ i _ => n - (intOf i).toNat)
  case atStart => exact ⟨0, 0, Nat.zero_le _, Nat.zero_le _, rfl, rfl, by go_grown, World.ownsRow_made _ #[] 0 (Nat.le_refl _) (Nat.zero_le _) (by simp)⟩
  case round =>
    obtain ⟨k, m, hk, hmk, rfl, hm, hbw, hown⟩ := hrel
    have HM := hide hm
    clear hm
    by_cases hlt : k < n
    · obtain ⟨b, off, rfl, hbb, hc⟩ := ha (by omega)
      obtain ⟨q1, q2⟩ := bcell hbw
      have c0 := hc k 0 hlt (by omega); have c1 := hc k 1 hlt (by omega); have c2 := hc k 2 hlt (by omega); have c3 := hc k 3 hlt (by omega)
      simp only [Nat.add_zero, iv] at c0 c1 c2 c3
      have hsw := hbw.size
      obtain ⟨p, hp⟩ : ∃ p, P k = p := ⟨_, rfl⟩
      have HP := hide hp
      have HO := hide hown
      clear hc ha hown hp
      go_wp2_with fail
      refine (HK.out k hlt _ (below_al hbw)).mono ?_
      rintro e w1 ⟨rfl, hb1⟩
      obtain ⟨qc1, qf1⟩ := bcell hb1
      have hz1' := hb1.size
      simp only [World.size_alloc] at hz1'
      have hbw1 : Below w.heap.size w w1 := below_call (below_al hbw) hb1
      have hown1 := row_below (HO.out.alloc (.cells #[.int .i64 (X k 0), .int .i64 (X k 1), .int .i64 (X k 2), .int .i64 (X k 3)] 60)) hb1
      rw [HP.out]
      cases p
      · have hP : selL P (k + 1) = selL P k := selL_no HP.out
        have HP2 := hide hP
        have HO1 := hide hown1
        clear hP hown1
        go_wp2
        go_roundw
        case rel => exact ⟨k + 1, m, by omega, by omega, by go_num, by rw [HP2.out]; exact HM.out, hbw1, by rw [HP2.out]; exact HO1.out⟩
        case measure => simp [intOf]; omega
      · have hP : selL P (k + 1) = selL P k ++ [k] := selL_yes HP.out
        have HP2 := hide hP
        clear hP
        have hbx : wr.heap.size < w1.heap.size := by omega
        go_wp2_with (at_builtin; refine wpList_append_far _ rfl _ _ 28 rfl w.heap.size 60 i0 (.agg #[.int .i64 0, .int .i64 0, .int .i64 0, .int .i64 0]) 4 32 Try.underlying28 hi0 hz0 hz1 hz2 rfl (by decide) _ _ _ rfl (hown1.alloc _) ⟨w1.heap.size, 0, none⟩ 1 1 (selC X k) rfl rfl ?c1 ?c2 ?c3 ?c4 ?c5 ?_)
        case c1 => exact cells_at w1 _ _ _ rfl
        case c2 => exact selC_one X k
        case c3 => unfold maxLen; omega
        case c4 => omega
        case c5 => simp only [World.size_alloc]; omega
        intro v2 w2 hown2 hgrow2 _
        have hlt2 := hown1.lt
        rw [flat_snoc, ← HP2.out] at hown2
        have HO2 := hide hown2; have HG := hide hgrow2; have HL := hide hlt2
        clear hown1 hown2 hgrow2 hlt2
        go_wp2
        go_roundw
        case rel => exact ⟨k + 1, m + 1, by omega, by omega, by go_num, by rw [HP2.out]; simp; exact HM.out, (below_al hbw1).grown HG.out (by simp only [World.size_alloc]; omega) (fun g hg => (HL.out g hg).1), HO2.out⟩
        case measure => simp [intOf]; omega
    · obtain rfl : k = n := by omega
      have HO := hide hown
      clear hown
      go_wp2
      go_ret
      exact ⟨_, rfl, hbw, by
        have := own_of_rows (F := iv (selX X (selL P k))) (k := 4) HM.out (fun x => rfl) (selC_get X _) HO.out
        rw [HM.out] at this; exact this⟩
/-- 'larger': a filter by a size. -/
theorem ask_size (n : Nat) (X : Nat → Nat → Int) (s : Int) (bs : Nat) (w : World) (hbs : bs < w.heap.size) (hs : w.cell? ⟨bs, 0, none⟩ = some (.int .i64 s)) : AskQL (.pointer (some ⟨bs, 0, none⟩)) n X (szP X s) w := by
  intro k hk wr hb
  have hs' := (hb.cell (p := ⟨bs, 0, none⟩) hbs).trans hs
  have hbl : bs < wr.heap.size := by have := hb.size; omega
  clear hs
  by_cases h : s ≤ X k 3
  · have e : szP X s k = true := by simpa [szP] using h
    rw [e]
    clear e
    go_enter Try.func129, Try.ntmps129
    go_wp2
    go_returns
    exact ⟨rfl, by go_grown⟩
  · have e : szP X s k = false := by simpa [szP] using h
    rw [e]
    clear e
    go_enter Try.func129, Try.ntmps129
    go_wp2
    go_returns
    exact ⟨rfl, by go_grown⟩
theorem impl_larger (A : Option Addr) (n c : Nat) (X : Nat → Nat → Int) (s : Int) (w : World) (hn : n ≤ 1048576) (ha : Arr w w.heap.size A n 4 (iv X)) :
    Calls Try.prog 104 #[.slice A n c, .int .i64 s] w fun e w' => ∃ v, e = .returned v ∧ Below w.heap.size w w' ∧ Own w' w.heap.size 60 4 v (selL (szP X s) n).length (iv (selX X (selL (szP X s) n))) := by
  have HA := hide ha
  clear ha
  go_enter Try.func104, Try.ntmps104
  go_wp2_with fail
  refine (filter_quakeL _ _ _ _ X (szP X s) _ hn (HA.out.on (below_al (Below.refl _ _))) (ask_size n X s w.heap.size _ (by simp) (by simp [go_sem]))).mono ?_
  rintro e w1 ⟨v, rfl, hb1, ho1⟩
  have HO := hide ho1
  clear ho1
  go_wp2
  go_returns
  exact ⟨_, rfl, below_call (below_al (Below.refl _ _)) hb1, HO.out.base (by simp only [World.size_alloc]; omega)⟩
end Go.Proofs.Ythpagjkkccimiaa
