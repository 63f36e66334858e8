/- A list of faults: the helpers of the laws. -/
import Derived.Test.YtbpeamjgddikjaaFltA
import Derived.Test.YtbpeamjgddikjaaFauK
namespace Go.Proofs.Ytbpeamjgddikjaa
open Go.RowKit
set_option linter.unusedVariables false
set_option linter.unusedSimpArgs false
set_option maxRecDepth 100000

theorem ret_val {v u : Value} (h : v = u) : Ending.returned v = .returned u := by rw [h]
theorem loads4 {w : World} {b off : Nat} {A : Option Addr} {n k : Nat} {f : Nat → Nat → Value} (hk : k < n) (hc : ∀ i j, i < n → j < 4 → w.cell? ⟨b, off + i * 4 + j, none⟩ = some (f i j)) :
    w.cell? ⟨b, off + k * 4, none⟩ = some (f k 0) ∧ w.cell? ⟨b, off + k * 4 + 1, none⟩ = some (f k 1) ∧ w.cell? ⟨b, off + k * 4 + 2, none⟩ = some (f k 2) ∧ w.cell? ⟨b, off + k * 4 + 3, none⟩ = some (f k 3) :=
  ⟨hc k 0 hk (by omega), hc k 1 hk (by omega), hc k 2 hk (by omega), hc k 3 hk (by omega)⟩
set_option maxHeartbeats 1000000 in
theorem sz_faultS (A : Option Addr) (n c : Nat) (E : Nat → FauE) (Q : Nat → Option Addr × Nat) (l v : Int) (hv : (if l < n + fsz E n then -1 else l - (n + fsz E n)) = v) (hn : n ≤ maxLen) (h1 : 0 ≤ l) (h2 : l ≤ 1048576) (w : World) (hL : FauL w A n E Q) (hm : ∀ i, i < n → (E i).nm.size ≤ maxLen ∧ (E i).m ≤ maxLen) :
    Calls Try.prog 23 #[.slice A n c, .int .i64 l] w fun e w' => e = .returned (.int .i64 v) ∧ Below w.heap.size w w' := by
  have hfa := frozen_al; have hfo := frozen_out
  have hnn := fsz_nn E n
  have hmx : n ≤ 9223372036854775807 := hn
  by_cases hln : l < n
  · obtain rfl : -1 = v := by rw [← hv, if_pos (by omega)]
    clear hv hnn hL hm
    go_enter Try.func23, Try.ntmps23
    go_wp2
    go_returns
    exact ⟨rfl, by go_grown⟩
  · have HV := hide hv; have HM := hide hm; have HL := hide hL; have HN := hide hnn
    clear hv hm hL hnn
    go_enter Try.func23, Try.ntmps23
    go_wp2
    go_loopw [1, 5] (fun a i wr => ∃ k : Nat, k ≤ n ∧ a = .int .i64 (l - n - fsz E k) ∧ i = .int .i64 k ∧ 0 ≤ l - n - fsz E k ∧ Below w.heap.size w wr) (fun _ i _ => n - (intOf i).toNat)
    case atStart => exact ⟨0, Nat.zero_le _, by simp [fsz], rfl, by simp [fsz]; omega, by go_grown⟩
    case round =>
      obtain ⟨k, hk, rfl, rfl, hp, hbw⟩ := hrel
      obtain ⟨s, hs⟩ : ∃ s, s = l - n - fsz E k := ⟨_, rfl⟩
      rw [← hs] at hp ⊢
      have hs1 : s ≤ 1048576 := by have := fsz_nn E k; omega
      have HS := hide hs
      clear hs
      by_cases hlt : k < n
      · obtain ⟨b, off, rfl, hbb, hc⟩ := (HL.out.on hbw).arr (by omega)
        obtain ⟨c0, c1, c2, c3⟩ := loads4 (A := none) hlt hc
        rw [fcv0] at c0; rw [fcv1] at c1; rw [fcv2] at c2; rw [fcv3] at c3
        obtain ⟨m1, m2⟩ := HM.out k hlt
        clear hc
        by_cases hov : s < ((E k).nm.size : Int) + ((E k).m : Int)
        · go_wp2_with fail
          refine (sz_fault_over _ _ _ _ _ _ _ hov m1 m2 hp hs1 _).mono ?_
          rintro e w1 ⟨rfl, hb1⟩
          go_wp2
          go_returns
          exact ⟨ret_val (by rw [← HV.out, if_pos (by have := fsz_le E (show k + 1 ≤ n from hlt); have := HS.out; simp only [fsz] at *; omega)]; rfl), below_call hbw (by go_grown)⟩
        · go_wp2_with fail
          refine (sz_fault_ok _ _ _ _ _ _ _ (by omega) hs1 _).mono ?_
          rintro e w1 ⟨rfl, hb1⟩
          go_wp2
          go_roundw
          case rel => exact ⟨k + 1, by omega, by rw [HS.out]; simp only [fsz]; congr 1; omega, by go_num, by have := HS.out; simp only [fsz]; omega, below_call hbw (by go_grown)⟩
          case measure => simp [intOf]; omega
      · obtain rfl : k = n := by omega
        go_wp2
        go_returns
        exact ⟨ret_val (show Value.int .i64 s = .int .i64 v by rw [← HV.out, if_neg (by have := HS.out; omega), HS.out]; congr 1; omega), hbw⟩
theorem row_set4 {cur : Array Value} {k n : Nat} {F : Nat → Nat → Value} (hs : cur.size = n * 4) (hk : k < n) (h : ∀ i j, i < k → j < 4 → cur[i * 4 + j]? = some (F i j)) :
    ∀ i j, i < k + 1 → j < 4 → ((((cur.setIfInBounds (k * 4) (F k 0)).setIfInBounds (k * 4 + 1) (F k 1)).setIfInBounds (k * 4 + 2) (F k 2)).setIfInBounds (k * 4 + 3) (F k 3))[i * 4 + j]? = some (F i j) := by
  intro i j hi hj
  simp only [Array.getElem?_setIfInBounds, Array.size_setIfInBounds]
  by_cases e : i = k
  · subst e
    rcases (by omega : j = 0 ∨ j = 1 ∨ j = 2 ∨ j = 3) with rfl | rfl | rfl | rfl
    · rw [if_neg (by omega), if_neg (by omega), if_neg (by omega), if_pos (by omega), if_pos (by omega)]
    · rw [if_neg (by omega), if_neg (by omega), if_pos (by omega), if_pos (by omega)]
    · rw [if_neg (by omega), if_pos (by omega), if_pos (by omega)]
    · rw [if_pos (by omega), if_pos (by omega)]
  · rw [if_neg (by omega), if_neg (by omega), if_neg (by omega), if_neg (by omega)]
    exact h i j (by omega) hj
/-- The list and its bends are the call's own; the k-th bends lie in a block from z k up to z (k+1). -/
structure FauO (w : World) (A : Option Addr) (n c : Nat) (E : Nat → FauE) (Q : Nat → Option Addr × Nat) (base : Nat) (z : Nat → Nat) : Prop where
  own : Own w base 36 4 (.slice A n c) n (fcv E Q)
  deep : ∀ i, i < n → Own w (z i) 26 2 (.slice (Q i).1 (E i).m (Q i).2) (E i).m (iv (E i).Y)
  hi : ∀ i, i < n → ∀ g, (Value.slice (Q i).1 (E i).m (Q i).2).ownBlock = some g → g < z (i + 1)
  mono : ∀ i, i < n → z i ≤ z (i + 1)
  lo : ∀ g, (Value.slice A n c).ownBlock = some g → ∀ i, i < n → g < z i
theorem FauO.list {w : World} {A : Option Addr} {n c : Nat} {E : Nat → FauE} {Q : Nat → Option Addr × Nat} {base : Nat} {z : Nat → Nat} (h : FauO w A n c E Q base z) : FauL w A n E Q :=
  ⟨h.own.arr1, fun i hi => (h.deep i hi).arr1⟩
theorem FauO.below {w w' : World} {A : Option Addr} {n c : Nat} {E : Nat → FauE} {Q : Nat → Option Addr × Nat} {base : Nat} {z : Nat → Nat} (h : FauO w A n c E Q base z) (hb : Below w.heap.size w w') : FauO w' A n c E Q base z :=
  ⟨h.own.below hb (Nat.le_refl _), fun i hi => (h.deep i hi).below hb (Nat.le_refl _), h.hi, h.mono, h.lo⟩
theorem info_fault : (Try.prog.info? 36).map (fun i => (i.zero, i.size, i.bytes)) = some (some (.agg #[.int .i64 0, .string ByteArray.empty, .slice none 0 0, .int .i64 0]), 4, 56) := by kernel_rfl
set_option maxHeartbeats 2000000 in
theorem to_faultS (A : Option Addr) (n c : Nat) (E : Nat → FauE) (Q : Nat → Option Addr × Nat) (w : World) (hn : n ≤ 1048576) (hm : ∀ i, i < n → (E i).m ≤ 1048576) (hL : FauL w A n E Q) :
    Calls Try.prog 25 #[.slice A n c] w fun e w' => ∃ (A' : Option Addr) (c' : Nat) (Q' : Nat → Option Addr × Nat) (z : Nat → Nat), e = .returned (.slice A' n c') ∧ Below w.heap.size w w' ∧ FauO w' A' n c' E Q' w.heap.size z := by
  have HM := hide hm; have HL := hide hL
  clear hm hL
  have hmk := fun W => mk_row (P := Try.prog) _ _ _ Try.underlying47 info_fault n hn (by omega) W
  go_enter Try.func25, Try.ntmps25
  go_wp2
  clear hmk
  go_loopw [4] (fun i wr => ∃ k : Nat, k ≤ n ∧ i = .int .i64 k ∧ Below w.heap.size w wr ∧ ∃ (Q' : Nat → Option Addr × Nat) (z : Nat → Nat), (∀ i, i < k → Own wr (z i) 26 2 (.slice (Q' i).1 (E i).m (Q' i).2) (E i).m (iv (E i).Y) ∧ (∀ g, (Value.slice (Q' i).1 (E i).m (Q' i).2).ownBlock = some g → g < z (i + 1)) ∧ z i ≤ z (i + 1) ∧ w.heap.size < z i) ∧ z k ≤ wr.heap.size ∧ w.heap.size < z k ∧ ∃ cur : Array Value, Blk wr w.heap.size 36 cur ∧ cur.size = n * 4 ∧ ∀ i j, i < k → j < 4 → cur[i * 4 + j]? = some (fcv E Q' i j)) (fun i _ => n - (intOf i).toNat)
  case atStart => exact ⟨0, Nat.zero_le _, rfl, by go_grown, fun _ => (none, 0), fun _ => w.heap.size + 1, fun i hi => absurd hi (by omega), by simp, Nat.lt_succ_self _, _, Blk.new _ _ _, by simp [madeCells], fun i j hi => absurd hi (by omega)⟩
  case round =>
    obtain ⟨k, hk, rfl, hbw, Q', z, hD, hz, hz0, cur, hblk, hsz, hcur⟩ := hrel
    have HD := hide hD; have HS := hide hsz; have HC := hide hcur
    clear hD hsz hcur
    by_cases hlt : k < n
    · obtain ⟨b, off, hA, hbb, hc⟩ := HL.out.arr (by omega)
      have hdp := hide ((HL.out.on hbw).deep k hlt)
      subst hA
      obtain ⟨q1, q2⟩ := bcell hbw
      obtain ⟨c0, c1, c2, c3⟩ := loads4 (A := none) hlt hc
      rw [fcv0] at c0; rw [fcv1] at c1; rw [fcv2] at c2; rw [fcv3] at c3
      have hm1 := HM.out k hlt
      have hw1 := hblk.lt
      have hsw := hbw.size
      clear hc
      have HB := hide hblk
      clear hblk
      go_wp2_with (go_at_call 16; refine (to_fault _ _ _ _ _ (E k).Y _ _ hm1 (hdp.out.on (by go_grown))).mono ?_; rintro e w1 ⟨v1, rfl, hb1, ho1⟩; obtain ⟨A1, cc1, hv1, _, _⟩ := ho1.arr; subst hv1; have hblk1 := HB.out.below hb1 hw1; have d0 := hblk1.cell (k * 4); have d1 := hblk1.cell (k * 4 + 1); have d2 := hblk1.cell (k * 4 + 2); have d3 := hblk1.cell (k * 4 + 3); have f0 := hblk1.frozen (k * 4); have f1 := hblk1.frozen (k * 4 + 1); have f2 := hblk1.frozen (k * 4 + 2); have f3 := hblk1.frozen (k * 4 + 3); rw [Array.getElem?_eq_getElem (by rw [HS.out]; omega)] at d0 d1 d2 d3; have HB1 := hide hblk1; have HO1 := hide ho1; have hs1 := hb1.size; clear hblk1 ho1)
      go_roundw
      case rel =>
        have hq : Below w.heap.size w _ := ((((hbw.trans (hb1.mono (by omega))).setCell (p := ⟨w.heap.size, k * 4, none⟩) (Nat.le_refl _) (fcv E (fun i => if i = k then (A1, cc1) else Q' i) k 0)).setCell (p := ⟨w.heap.size, k * 4 + 1, none⟩) (Nat.le_refl _) (fcv E (fun i => if i = k then (A1, cc1) else Q' i) k 1)).setCell (p := ⟨w.heap.size, k * 4 + 2, none⟩) (Nat.le_refl _) (fcv E (fun i => if i = k then (A1, cc1) else Q' i) k 2)).setCell (p := ⟨w.heap.size, k * 4 + 3, none⟩) (Nat.le_refl _) (fcv E (fun i => if i = k then (A1, cc1) else Q' i) k 3)
        have hblk2 := (((HB1.out.set_ (k * 4) (fcv E (fun i => if i = k then (A1, cc1) else Q' i) k 0)).set_ (k * 4 + 1) (fcv E (fun i => if i = k then (A1, cc1) else Q' i) k 1)).set_ (k * 4 + 2) (fcv E (fun i => if i = k then (A1, cc1) else Q' i) k 2)).set_ (k * 4 + 3) (fcv E (fun i => if i = k then (A1, cc1) else Q' i) k 3)
        have hrow := row_set4 (cur := cur) (F := fcv E (fun i => if i = k then (A1, cc1) else Q' i)) HS.out hlt (fun i j hi hj => by
          rw [HC.out i j hi hj]
          rcases (by omega : j = 0 ∨ j = 1 ∨ j = 2 ∨ j = 3) with rfl | rfl | rfl | rfl
          · rfl
          · rfl
          · rw [fcv2, fcv2, if_neg (by omega)]
          · rfl)
        simp only [fcv0, fcv1, fcv2, fcv3, if_true] at hq hblk2 hrow
        refine ⟨k + 1, by omega, by go_num, hq, (fun i => if i = k then (A1, cc1) else Q' i), (fun i => if i = k then wr.heap.size else if i = k + 1 then w1.heap.size else z i), fun i hi => ?_, by simp, by simp; omega, _, hblk2, by simpa only [Array.size_setIfInBounds] using HS.out, ?_⟩
        · by_cases e : i = k
          · subst e
            have hO := HO1.out
            have hbk := hO.blk
            refine ⟨?_, fun g hg => ?_, ?_, ?_⟩
            · simp only [if_true]
              exact own_far3 (own_far3 (own_far3 (own_far3 hO (by simp only []; omega)) (by simp only []; omega)) (by simp only []; omega)) (by simp only []; omega)
            · simp only [if_true] at hg
              dsimp only
              rw [if_neg (by omega), if_pos rfl]
              exact (hbk g hg).2
            · simp; omega
            · simp; omega
          · obtain ⟨g1, g2, g3, g4⟩ := HD.out i (by omega)
            have hO := g1.below hb1 (Nat.le_refl _)
            simp only [if_neg e, if_neg (show ¬ i = k + 1 by omega), if_neg (show ¬ i + 1 = k + 1 by omega)]
            refine ⟨own_far3 (own_far3 (own_far3 (own_far3 hO (by simp only []; omega)) (by simp only []; omega)) (by simp only []; omega)) (by simp only []; omega), fun g hg => ?_, ?_, g4⟩
            · have := g2 g hg
              split
              · subst k; omega
              · exact this
            · split
              · subst k; omega
              · exact g3
        · exact hrow
      case measure => simp [intOf]; omega
    · go_wp2
      go_ret
      obtain rfl : k = n := by omega
      exact ⟨_, _, Q', z, rfl, hbw, ⟨Own.made hn (Nat.le_refl _) hblk HS.out HC.out, fun i hi => (HD.out i hi).1, fun i hi => (HD.out i hi).2.1, fun i hi => (HD.out i hi).2.2.1, fun g hg i hi => by cases hg; exact (HD.out i hi).2.2.2⟩⟩
set_option maxHeartbeats 1000000 in
theorem eq_faultS (A A' : Option Addr) (n c c' : Nat) (E : Nat → FauE) (Q Q' : Nat → Option Addr × Nat) (w : World) (hn : n ≤ 1048576) (hm : ∀ i, i < n → (E i).m ≤ 1048576) (hL : FauL w A n E Q) (hL' : FauL w A' n E Q') :
    Calls Try.prog 27 #[.slice A n c, .slice A' n c'] w fun e w' => e = .returned (.bool true) ∧ Below w.heap.size w w' := by
  have HM := hide hm; have HL := hide hL; have HL' := hide hL'
  clear hm hL hL'
  go_enter Try.func27, Try.ntmps27
  go_wp2
  go_loopw [5] (fun i wr => ∃ k : Nat, k ≤ n ∧ i = .int .i64 k ∧ Below w.heap.size w wr) (fun i _ => n - (intOf i).toNat)
  case atStart => exact ⟨0, Nat.zero_le _, rfl, by go_grown⟩
  case round =>
    obtain ⟨k, hk, rfl, hbw⟩ := hrel
    by_cases hlt : k < n
    · obtain ⟨b, off, hA, hbb, hc⟩ := (HL.out.on hbw).arr (by omega)
      obtain ⟨b', off', hA', hbb', hc'⟩ := (HL'.out.on hbw).arr (by omega)
      have hdp := hide ((HL.out.on hbw).deep k hlt)
      have hdp' := hide ((HL'.out.on hbw).deep k hlt)
      subst hA hA'
      obtain ⟨c0, c1, c2, c3⟩ := loads4 (A := none) hlt hc
      obtain ⟨e0, e1, e2, e3⟩ := loads4 (A := none) hlt hc'
      rw [fcv0] at c0 e0; rw [fcv1] at c1 e1; rw [fcv2] at c2 e2; rw [fcv3] at c3 e3
      have hm1 := HM.out k hlt
      have hx := BW.cell (w := wr)
      clear hc hc'
      go_wp2
      refine wp_region_bw (by kernel_rfl) (by kernel_rfl) ?_
      repeat (go_big_quiet_step ((first | (go_at_call 18; exact BW.call (eq_fault _ _ _ _ _ (E k).Y _ _ _ _ hm1 (hdp.out.on (BW.prop _)) (hdp'.out.on (BW.prop _)))))))
      refine wpQuiet_end fun w1 hb1 => ?_
      go_wp2
      go_roundw
      case rel => exact ⟨k + 1, by omega, by go_num, hbw.trans (hb1.mono hbw.size)⟩
      case measure => simp [intOf]; omega
    · go_wp2
      go_ret
      exact ⟨rfl, hbw⟩
end Go.Proofs.Ytbpeamjgddikjaa
