/- laws.markFaultS: marks laid into a list of faults of the call's own change nothing else. -/
import Derived.Test.YtbpeamjgddikjaaMtx
import Derived.Test.YtbpeamjgddikjaaFltH
namespace Go.Proofs.Ytbpeamjgddikjaa
open Go.RowKit
set_option linter.unusedVariables false
set_option linter.unusedSimpArgs false

theorem z_mono {z : Nat → Nat} {n : Nat} (h : ∀ i, i < n → z i ≤ z (i + 1)) {i j : Nat} (hij : i ≤ j) (hj : j ≤ n) : z i ≤ z j := by
  induction j with
  | zero => obtain rfl : i = 0 := by omega
            exact Nat.le_refl _
  | succ j ih =>
    by_cases e : i = j + 1
    · rw [e]; exact Nat.le_refl _
    · exact Nat.le_trans (ih (by omega) (by omega)) (h j (by omega))
set_option maxHeartbeats 2000000 in
set_option maxRecDepth 100000 in
theorem mark_faultS (A : Option Addr) (n c : Nat) (E : Nat → FauE) (Q : Nat → Option Addr × Nat) (base : Nat) (z : Nat → Nat) (w : World) (hn : n ≤ 1048576) (hm : ∀ i, i < n → (E i).m ≤ 1048576) (hf : fsz E n ≤ 1048576) (hO : FauO w A n c E Q base z) (top : Nat) (ht1 : ∀ g, (Value.slice A n c).ownBlock = some g → g < top) (ht2 : ∀ i, i < n → ∀ g, (Value.slice (Q i).1 (E i).m (Q i).2).ownBlock = some g → g < top) :
    Calls Try.prog 38 #[.slice A n c, .int .i64 1] w fun e w' => ∃ r : Int, e = .returned (.int .i64 r) ∧ 0 ≤ r ∧ Below base w w' ∧ ∀ b, top ≤ b → b < w.heap.size → w'.heap[b]? = w.heap[b]? := by
  have hfa := frozen_al; have hfo := frozen_out
  have HM := hide hm
  obtain ⟨hown, hdeep, hhi, hmono, hlo⟩ := hO
  have HD := hide hdeep; have HH := hide hhi; have HMO := hide hmono
  have HT2 := hide ht2
  clear hdeep hhi hmono hm ht2
  rcases hown with ⟨hv, rfl⟩ | ⟨g, cap, cur0, hv, hg0, hblk0, hcap, hmax, hsz0, hF0⟩
  · injection hv with hA _ hc
    subst hA hc
    go_enter Try.func38, Try.ntmps38
    go_wp2
    go_loopw [1, 5] (fun a i wr => a = .int .i64 1 ∧ i = .int .i64 0 ∧ wr = w) (fun _ _ _ => 0)
    case atStart => exact ⟨rfl, rfl, rfl⟩
    case round =>
      obtain ⟨rfl, rfl, rfl⟩ := hrel
      go_wp2
      go_ret
      exact ⟨_, rfl, by omega, Below.refl _ _, fun _ _ _ => rfl⟩
  · injection hv with hA _ hc
    subst hA hc
    have HLO := hide (fun i hi => hlo g rfl i hi)
    have HF0 := hide hF0
    have hgt : g < top := ht1 g rfl
    clear hlo hF0 ht1
    go_enter Try.func38, Try.ntmps38
    go_wp2
    go_loopw [1, 5] (fun a i wr => ∃ (q : Nat) (r : Int), q ≤ n ∧ a = .int .i64 r ∧ i = .int .i64 q ∧ 0 ≤ r ∧ r ≤ 1 + 3 * q + 2 * fsz E q ∧ Below base w wr ∧ (∀ b, top ≤ b → b < w.heap.size → wr.heap[b]? = w.heap[b]?) ∧ (∃ cur : Array Value, Blk wr g 36 cur ∧ cur.size = c * 4 ∧ ∀ i, i < n → q ≤ i → cur[i * 4 + 2]? = some (.slice (Q i).1 (E i).m (Q i).2)) ∧ (∀ i, i < n → q ≤ i → Own wr (z i) 26 2 (.slice (Q i).1 (E i).m (Q i).2) (E i).m (iv (E i).Y))) (fun _ i _ => n - (intOf i).toNat)
    case atStart => exact ⟨0, 1, Nat.zero_le _, rfl, rfl, by omega, by simp [fsz], Below.refl _ _, fun _ _ _ => rfl, ⟨cur0, hblk0, hsz0, fun i hi _ => (HF0.out i 2 hi (by omega))⟩, fun i hi _ => HD.out i hi⟩
    case round =>
      obtain ⟨q, r, hq, rfl, rfl, hr0, hr1, hbw, htp, ⟨cur, hblk, hsz, hcur⟩, hdp⟩ := hrel
      by_cases hlt : q < n
      · have HS := hide hsz; have HC := hide hcur; have HB := hide hblk; have HP := hide hdp; have HBW := hide hbw; have HTP := hide htp
        have hz1 : g < z q := HLO.out q hlt
        have hgw := hblk.lt
        have hm1 := HM.out q hlt
        have hfs := fsz_le E (show q + 1 ≤ n from hlt)
        have hfq := fsz_nn E q
        simp only [fsz] at hfs
        have hr2 : r ≤ 5242881 := by omega
        have d0 := hblk.cell (q * 4); have f0 := hblk.frozen (q * 4)
        rw [Array.getElem?_eq_getElem (by rw [HS.out]; omega)] at d0
        clear hsz hcur hblk hblk0 hsz0 hbw hdp htp
        go_wp2_with fail
        refine (mark_text _ _ (by omega) (by omega)).mono ?_
        rintro e w1 ⟨s, rfl, hb1⟩
        have hsz1 := hb1.size
        simp only [World.size_setCell] at hsz1
        have HB1 := hide ((HB.out.set_ (q * 4) (.int .i64 r)).below hb1 (by simpa using hgw))
        have e1 := HB1.out.cell (q * 4 + 1); have e2 := HB1.out.cell (q * 4 + 2)
        have i1 := HB1.out.frozen (q * 4 + 1)
        rw [Array.getElem?_eq_getElem (by simp only [Array.size_setIfInBounds]; rw [HS.out]; omega)] at e1
        rw [Array.getElem?_setIfInBounds_ne (by omega), HC.out q hlt (Nat.le_refl _)] at e2
        have HB2 := hide (HB1.out.set_ (q * 4 + 1) (.string s))
        have e3 := HB2.out.cell (q * 4 + 2)
        rw [Array.getElem?_setIfInBounds_ne (by omega), Array.getElem?_setIfInBounds_ne (by omega), HC.out q hlt (Nat.le_refl _)] at e3
        have hbw1 : Below base w w1 := (HBW.out.setCell (p := ⟨g, q * 4, none⟩) hg0 (.int .i64 r)).trans (hb1.mono (by have := HBW.out.size; simp only [World.size_setCell]; omega))
        have HBW2 := hide (hbw1.setCell (p := ⟨g, q * 4 + 1, none⟩) hg0 (.string s))
        have HP2 := hide (fun i (hi : i < n) (hqi : q ≤ i) => own_far3 (p := ⟨g, q * 4 + 1, none⟩) (x := .string s) ((own_far3 (p := ⟨g, q * 4, none⟩) (x := .int .i64 r) (HP.out i hi hqi) (HLO.out i hi)).below hb1 (Nat.le_refl _)) (HLO.out i hi))
        clear d0 f0 e2 hbw1
        go_wp2_with fail
        refine (mark_bendS _ _ _ _ _ (z q) _ hm1 (by omega) (by omega) (HP2.out q hlt (Nat.le_refl _))).mono ?_
        rintro e w2 ⟨rfl, hg2, ho2⟩
        have hlo2 : ∀ b, (Value.slice (Q q).1 (E q).m (Q q).2).ownBlock = some b → z q ≤ b ∧ b < z (q + 1) := fun b hb => ⟨(ho2.blk b hb).1, HH.out q hlt b hb⟩
        have HB3 := hide (show Blk w2 g _ _ from (hg2.block g (by simpa using (by omega : g < w1.heap.size)) (fun e => by have := (hlo2 g e.symm).1; omega)).trans HB2.out)
        have k1 := HB3.out.cell (q * 4 + 3); have k2 := HB3.out.frozen (q * 4 + 3)
        rw [Array.getElem?_eq_getElem (by simp only [Array.size_setIfInBounds]; rw [HS.out]; omega)] at k1
        have hzb : base ≤ z q := by omega
        have hbw3 : Below base w w2 := HBW2.out.grown hg2 (by have := HBW.out.size; have := HB2.out.lt; omega) (fun b hb => Nat.le_trans hzb (hlo2 b hb).1)
        have HBW3 := hide hbw3
        have HP3 := hide (fun i (hi : i < n) (hqi : q + 1 ≤ i) => (HP2.out i hi (by omega)).other hg2 (fun b hb => by have := (hlo2 b hb).2; have := z_mono HMO.out hqi (by omega); omega))
        have hws := HBW.out.size
        have HTP3 := hide (fun b (hb : top ≤ b) (hbs : b < w.heap.size) => show w2.heap[b]? = w.heap[b]? from
          (hg2.block b (by simp only [World.size_setCell]; omega) (fun e => by have := HT2.out q hlt b e.symm; omega)).trans ((Below.heap_setCell w1 ⟨g, q * 4 + 1, none⟩ (.string s) b (by simp only []; omega)).trans ((hb1.block b (by simp only [World.size_setCell]; omega)).trans ((Below.heap_setCell wr ⟨g, q * 4, none⟩ (.int .i64 r) b (by simp only []; omega)).trans (HTP.out b hb hbs)))))
        clear e1 e3 i1 hbw3 hb1 hg2 ho2 hlo2
        go_wp2
        go_roundw
        case rel =>
          refine ⟨q + 1, _, by omega, rfl, by go_num, ?_, ?_, HBW3.out.setCell (p := ⟨g, q * 4 + 3, none⟩) hg0 _, fun b hb hbs => (Below.heap_setCell _ _ _ b (by simp only []; omega)).trans (HTP3.out b hb hbs), ⟨_, HB3.out.set_ (q * 4 + 3) _, ?_, ?_⟩, fun i hi hqi => own_far3 (HP3.out i hi hqi) (HLO.out i hi)⟩
          · omega
          · simp only [fsz]; omega
          · simpa only [Array.size_setIfInBounds] using HS.out
          · intro i hi hqi
            rw [Array.getElem?_setIfInBounds_ne (by omega), Array.getElem?_setIfInBounds_ne (by omega), Array.getElem?_setIfInBounds_ne (by omega)]
            exact HC.out i hi (by omega)
        case measure => simp [intOf]; omega
      · obtain rfl : q = n := by omega
        go_wp2
        go_ret
        exact ⟨_, rfl, hr0, hbw, htp⟩
end Go.Proofs.Ytbpeamjgddikjaa
