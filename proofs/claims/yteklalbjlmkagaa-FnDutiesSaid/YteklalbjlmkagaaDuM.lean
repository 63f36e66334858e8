/- Chapter 17: duties are sorted: the library's stable sort at most at 14 places, by insertion. -/
import Derived.Test.YteklalbjlmkagaaDuL
import Derived.Test.YteklalbjlmkagaaSrt
import Derived.Test.YteklalbjlmkagaaDuC
import Derived.IntWalk
namespace Go.Proofs.Yteklalbjlmkagaa
open Go.RowKit
set_option linter.unusedVariables false
set_option linter.unusedSimpArgs false

/-- The cells of a block, as duties. -/
def CeD (D : Nat → Du) (S : Nat) (w : World) (g n : Nat) (F : Nat → Nat) : Prop := ∃ cur, Blk w g 39 cur ∧ cur.size = S ∧ n * 4 ≤ S ∧ ∀ p j, p < n → j < 4 → cur[p * 4 + j]? = some (dv D (F p) j)
theorem CeD.cell {D : Nat → Du} {S : Nat} {w : World} {g n : Nat} {F : Nat → Nat} (h : CeD D S w g n F) {p j : Nat} (hp : p < n) (hj : j < 4) : w.cell? ⟨g, p * 4 + j, none⟩ = some (dv D (F p) j) := by
  obtain ⟨cur, hb, hs, hS, hc⟩ := h
  rw [hb.cell, hc p j hp hj]
theorem CeD.frozen {D : Nat → Du} {S : Nat} {w : World} {g n : Nat} {F : Nat → Nat} (h : CeD D S w g n F) (p : Nat) : w.frozen? ⟨g, p, none⟩ = false := by
  obtain ⟨cur, hb, hs, hc⟩ := h
  exact hb.frozen p
theorem CeD.lt {D : Nat → Du} {S : Nat} {w : World} {g n : Nat} {F : Nat → Nat} (h : CeD D S w g n F) : g < w.heap.size := by
  obtain ⟨cur, hb, hs, hc⟩ := h
  exact hb.lt
theorem CeD.below {D : Nat → Du} {S : Nat} {w w' : World} {g n B : Nat} {F : Nat → Nat} (h : CeD D S w g n F) (hb : Below B w w') (hg : g < B) : CeD D S w' g n F := by
  obtain ⟨cur, h1, hs0, h2⟩ := h
  exact ⟨cur, h1.below hb hg, hs0, h2⟩
theorem CeD.drew {D : Nat → Du} {S : Nat} {w : World} {g n : Nat} {F : Nat → Nat} (h : CeD D S w g n F) : CeD D S w.drew g n F := h
theorem CeD.congr {D : Nat → Du} {S : Nat} {w : World} {g n : Nat} {F G : Nat → Nat} (h : CeD D S w g n F) (e : ∀ p, p < n → F p = G p) : CeD D S w g n G := by
  obtain ⟨cur, h1, hs0, hS, h2⟩ := h
  exact ⟨cur, h1, hs0, hS, fun p j hp hj => by rw [← e p hp]; exact h2 p j hp hj⟩
theorem CeD.set_ {D : Nat → Du} {S : Nat} {w : World} {g n : Nat} {F : Nat → Nat} (h : CeD D S w g n F) (q x : Nat) (hq : q < n) : CeD D S (w.setCells g (q * 4) (dC (D x))) g n (fun p => if p = q then x else F p) := by
  obtain ⟨cur, h1, hs0, hS, h2⟩ := h
  obtain ⟨cur', h3, h4, h5⟩ := blk_setCellsD (dC (D x)) (q * 4) h1
  refine ⟨cur', h3, by rw [h4, hs0], hS, fun p j hp hj => ?_⟩
  have hlt : p * 4 + j < cur.size := by rw [hs0]; omega
  rw [h5 _ hlt]
  show (if q * 4 ≤ p * 4 + j ∧ p * 4 + j < q * 4 + 4 then _ else _) = some (dv D (if p = q then x else F p) j)
  by_cases e : p = q
  · subst e
    rw [if_pos (by omega), if_pos rfl, show p * 4 + j - p * 4 = j by omega]
    rcases (by omega : j = 0 ∨ j = 1 ∨ j = 2 ∨ j = 3) with rfl | rfl | rfl | rfl <;> rfl
  · rw [if_neg (by omega), if_neg e]
    exact h2 p j hp hj
theorem grown_below {w a w' : World} {row : Option Nat} (h : w.grownBy a row) (hb : Below a.heap.size a w') : w.grownBy w' row :=
  grown_trans h ⟨hb.os, hb.tape, hb.output, hb.size, fun i hi _ => hb.block i hi⟩
set_option maxHeartbeats 2000000 in
set_option maxRecDepth 100000 in
theorem ins_sortD {S : Nat} (g cap n : Nat) (D : Nat → Du) (f : Nat → Int) (w : World) (hn : n ≤ 14) (hnc : n ≤ cap) (hf : ∀ a b, a < n → b < n → (f a < f b ↔ cmp2 (D a) (D b) < 0)) (hcel : CeD D S w g n (fun p => p)) :
    Calls Try.prog 85 #[.slice (some ⟨g, 0, none⟩) n cap, .int .i64 0, .int .i64 (n : Nat), .func (.func 50) #[] #[]] w
      fun e w' => e = .returned (.tuple #[]) ∧ w.grownBy w' (some g) ∧ CeD D S w' g n (fun p => (insL f n).getD p 0) := by
  have HR := hide hf
  have hg0 := hcel.lt
  have HL := hide hcel
  clear hf hcel
  go_enter Try.func85, Try.ntmps85
  go_wp2
  go_loopw [8] (fun i wr => ∃ k : Nat, (k ≤ n ∨ k = 1) ∧ 1 ≤ k ∧ i = .int .i64 k ∧ w.grownBy wr (some g) ∧ CeD D S wr g n (fun p => if p < k then (insL f k).getD p 0 else p)) (fun i _ => n - (intOf i).toNat)
  case atStart => exact ⟨1, .inr rfl, Nat.le_refl _, rfl, grown_refl _ _, HL.out.congr (fun p hp => by
    by_cases h : p < 1
    · obtain rfl : p = 0 := by omega
      rfl
    · rw [if_neg h])⟩
  case round =>
    obtain ⟨k, hk, hk1, rfl, hgr, hce⟩ := hrel
    have HG := hide hgr; have HE := hide hce
    clear hgr hce
    by_cases hlt : k < n
    · go_wp2
      go_loopw [9] (fun j wq => ∃ t : Nat, t ≤ k ∧ j = .int .i64 t ∧ w.grownBy wq (some g) ∧ cutOf f (insL f k) k k = cutOf f (insL f k) k t ∧ CeD D S wq g n (stG (insL f k) k t k)) (fun j _ => (intOf j).toNat)
      case atStart => exact ⟨k, Nat.le_refl _, rfl, HG.out, rfl, HE.out.congr (fun p hp => by
        by_cases h : p < k
        · rw [if_pos h, stG_start h]
        · rw [if_neg h, stG_start' (by omega)])⟩
      case round =>
        obtain ⟨t, ht, rfl, hgr, hcut, hce⟩ := hrel
        have HG2 := hide hgr; have HE2 := hide hce; have HT := hide hcut
        clear hgr hce hcut
        have hgl := HE2.out.lt
        by_cases ht0 : t = 0
        · subst ht0
          have hx := BW.cell (w := wr)
          go_wp2
          refine wp_region_bw (by kernel_rfl) (by kernel_rfl) ?_
          repeat (go_big_quiet_step ((first | fail)))
          refine wpQuiet_end fun w1 hb1 => ?_
          clear hx
          have hce1 := HE2.out.below hb1 hgl
          have hgr1 := grown_below HG2.out hb1
          have hct : cutOf f (insL f k) k k = 0 := by rw [HT.out]; rfl
          have H1 := hide hce1; have H2 := hide hgr1; have H3 := hide hct
          clear hce1 hgr1 hct
          go_wp2
          go_roundw
          case rel => exact ⟨k + 1, by omega, by omega, by go_num, H2.out, H1.out.congr (fun p hp => stG_end (Nat.zero_le _) H3.out)⟩
          case measure => simp [intOf]; omega
        · obtain ⟨q, hq⟩ : ∃ q, t = q + 1 := ⟨t - 1, by omega⟩
          have d0 := HE2.out.cell (p := t) (j := 0) (by omega) (by omega)
          have d1 := HE2.out.cell (p := t) (j := 1) (by omega) (by omega)
          have d2 := HE2.out.cell (p := t) (j := 2) (by omega) (by omega)
          have d3 := HE2.out.cell (p := t) (j := 3) (by omega) (by omega)
          have e0 := HE2.out.cell (p := q) (j := 0) (by omega) (by omega)
          have e1 := HE2.out.cell (p := q) (j := 1) (by omega) (by omega)
          have e2 := HE2.out.cell (p := q) (j := 2) (by omega) (by omega)
          have e3 := HE2.out.cell (p := q) (j := 3) (by omega) (by omega)
          have s1 : stG (insL f k) k t k t = k := by unfold stG; rw [if_pos (by omega), if_neg (by omega), if_pos rfl]
          have s0 : stG (insL f k) k t k q = (insL f k).getD q 0 := by unfold stG; rw [if_pos (by omega), if_pos (by omega)]
          rw [s1] at d0 d1 d2 d3; rw [s0] at e0 e1 e2 e3
          have hzlt : (insL f k).getD q 0 < k := insL_get (by omega)
          obtain ⟨z, hz⟩ : ∃ z, (insL f k).getD q 0 = z := ⟨_, rfl⟩
          rw [hz] at e0 e1 e2 e3 hzlt
          rw [dv0] at d0 e0; rw [dv1] at d1 e1; rw [dv2] at d2 e2; rw [dv3] at d3 e3
          simp only [Nat.add_zero] at d0 e0
          have f0 := HE2.out.frozen (t * 4); have f1 := HE2.out.frozen (t * 4 + 1); have f2 := HE2.out.frozen (t * 4 + 2); have f3 := HE2.out.frozen (t * 4 + 3)
          have k0 := HE2.out.frozen (q * 4); have k1 := HE2.out.frozen (q * 4 + 1); have k2 := HE2.out.frozen (q * 4 + 2); have k3 := HE2.out.frozen (q * 4 + 3)
          have HZ := hide hz; have HQ := hide hq
          have hx := BW.cell (w := wr)
          have hkn : k < n := hlt
          have hzn : z < n := by omega
          have htp : 0 < t := by omega
          have htb : decide (0 < t) = true := decide_eq_true htp
          have htn : t < cap := by omega
          have hqn : q < cap := by omega
          have hqn2 : q < n := by omega
          have hww : IntKind.i64.wrap ((t : Int) - 1) = (q : Int) := by rw [IntWalk.i64_in _ (by omega)]; omega
          clear hz s0 s1 hq
          by_cases hlz : f k < f z
          · have hneg : cmp2 (D k) (D z) < 0 := (HR.out k z hkn hzn).1 hlz
            have hb0 : decide (cmp2 (D k) (D z) < 0) = true := by simp [hneg]
            go_wp2
            refine wp_region_bw (by kernel_rfl) (by kernel_rfl) ?_
            repeat (go_big_quiet_step ((first | (go_at_call 50; exact BW.call (compare_du (D k) (D z) _ rfl _)))))
            refine wpQuiet_end fun w1 hb1 => ?_
            clear hx
            have hce1 := HE2.out.below hb1 hgl
            have hgr1 := grown_below HG2.out hb1
            have hct : cutOf f (insL f k) k k = cutOf f (insL f k) k q := cut_step (by rw [HT.out, HQ.out]) (by rw [HZ.out]; exact hlz)
            obtain ⟨qc1, qf1⟩ := bcell hb1
            have d0' := (qc1 g _ hgl).trans d0; have d1' := (qc1 g _ hgl).trans d1; have d2' := (qc1 g _ hgl).trans d2; have d3' := (qc1 g _ hgl).trans d3
            have e0' := (qc1 g _ hgl).trans e0; have e1' := (qc1 g _ hgl).trans e1; have e2' := (qc1 g _ hgl).trans e2; have e3' := (qc1 g _ hgl).trans e3
            have f0' := (qf1 g _ hgl).trans f0; have f1' := (qf1 g _ hgl).trans f1; have f2' := (qf1 g _ hgl).trans f2; have f3' := (qf1 g _ hgl).trans f3
            have k0' := (qf1 g _ hgl).trans k0; have k1' := (qf1 g _ hgl).trans k1; have k2' := (qf1 g _ hgl).trans k2; have k3' := (qf1 g _ hgl).trans k3
            have hs1 := hb1.size
            have H1 := hide hce1; have H2 := hide hgr1; have H3 := hide hct
            clear hce1 hgr1 hct qc1 qf1 d0 d1 d2 d3 e0 e1 e2 e3 f0 f1 f2 f3 k0 k1 k2 k3
            have n00 : ¬ (q * 4 = t * 4) := by have := HQ.out; omega
            have m00 : ¬ (t * 4 = q * 4) := by have := HQ.out; omega
            have n01 : ¬ (q * 4 = t * 4 + 1) := by have := HQ.out; omega
            have m01 : ¬ (t * 4 = q * 4 + 1) := by have := HQ.out; omega
            have n02 : ¬ (q * 4 = t * 4 + 2) := by have := HQ.out; omega
            have m02 : ¬ (t * 4 = q * 4 + 2) := by have := HQ.out; omega
            have n03 : ¬ (q * 4 = t * 4 + 3) := by have := HQ.out; omega
            have m03 : ¬ (t * 4 = q * 4 + 3) := by have := HQ.out; omega
            have n10 : ¬ (q * 4 + 1 = t * 4) := by have := HQ.out; omega
            have m10 : ¬ (t * 4 + 1 = q * 4) := by have := HQ.out; omega
            have n11 : ¬ (q * 4 + 1 = t * 4 + 1) := by have := HQ.out; omega
            have m11 : ¬ (t * 4 + 1 = q * 4 + 1) := by have := HQ.out; omega
            have n12 : ¬ (q * 4 + 1 = t * 4 + 2) := by have := HQ.out; omega
            have m12 : ¬ (t * 4 + 1 = q * 4 + 2) := by have := HQ.out; omega
            have n13 : ¬ (q * 4 + 1 = t * 4 + 3) := by have := HQ.out; omega
            have m13 : ¬ (t * 4 + 1 = q * 4 + 3) := by have := HQ.out; omega
            have n20 : ¬ (q * 4 + 2 = t * 4) := by have := HQ.out; omega
            have m20 : ¬ (t * 4 + 2 = q * 4) := by have := HQ.out; omega
            have n21 : ¬ (q * 4 + 2 = t * 4 + 1) := by have := HQ.out; omega
            have m21 : ¬ (t * 4 + 2 = q * 4 + 1) := by have := HQ.out; omega
            have n22 : ¬ (q * 4 + 2 = t * 4 + 2) := by have := HQ.out; omega
            have m22 : ¬ (t * 4 + 2 = q * 4 + 2) := by have := HQ.out; omega
            have n23 : ¬ (q * 4 + 2 = t * 4 + 3) := by have := HQ.out; omega
            have m23 : ¬ (t * 4 + 2 = q * 4 + 3) := by have := HQ.out; omega
            have n30 : ¬ (q * 4 + 3 = t * 4) := by have := HQ.out; omega
            have m30 : ¬ (t * 4 + 3 = q * 4) := by have := HQ.out; omega
            have n31 : ¬ (q * 4 + 3 = t * 4 + 1) := by have := HQ.out; omega
            have m31 : ¬ (t * 4 + 3 = q * 4 + 1) := by have := HQ.out; omega
            have n32 : ¬ (q * 4 + 3 = t * 4 + 2) := by have := HQ.out; omega
            have m32 : ¬ (t * 4 + 3 = q * 4 + 2) := by have := HQ.out; omega
            have n33 : ¬ (q * 4 + 3 = t * 4 + 3) := by have := HQ.out; omega
            have m33 : ¬ (t * 4 + 3 = q * 4 + 3) := by have := HQ.out; omega
            go_wp2
            go_region
            all_goals
              go_wp2
              go_roundw
              case rel =>
                have hce2 := (((H1.out.set_ t z (by omega)).set_ q k (by omega)).drew).congr (G := stG (insL f k) k q k) (fun p hp => by
                  show (if p = q then k else if p = t then z else stG (insL f k) k t k p) = stG (insL f k) k q k p
                  rw [HQ.out, ← HZ.out]; exact stG_step (by have := HQ.out; omega))
                exact ⟨q, by have := HQ.out; omega, by first | rfl | go_num, grown_drew (grown_setCellsD (dC (D k)) (q * 4) (grown_setCellsD (dC (D z)) (t * 4) H2.out)), H3.out, hce2⟩
              case measure => have := HQ.out; first | (simp [intOf]; done) | (simp [intOf]; omega)
          · have hneg : ¬ cmp2 (D k) (D z) < 0 := fun h => hlz ((HR.out k z hkn hzn).2 h)
            have hb0 : decide (cmp2 (D k) (D z) < 0) = false := by simp [hneg]
            go_wp2
            refine wp_region_bw (by kernel_rfl) (by kernel_rfl) ?_
            repeat (go_big_quiet_step ((first | (go_at_call 50; exact BW.call (compare_du (D k) (D z) _ rfl _)))))
            refine wpQuiet_end fun w1 hb1 => ?_
            clear hx hww
            have hce1 := HE2.out.below hb1 hgl
            have hgr1 := grown_below HG2.out hb1
            have hct : cutOf f (insL f k) k k = t := by rw [HQ.out]; exact cut_stop (by rw [HT.out, HQ.out]) (by rw [HZ.out]; omega)
            have H1 := hide hce1; have H2 := hide hgr1; have H3 := hide hct
            clear hce1 hgr1 hct
            go_wp2
            go_roundw
            case rel => exact ⟨k + 1, by omega, by omega, by go_num, H2.out, H1.out.congr (fun p hp => stG_end (by omega) H3.out)⟩
            case measure => simp [intOf]; omega
    · go_wp2
      refine bodyPost_end (v := .tuple #[]) (by simp [results, Try.results85, go_sem]) rfl ⟨rfl, HG.out, HE.out.congr (fun p hp => ?_)⟩
      have hkn : k = n := by omega
      subst hkn
      rw [if_pos hp]
set_option maxHeartbeats 1000000 in
theorem stable_sortD {S : Nat} (g cap n : Nat) (D : Nat → Du) (f : Nat → Int) (w : World) (hn : n ≤ 14) (hnc : n ≤ cap) (hf : ∀ a b, a < n → b < n → (f a < f b ↔ cmp2 (D a) (D b) < 0)) (hcel : CeD D S w g n (fun p => p)) :
    Calls Try.prog 74 #[.slice (some ⟨g, 0, none⟩) n cap, .int .i64 (n : Nat), .func (.func 50) #[] #[]] w
      fun e w' => e = .returned (.tuple #[]) ∧ w.grownBy w' (some g) ∧ CeD D S w' g n (fun p => (insL f n).getD p 0) := by
  have HR := hide hf; have HL := hide hcel
  clear hf hcel
  go_enter Try.func74, Try.ntmps74
  go_wp2
  go_loop [7, 8] (fun a b => a = .int .i64 0 ∧ b = .int .i64 20) (fun _ _ => 0)
  case atStart => exact ⟨rfl, rfl⟩
  case round =>
    obtain ⟨rfl, rfl⟩ := hrel
    go_wp2_with fail
    refine (ins_sortD g cap n D f _ hn hnc HR.out HL.out).mono ?_
    rintro e w1 ⟨rfl, hg1, hc1⟩
    have HG := hide hg1; have HE := hide hc1
    clear hg1 hc1
    go_wp2
    go_loop [6] (fun a => a = .int .i64 20) (fun _ => 0)
    case atStart => exact rfl
    case round =>
      obtain rfl := hrel
      go_wp2
      exact bodyPost_end (v := .tuple #[]) (by simp [results, Try.results74, go_sem]) rfl ⟨rfl, HG.out, HE.out⟩
theorem sort_stableD {S : Nat} (g cap n : Nat) (D : Nat → Du) (f : Nat → Int) (w : World) (hn : n ≤ 14) (hnc : n ≤ cap) (hf : ∀ a b, a < n → b < n → (f a < f b ↔ cmp2 (D a) (D b) < 0)) (hcel : CeD D S w g n (fun p => p)) :
    Calls Try.prog 49 #[.slice (some ⟨g, 0, none⟩) n cap, .func (.func 50) #[] #[]] w
      fun e w' => e = .returned (.tuple #[]) ∧ w.grownBy w' (some g) ∧ CeD D S w' g n (fun p => (insL f n).getD p 0) := by
  have HR := hide hf; have HL := hide hcel
  clear hf hcel
  go_enter Try.func49, Try.ntmps49
  go_wp2_with fail
  refine (stable_sortD g cap n D f _ hn hnc HR.out HL.out).mono ?_
  rintro e w1 ⟨rfl, hg1, hc1⟩
  have HG := hide hg1; have HE := hide hc1
  clear hg1 hc1
  go_wp2
  exact bodyPost_end (v := .tuple #[]) (by simp [results, Try.results49, go_sem]) rfl ⟨rfl, HG.out, HE.out⟩
end Go.Proofs.Yteklalbjlmkagaa
