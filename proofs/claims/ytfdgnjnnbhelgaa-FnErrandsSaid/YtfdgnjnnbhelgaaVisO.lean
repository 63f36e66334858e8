/- Chapter 23: a plan in an order: the library's stable sort at most at 12 places, by insertion. -/
import Derived.Test.YtfdgnjnnbhelgaaVisC
import Derived.Test.YtfdgnjnnbhelgaaSrt
import Derived.Test.YtfdgnjnnbhelgaaApp
import Derived.IntWalk
namespace Go.Proofs.Ytfdgnjnnbhelgaa
open Go.RowKit
set_option linter.unusedVariables false
set_option linter.unusedSimpArgs false

/-- The cells of a block, as numbers. -/
def Cel (S : Nat) (w : World) (g n : Nat) (F : Nat → Nat) : Prop := ∃ cur, Blk w g 3 cur ∧ cur.size = S ∧ ∀ p, p < n → cur[p]? = some (.int .i64 (F p : Nat))
theorem Cel.cell {S : Nat} {w : World} {g n : Nat} {F : Nat → Nat} (h : Cel S w g n F) {p : Nat} (hp : p < n) : w.cell? ⟨g, p, none⟩ = some (.int .i64 (F p : Nat)) := by
  obtain ⟨cur, hb, hs, hc⟩ := h
  rw [hb.cell, hc p hp]
theorem Cel.frozen {S : Nat} {w : World} {g n : Nat} {F : Nat → Nat} (h : Cel S w g n F) (p : Nat) : w.frozen? ⟨g, p, none⟩ = false := by
  obtain ⟨cur, hb, hs, hc⟩ := h
  exact hb.frozen p
theorem Cel.lt {S : Nat} {w : World} {g n : Nat} {F : Nat → Nat} (h : Cel S w g n F) : g < w.heap.size := by
  obtain ⟨cur, hb, hs, hc⟩ := h
  exact hb.lt
theorem Cel.below {S : Nat} {w w' : World} {g n B : Nat} {F : Nat → Nat} (h : Cel S w g n F) (hb : Below B w w') (hg : g < B) : Cel S w' g n F := by
  obtain ⟨cur, h1, hs0, h2⟩ := h
  exact ⟨cur, h1.below hb hg, hs0, h2⟩
theorem Cel.drew {S : Nat} {w : World} {g n : Nat} {F : Nat → Nat} (h : Cel S w g n F) : Cel S w.drew g n F := h
theorem Cel.congr {S : Nat} {w : World} {g n : Nat} {F G : Nat → Nat} (h : Cel S w g n F) (e : ∀ p, p < n → F p = G p) : Cel S w g n G := by
  obtain ⟨cur, h1, hs0, h2⟩ := h
  exact ⟨cur, h1, hs0, fun p hp => by rw [← e p hp]; exact h2 p hp⟩
theorem Cel.set_ {S : Nat} {w : World} {g n : Nat} {F : Nat → Nat} (h : Cel S w g n F) (q x : Nat) : Cel S (w.setCell ⟨g, q, none⟩ (.int .i64 (x : Nat))) g n (fun p => if p = q then x else F p) := by
  obtain ⟨cur, h1, hs0, h2⟩ := h
  refine ⟨_, h1.set_ q _, by simpa using hs0, fun p hp => ?_⟩
  rw [Array.getElem?_setIfInBounds]
  show (if q = p then _ else _) = some (Value.int .i64 ((if p = q then x else F p : Nat) : Int))
  by_cases e : q = p
  · subst e
    have hs : q < cur.size := by
      by_cases hs : q < cur.size
      · exact hs
      · have := h2 q hp
        rw [Array.getElem?_eq_none (by omega)] at this
        cases this
    rw [if_pos rfl, if_pos hs, if_pos rfl]
  · have e' : ¬ p = q := by omega
    rw [if_neg e, if_neg e', h2 p hp]
/-- What the order's function hands back. -/
def CmpOk (r : Nat → Nat → Int) (n B bc bl : Nat) (w : World) : Prop :=
  ∀ (w' : World) (a b : Nat), a < n → b < n → (∀ c o, c < B → w'.cell? ⟨c, o, none⟩ = w.cell? ⟨c, o, none⟩) →
    Calls Try.prog 119 #[.int .i64 (a : Nat), .int .i64 (b : Nat), .pointer (some ⟨bc, 0, none⟩), .pointer (some ⟨bl, 0, none⟩)] w' fun e w'' => e = .returned (.int .i64 (r a b)) ∧ Below w'.heap.size w' w''
theorem grown_cellx {w w' : World} {g B : Nat} (hg : w.grownBy w' (some g)) (hB : B ≤ g) (hs : B ≤ w.heap.size) : ∀ c o, c < B → w'.cell? ⟨c, o, none⟩ = w.cell? ⟨c, o, none⟩ := fun c o hc =>
  World.cell?_of_block (hg.block c (by omega) (fun e => by injection e with e; omega))
theorem grown_below {w a w' : World} {row : Option Nat} (h : w.grownBy a row) (hb : Below a.heap.size a w') : w.grownBy w' row :=
  grown_trans h ⟨hb.os, hb.tape, hb.output, hb.size, fun i hi _ => hb.block i hi⟩

set_option maxHeartbeats 2000000 in
set_option maxRecDepth 100000 in
theorem ins_sort {S : Nat} (g cap n B bc bl : Nat) (f : Nat → Int) (r : Nat → Nat → Int) (w : World) (hn : n ≤ 12) (hnc : n ≤ cap) (hB : B ≤ g) (hr : ∀ a b, f a < f b ↔ r a b < 0) (hcmp : CmpOk r n B bc bl w) (hcel : Cel S w g n (fun p => p)) :
    Calls Try.prog 145 #[.slice (some ⟨g, 0, none⟩) n cap, .int .i64 0, .int .i64 (n : Nat), .func (.func 119) #[] #[.pointer (some ⟨bc, 0, none⟩), .pointer (some ⟨bl, 0, none⟩)]] w
      fun e w' => e = .returned (.tuple #[]) ∧ w.grownBy w' (some g) ∧ Cel S w' g n (fun p => (insL f n).getD p 0) := by
  have HC := hide hcmp; have HR := hide hr
  have hg0 := hcel.lt
  have HL := hide hcel
  clear hcmp hr hcel
  go_enter Try.func145, Try.ntmps145
  go_wp2
  go_loopw [8] (fun i wr => ∃ k : Nat, (k ≤ n ∨ k = 1) ∧ 1 ≤ k ∧ i = .int .i64 k ∧ w.grownBy wr (some g) ∧ Cel S wr g n (fun p => if p < k then (insL f k).getD p 0 else p)) (fun i _ => n - (intOf i).toNat)
  case atStart => exact ⟨1, .inr rfl, Nat.le_refl _, rfl, grown_refl _ _, HL.out.congr (fun p hp => by
    by_cases h : p < 1
    · obtain rfl : p = 0 := by omega
      rfl
    · rw [if_neg h])⟩
  case round =>
    obtain ⟨k, hk, hk1, rfl, hgr, hce⟩ := hrel
    have HG := hide hgr; have HE := hide hce
    clear hgr hce
    by_cases hlt : k < n
    · go_wp2
      go_loopw [9] (fun j wq => ∃ t : Nat, t ≤ k ∧ j = .int .i64 t ∧ w.grownBy wq (some g) ∧ cutOf f (insL f k) k k = cutOf f (insL f k) k t ∧ Cel S wq g n (stG (insL f k) k t k)) (fun j _ => (intOf j).toNat)
      case atStart => exact ⟨k, Nat.le_refl _, rfl, HG.out, rfl, HE.out.congr (fun p hp => by
        by_cases h : p < k
        · rw [if_pos h, stG_start h]
        · rw [if_neg h, stG_start' (by omega)])⟩
      case round =>
        obtain ⟨t, ht, rfl, hgr, hcut, hce⟩ := hrel
        have HG2 := hide hgr; have HE2 := hide hce; have HT := hide hcut
        clear hgr hce hcut
        have hgl := HE2.out.lt
        rcases t with _ | q
        · have hx := BW.cell (w := wr)
          go_wp2
          refine wp_region_bw (by kernel_rfl) (by kernel_rfl) ?_
          repeat (go_big_quiet_step ((first | fail)))
          refine wpQuiet_end fun w1 hb1 => ?_
          clear hx
          have hce1 := HE2.out.below hb1 hgl
          have hgr1 := grown_below HG2.out hb1
          have hct : cutOf f (insL f k) k k = 0 := by rw [HT.out]; rfl
          have H1 := hide hce1; have H2 := hide hgr1; have H3 := hide hct
          clear hce1 hgr1 hct
          go_wp2
          go_roundw
          case rel => exact ⟨k + 1, by omega, by omega, by go_num, H2.out, H1.out.congr (fun p hp => stG_end (Nat.zero_le _) H3.out)⟩
          case measure => simp [intOf]; omega
        · have d1 := HE2.out.cell (p := q + 1) (by omega)
          have d0 := HE2.out.cell (p := q) (by omega)
          have e1 : stG (insL f k) k (q + 1) k (q + 1) = k := by unfold stG; rw [if_pos (by omega), if_neg (by omega), if_pos rfl]
          have e0 : stG (insL f k) k (q + 1) k q = (insL f k).getD q 0 := by unfold stG; rw [if_pos (by omega), if_pos (by omega)]
          rw [e1] at d1; rw [e0] at d0
          have hzlt : (insL f k).getD q 0 < k := insL_get (by omega)
          obtain ⟨z, hz⟩ : ∃ z, (insL f k).getD q 0 = z := ⟨_, rfl⟩
          rw [hz] at d0 hzlt
          have f1 := HE2.out.frozen (q + 1); have f0 := HE2.out.frozen q
          have HZ := hide hz
          have hx := BW.cell (w := wr)
          have hcl : ∀ c o, c < B → wr.cell? ⟨c, o, none⟩ = w.cell? ⟨c, o, none⟩ := grown_cellx HG2.out hB (by omega)
          have HCL := hide hcl
          have hBq : B ≤ wr.heap.size := by omega
          have hkn : k < n := hlt
          have hzn : z < n := by omega
          have hww : IntKind.i64.wrap ((q : Int) + 1 - 1) = (q : Int) := by rw [IntWalk.i64_in _ (by omega)]; omega
          clear hz e1 e0 hcl
          by_cases hlz : f k < f z
          · have hneg : r k z < 0 := (HR.out k z).1 hlz
            have hb0 : decide (r k z < 0) = true := by simp [hneg]
            go_wp2
            refine wp_region_bw (by kernel_rfl) (by kernel_rfl) ?_
            repeat (go_big_quiet_step ((first | (go_at_call 119; exact BW.call (HC.out _ _ _ hkn hzn (fun c o h => (hx _ c o (by omega)).trans (HCL.out c o h)))))))
            refine wpQuiet_end fun w1 hb1 => ?_
            clear hx hww
            have hce1 := HE2.out.below hb1 hgl
            have hgr1 := grown_below HG2.out hb1
            have hct : cutOf f (insL f k) k k = cutOf f (insL f k) k q := cut_step HT.out (by rw [HZ.out]; exact hlz)
            obtain ⟨qc1, qf1⟩ := bcell hb1
            have d1' := (qc1 g (q + 1) hgl).trans d1; have d0' := (qc1 g q hgl).trans d0
            have f1' := (qf1 g (q + 1) hgl).trans f1; have f0' := (qf1 g q hgl).trans f0
            have hs1 := hb1.size
            have H1 := hide hce1; have H2 := hide hgr1; have H3 := hide hct
            clear hce1 hgr1 hct qc1 qf1 d1 d0 f1 f0
            go_wp2
            go_region
            all_goals
              go_wp2
              go_roundw
              case rel =>
                have hce2 := ((H1.out.drew.set_ (q + 1) z).set_ q k).congr (G := stG (insL f k) k q k) (fun p hp => by
                  show (if p = q then k else if p = q + 1 then z else stG (insL f k) k (q + 1) k p) = stG (insL f k) k q k p
                  rw [← HZ.out]; exact stG_step (by omega))
                exact ⟨q, by omega, by go_num, grown_setCell (grown_setCell (grown_drew H2.out) _ _) _ _, H3.out, hce2⟩
              case measure => first | (simp [intOf]; done) | (simp [intOf]; omega)
          · have hneg : ¬ r k z < 0 := fun h => hlz ((HR.out k z).2 h)
            have hb0 : decide (r k z < 0) = false := by simp [hneg]
            go_wp2
            refine wp_region_bw (by kernel_rfl) (by kernel_rfl) ?_
            repeat (go_big_quiet_step ((first | (go_at_call 119; exact BW.call (HC.out _ _ _ hkn hzn (fun c o h => (hx _ c o (by omega)).trans (HCL.out c o h)))))))
            refine wpQuiet_end fun w1 hb1 => ?_
            clear hx hww
            have hce1 := HE2.out.below hb1 hgl
            have hgr1 := grown_below HG2.out hb1
            have hct : cutOf f (insL f k) k k = q + 1 := cut_stop HT.out (by rw [HZ.out]; omega)
            have H1 := hide hce1; have H2 := hide hgr1; have H3 := hide hct
            clear hce1 hgr1 hct
            go_wp2
            go_roundw
            case rel => exact ⟨k + 1, by omega, by omega, by go_num, H2.out, H1.out.congr (fun p hp => stG_end (by omega) H3.out)⟩
            case measure => simp [intOf]; omega
    · go_wp2
      refine bodyPost_end (v := .tuple #[]) (by simp [results, Try.results145, go_sem]) rfl ⟨rfl, HG.out, HE.out.congr (fun p hp => ?_)⟩
      have hkn : k = n := by omega
      subst hkn
      rw [if_pos hp]
end Go.Proofs.Ytfdgnjnnbhelgaa
