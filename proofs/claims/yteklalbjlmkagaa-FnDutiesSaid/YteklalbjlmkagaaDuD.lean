/- Chapter 17: the library's Compact and Sort of a short list of numbers. -/
import Derived.Test.YteklalbjlmkagaaDuP
import Derived.Test.YteklalbjlmkagaaDuC
import Derived.Lib.SliceRun
namespace Go.Proofs.Yteklalbjlmkagaa
open Go.RowKit
set_option linter.unusedVariables false
set_option linter.unusedSimpArgs false

theorem blk_setCellsD {g : Nat} {t : TypeId} : ∀ (vs : List Value) (o : Nat) {w : World} {cur : Array Value}, Blk w g t cur → ∃ cur', Blk (w.setCells g o vs) g t cur' ∧ cur'.size = cur.size ∧ ∀ i, i < cur.size → cur'[i]? = if o ≤ i ∧ i < o + vs.length then vs[i - o]? else cur[i]?
  | [], o, w, cur, h => ⟨cur, h, rfl, fun i hi => by rw [if_neg (by first | (simp; done) | (simp; omega))]⟩
  | v :: r, o, w, cur, h => by
    obtain ⟨c', h1, h2, h3⟩ := blk_setCellsD r (o + 1) (h.set_ o v)
    refine ⟨c', h1, by rw [h2, Array.size_setIfInBounds], fun i hi => ?_⟩
    rw [h3 i (by rw [Array.size_setIfInBounds]; exact hi)]
    by_cases h4 : i = o
    · subst h4
      rw [if_neg (by omega), if_pos ⟨Nat.le_refl _, by simp⟩, Array.getElem?_setIfInBounds, if_pos rfl, if_pos hi, Nat.sub_self]
      rfl
    · by_cases h5 : o + 1 ≤ i ∧ i < o + 1 + r.length
      · rw [if_pos h5, if_pos ⟨by omega, by simp only [List.length_cons]; omega⟩, show i - o = (i - (o + 1)) + 1 from by omega]
        rfl
      · rw [if_neg h5, if_neg (by simp only [List.length_cons]; omega), Array.getElem?_setIfInBounds, if_neg (fun e => h4 e.symm)]
theorem grown_setCellsD {a : World} {g : Nat} : ∀ (vs : List Value) (o : Nat) {w : World}, a.grownBy w (some g) → a.grownBy (w.setCells g o vs) (some g)
  | [], _, _, h => h
  | v :: r, o, w, h => grown_setCellsD r (o + 1) (grown_setCell h o v)
theorem CeS.clear {S : Nat} {w : World} {g n m : Nat} {F : Nat → Nat} (h : CeS S w g n F) (hm : m ≤ n) (vs : List Value) : CeS S (w.setCells g m vs) g m F := by
  obtain ⟨cur, h1, h2, h3⟩ := h
  obtain ⟨cur', k1, k2, k3⟩ := blk_setCellsD vs m h1
  refine ⟨cur', k1, by rw [k2, h2], fun p hp => ?_⟩
  have hlt : p < cur.size := by
    have := h3 p (by omega)
    exact (Array.getElem?_eq_some_iff.1 this).1
  rw [k3 p hlt, if_neg (by omega)]
  exact h3 p (by omega)
theorem CeS.less {S : Nat} {w : World} {g n m : Nat} {F : Nat → Nat} (h : CeS S w g n F) (hm : m ≤ n) : CeS S w g m F := by
  obtain ⟨cur, h1, h2, h3⟩ := h
  exact ⟨cur, h1, h2, fun p hp => h3 p (by omega)⟩
theorem zero_int (w : World) : (zeroValue 3).run Try.prog w = .ok (.int .i64 0) w := by kernel_rfl
def DupF (S : List Nat) (F : Nat → Nat) (n a r : Nat) : Prop := r = (compS S a).length ∧ (∀ p, p < r → F p = (compS S a).getD p 0) ∧ ∀ p, a - 1 ≤ p → p < n → F p = S.getD p 0
set_option maxHeartbeats 4000000 in
set_option maxRecDepth 100000 in
theorem compact_short (g cap n : Nat) (S : List Nat) (w : World) (hS : S.length = n) (hn : n ≤ 12) (hnc : n ≤ cap) (hcm : cap ≤ maxLen) (hcel : CeS cap w g n (fun p => S.getD p 0)) :
    Calls Try.prog 71 #[.slice (some ⟨g, 0, none⟩) n cap] w
      fun e w' => ∃ m, e = .returned (.slice (some ⟨g, 0, none⟩) m cap) ∧ m = (compS S n).length ∧ m ≤ n ∧ w.grownBy w' (some g) ∧ CeS cap w' g m (fun p => (compS S n).getD p 0) := by
  have hcx : cap ≤ 9223372036854775807 := hcm
  have HL := hide hcel
  have HSL := hide hS
  clear hcel hS
  by_cases hn2 : n < 2
  · have hsame : compS S n = S := by
      have h := compS_same (S := S) (k := n) (by rw [HSL.out]; exact Nat.le_refl _) (fun j h0 hj => by omega)
      rw [h, List.take_of_length_le (by rw [HSL.out]; exact Nat.le_refl _)]
    have HSM := hide hsame
    have hn2i : (n : Int) < 2 := by omega
    clear hsame
    go_enter Try.func71, Try.ntmps71
    go_wp2
    go_returns
    exact ⟨n, rfl, by rw [HSM.out, HSL.out], Nat.le_refl _, grown_refl _ _, by rw [HSM.out]; exact HL.out⟩
  · go_enter Try.func71, Try.ntmps71
    go_wp2
    go_loopw [3] (fun i wr => ∃ k : Nat, 1 ≤ k ∧ k ≤ n ∧ i = .int .i64 k ∧ Below w.heap.size w wr ∧ ∀ j, 0 < j → j < k → ¬ S.getD j 0 = S.getD (j - 1) 0) (fun i _ => n - (intOf i).toNat)
    case atStart => exact ⟨1, Nat.le_refl _, by omega, rfl, Below.refl _ _, fun j h0 hj => absurd hj (by omega)⟩
    case round =>
      obtain ⟨k, hk1, hk, rfl, hbw, hno⟩ := hrel
      have HNO := hide hno
      clear hno
      have hgl : g < w.heap.size := HL.out.lt
      have HE := hide (HL.out.below hbw hgl)
      by_cases hlt : k < n
      · obtain ⟨p, rfl⟩ : ∃ p, k = p + 1 := ⟨k - 1, by omega⟩
        have c1 := HE.out.cell (p := p + 1) hlt
        have c0 := HE.out.cell (p := p) (by omega)
        obtain ⟨y, hy⟩ : ∃ y, S.getD (p + 1) 0 = y := ⟨_, rfl⟩
        obtain ⟨z, hz⟩ : ∃ z, S.getD p 0 = z := ⟨_, rfl⟩
        rw [hy] at c1; rw [hz] at c0
        have HY := hide hy; have HZ := hide hz
        have hgr : g < wr.heap.size := HE.out.lt
        have hx := BW.cell (w := wr)
        clear hy hz
        by_cases hyz : y = z
        · subst hyz
          go_wp2
          refine wp_region_bw (by kernel_rfl) (by kernel_rfl) ?_
          repeat (go_big_quiet_step ((first | fail)))
          refine wpQuiet_end fun w1 hb1 => ?_
          clear hx c0 c1
          have hbw1 := below_call hbw hb1
          have hgr0 := grown_belowS (grown_refl w (some g)) hbw1
          have hce0 := HE.out.below hb1 hgr
          have hdup : S.getD (p + 1) 0 = S.getD (p + 1 - 1) 0 := by rw [Nat.add_sub_cancel, HY.out, HZ.out]
          have hs1 : compS S (p + 1) = S.take (p + 1) := compS_same (by rw [HSL.out]; omega) HNO.out
          have hs2 : compS S (p + 2) = S.take (p + 1) := by rw [compS_yes (Nat.succ_pos _) hdup, hs1]
          have hs3 : (compS S (p + 2)).length = p + 1 := by rw [hs2, List.length_take, HSL.out]; omega
          have H1 := hide hgr0; have H2 := hide hce0
          have H3 := hide (show DupF S (fun q => S.getD q 0) n (p + 2) (p + 1) from ⟨hs3.symm, fun q hq => by rw [hs2]; simp [List.getD, List.getElem?_take, hq], fun q _ _ => rfl⟩)
          have hpc : ((p : Int) + 1) ≤ (cap : Int) := by omega
          have hpc2 : ¬ (cap : Int) = (p : Int) + 1 := by omega
          have hpc3 : ¬ cap = p + 1 := by omega
          clear hb1 hbw1 hbw hgr0 hce0 hdup hs1 hs2 hs3 HE
          go_wp2
          go_loopw [3, 5] (fun i j wr => ∃ (a r : Nat) (F : Nat → Nat), p + 2 ≤ a ∧ a ≤ n ∧ p + 1 ≤ r ∧ r + 1 ≤ a ∧ i = .int .i64 r ∧ j = .int .i64 ((a - (p + 1) : Nat) : Int) ∧ w.grownBy wr (some g) ∧ CeS cap wr g n F ∧ DupF S F n a r) (fun _ j _ => n - (intOf j).toNat)
          case atStart => exact ⟨p + 2, p + 1, _, Nat.le_refl _, by omega, Nat.le_refl _, Nat.le_refl _, by go_num, by first | (congr 1; omega) | go_num, H1.out, H2.out, H3.out⟩
          case round =>
            clear H1 H2 H3
            obtain ⟨a, r, F, ha1, ha2, hr1, hr2, rfl, rfl, hgr, hce, hD⟩ := hrel
            obtain ⟨t, rfl⟩ : ∃ t, a = p + 2 + t := ⟨a - (p + 2), by omega⟩
            rw [show p + 2 + t - (p + 1) = t + 1 from by omega]
            have HG := hide hgr; have HE := hide hce; have HD := hide hD
            clear hgr hce hD
            have hgl2 := HE.out.lt
            by_cases hlt2 : p + 2 + t < n
            · have d1 := HE.out.cell (p := p + 2 + t) hlt2
              have d0 := HE.out.cell (p := p + 1 + t) (by omega)
              rw [HD.out.2.2 (p + 2 + t) (by omega) hlt2, show p + 2 + t = p + 1 + (t + 1) from by omega] at d1
              rw [HD.out.2.2 (p + 1 + t) (by omega) (by omega)] at d0
              obtain ⟨y1, hy1⟩ : ∃ y, S.getD (p + 1 + (t + 1)) 0 = y := ⟨_, rfl⟩
              obtain ⟨z1, hz1⟩ : ∃ z, S.getD (p + 1 + t) 0 = z := ⟨_, rfl⟩
              rw [hy1] at d1; rw [hz1] at d0
              have HY1 := hide hy1; have HZ1 := hide hz1
              have hj1 : ((t + 1 : Nat) : Int) < ((n - (p + 1) : Nat) : Int) := by omega
              have hj2 : t + 1 < n - (p + 1) := by omega
              have hj3 : t < n - (p + 1) := by omega
              have hj4 : (t : Int) < ((n - (p + 1) : Nat) : Int) := by omega
              have hx := BW.cell (w := wr)
              clear hy1 hz1
              by_cases hyz : y1 = z1
              · subst hyz
                go_wp2
                refine wp_region_bw (by kernel_rfl) (by kernel_rfl) ?_
                repeat (go_big_quiet_step ((first | fail)))
                refine wpQuiet_end fun w1 hb1 => ?_
                clear hx
                have H1 := hide (grown_belowS HG.out hb1); have H2 := hide (HE.out.below hb1 hgl2)
                have hcs : compS S (p + 2 + t + 1) = compS S (p + 2 + t) := compS_yes (by omega) (by rw [show p + 2 + t = p + 1 + (t + 1) from by omega, HY1.out, show p + 1 + (t + 1) - 1 = p + 1 + t from by omega, HZ1.out])
                have H3 := hide (show DupF S F n (p + 2 + t + 1) r from ⟨by rw [hcs]; exact HD.out.1, fun q hq => by rw [hcs]; exact HD.out.2.1 q hq, fun q h1 h2 => HD.out.2.2 q (by omega) h2⟩)
                clear hb1 hcs
                go_wp2
                go_roundw
                case rel => exact ⟨p + 2 + t + 1, r, F, by omega, by omega, hr1, by omega, rfl, by first | (congr 1; omega) | go_num, H1.out, H2.out, H3.out⟩
                case measure => simp [intOf]; omega
              · have hb0 : ((y1 : Int) == (z1 : Int)) = false := by simp; omega
                have hb2 : (y1 == z1) = false := by simp [hyz]
                go_wp2
                refine wp_region_bw (by kernel_rfl) (by kernel_rfl) ?_
                repeat (go_big_quiet_step ((first | fail)))
                refine wpQuiet_end fun w1 hb1 => ?_
                clear hx
                have H1 := hide (grown_belowS HG.out hb1); have H2 := hide (HE.out.below hb1 hgl2)
                have hcs : compS S (p + 2 + t + 1) = compS S (p + 2 + t) ++ [y1] := by
                  have h := compS_no (S := S) (k := p + 2 + t) (by rw [show p + 2 + t = p + 1 + (t + 1) from by omega, HY1.out, show p + 1 + (t + 1) - 1 = p + 1 + t from by omega, HZ1.out]; exact hyz)
                  rw [h, show p + 2 + t = p + 1 + (t + 1) from by omega, HY1.out]
                have hrl := HD.out.1
                have H3 := hide (show DupF S (fun q => if q = r then y1 else F q) n (p + 2 + t + 1) (r + 1) from ⟨by rw [hcs]; simp [← hrl], fun q hq => by
                  rw [hcs]
                  dsimp only
                  by_cases e : q = r
                  · subst e; rw [if_pos rfl]; simp [List.getD, hrl]
                  · rw [if_neg e, HD.out.2.1 q (by omega)]
                    have : q < (compS S (p + 2 + t)).length := by omega
                    simp [List.getD, List.getElem?_append_left this], fun q h1 h2 => by dsimp only; rw [if_neg (by omega)]; exact HD.out.2.2 q (by omega) h2⟩)
                have g1 := H2.out.cell (p := r) (by omega)
                have g2 := H2.out.frozen r
                have g3 := H2.out.lt
                have d1' : w1.cell? ⟨g, p + 1 + (t + 1), none⟩ = some (.int .i64 (y1 : Int)) := (hb1.cell (p := ⟨g, _, none⟩) hgl2).trans d1
                have hrn : r < n := by omega
                have hrn2 : (r : Int) < (n : Int) := by omega
                clear hb1 hcs hrl d1 d0
                go_wp2
                go_roundw
                case rel => exact ⟨p + 2 + t + 1, r + 1, _, by omega, by omega, by omega, by omega, by go_num, by first | (congr 1; omega) | go_num, grown_setCell H1.out r _, H2.out.set_ r y1, H3.out⟩
                case measure => simp [intOf]; omega
            · have hend : p + 2 + t = n := by omega
              have hcl : ∀ ty, (Builtin.clear_ #[31] ty #[.slice (some ⟨g, r, none⟩) (n - r) (cap - r)]).run Try.prog wr = .ok (.tuple #[]) (wr.setCells g r (List.replicate (n - r) (.int .i64 0))) :=
                fun ty => Lib.run_clear_slice wr 31 3 ty (.int .i64 0) Try.underlying31 zero_int rfl rfl g r _ _ (by omega) (fun j hj => by rw [HE.out.cell (p := r + j) (by omega)]; rfl) (fun j hj => HE.out.frozen _)
              have hrc : (r : Int) ≤ (n : Int) := by omega
              have hrc2 : (r : Int) ≤ (cap : Int) := by omega
              have hrc3 : ¬ cap = r := by omega
              have hrc4 : ¬ (cap : Int) = (r : Int) := by omega
              have hj1 : ¬ ((t + 1 : Nat) : Int) < ((n - (p + 1) : Nat) : Int) := by omega
              have hj2 : ¬ t + 1 < n - (p + 1) := by omega
              have H2 := hide ((HE.out.clear (m := r) (by omega) (List.replicate (n - r) (.int .i64 0))).congr (G := fun q => (compS S n).getD q 0) (fun q hq => by rw [HD.out.2.1 q hq, hend]))
              have H1 := hide (grown_setCellsD (List.replicate (n - r) (.int .i64 0)) r HG.out)
              have H3 := hide (show r = (compS S n).length by rw [HD.out.1, hend])
              go_wp2
              go_returns
              exact ⟨r, rfl, H3.out, by omega, H1.out, H2.out⟩
        · have hb0 : ((y : Int) == (z : Int)) = false := by simp; omega
          have hb2 : (y == z) = false := by simp [hyz]
          go_wp2
          refine wp_region_bw (by kernel_rfl) (by kernel_rfl) ?_
          repeat (go_big_quiet_step ((first | fail)))
          refine wpQuiet_end fun w1 hb1 => ?_
          clear hx
          have hbw1 := below_call hbw hb1
          go_wp2
          go_roundw
          case rel => exact ⟨p + 1 + 1, by omega, by omega, by go_num, hbw1, fun j h0 hj => by
            by_cases e : j = p + 1
            · subst e; rw [Nat.add_sub_cancel, HY.out, HZ.out]; exact hyz
            · exact HNO.out j h0 (by omega)⟩
          case measure => simp [intOf]; omega
      · obtain rfl : k = n := by omega
        have hsame : compS S k = S := by
          have h := compS_same (S := S) (k := k) (by rw [HSL.out]; exact Nat.le_refl _) HNO.out
          rw [h, List.take_of_length_le (by rw [HSL.out]; exact Nat.le_refl _)]
        have HSM := hide hsame
        clear hsame
        go_wp2
        go_returns
        exact ⟨k, rfl, by rw [HSM.out, HSL.out], Nat.le_refl _, grown_belowS (grown_refl _ _) hbw, by rw [HSM.out]; exact HE.out⟩
end Go.Proofs.Yteklalbjlmkagaa
