/- Chapter 22: days, one by one: the reference's walk. -/
import Derived.Test.YtfdgnjnnbhelgaaDays
import Derived.Deep.RegionWith
import Derived.Deep.DeepCutAuto
namespace Go.Proofs.Ytfdgnjnnbhelgaa
open Go.RowKit
set_option linter.unusedVariables false
set_option linter.unusedSimpArgs false

theorem blk_new_any (w : World) (g : Nat) (t : TypeId) (cs : Array Value) (h : w.heap[g]? = some (.cells cs t (0, 0))) : Blk w g t cs := h
set_option maxHeartbeats 4000000 in
set_option maxRecDepth 100000 in
theorem spec_days (A : Option Addr) (n c : Nat) (X : Nat → Nat → Int) (f nw u lo : Int) (w : World) (hbat : Bat f nw u lo) (hn : n ≤ 20) (hok : sunAll X n) (ha : Arr w w.heap.size A n 2 (iv X)) :
    Calls Try.prog 80 #[.agg #[.int .i64 f, .int .i64 nw, .int .i64 u, .int .i64 lo], .slice A n c] w fun e w' => ∃ v, e = .returned (.tuple #[.agg #[.int .i64 f, .int .i64 (levD f nw u lo X n), .int .i64 u, .int .i64 lo], v, .int .i64 (lostD f nw u lo X n)]) ∧ Below w.heap.size w w' ∧
      w'.ownsRow w.heap.size 3 1 v (badD f nw u lo X n).length (il (badD f nw u lo X n)) := by
  obtain ⟨i0, hi0, hy0, hy1, hy2⟩ := info_parts info_int
  have HO := hide hok; have HB := hide hbat
  clear hok hbat
  go_enter Try.func80, Try.ntmps80
  go_wp2
  go_loopw [7, 8, 9] (fun v t i wr => ∃ (k : Nat) (x z : Int) (q : Nat), k ≤ n ∧ i = .int .i64 k ∧ t = .int .i64 z ∧ z = lostD f nw u lo X k ∧ x = levD f nw u lo X k ∧ q = (badD f nw u lo X k).length ∧ Below w.heap.size w wr ∧
    Blk wr w.heap.size 25 #[.int .i64 f, .int .i64 x, .int .i64 u, .int .i64 lo] ∧ Blk wr (w.heap.size + 1) 25 #[.int .i64 0, .int .i64 0, .int .i64 0, .int .i64 0] ∧ wr.ownsRow (w.heap.size + 2) 3 1 v q (il (badD f nw u lo X k))) (fun _ _ i _ => n - (intOf i).toNat)
  case atStart =>
    have g1 := (Blk.new (w.alloc (.cells #[.int .i64 f, .int .i64 nw, .int .i64 u, .int .i64 lo] 25)) 25 #[.int .i64 0, .int .i64 0, .int .i64 0, .int .i64 0]).alloc (.cells #[] 3)
    have g2 := World.ownsRow_made (base := w.heap.size + 2) (e := 3) (size := 1) ((w.alloc (.cells #[.int .i64 f, .int .i64 nw, .int .i64 u, .int .i64 lo] 25)).alloc (.cells #[.int .i64 0, .int .i64 0, .int .i64 0, .int .i64 0] 25)) #[] 0 (by simp only [World.size_alloc]; omega) (Nat.zero_le _) rfl
    simp only [World.size_alloc] at g1 g2
    exact ⟨0, nw, 0, 0, Nat.zero_le _, rfl, rfl, rfl, rfl, rfl, below_al (below_al (below_al (Below.refl _ _))), (((Blk.new w _ _).alloc _).alloc _), g1, g2⟩
  case round =>
    obtain ⟨k, x, z, q, hk, rfl, rfl, hz, hx, hq, hbw, hblk, hblk1, hown⟩ := hrel
    have bx := levD_bat HB.out HO.out k hk; have bz := lostD_bd HB.out HO.out k hk; have bq := badD_len f nw u lo X k
    rw [← hx] at bx; rw [← hz] at bz; rw [← hq] at bq
    obtain ⟨f1, f2, x1, x2, u1, u2, l1, l2⟩ := bx; obtain ⟨z1, z2⟩ := bz
    have HX := hide hx; have HZ := hide hz; have HQ := hide hq
    clear hx hz hq
    have d0 := hblk.cell 0; have d1 := hblk.cell 1; have d2 := hblk.cell 2; have d3 := hblk.cell 3
    simp at d0 d1 d2 d3
    have fz0 := hblk.frozen 0; have fz1 := hblk.frozen 1; have fz2 := hblk.frozen 2; have fz3 := hblk.frozen 3
    have hlt0 := hblk.lt; have hlt1 := hblk1.lt
    have HK := hide hblk; have HK1 := hide hblk1; have HW := hide hown
    clear hblk hblk1 hown
    by_cases hlt : k < n
    · obtain ⟨b, off, rfl, hbb, hc⟩ := ha (by omega)
      obtain ⟨q1, q2⟩ := bcell hbw
      have c0 := hc k 0 hlt (by omega); have c1 := hc k 1 hlt (by omega)
      simp only [Nat.add_zero, iv] at c0 c1
      obtain ⟨y1, y2, y3, y4, _⟩ := HO.out k hlt
      have hfa := frozen_al; have hfo := frozen_out
      clear hc ha
      obtain ⟨r, hr⟩ : ∃ r, aRan f x u lo (X k 1) = r := ⟨_, rfl⟩
      obtain ⟨x', hx'⟩ : ∃ x', aNow f x u lo (X k 1) = x' := ⟨_, rfl⟩
      obtain ⟨l, hl⟩ : ∃ l, max 0 (x + X k 1 - f) = l := ⟨_, rfl⟩
      have HR := hide hr; have HX' := hide hx'; have HL := hide hl
      have hbat' : Hid (Bat f x u lo) := ⟨f1, f2, x1, x2, u1, u2, l1, l2⟩
      have bl0 : 0 ≤ l := by omega
      have bl1 : l ≤ 11000 := by omega
      have hbl : b < wr.heap.size := by omega
      have hlm : l = max 0 (x + X k 1 - f) := HL.out.symm
      have HLM := hide hlm
      clear hr hx' hl hlm
      go_upto_region 5 with fail
      go_cut [10, 11, 12] (fun s10 s11 s12 wx => ∃ g : Nat, s10 = .pointer (some ⟨g, 0, none⟩) ∧ s11 = .bool r ∧ s12 = .int .i64 l ∧ wr.heap.size ≤ g ∧ Below wr.heap.size wr wx ∧ Blk wx g 25 #[.int .i64 f, .int .i64 x', .int .i64 u, .int .i64 lo])
      case first =>
        go_region_with (go_at_call 82; refine (spec_day _ _ _ _ _ x' l r HX'.out HR.out HL.out hbat'.out y3 y4 _).mono ?_; rintro e w2 ⟨rfl, hb2⟩; obtain ⟨qc2, qf2⟩ := bcell hb2; have hs2 := hb2.size; (try simp only [World.size_alloc, World.size_drew] at hs2); (try have hl2 : wr.heap.size < w2.heap.size := by omega); (have hl3 : wr.heap.size ≤ w2.heap.size := by omega))
        all_goals
          go_wp2_with fail
          go_meet
          have hA : Below wr.heap.size wr w2 := below_call (by go_grown) hb2
          refine ⟨_, rfl, rfl, rfl, ?_, ?_, ?_⟩
          · first | exact hl3 | exact Nat.le_refl _
          · first
              | (with_reducible exact below_al hA)
              | (with_reducible exact (((hA.setCell (p := ⟨wr.heap.size, 0, none⟩) (Nat.le_refl _) _).setCell (p := ⟨wr.heap.size, 1, none⟩) (Nat.le_refl _) _).setCell (p := ⟨wr.heap.size, 2, none⟩) (Nat.le_refl _) _).setCell (p := ⟨wr.heap.size, 3, none⟩) (Nat.le_refl _) _)
          · first
              | (have hZ : Blk w2 wr.heap.size 25 #[.int .i64 0, .int .i64 0, .int .i64 0, .int .i64 0] := (hb2.block wr.heap.size (by simp)).trans (heap_alloc_new wr _)
                 exact (((hZ.set_ 0 _).set_ 1 _).set_ 2 _).set_ 3 _)
              | exact Blk.new _ _ _
      case rest =>
        obtain ⟨g, rfl, rfl, rfl, hg, hbx, hnx⟩ := hcut
        have n0 := hnx.cell 0; have n1 := hnx.cell 1; have n2 := hnx.cell 2; have n3 := hnx.cell 3
        simp at n0 n1 n2 n3
        have hsx := hbx.size
        obtain ⟨qcx, qfx⟩ := bcell hbx
        have HN := hide hnx
        clear hnx
        have hbw2 := below_call hbw hbx
        obtain ⟨q5, q6⟩ := bcell hbw2
        have hlt9 := HW.out.lt
        have hrow := row_below HW.out hbx
        have hB := HK.out.below hbx hlt0
        have hC := HK1.out.below hbx hlt1
        have hglt := HN.out.lt
        have HRW := hide hrow; have HBB := hide hB; have HCC := hide hC
        clear hrow hB hC
        cases r
        · go_wp2_with (at_builtin; refine wpList_append_far _ rfl _ _ 34 rfl (w.heap.size + 2) 3 i0 (.int .i64 0) 1 8 Try.underlying34 hi0 hy0 hy1 hy2 rfl (by decide) _ _ _ rfl (((ownsRow_setCell_below (ownsRow_setCell_below (ownsRow_setCell_below (ownsRow_setCell_below HRW.out (by simp) _) (by simp) _) (by simp) _) (by simp) _).alloc _)) ⟨wc.heap.size, 0, none⟩ 1 1 [.int .i64 (X k 0)] rfl rfl ?c1 ?c2 ?c3 ?c4 ?c5 ?_)
          case c1 => exact cell_one_at _ _ _ _ (by first | rfl | (simp only [World.size_alloc, World.size_setCell, World.size_drew]; done) | (simp only [World.size_alloc, World.size_setCell, World.size_drew]; omega))
          case c2 => intro u hu; simp only [List.mem_singleton] at hu; subst hu; rfl
          case c3 => unfold maxLen; omega
          case c4 => omega
          case c5 => first | (simp only [World.size_alloc]; omega) | (simp only [World.size_alloc, World.size_setCell, World.size_drew]; omega)
          intro v1 w4 hown1 hgrow1 hfar1
          have hbad : badD f nw u lo X (k + 1) = badD f nw u lo X k ++ [X k 0] := by rw [badD, ← HX.out, HR.out]; rfl
          rw [il_snoc, ← hbad] at hown1
          have hsz4 := hgrow1.size
          try simp only [World.size_alloc, World.size_setCell] at hsz4
          have hB2 := ((((HBB.out.set_ 0 (.int .i64 f)).set_ 1 (.int .i64 x')).set_ 2 (.int .i64 u)).set_ 3 (.int .i64 lo)).alloc (.cells #[.int .i64 (X k 0)] 3)
          have hC2 := (blk_far (p := ⟨w.heap.size, 3, none⟩) (blk_far (p := ⟨w.heap.size, 2, none⟩) (blk_far (p := ⟨w.heap.size, 1, none⟩) (blk_far (p := ⟨w.heap.size, 0, none⟩) HCC.out (by simp) (.int .i64 f)) (by simp) (.int .i64 x')) (by simp) (.int .i64 u)) (by simp) (.int .i64 lo)).alloc (.cells #[.int .i64 (X k 0)] 3)
          have hB4 : Blk w4 w.heap.size _ _ := (hgrow1.block _ hB2.lt (fun e => by have := (hlt9 _ e.symm).1; omega)).trans hB2
          have hC4 : Blk w4 (w.heap.size + 1) _ _ := (hgrow1.block _ hC2.lt (fun e => by have := (hlt9 _ e.symm).1; omega)).trans hC2
          have hq4 : Below w.heap.size w w4 := (below_al (o := .cells #[.int .i64 (X k 0)] 3) ((((hbw2.setCell (p := ⟨w.heap.size, 0, none⟩) (Nat.le_refl _) (.int .i64 f)).setCell (p := ⟨w.heap.size, 1, none⟩) (Nat.le_refl _) (.int .i64 x')).setCell (p := ⟨w.heap.size, 2, none⟩) (Nat.le_refl _) (.int .i64 u)).setCell (p := ⟨w.heap.size, 3, none⟩) (Nat.le_refl _) (.int .i64 lo))).grown hgrow1 (by simp only [World.size_alloc, World.size_setCell]; omega) (fun g hg => by have := (hlt9 g hg).1; omega)
          have hqn : q + 1 = (badD f nw u lo X (k + 1)).length := by rw [hbad]; simp; exact HQ.out
          have H1 := hide hown1; have H2 := hide hB4; have H3 := hide hC4; have H4 := hide hq4; have H5 := hide hqn
          clear hown1 hgrow1 hfar1 hlt9 hbad hB2 hC2 hB4 hC4 hq4 hqn
          go_wp2
          go_roundw
          case rel => exact ⟨k + 1, x', _, q + 1, by omega, by go_num, rfl, by rw [lostD, ← HZ.out, ← HX.out, HLM.out], by rw [levD, ← HX.out]; exact HX'.out.symm, H5.out, H4.out, H2.out, H3.out, H1.out⟩
          case measure => simp [intOf]; omega
        · have hbad : badD f nw u lo X (k + 1) = badD f nw u lo X k := by rw [badD, ← HX.out, HR.out]; rfl
          have hqn : q = (badD f nw u lo X (k + 1)).length := by rw [hbad]; exact HQ.out
          have hr1 := HRW.out
          rw [← hbad] at hr1
          have H1 := hide hr1; have H5 := hide hqn
          clear hr1 hqn hbad hlt9
          go_wp2
          go_roundw
          case rel => exact ⟨k + 1, x', _, q, by omega, by go_num, rfl, by rw [lostD, ← HZ.out, ← HX.out, HLM.out], by rw [levD, ← HX.out]; exact HX'.out.symm, H5.out, (((hbw2.setCell (p := ⟨w.heap.size, 0, none⟩) (Nat.le_refl _) (.int .i64 f)).setCell (p := ⟨w.heap.size, 1, none⟩) (Nat.le_refl _) (.int .i64 x')).setCell (p := ⟨w.heap.size, 2, none⟩) (Nat.le_refl _) (.int .i64 u)).setCell (p := ⟨w.heap.size, 3, none⟩) (Nat.le_refl _) (.int .i64 lo), (((HBB.out.set_ 0 (.int .i64 f)).set_ 1 (.int .i64 x')).set_ 2 (.int .i64 u)).set_ 3 (.int .i64 lo), blk_far (p := ⟨w.heap.size, 3, none⟩) (blk_far (p := ⟨w.heap.size, 2, none⟩) (blk_far (p := ⟨w.heap.size, 1, none⟩) (blk_far (p := ⟨w.heap.size, 0, none⟩) HCC.out (by simp) _) (by simp) _) (by simp) _) (by simp) _, ownsRow_setCell_below (ownsRow_setCell_below (ownsRow_setCell_below (ownsRow_setCell_below H1.out (by simp) _) (by simp) _) (by simp) _) (by simp) _⟩
          case measure => simp [intOf]; omega
    · obtain rfl : k = n := by omega
      have e0 := HK1.out.cell 0; have e1 := HK1.out.cell 1; have e2 := HK1.out.cell 2; have e3 := HK1.out.cell 3
      simp at e0 e1 e2 e3
      have fe0 := HK1.out.frozen 0; have fe1 := HK1.out.frozen 1; have fe2 := HK1.out.frozen 2; have fe3 := HK1.out.frozen 3
      go_wp2
      refine bodyPost_ret (v := .tuple #[.agg #[.int .i64 f, .int .i64 x, .int .i64 u, .int .i64 lo], u7, .int .i64 z]) (by simp [results, Try.results80, go_sem, e0, e1, e2, e3]) rfl ⟨u7, ?_, ?_, ?_⟩
      · rw [HX.out, HZ.out]
      · exact (((hbw.setCell (p := ⟨w.heap.size + 1, 0, none⟩) (by simp) _).setCell (p := ⟨w.heap.size + 1, 1, none⟩) (by simp) _).setCell (p := ⟨w.heap.size + 1, 2, none⟩) (by simp) _).setCell (p := ⟨w.heap.size + 1, 3, none⟩) (by simp) _
      · rw [← HQ.out]
        exact row_base (ownsRow_setCell_below (ownsRow_setCell_below (ownsRow_setCell_below (ownsRow_setCell_below HW.out (by simp) _) (by simp) _) (by simp) _) (by simp) _) (by omega)
end Go.Proofs.Ytfdgnjnnbhelgaa
