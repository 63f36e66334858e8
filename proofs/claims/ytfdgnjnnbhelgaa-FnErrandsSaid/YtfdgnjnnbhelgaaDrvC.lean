/- The draw of a plan: made by err3gen.py. -/
import Derived.Test.YtfdgnjnnbhelgaaDrvB
namespace Go.Proofs.Ytfdgnjnnbhelgaa
open Go.RowKit
set_option linter.unusedVariables false
set_option linter.unusedSimpArgs false

theorem lf_len (l : List Int) (n : Nat) (h : l.length = n) : ∀ {w : World} {base : Nat} {E : TypeId} {v : Value}, w.ownsRow base E 1 v n (il l) → Own w base E 1 v n (iv (lf l)) := fun hr => own_of_il h.symm hr
set_option maxHeartbeats 4000000 in
set_option maxRecDepth 100000 in
theorem spec_dPlan (cb : Nat) (K : Code) (M : Nat) (B : Option Addr) (n c : Nat) (w : World) (hn : n ≤ 40) (hM : M ≤ 700000000000) (h : Cur w cb K M) :
    Calls Try.prog 122 #[.pointer (some ⟨cb, 0, none⟩), .slice B n c] w fun e w' => ∃ (v : Value) (l : List Int), l.length ≤ 60 ∧ e = .returned v ∧ Drawn w cb K (M + 600) w' ∧ Own w' w.heap.size 3 1 v l.length (iv (lf l)) := by
  obtain ⟨i0, hi0, hy0, hy1, hy2⟩ := info_parts info_int
  have hcb := h.lt
  go_enter Try.func122, Try.ntmps122
  go_wp2_with fail
  refine (spec_pick cb K M _ _ (by omega) (by omega) (h.alloc _)).mono ?_
  rintro e w2 ⟨N, rfl, n0, n1, nz, hd2⟩
  have n2 : N ≤ 41 := by
    by_cases h1 : (1 : Int) < (n : Int) + 1
    · have := n1 h1; omega
    · have := nz (by omega); omega
  obtain ⟨N, rfl⟩ : ∃ m : Nat, N = m := ⟨N.toNat, by omega⟩
  have hg2 : w.grownBy w2 (some cb) := World.grownBy.trans (by (repeat (first | with_reducible assumption | (with_reducible refine World.grownBy.trans ?_ (World.grownBy_alloc _ _ _)) | (with_reducible refine grown_setNew ?_ (by (first | with_reducible assumption | omega | (simp; done) | (simp; omega))) _) | with_reducible exact grown_refl _ _))) hd2.1
  have hr2 := row_drawn (M := M) (K := K) (row_new_at w w.heap.size w.heap.size 1 3 rfl (Nat.le_refl _)) hd2.1 hcb
  have HR := hide hr2; have HC2 := hide hd2.2; have HG2 := hide hg2
  clear hr2 hd2 hg2 n1 nz
  have hN : N ≤ 41 := by omega
  go_wp2
  go_loopw [5, 6] (fun s y wr => ∃ (k m : Nat) (l : List Int), k ≤ N ∧ m + k ≤ N ∧ l.length = m ∧ y = .int .i64 k ∧ w.grownBy wr (some cb) ∧ Cur wr cb K (M + 2 + 4 * (N - k)) ∧ wr.ownsRow w.heap.size 3 1 s m (il l)) (fun _ y _ => (intOf y).toNat)
  case atStart => exact ⟨N, 0, [], Nat.le_refl _, by omega, rfl, rfl, HG2.out, HC2.out.more (by omega), HR.out⟩
  case round =>
    obtain ⟨k, m, l, hk, hmk, hl, rfl, hg3, hc3, hown⟩ := hrel
    have HLN := hide hl
    have hr3 := hown
    clear hown hl
    by_cases hk0 : 0 < k
    · have hkk : (k : Int) - 1 = ((k - 1 : Nat) : Int) := by omega
      go_wp2_with fail
      refine (spec_pick cb K _ _ _ (by omega) (by omega) hc3).mono ?_
      rintro e w4 ⟨x, rfl, _, _, _, hd4⟩
      have hg4 : w.grownBy w4 (some cb) := hg3.trans hd4.1
      have hc4 := hd4.2
      have hr4 := row_drawn (M := M) (K := K) hr3 hd4.1 hcb
      have hs4 := hg4.size
      clear hd4 hr3
      obtain ⟨AS, cS, rfl, hcS, hAr⟩ := (own_of_il HLN.out.symm hr4).arr
      have HAr := hide hAr
      clear hAr
      obtain ⟨v, HV⟩ : ∃ v, Hid (seenI (lf l) m (.int .i64 x) = v) := ⟨_, rfl⟩
      go_wp2_with fail
      refine (spec_has AS m cS x (lf l) v HV.out _ (by omega) HAr.out).mono ?_
      rintro e w4' ⟨rfl, rfl⟩
      cases v
      · skip
        go_wp2_with (at_builtin; refine wpList_append_far _ rfl _ _ 34 rfl w.heap.size 3 i0 (.int .i64 0) 1 8 Try.underlying34 hi0 hy0 hy1 hy2 rfl (by decide) _ _ _ rfl (hr4.alloc _) ⟨w4.heap.size, 0, none⟩ 1 1 [.int .i64 (x)] rfl rfl ?c1 ?c2 ?c3 ?c4 ?c5 ?_)
        case c1 => exact cell_one_at _ _ _ _ (by first | rfl | simp)
        case c2 => intro u hu; simp only [List.mem_singleton] at hu; subst hu; rfl
        case c3 => unfold maxLen; omega
        case c4 => omega
        case c5 => simp only [World.size_alloc]; omega
        intro v6 w6 hown6 hgrow6 _
        have hlt6 := hr4.lt
        have hgw6 : w.grownBy w6 (some cb) := grown_new (hg4.trans (World.grownBy_alloc _ _ _)) hgrow6 (fun g hg => (hlt6 g hg).1)
        have hcu6 := (hc4.alloc (.cells #[.int .i64 (x)] 3)).apart hgrow6 (fun g hg => by have := (hlt6 g hg).1; omega)
        have hsz6 := hgw6.size
        have hrow6 : w6.ownsRow w.heap.size 3 1 v6 (m + 1) (il (l ++ [x])) := by rw [← il_snoc]; exact hown6
        have H1 := hide hgw6; have H2 := hide hrow6; have H3 := hide hcu6
        clear hown6 hgrow6 hlt6 hrow6 hr4 hgw6 hcu6
        go_wp2
        go_roundw
        case rel => exact ⟨k - 1, m + 1, l ++ [x], by omega, by omega, by simp [HLN.out], by first | (congr 1; done) | (congr 1; omega), H1.out, H3.out.more (by omega), H2.out⟩
        case measure => simp [intOf]; omega
      · skip
        go_wp2_with fail
        refine (spec_one cb K _ 30 _ (by omega) (by omega) hc4).mono ?_
        rintro e w5 ⟨on, rfl, hd5⟩
        have hg5 : w.grownBy w5 (some cb) := hg4.trans hd5.1
        have hc5 := hd5.2
        have hr5 := row_drawn (M := M) (K := K) hr4 hd5.1 hcb
        have hs5 := hg5.size
        clear hd5 hr4
        cases on
        · skip
          have H1 := hide hg5; have H2 := hide hr5; have H3 := hide hc5
          clear hg5 hr5 hc5
          go_wp2
          go_roundw
          case rel => exact ⟨k - 1, m, l, by omega, by omega, HLN.out, by first | (congr 1; done) | (congr 1; omega), H1.out, H3.out.more (by omega), H2.out⟩
          case measure => simp [intOf]; omega
        · skip
          go_wp2_with (at_builtin; refine wpList_append_far _ rfl _ _ 34 rfl w.heap.size 3 i0 (.int .i64 0) 1 8 Try.underlying34 hi0 hy0 hy1 hy2 rfl (by decide) _ _ _ rfl (hr5.alloc _) ⟨w5.heap.size, 0, none⟩ 1 1 [.int .i64 (x)] rfl rfl ?c1 ?c2 ?c3 ?c4 ?c5 ?_)
          case c1 => exact cell_one_at _ _ _ _ (by first | rfl | simp)
          case c2 => intro u hu; simp only [List.mem_singleton] at hu; subst hu; rfl
          case c3 => unfold maxLen; omega
          case c4 => omega
          case c5 => simp only [World.size_alloc]; omega
          intro v6 w6 hown6 hgrow6 _
          have hlt6 := hr5.lt
          have hgw6 : w.grownBy w6 (some cb) := grown_new (hg5.trans (World.grownBy_alloc _ _ _)) hgrow6 (fun g hg => (hlt6 g hg).1)
          have hcu6 := (hc5.alloc (.cells #[.int .i64 (x)] 3)).apart hgrow6 (fun g hg => by have := (hlt6 g hg).1; omega)
          have hsz6 := hgw6.size
          have hrow6 : w6.ownsRow w.heap.size 3 1 v6 (m + 1) (il (l ++ [x])) := by rw [← il_snoc]; exact hown6
          have H1 := hide hgw6; have H2 := hide hrow6; have H3 := hide hcu6
          clear hown6 hgrow6 hlt6 hrow6 hr5 hgw6 hcu6
          go_wp2
          go_roundw
          case rel => exact ⟨k - 1, m + 1, l ++ [x], by omega, by omega, by simp [HLN.out], by first | (congr 1; done) | (congr 1; omega), H1.out, H3.out.more (by omega), H2.out⟩
          case measure => simp [intOf]; omega
    · obtain rfl : k = 0 := by omega
      have hlen : m ≤ 41 := by omega
      go_wp2_with fail
      refine (spec_one cb K _ 30 _ (by omega) (by omega) hc3).mono ?_
      rintro e w4 ⟨on, rfl, hd4⟩
      have hg4 : w.grownBy w4 (some cb) := hg3.trans hd4.1
      have hc4 := hd4.2
      have hr4 := row_drawn (M := M) (K := K) hr3 hd4.1 hcb
      have hs4 := hg4.size
      clear hd4 hr3
      cases on
      · skip
        have H1 := hide hg4; have H2 := hide hr4; have H3 := hide hc4
        clear hg4 hr4 hc4
        go_wp2
        go_returns
        exact ⟨_, l, by rw [HLN.out]; omega, rfl, ⟨H1.out, H3.out.more (by omega)⟩, by rw [HLN.out]; exact own_of_il HLN.out.symm H2.out⟩
      · go_wp2_with fail
        refine (spec_amongX cb K _ [-1, (n : Int)] _ _ _ rfl (by simp) (by simp) _ rfl (blk_new_atC _ _ _ _ (by first | rfl | simp)) (by have := hc4.lt; first | omega | (simp; omega)) (by omega) (hc4.alloc _)).mono ?_
        rintro e w5 ⟨x, rfl, hd5⟩
        have hg5 : w.grownBy w5 (some cb) := (hg4.trans (World.grownBy_alloc _ _ _)).trans hd5.1
        have hc5 := hd5.2
        have hr5 := row_drawn (M := M) (K := K) (row_below hr4 (below_al (Below.refl _ _))) hd5.1 hcb
        have hs5 := hg5.size
        clear hd5 hr4
        go_wp2_with (at_builtin; refine wpList_append_far _ rfl _ _ 34 rfl w.heap.size 3 i0 (.int .i64 0) 1 8 Try.underlying34 hi0 hy0 hy1 hy2 rfl (by decide) _ _ _ rfl (hr5.alloc _) ⟨w5.heap.size, 0, none⟩ 1 1 [.int .i64 (x)] rfl rfl ?c1 ?c2 ?c3 ?c4 ?c5 ?_)
        case c1 => exact cell_one_at _ _ _ _ (by first | rfl | simp)
        case c2 => intro u hu; simp only [List.mem_singleton] at hu; subst hu; rfl
        case c3 => unfold maxLen; omega
        case c4 => omega
        case c5 => simp only [World.size_alloc]; omega
        intro v6 w6 hown6 hgrow6 _
        have hlt6 := hr5.lt
        have hgw6 : w.grownBy w6 (some cb) := grown_new (hg5.trans (World.grownBy_alloc _ _ _)) hgrow6 (fun g hg => (hlt6 g hg).1)
        have hcu6 := (hc5.alloc (.cells #[.int .i64 (x)] 3)).apart hgrow6 (fun g hg => by have := (hlt6 g hg).1; omega)
        have hsz6 := hgw6.size
        have hrow6 : w6.ownsRow w.heap.size 3 1 v6 (m + 1) (il (l ++ [x])) := by rw [← il_snoc]; exact hown6
        have H1 := hide hgw6; have H2 := hide hrow6; have H3 := hide hcu6
        clear hown6 hgrow6 hlt6 hrow6 hr5 hgw6 hcu6
        go_wp2
        go_returns
        exact ⟨_, l ++ [x], by simp [HLN.out]; omega, rfl, ⟨H1.out, H3.out.more (by omega)⟩, by rw [show (l ++ [x]).length = m + 1 from by simp [HLN.out]]; exact own_of_il (by simp [HLN.out]) H2.out⟩
end Go.Proofs.Ytfdgnjnnbhelgaa
