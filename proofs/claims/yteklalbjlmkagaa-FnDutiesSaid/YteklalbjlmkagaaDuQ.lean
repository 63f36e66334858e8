/- Chapter 17: a duty is put into a list: the program's AddDuty. -/
import Derived.Test.YteklalbjlmkagaaDuN
namespace Go.Proofs.Yteklalbjlmkagaa
open Go.RowKit
set_option linter.unusedVariables false
set_option linter.unusedSimpArgs false

attribute [local go_sem ↓] Go.wp_at_zero Go.wp_at_succ
theorem news_drD {w : World} {b : Nat} {xs : List Value} (h : ∀ j u, xs[j]? = some u → w.cell? ((⟨b, 0, none⟩ : Addr).add j) = some u) : ∀ j u, xs[j]? = some u → w.drew.cell? ((⟨b, 0, none⟩ : Addr).add j) = some u := h
theorem end_who {n : Nat} {D : Nat → Du} {d : Du} (hw : ∀ i, i < n → WhoOk (D i)) (hd : WhoOk d) : ∀ a b, a < n + 1 → b < n + 1 → (keyD (endD D n d) a < keyD (endD D n d) b ↔ cmp2 (endD D n d a) (endD D n d b) < 0) := by
  have h : ∀ a, a < n + 1 → WhoOk (endD D n d a) := fun a ha => by
    by_cases e : a = n
    · subst e; rw [end_at]; exact hd
    · rw [end_lt (by omega)]; exact hw a (by omega)
  intro a b ha hb
  rw [key_bef (h a ha) (h b hb), cmp2_bef]
set_option maxHeartbeats 4000000 in
set_option maxRecDepth 100000 in
theorem impl_add (g n c : Nat) (D : Nat → Du) (d : Du) (ok : Bool) (hk : addOk n D d = ok) (R : List Du) (hR : (if ok = true then putD d (Ln D n) else []) = R) (w : World) (hn : n ≤ 13) (hnc : n ≤ c) (hcm : c ≤ maxLen) (hw : ∀ i, i < n → WhoOk (D i)) (hd : WhoOk d) (ha : Arr w w.heap.size (some ⟨g, 0, none⟩) n 4 (dv D)) :
    Calls Try.prog 15 #[.slice (some ⟨g, 0, none⟩) n c, .agg #[.int .i64 d.who, .int .i64 d.beg, .int .i64 d.fin, .bool d.chief]] w (AddPost w ok R) := by
  obtain ⟨i0, hi0, hy0, hy1, hy2⟩ := info_parts info_duty
  have HA := hide ha; have HK := hide hk; have HR := hide hR
  have HW := hide (end_who hw hd); have HD := hide hd
  have HB0 := hide (below_al (o := .cells #[.int .i64 d.who, .int .i64 d.beg, .int .i64 d.fin, .bool d.chief] 39) (Below.refl _ w))
  have HC0 := hide (Cells.new w w.heap.size [.int .i64 d.who, .int .i64 d.beg, .int .i64 d.fin, .bool d.chief] 39 rfl)
  obtain ⟨w1, hw1⟩ : ∃ x, w.alloc (.cells #[.int .i64 d.who, .int .i64 d.beg, .int .i64 d.fin, .bool d.chief] 39) = x := ⟨_, rfl⟩
  have l0 := HC0.out.2 0 _ rfl; have l1 := HC0.out.2 1 _ rfl; have l2 := HC0.out.2 2 _ rfl; have l3 := HC0.out.2 3 _ rfl; have l4 := HC0.out.1
  clear ha hk hR hw hd
  go_enter Try.func15, Try.ntmps15
  go_wp2
  rw [hw1] at HB0 HC0 l0 l1 l2 l3 l4
  have HA1 := hide (HA.out.on HB0.out)
  have hs1 := HB0.out.size
  have HCP := hide (show ∀ W, Below w1.heap.size w1 W → Calls Try.prog 48 #[.slice (some ⟨g, 0, none⟩) n c] W fun e w' => ∃ V, e = .returned V ∧ Below W.heap.size W w' ∧ Below w1.heap.size w1 w' ∧ w'.ownsRow w1.heap.size 39 4 V n ((Ln D n).flatMap dC) from fun W hW => (impl_copyD g n c D W (by omega) hnc (HA1.out.on hW)).mono (by
    rintro e w' ⟨V, rfl, h1, h2⟩
    exact ⟨V, rfl, h1, below_call hW h1, row_base h2 hW.size⟩))
  clear hw1
  go_region_held3 (fun w' => Below w1.heap.size w1 w' ∧ w'.cell? ⟨w.heap.size, 0, none⟩ = some (.int .i64 d.who) ∧ w'.cell? ⟨w.heap.size, 1, none⟩ = some (.int .i64 d.beg) ∧ w'.cell? ⟨w.heap.size, 2, none⟩ = some (.int .i64 d.fin) ∧ w'.cell? ⟨w.heap.size, 3, none⟩ = some (.bool d.chief)) (first | assumption | exact sP_ofD HC0.out (by first | assumption | exact And.left (by assumption) | exact below_al (by assumption) | exact below_al (And.left (by assumption)) | go_grown)) (first
    | (go_at_call 48; refine (HCP.out _ (by first | assumption | exact And.left (by assumption) | exact below_al (by assumption) | exact below_al (And.left (by assumption)) | go_grown)).mono ?_; rintro e w2 ⟨V2, rfl, hbx, hb2, ho2⟩)
    | (refine step_app_b w1 _ (by rfl) _ _ _ (by rfl) 39 i0 (.agg #[.int .i64 0, .int .i64 0, .int .i64 0, .bool false]) 4 32 Try.underlying24 hi0 hy0 hy1 hy2 rfl (by decide) _ n ((Ln D n).flatMap dC) (by rfl) (by first | assumption | exact And.left (by assumption) | exact below_al (by assumption) | exact below_al (And.left (by assumption)) | go_grown) (by first | exact ho2.alloc _ | exact ho2) _ 1 1 (dC d) (by rfl) rfl (by first | exact cells_at _ _ _ _ (by first | rfl | simp) | exact news_belowD (news_drD (cells_at _ _ _ _ (by first | rfl | simp))) hbx (by simp only [World.size_drew, World.size_alloc]; omega)) (dC_one _) (by unfold maxLen; omega) (by omega) ?_; intro v3 w3 hb3 ho3 hk3 hz3))
  all_goals
    have hq3 : Below w.heap.size w w3 := below_call HB0.out hb3
    rw [flat_snoc] at ho3
    obtain ⟨g3, cap3, rfl⟩ := row_formD ho3 (Nat.succ_pos _)
    obtain ⟨hce, hg3, hn3, hc3⟩ := ced_of_row ho3 (by simp [Ln_len])
    have HCE := hide hce; have HQ3 := hide hq3
    have hlt3 := hce.lt
    clear hbx hb2 ho2 hb3 hk3 hz3 hce hq3 ho3
    go_wp2_with fail
    refine (sort_stableD g3 cap3 (n + 1) (endD D n d) (keyD (endD D n d)) _ (by omega) hn3 HW.out HCE.out).mono ?_
    rintro e w4 ⟨rfl, hg4, hc4⟩
    have hq4 : Below w.heap.size w w4 := HQ3.out.grown hg4 (by omega) (fun gg e => by injection e with e; omega)
    have hrow := row_of_ced (base := w.heap.size) hc4 (by omega) hn3 hc3
    have HRW := hide hrow
    have HA3 := hide (arr_row hrow (Ln_len _ _))
    clear hg4 hc4 hrow HCE
    cases hg : goodB n D
    · obtain rfl : false = ok := by rw [← HK.out, addOk, hg]; rfl
      obtain rfl : [] = R := HR.out
      have HG := hide hg
      clear hg
      go_wp2_with fail
      refine (impl_good17 (some ⟨g, 0, none⟩) n c D _ HG.out _ (by omega) hnc hcm (HA.out.on hq4)).mono ?_
      rintro e w5 ⟨rfl, hb5⟩
      have hq5 := below_call hq4 hb5
      clear hb5
      go_wp2
      go_returns
      exact add_post rfl hq5 (row_none _ _ _ _)
    · obtain ⟨e1, e2⟩ := sort_put hg HD.out
      have HG := hide hg; have E2 := hide e2
      have HK2 := hide (show goodB (n + 1) (dg (putD d (Ln D n))) = ok by rw [← HK.out, addOk, hg, Bool.true_and])
      have HK3 := hide (show goodB (n + 1) (dg (Ln (sortD D n d) (n + 1))) = ok by rw [← HK2.out, ← e1]; exact good_congr fun i hi => dg_Ln _ hi)
      clear hg e1 e2
      go_wp2_with fail
      refine (impl_good17 (some ⟨g, 0, none⟩) n c D _ HG.out _ (by omega) hnc hcm (HA.out.on hq4)).mono ?_
      rintro e w5 ⟨rfl, hb5⟩
      have hq5 := below_call hq4 hb5
      have HA5 := hide (HA3.out.on hb5)
      have HR5 := hide (row_below HRW.out hb5)
      clear hb5 HA3 HRW
      go_wp2_with fail
      refine (impl_good17 (some ⟨g3, 0, none⟩) (n + 1) cap3 _ _ HK3.out _ (by omega) hn3 hc3 HA5.out).mono ?_
      rintro e w6 ⟨rfl, hb6⟩
      have hq6 := below_call hq5 hb6
      have HR6 := hide (row_below HR5.out hb6)
      clear hb6
      cases ok
      · obtain rfl : [] = R := HR.out
        go_wp2
        go_returns
        exact add_post rfl hq6 (row_none _ _ _ _)
      · obtain rfl : putD d (Ln D n) = R := HR.out
        have h7 := HR6.out
        rw [show Ln (fun p => endD D n d ((insL (keyD (endD D n d)) (n + 1)).getD p 0)) (n + 1) = putD d (Ln D n) from E2.out HK2.out] at h7
        have H7 := hide h7
        clear h7
        go_wp2
        go_returns
        exact add_post rfl hq6 (by rw [put_row]; exact H7.out)
end Go.Proofs.Yteklalbjlmkagaa
