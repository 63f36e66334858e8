/- Chapter 23: a plan in the order of deadlines: the reference's side: made by deadgen.py. -/
import Derived.Test.YtfdgnjnnbhelgaaVisP
import Derived.Test.YtfdgnjnnbhelgaaReg
namespace Go.Proofs.Ytfdgnjnnbhelgaa
open Go.RowKit
set_option linter.unusedVariables false
set_option linter.unusedSimpArgs false

theorem nl_take {l : List Nat} {t j : Nat} {u : Value} (hu : (nl (l.take t))[j]? = some u) : (nl l)[j]? = some u := by
  simp only [nl, List.map_take, List.getElem?_take] at hu ⊢
  split at hu
  · exact hu
  · cases hu
theorem nl_drop {l : List Nat} {t j : Nat} {u : Value} (hu : (nl (l.drop t))[j]? = some u) : (nl l)[t + j]? = some u := by
  simpa only [nl, List.map_drop, List.getElem?_drop] using hu
theorem news_kept {w w' : World} {v : Value} {b : Nat} {xs : List Value} (hk : ∀ b o, b < w.heap.size → v.ownBlock ≠ some b → w'.cell? ⟨b, o, none⟩ = w.cell? ⟨b, o, none⟩) (h : ∀ j u, xs[j]? = some u → w.cell? ((⟨b, 0, none⟩ : Addr).add j) = some u) (hb : b < w.heap.size) (hv : v.ownBlock ≠ some b) :
    ∀ j u, xs[j]? = some u → w'.cell? ((⟨b, 0, none⟩ : Addr).add j) = some u := fun j u hu => by
  have e : (⟨b, 0, none⟩ : Addr).add j = ⟨b, j, none⟩ := by unfold Addr.add; split <;> simp_all
  have := h j u hu
  rw [e] at this ⊢
  rw [hk b j hb hv]
  exact this
theorem news_al {w : World} {o : Obj} {b : Nat} {xs : List Value} (h : ∀ j u, xs[j]? = some u → w.cell? ((⟨b, 0, none⟩ : Addr).add j) = some u) (hb : b < w.heap.size) : ∀ j u, xs[j]? = some u → (w.alloc o).cell? ((⟨b, 0, none⟩ : Addr).add j) = some u := fun j u hu => by
  have e : (⟨b, 0, none⟩ : Addr).add j = ⟨b, j, none⟩ := by unfold Addr.add; split <;> simp_all
  have := h j u hu
  rw [e] at this ⊢
  exact (World.cell?_alloc_lt w o ⟨b, j, none⟩ hb).trans this
theorem row_cap {w : World} {base n cap g s : Nat} {E : TypeId} {xs : List Value} (h : w.ownsRow base E s (.slice (some ⟨g, 0, none⟩) n cap) n xs) : n ≤ cap := by
  rcases h.2 with ⟨hv, _⟩ | ⟨gg, cp, cur, hv, _, _, hc, _⟩
  · cases hv
  · injection hv with _ _ e3
    omega
attribute [local go_sem ↓] Go.wp_at_zero Go.wp_at_succ
set_option maxHeartbeats 4000000 in
set_option maxRecDepth 100000 in
theorem spec_dead (A : Option Addr) (n c : Nat) (X : Nat → Nat → Int) (w : World) (hn : n ≤ 12) (ha : Arr w w.heap.size A n 4 (iv X)) :
    Calls Try.prog 91 #[.slice A n c] w fun e w' => ∃ v, e = .returned v ∧ Below w.heap.size w w' ∧ Own w' w.heap.size 3 1 v n (iv fun i _ => ((insL (fun i => X i 3) n).getD i 0 : Nat)) := by
  obtain ⟨i0, hi0, hy0, hy1, hy2⟩ := info_parts info_int
  obtain ⟨f, hf⟩ : ∃ f : Nat → Int, f = fun i => X i 3 := ⟨_, rfl⟩
  rw [← hf]
  have hff : ∀ i, X i 3 = f i := fun i => by rw [hf]
  have HF := hide hff
  clear hf hff
  go_enter Try.func91, Try.ntmps91
  go_wp2
  go_loopw [3, 4] (fun v i wr => ∃ (k g cap : Nat), k ≤ n ∧ i = .int .i64 k ∧ v = .slice (some ⟨g, 0, none⟩) k cap ∧ Below w.heap.size w wr ∧ w.heap.size ≤ g ∧ k ≤ cap ∧ wr.ownsRow w.heap.size 3 1 v k (nl (insL f k))) (fun _ i _ => n - (intOf i).toNat)
  case atStart => exact ⟨0, _, _, Nat.zero_le _, rfl, rfl, by go_grown, Nat.le_refl _, Nat.le_refl _, row_new_at _ _ _ _ _ rfl (Nat.le_refl _)⟩
  case round =>
    obtain ⟨k, g, cap, hk, rfl, rfl, hbw, hgb, hkc, hown⟩ := hrel
    by_cases hlt : k < n
    · obtain ⟨b, off, rfl, hbb, hc⟩ := ha (by omega)
      have hgl : g < wr.heap.size := (hown.lt g rfl).2
      have HO := hide hown; have HCC := hide hc
      clear hown hc ha
      go_wp2
      go_loopw [5] (fun j wq => ∃ t : Nat, t ≤ k ∧ j = .int .i64 t ∧ Below wr.heap.size wr wq ∧ cutOf f (insL f k) k k = cutOf f (insL f k) k t) (fun j _ => (intOf j).toNat)
      case atStart => exact ⟨k, Nat.le_refl _, rfl, Below.refl _ _, rfl⟩
      case round =>
        obtain ⟨t, ht, rfl, hbq, hcut⟩ := hrel
        have HT := hide hcut
        clear hcut
        obtain ⟨qc, qf⟩ := bcell hbq
        obtain ⟨rc, rf⟩ := bcell hbw
        rcases t with _ | q
        · have hct : cutOf f (insL f k) k k = 0 := by rw [HT.out]; rfl
          have HCT := hide hct
          clear hct qc qf rc rf
          go_wp2
          refine wp_region_bw (by kernel_rfl) (by kernel_rfl) ?_
          repeat (go_big_quiet_step ((first | fail)))
          refine wpQuiet_end fun w1 hb1 => ?_
          have hown1 := row_below (row_below HO.out hbq) hb1
          have HO1 := hide hown1
          have hgl1 : g < w1.heap.size := by have := hb1.size; have := hbq.size; omega
          have hll := insL_len f k
          clear hown1
          go_wp2
          go_region_held3 (fun w' => Below w1.heap.size w1 w') (first | assumption | exact below_al (by assumption) | go_grown) (first
            | (refine step_app_b w1 _ (by rfl) _ _ _ (by rfl) 3 i0 (.int .i64 0) 1 8 Try.underlying34 hi0 hy0 hy1 hy2 rfl (by decide) (.slice (some ⟨_, 0, none⟩) 0 0) 0 [] (by rfl) (by first | assumption | exact below_al (by assumption) | go_grown) (by first | exact row_new_at _ _ _ _ _ (by first | rfl | simp) (by first | exact Nat.le_refl _ | simp) | exact (row_new_at _ _ _ _ _ (by first | rfl | simp) (by first | exact Nat.le_refl _ | simp)).alloc _) ⟨g, 0, none⟩ 0 cap (nl ((insL f k).take (0))) (by rfl) (by rw [nl_len, List.length_take]; omega) (news_row HO1.out (by first | assumption | exact below_al (by assumption) | go_grown) hgl1 (by intro j u hu; rw [Nat.zero_add]; exact nl_take hu)) (nl_one _) (by unfold maxLen; omega) (by omega) ?_; intro v2 w2 hb2 ho2 hk2 hz2)
            | (refine step_app_b w1 _ (by rfl) _ _ _ (by rfl) 3 i0 (.int .i64 0) 1 8 Try.underlying34 hi0 hy0 hy1 hy2 rfl (by decide) _ (0 + (0)) ([] ++ nl ((insL f k).take (0))) (by rfl) (by first | assumption | exact below_al (by assumption) | go_grown) (by first | exact ho2.alloc _ | exact ho2) _ 1 1 [.int .i64 (k : Int)] (by rfl) rfl (by first | exact cell_one_at _ _ _ _ (by first | rfl | simp) | exact news_kept hk2 (cell_one_at _ _ _ _ (by first | rfl | simp)) (by first | (simp; done) | (simp; omega)) (by simp [Value.ownBlock]) | exact news_kept hk2 (news_al (cell_one_at _ _ _ _ (by first | rfl | simp)) (by first | (simp; done) | (simp; omega))) (by first | (simp; done) | (simp; omega)) (by simp [Value.ownBlock])) (by intro u hu; simp only [List.mem_singleton] at hu; subst hu; rfl) (by unfold maxLen; omega) (by omega) ?_; intro v3 w3 hb3 ho3 hk3 hz3)
            | (refine step_app_b w1 _ (by rfl) _ _ _ (by rfl) 3 i0 (.int .i64 0) 1 8 Try.underlying34 hi0 hy0 hy1 hy2 rfl (by decide) _ (0 + (0) + 1) (([] ++ nl ((insL f k).take (0))) ++ [.int .i64 (k : Int)]) (by rfl) (by first | assumption | exact below_al (by assumption) | go_grown) ho3 ⟨g, 0, none⟩ (k - (0)) (cap - (0)) (nl ((insL f k).drop (0))) (by rfl) (by rw [nl_len, List.length_drop]; omega) (news_row (d := 0) HO1.out (by first | assumption | exact below_al (by assumption) | go_grown) hgl1 (by intro j u hu; exact nl_drop hu)) (nl_one _) (by unfold maxLen; omega) (by omega) ?_; intro v4 w4 hb4 ho4 hk4 hz4))
          all_goals
            have hrow := ho4
            rw [show 0 + (0) + 1 + (k - (0)) = k + 1 from by omega, List.nil_append, show [Value.int .i64 (k : Int)] = nl [k] from rfl, nl_app, nl_app, show (insL f k).take (0) ++ [k] ++ (insL f k).drop (0) = insL f (k + 1) from by rw [List.append_assoc]; show insAt (insL f k) k (0) = _; rw [insL, HCT.out]] at hrow
            obtain ⟨g4, cap4, rfl, hg4, _⟩ := hrow.form (by omega)
            have hgb4 := (hrow.lt g4 rfl).1
            have hcap4 : k + 1 ≤ cap4 := row_cap hrow
            have HR := hide hrow; have HB4 := hide hb4
            have hwz : w.heap.size ≤ w1.heap.size := by have := hb1.size; have := hbq.size; have := hbw.size; omega
            clear hb2 ho2 hk2 hb3 ho3 hk3 hb4 ho4 hk4 hrow
            go_wp2
            go_roundw
            case rel => exact ⟨k + 1, g4, cap4, by omega, by go_num, rfl, hbw.trans ((hbq.trans ((hb1.trans (HB4.out.mono hb1.size)).mono hbq.size)).mono hbw.size), by omega, hcap4, row_base HR.out hwz⟩
            case measure => simp [intOf]; omega
        · obtain ⟨t, htq⟩ : ∃ t, q + 1 = t := ⟨_, rfl⟩
          rw [htq]
          rw [htq] at HT ht
          have hpos : (0 : Int) < (t : Int) := by omega
          have hdp : decide (0 < t) = true := by simp; omega
          have htk : (t : Int) ≤ (k : Int) := by omega
          have htc : (t : Int) ≤ (cap : Int) := by omega
          have hzlt : (insL f k).getD q 0 < k := insL_get (by omega)
          obtain ⟨z, hz⟩ : ∃ z, (insL f k).getD q 0 = z := ⟨_, rfl⟩
          rw [hz] at hzlt
          have hown' := row_below HO.out hbq
          have d0 := row_cell hown' (j := q) (by rw [insL_len]; omega)
          rw [hz] at d0
          have c3 := (qc b _ (by have := hbw.size; omega)).trans ((rc b _ hbb).trans (HCC.out k 3 hlt (by omega)))
          have z3 := (qc b _ (by have := hbw.size; omega)).trans ((rc b _ hbb).trans (HCC.out z 3 (by omega) (by omega)))
          simp only [iv, HF.out] at c3 z3
          have hbl : b < wr.heap.size := by have h1 := hbw.size; have h2 := hbq.size; omega
          have hzn : z < n := by omega
          have hgl2 : g < wr.heap.size := by have h2 := hbq.size; omega
          have hx := BW.cell (w := wr)
          have hww : IntKind.i64.wrap ((t : Int) - 1) = (q : Int) := by rw [IntWalk.i64_in _ (by omega)]; omega
          have HZ := hide hz
          clear hz qc qf rc rf hown'
          by_cases hlz : f k < f z
          · have hct : cutOf f (insL f k) k k = cutOf f (insL f k) k q := cut_step (by rw [htq]; exact HT.out) (by rw [HZ.out]; exact hlz)
            have H3 := hide hct
            clear hct
            go_wp2
            refine wp_region_bw (by kernel_rfl) (by kernel_rfl) ?_
            repeat (go_big_quiet_step ((first | fail)))
            refine wpQuiet_end fun w1 hb1 => ?_
            clear hx hww
            go_wp2
            go_roundw
            case rel => exact ⟨q, by omega, by congr 1; omega, hbq.trans (hb1.mono hbq.size), H3.out⟩
            case measure => first | (simp [intOf]; done) | (simp [intOf]; omega)
          · have hct : cutOf f (insL f k) k k = t := by rw [← htq]; exact cut_stop (by rw [htq]; exact HT.out) (by rw [HZ.out]; omega)
            have HCT := hide hct
            clear hct
            go_wp2
            refine wp_region_bw (by kernel_rfl) (by kernel_rfl) ?_
            repeat (go_big_quiet_step ((first | fail)))
            refine wpQuiet_end fun w1 hb1 => ?_
            clear hx hww
            have hown1 := row_below (row_below HO.out hbq) hb1
            have HO1 := hide hown1
            have hgl1 : g < w1.heap.size := by have := hb1.size; have := hbq.size; omega
            have hll := insL_len f k
            clear hown1
            have hA4 : ∃ A4, (if cap = t then some ⟨g, 0, none⟩ else some ⟨g, t, none⟩ : Option Addr) = some A4 ∧ ∀ W, Below w1.heap.size w1 W → ∀ j u, (nl ((insL f k).drop t))[j]? = some u → W.cell? (A4.add j) = some u := by
              by_cases e : cap = t
              · refine ⟨_, if_pos e, fun W _ j u hu => ?_⟩
                rw [List.drop_of_length_le (by omega)] at hu
                simp [nl] at hu
              · exact ⟨_, if_neg e, fun W hW => news_row HO1.out hW hgl1 (by intro j u hu; exact nl_drop hu)⟩
            obtain ⟨A4, hA, hnA⟩ := hA4
            have HA4 := hide hnA
            clear hnA
            go_wp2
            go_region_held3 (fun w' => Below w1.heap.size w1 w') (first | assumption | exact below_al (by assumption) | go_grown) (first
              | (refine step_app_b w1 _ (by rfl) _ _ _ (by rfl) 3 i0 (.int .i64 0) 1 8 Try.underlying34 hi0 hy0 hy1 hy2 rfl (by decide) (.slice (some ⟨_, 0, none⟩) 0 0) 0 [] (by rfl) (by first | assumption | exact below_al (by assumption) | go_grown) (by first | exact row_new_at _ _ _ _ _ (by first | rfl | simp) (by first | exact Nat.le_refl _ | simp) | exact (row_new_at _ _ _ _ _ (by first | rfl | simp) (by first | exact Nat.le_refl _ | simp)).alloc _) ⟨g, 0, none⟩ t cap (nl ((insL f k).take (t))) (by rfl) (by rw [nl_len, List.length_take]; omega) (news_row HO1.out (by first | assumption | exact below_al (by assumption) | go_grown) hgl1 (by intro j u hu; rw [Nat.zero_add]; exact nl_take hu)) (nl_one _) (by unfold maxLen; omega) (by omega) ?_; intro v2 w2 hb2 ho2 hk2 hz2)
              | (refine step_app_b w1 _ (by rfl) _ _ _ (by rfl) 3 i0 (.int .i64 0) 1 8 Try.underlying34 hi0 hy0 hy1 hy2 rfl (by decide) _ (0 + (t)) ([] ++ nl ((insL f k).take (t))) (by rfl) (by first | assumption | exact below_al (by assumption) | go_grown) (by first | exact ho2.alloc _ | exact ho2) _ 1 1 [.int .i64 (k : Int)] (by rfl) rfl (by first | exact cell_one_at _ _ _ _ (by first | rfl | simp) | exact news_kept hk2 (cell_one_at _ _ _ _ (by first | rfl | simp)) (by first | (simp; done) | (simp; omega)) (by simp [Value.ownBlock]) | exact news_kept hk2 (news_al (cell_one_at _ _ _ _ (by first | rfl | simp)) (by first | (simp; done) | (simp; omega))) (by first | (simp; done) | (simp; omega)) (by simp [Value.ownBlock])) (by intro u hu; simp only [List.mem_singleton] at hu; subst hu; rfl) (by unfold maxLen; omega) (by omega) ?_; intro v3 w3 hb3 ho3 hk3 hz3)
              | (refine step_app_b w1 _ (by rfl) _ _ _ (by rfl) 3 i0 (.int .i64 0) 1 8 Try.underlying34 hi0 hy0 hy1 hy2 rfl (by decide) _ (0 + (t) + 1) (([] ++ nl ((insL f k).take (t))) ++ [.int .i64 (k : Int)]) (by rfl) (by first | assumption | exact below_al (by assumption) | go_grown) ho3 A4 (k - (t)) (cap - (t)) (nl ((insL f k).drop (t))) (by rfl) (by rw [nl_len, List.length_drop]; omega) (HA4.out _ (by first | assumption | exact below_al (by assumption) | go_grown)) (nl_one _) (by unfold maxLen; omega) (by omega) ?_; intro v4 w4 hb4 ho4 hk4 hz4))
            all_goals
              have hrow := ho4
              rw [show 0 + (t) + 1 + (k - (t)) = k + 1 from by omega, List.nil_append, show [Value.int .i64 (k : Int)] = nl [k] from rfl, nl_app, nl_app, show (insL f k).take (t) ++ [k] ++ (insL f k).drop (t) = insL f (k + 1) from by rw [List.append_assoc]; show insAt (insL f k) k (t) = _; rw [insL, HCT.out]] at hrow
              obtain ⟨g4, cap4, rfl, hg4, _⟩ := hrow.form (by omega)
              have hgb4 := (hrow.lt g4 rfl).1
              have hcap4 : k + 1 ≤ cap4 := row_cap hrow
              have HR := hide hrow; have HB4 := hide hb4
              have hwz : w.heap.size ≤ w1.heap.size := by have := hb1.size; have := hbq.size; have := hbw.size; omega
              clear hb2 ho2 hk2 hb3 ho3 hk3 hb4 ho4 hk4 hrow
              go_wp2
              go_roundw
              case rel => exact ⟨k + 1, g4, cap4, by omega, by go_num, rfl, hbw.trans ((hbq.trans ((hb1.trans (HB4.out.mono hb1.size)).mono hbq.size)).mono hbw.size), by omega, hcap4, row_base HR.out hwz⟩
              case measure => simp [intOf]; omega
    · obtain rfl : k = n := by omega
      have HO := hide hown
      clear hown
      go_wp2
      go_returns
      exact ⟨_, rfl, hbw, own_of_nl (insL_len f k).symm HO.out⟩
theorem spec_byDead (A : Option Addr) (n c : Nat) (X : Nat → Nat → Int) (ok : Bool) (hv : errsB n X = ok) (q : Nat) (hq : q = onlyN ok n) (w : World) (hn : n ≤ 1048576) (ha : Arr w w.heap.size A n 4 (iv X)) :
    Calls Try.prog 70 #[.slice A n c] w fun e w' => ∃ v, e = .returned (.tuple #[v, .bool ok]) ∧ Below w.heap.size w w' ∧ Own w' w.heap.size 3 1 v q (iv fun i _ => ((insL (fun i => X i 3) n).getD i 0 : Nat)) := by
  subst hq
  have HV := hide hv
  clear hv
  cases ok
  · go_enter Try.func70, Try.ntmps70
    go_wp2_with fail
    refine (spec_good23 _ _ _ X _ HV.out _ hn ha).mono ?_
    rintro e w1 ⟨rfl, hb1⟩
    obtain ⟨qc1, qf1⟩ := bcell hb1
    have hz1 := hb1.size
    try simp only [World.size_alloc, World.size_setCell, World.size_drew] at hz1
    have hq1 : Below w.heap.size w w1 := below_call (by go_grown) hb1
    try have hl0_1 : w.heap.size < w1.heap.size := by omega
    try have hl1_1 : w.heap.size + 1 < w1.heap.size := by omega
    try have hl2_1 : w.heap.size + 2 < w1.heap.size := by omega
    try have hl3_1 : w.heap.size + 3 < w1.heap.size := by omega
    go_wp2
    go_returns
    exact ⟨_, rfl, below_al hq1, own_new hq1.size⟩
  · obtain ⟨hn12, _⟩ := errs_of HV.out
    go_enter Try.func70, Try.ntmps70
    go_wp2_with fail
    refine (spec_good23 _ _ _ X _ HV.out _ hn ha).mono ?_
    rintro e w1 ⟨rfl, hb1⟩
    obtain ⟨qc1, qf1⟩ := bcell hb1
    have hz1 := hb1.size
    try simp only [World.size_alloc, World.size_setCell, World.size_drew] at hz1
    have hq1 : Below w.heap.size w w1 := below_call (by go_grown) hb1
    try have hl0_1 : w.heap.size < w1.heap.size := by omega
    try have hl1_1 : w.heap.size + 1 < w1.heap.size := by omega
    try have hl2_1 : w.heap.size + 2 < w1.heap.size := by omega
    try have hl3_1 : w.heap.size + 3 < w1.heap.size := by omega
    go_wp2_with fail
    refine (spec_dead _ _ _ X _ hn12 (ha.on hq1)).mono ?_
    rintro e w2 ⟨v, rfl, hb2, ho2⟩
    have hq2 : Below w.heap.size w w2 := below_call hq1 hb2
    have HO := hide ho2
    clear ho2
    go_wp2
    go_returns
    exact ⟨_, rfl, hq2, HO.out.base hq1.size⟩
end Go.Proofs.Ytfdgnjnnbhelgaa
