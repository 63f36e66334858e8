/- Errands left out: the program's contract: made by fewgen.py. -/
import Derived.Test.YtfdgnjnnbhelgaaFewA
import Derived.Test.YtfdgnjnnbhelgaaFewD
import Derived.Test.YtfdgnjnnbhelgaaSort
import Derived.Test.YtfdgnjnnbhelgaaVisN
import Derived.IntWalk
namespace Go.Proofs.Ytfdgnjnnbhelgaa
open Go.RowKit
set_option linter.unusedVariables false
set_option linter.unusedSimpArgs false

theorem FwSt.outgrow {w w1 w2 W W' : World} {g1 cp1 m g' cp' m' : Nat} {vk : Value} {kl xs xs' : List Nat} (h : FwSt w w1 w2 g1 cp1 m vk kl xs W) (hg : W.grownBy W' (some g1)) (hr : W'.ownsRow w.heap.size 3 1 (.slice (some ⟨g', 0, none⟩) m' cp') m' (nl xs')) (hf : g' = g1 ∨ W.heap.size ≤ g') : FwSt w w1 w2 g' cp' m' vk kl xs' W' := by
  obtain ⟨h1, h2, h3, h4, h5, h6, h7, h8⟩ := h
  refine ⟨h1.grown hg h1.size (fun g e => by injection e with e; have := (h4.lt g1 rfl).1; omega), Nat.le_trans h2 hg.size, fun b o hb1 hb2 => ?_, hr, h5.kept hg (.inr fun e => h8 g1 e rfl), ?_, h7, fun g e => ?_⟩
  · exact (World.cell?_of_block (hg.block b (by omega) (fun e => by injection e with e; omega))).trans (h3 b o hb1 hb2)
  · rcases hf with rfl | hf
    · exact h6
    · exact .inr (by omega)
  · rcases hf with rfl | hf
    · exact h8 g e
    · have := (h5.lt g e).2; omega
attribute [local go_sem ↓] Go.wp_at_zero Go.wp_at_succ
set_option maxHeartbeats 8000000 in
set_option maxRecDepth 100000 in
theorem impl_fewest (A : Option Addr) (n c : Nat) (X : Nat → Nat → Int) (ok : Bool) (hv : errsB n X = ok) (q : Nat) (hq : q = onlyN ok (fwN n X).length) (w : World) (hn : n ≤ 1048576) (ha : Arr w w.heap.size A n 4 (iv X)) :
    Calls Try.prog 41 #[.slice A n c] w fun e w' => ∃ v, e = .returned (.tuple #[v, .bool ok]) ∧ Below w.heap.size w w' ∧ Own w' w.heap.size 3 1 v q (iv fun i _ => ((putAll (fwN n X) (fwN n X).length).getD i 0 : Nat)) := by
  obtain ⟨i0, hi0, hy0, hy1, hy2⟩ := info_parts info_int
  have HA := hide ha
  clear ha
  cases ok
  · subst hq
    have HV := hide hv
    clear hv
    go_enter Try.func41, Try.ntmps41
    go_wp2_with fail
    refine (impl_errs A n c X false HV.out _ hn (HA.out.on (by go_grown))).mono ?_
    rintro e w1 ⟨rfl, hb1⟩
    have hq1 : Below w.heap.size w w1 := below_call (by go_grown) hb1
    clear hb1
    go_wp2
    go_returns
    exact ⟨_, rfl, hq1, own_nil _ _ _ _ _⟩
  · obtain ⟨hn12, hX⟩ := errs_of hv
    have hqn : q = (fwN n X).length := hq
    have HQ := hide hqn; have HV := hide hv; have HX := hide hX
    clear hq hqn hv hX
    go_enter Try.func41, Try.ntmps41
    go_wp2_with fail
    refine (impl_errs A n c X true HV.out _ hn (HA.out.on (by go_grown))).mono ?_
    rintro e w0 ⟨rfl, hb0⟩
    have hq0 : Below w.heap.size w w0 := below_call (by go_grown) hb0
    have hz0 := hq0.size
    clear hb0
    obtain ⟨w1, hw1⟩ : ∃ x, x = w0.alloc (.cells #[] 3) := ⟨_, rfl⟩
    have hs1 : w1.heap.size = w0.heap.size + 1 := by rw [hw1]; simp
    have HW1 := hide hw1; have HS1 := hide hs1
    clear hw1 hs1
    go_wp2_with fail
    refine (sorted_plan 96 A n c X (fun i => X i 3) (fun a b => cmpI (X a 3) (X b 3)) _ hn12 (HA.out.on (by go_grown)) (fun a b => cmpI_lt) (fun B bc bl w' hA hbc hbl h1 h2 hB => cmp_dead A n c B bc bl X w' hn hA hbc hbl h1 h2 hB)).mono ?_
    rintro e w2 ⟨vO, rfl, hb2, OO⟩
    have hq2 : Below w.heap.size w w2 := below_call (by go_grown) hb2
    have hrk := row_below (row_below (row_new_at w0 w0.heap.size w.heap.size 1 3 rfl hz0) (below_al (o := .cells #[] 3) (Below.refl _ _))) hb2
    have hro := row_below (row_new_at (w0.alloc (.cells #[] 3)) (w0.heap.size + 1) w.heap.size 1 3 (by simp) (by simp; omega)) hb2
    obtain ⟨AO, cO, rfl, hcO, _⟩ := OO.arr
    have hOb : ∀ g, (Value.slice AO n cO).ownBlock = some g → w1.heap.size < g ∧ g < w2.heap.size := fun g hg => by have := OO.blk g hg; have := HS1.out; simp at *; omega
    have hst0 : FwSt w w1 w2 (w0.heap.size + 1) 0 0 (.slice (some ⟨w0.heap.size, 0, none⟩) 0 0) [] [] w2 := ⟨hq2, Nat.le_refl _, fun _ _ _ _ => rfl, hro, hrk, .inl (by have := HS1.out; omega), fun g hg => by have := HS1.out; simp [Value.ownBlock] at hg; omega, fun g hg => by simp [Value.ownBlock] at hg; omega⟩
    have HST0 := hide hst0; have HOO := hide OO.arr1; have HOB := hide hOb
    clear OO hb2 hrk hro hOb hst0
    go_wp2
    go_loopw [4, 5, 20] (fun vk vo y wr => ∃ (p m g1 cp1 : Nat) (kl ol : List Nat), FwAt n X p kl ol ∧ ol.length = m ∧ y = .int .i64 p ∧ vo = .slice (some ⟨g1, 0, none⟩) m cp1 ∧ FwSt w w1 w2 g1 cp1 m vk kl ol wr) (fun _ _ y _ => n - (intOf y).toNat)
    case atStart => exact ⟨0, 0, w0.heap.size + 1, 0, [], [], ⟨Nat.zero_le _, rfl⟩, rfl, rfl, rfl, HST0.out⟩
    case round =>
      obtain ⟨p, m, g1, cp1, kl, ol, hfw, hol, rfl, rfl, hst⟩ := hrel
      have HFW := hide hfw; have HOL := hide hol
      have hpn := hfw.1
      have hlens := hfw.len
      have hbr := hst.1
      have hzr := hst.2.1
      have HST := hide hst
      clear hfw hol hst
      by_cases hlt : p < n
      · obtain ⟨x, hx⟩ : ∃ x, x = (fwO n X).getD p 0 := ⟨_, rfl⟩
        have hxn : x < n := by rw [hx]; exact fwO_lt hlt
        obtain ⟨bo, oo, hAO, hbo, hco⟩ := HOO.out (by omega)
        have hbo2 : w1.heap.size < bo := (HOB.out bo (by rw [hAO]; rfl)).1
        have hcx : w2.cell? ⟨bo, oo + p, none⟩ = some (.int .i64 (x : Int)) := by
          have := hco p 0 hlt (by omega)
          simp only [Nat.add_zero, Nat.mul_one] at this
          rw [this, hx]; rfl
        have co := (HST.out.2.2.1 bo (oo + p) hbo2 hbo).trans hcx
        obtain ⟨k, hk⟩ : ∃ k, k = kl.length := ⟨_, rfl⟩
        have hrk := HST.out.2.2.2.2.1
        rw [← hk] at hrk hlens
        have HX1 := hide hx; have HK := hide hk
        subst hAO
        clear hco hx hcx
        go_wp2_with (at_builtin; refine wpList_append_far _ rfl _ _ 34 rfl w.heap.size 3 i0 (.int .i64 0) 1 8 Try.underlying34 hi0 hy0 hy1 hy2 rfl (by decide) _ _ _ rfl (hrk.alloc _) ⟨wr.heap.size, 0, none⟩ 1 1 [.int .i64 (x : Int)] rfl rfl ?c1 ?c2 ?c3 ?c4 ?c5 ?_)
        case c1 => exact cell_one_at _ _ _ _ (by first | rfl | simp)
        case c2 => intro u hu; simp only [List.mem_singleton] at hu; subst hu; rfl
        case c3 => unfold maxLen; omega
        case c4 => omega
        case c5 => simp only [World.size_alloc]; have := hbr.size; omega
        intro v3 w3 hown3 hgrow3 hfar3
        rw [nl_snoc] at hown3
        try rw [show kl.length = k from HK.out.symm] at hown3
        obtain ⟨kp, hkp⟩ : ∃ kp, kp = kl ++ [x] := ⟨_, rfl⟩
        have hkpl : kp.length = k + 1 := by rw [hkp]; simp [hk]
        rw [← hkp] at hown3
        have hst3 := (HST.out.below (below_al (Below.refl _ _))).put (kl' := kp) hgrow3 (by rw [hkpl]; exact hown3) (by simpa using hfar3)
        obtain ⟨g3, cp3, rfl, _, _⟩ := hown3.form (by omega)
        have hpl : planIn n (k + 1) (keptY kp) := by
          have := plan_kept (n := n) (l := kp) (fun y hy => by
            rw [hkp] at hy
            rcases List.mem_append.1 hy with hy | hy
            · exact HFW.out.lt (.inl hy)
            · rw [List.mem_singleton] at hy; omega)
          rwa [hkpl] at this
        have hA3 := (own_of_nl hkpl.symm hown3).arr1
        have HST3 := hide hst3; have HKP := hide hkp; have HKL := hide hkpl; have HPL := hide hpl; have HA3 := hide hA3
        have hz3 := hst3.1.size
        clear hown3 hgrow3 hfar3 hst3 hkp hkpl hpl hA3 hrk co hk
        go_wp2_with fail
        refine (impl_ends A (some ⟨g3, 0, none⟩) n (k + 1) c cp3 X (keptY kp) _ hn (by omega) (HA.out.on HST3.out.1) HA3.out HX.out HPL.out).mono ?_
        rintro e w4 ⟨vE, rfl, hb4, OE⟩
        have hs4 : Below w3.heap.size w3 w4 := below_call (by go_grown) hb4
        have hst4 := HST3.out.below hs4
        obtain ⟨AE, cE, rfl, hcE, hAE⟩ := OE.arr
        obtain ⟨be, oe, rfl, hbe, hce⟩ := hAE (by omega)
        obtain ⟨ba, oa, rfl, hba, hca⟩ := (HA.out.on hst4.1) (by omega)
        have ce := hce k 0 (by omega) (by omega)
        have ca := hca x 3 hxn (by omega)
        simp only [Nat.add_zero, Nat.mul_one, iv] at ce ca
        have hbd := endH_bd HX.out HPL.out (k + 1) (Nat.le_refl _)
        obtain ⟨z, hz⟩ : ∃ z, endH X (keptY kp) (k + 1) = z := ⟨_, rfl⟩
        rw [hz] at ce hbd
        have HZ := hide hz; have HST4 := hide hst4
        have hx := BW.cell (w := w4)
        have hww : IntKind.i64.wrap ((k : Int) + 1 - 1) = (k : Int) := by rw [IntWalk.i64_in _ (by omega)]; omega
        have hxi : (x : Int) < (n : Int) := by omega
        have hz4 := hst4.1.size
        clear hb4 hs4 OE hAE hce hca hz hst4
        by_cases hle : z ≤ X x 3
        · have dl : decide (z ≤ X x 3) = true := decide_eq_true hle
          go_wp2
          refine wp_region_bw (by kernel_rfl) (by kernel_rfl) ?_
          repeat (go_big_quiet_step ((first | fail)))
          refine wpQuiet_end fun w1 hb1 => ?_
          have hst5 := HST4.out.below hb1
          have HST5 := hide hst5
          clear hww hst5
          go_wp2
          go_roundw
          case rel => exact ⟨p + 1, m, g1, cp1, kp, ol, by rw [HKP.out, HX1.out]; exact HFW.out.keep hlt (by rw [← HX1.out, ← HKP.out, ← HK.out, HZ.out]; exact hle), HOL.out, by go_num, rfl, HST5.out⟩
          case measure => simp [intOf]; omega
        · have dl : decide (z ≤ X x 3) = false := decide_eq_false hle
          go_wp2
          refine wp_region_bw (by kernel_rfl) (by kernel_rfl) ?_
          repeat (go_big_quiet_step ((first | fail)))
          refine wpQuiet_end fun w1 hb1 => ?_
          obtain ⟨w5, rfl⟩ : ∃ y, y = w1 := ⟨_, rfl⟩
          have hst5 := HST4.out.below hb1
          have HST5 := hide hst5
          have hz5 := hst5.1.size
          clear hww hx ce ca hst5 hb1
          go_wp2
          go_loopw [9, 45] (fun u y wq => ∃ t : Nat, t ≤ k + 1 ∧ y = .int .i64 t ∧ u = .int .i64 (worstOf X kp t : Nat) ∧ Below w5.heap.size w5 wq) (fun _ y _ => k + 1 - (intOf y).toNat)
          case atStart => exact ⟨0, Nat.zero_le _, rfl, rfl, Below.refl _ _⟩
          case round =>
            obtain ⟨t, ht, rfl, rfl, hbq⟩ := hrel
            have hstq := HST5.out.below hbq
            obtain ⟨v, hv⟩ : ∃ v, v = worstOf X kp t := ⟨_, rfl⟩
            have hvt : v < k + 1 := by
              rw [hv]
              rcases t with _ | t'
              · simp [worstOf]
              · have := worst_lt X kp t'; omega
            rw [← hv]
            have hrow := hstq.2.2.2.2.1
            rw [HKL.out] at hrow
            have hkc : k + 1 ≤ cp3 := row_capP hrow
            have hkn : ∀ i, i < k + 1 → kp.getD i 0 < n := fun i hi => by
              have := HPL.out i hi
              unfold keptY at this; omega
            obtain ⟨b9, o9, e9, hb9, hc9⟩ := (HA.out.on hstq.1) (by omega)
            injection e9 with e9
            injection e9 with e9a e9b _
            subst e9a e9b
            have d2 := row_cell hrow (j := v) (by rw [HKL.out]; omega)
            obtain ⟨b, hb⟩ : ∃ b, b = kp.getD v 0 := ⟨_, rfl⟩
            have hbn : b < n := by rw [hb]; exact hkn v (by omega)
            rw [← hb] at d2
            have hg3 : g3 < wr.heap.size := (hrow.lt g3 rfl).2
            have hzq := hstq.1.size
            have HV2 := hide hv; have HBB := hide hb; have HSTQ := hide hstq
            have hx := BW.cell (w := wr)
            by_cases htk : t < k + 1
            · have d1 := row_cell hrow (j := t) (by rw [HKL.out]; exact htk)
              obtain ⟨a, ha⟩ : ∃ a, a = kp.getD t 0 := ⟨_, rfl⟩
              have han : a < n := by rw [ha]; exact hkn t htk
              rw [← ha] at d1
              have f1 := hc9 a 1 han (by omega); have f2 := hc9 b 1 hbn (by omega)
              simp only [iv] at f1 f2
              have HAA := hide ha
              have hai : (a : Int) < (n : Int) := by omega
              have hbi : (b : Int) < (n : Int) := by omega
              have hvc : v < cp3 := by omega
              have htc : t < cp3 := by omega
              clear hrow hkn hc9 hv hb ha hstq
              by_cases hge : X b 1 ≤ X a 1
              · have dg : decide (X b 1 ≤ X a 1) = true := decide_eq_true hge
                go_wp2
                refine wp_region_bw (by kernel_rfl) (by kernel_rfl) ?_
                repeat (go_big_quiet_step ((first | fail)))
                refine wpQuiet_end fun w1 hb1 => ?_
                go_wp2
                go_roundw
                case rel => exact ⟨t + 1, by omega, by go_num, by rw [worstOf, ← HV2.out, ← HBB.out, ← HAA.out, if_pos (by omega)], below_call hbq hb1⟩
                case measure => simp [intOf]; omega
              · have dg : decide (X b 1 ≤ X a 1) = false := decide_eq_false hge
                go_wp2
                refine wp_region_bw (by kernel_rfl) (by kernel_rfl) ?_
                repeat (go_big_quiet_step ((first | fail)))
                refine wpQuiet_end fun w1 hb1 => ?_
                go_wp2
                go_roundw
                case rel => exact ⟨t + 1, by omega, by go_num, by rw [worstOf, ← HV2.out, ← HBB.out, ← HAA.out, if_neg (by omega)], below_call hbq hb1⟩
                case measure => simp [intOf]; omega
            · obtain rfl : t = k + 1 := by omega
              have hdrop := HFW.out.drop (kp := kp) (wst := v) (by rw [HKP.out, HX1.out]) hlt (by rw [← HX1.out, ← HK.out, HZ.out]; omega) (by rw [← HK.out]; exact hv)
              rw [← hb] at hdrop
              have HD := hide hdrop
              have hvc : v < cp3 := by omega
              have hol2 := HOL.out
              have hm12 : m ≤ 12 := by omega
              have hro := hstq.2.2.2.1
              clear hrow hkn hc9 hv hb hstq hdrop hx hol2
              go_wp2_with (at_builtin; refine wpList_append_far _ rfl _ _ 34 rfl w.heap.size 3 i0 (.int .i64 0) 1 8 Try.underlying34 hi0 hy0 hy1 hy2 rfl (by decide) _ _ _ rfl (hro.alloc _) ⟨wr.heap.size, 0, none⟩ 1 1 [.int .i64 (b : Int)] rfl rfl ?kk6 ?kk7 ?kk8 ?kk9 ?kk10 ?_)
              case kk7 => first | rfl | (intro u hu; simp only [List.mem_singleton] at hu; subst hu; rfl)
              case kk8 => unfold maxLen; omega
              case kk9 => omega
              case kk10 => first | omega | (simp only [World.size_alloc]; omega)
              intro v6 w6 hown6 hgrow6 hfar6
              rw [nl_snoc] at hown6
              obtain ⟨g6, cp6, rfl, _, _⟩ := hown6.form (by omega)
              have hf6 : g6 = g1 ∨ (wr.alloc (.cells #[.int .i64 (b : Int)] 3)).heap.size ≤ g6 := by
                rcases hfar6 g6 rfl with h | h
                · left; simpa [Value.ownBlock] using h.symm
                · exact .inr (by simpa using h)
              have hst6 := (HSTQ.out.below (below_al (o := .cells #[.int .i64 (b : Int)] 3) (Below.refl _ _))).outgrow (xs' := ol ++ [b]) hgrow6 hown6 hf6
              have hrow6 := hst6.2.2.2.2.1
              rw [HKL.out] at hrow6
              have HR6 := hide hrow6; have HST6 := hide hst6
              clear hown6 hgrow6 hfar6 hf6 hst6 hrow6 hro d2
              go_wp2_with fail
              refine (del_row2 g3 cp3 k v w.heap.size kp _ HKL.out hvt HR6.out).mono ?_
              rintro e w7 ⟨rfl, hg7, hr7⟩
              have hel : (kp.eraseIdx v).length = k := by rw [List.length_eraseIdx, HKL.out]; simp [hvt]
              have hst7 := HST6.out.put (v' := .slice (some ⟨g3, 0, none⟩) (k : Nat) cp3) (kl' := kp.eraseIdx v) hg7 (by rw [hel]; exact hr7) (fun g e => .inl e)
              have HST7 := hide hst7
              clear hg7 hr7 hel hst7
              go_wp2
              go_roundw
              case rel => exact ⟨p + 1, m + 1, g6, cp6, kp.eraseIdx v, ol ++ [b], HD.out.1, by simp [HOL.out], by go_num, rfl, HST7.out⟩
              case measure => simp [intOf]; omega
      · obtain rfl : p = n := by omega
        have hol2 := HOL.out
        have hm12 : m ≤ 12 := by omega
        have hro := HST.out.2.2.2.1
        have hbase := (hro.lt g1 rfl).1
        have HRO := hide hro; have HND := hide HFW.out.nodup
        clear hro hol2
        go_wp2_with fail
        refine (sort_short g1 cp1 m w.heap.size ol _ HOL.out hm12 HND.out HRO.out).mono ?_
        rintro e w3 ⟨rfl, hg3, hr3⟩
        have hown : Own w3 w.heap.size 3 1 (.slice (some ⟨g1, 0, none⟩) m cp1) m (iv fun i _ => ((putAll ol m).getD i 0 : Nat)) := own_of_nl putAll_len.symm hr3
        have hbf : Below w.heap.size w w3 := hbr.grown hg3 hbr.size (fun g e => by injection e with e; omega)
        have hfin : q = m ∧ fwN p X = ol := by
          have h1 := HFW.out.2
          have h2 : fwN p X = ol := by unfold fwN; rw [h1]
          exact ⟨by rw [HQ.out, h2, HOL.out], h2⟩
        have HO := hide hown; have HF := hide hfin
        clear hg3 hr3 hown hfin
        go_wp2
        go_returns
        exact ⟨_, rfl, hbf, by rw [HF.out.1, HF.out.2, HOL.out]; exact HO.out⟩
end Go.Proofs.Ytfdgnjnnbhelgaa
