/- Errands left out: the reference's contract: made by fewgen.py. -/
import Derived.Test.YtfdgnjnnbhelgaaFewM
import Derived.Test.YtfdgnjnnbhelgaaVisQ
import Derived.Test.YtfdgnjnnbhelgaaVisM
import Derived.Test.YtfdgnjnnbhelgaaPut
import Derived.IntWalk
namespace Go.Proofs.Ytfdgnjnnbhelgaa
open Go.RowKit
set_option linter.unusedVariables false
set_option linter.unusedSimpArgs false

def fwO (n : Nat) (X : Nat → Nat → Int) : List Nat := insL (fun i => X i 3) n
def fwN (n : Nat) (X : Nat → Nat → Int) : List Nat := (fwS X (fwO n X) n).2
theorem fwO_len (n : Nat) (X : Nat → Nat → Int) : (fwO n X).length = n := insL_len _ n
theorem fwO_lt {n : Nat} {X : Nat → Nat → Int} {q : Nat} (hq : q < n) : (fwO n X).getD q 0 < n := insL_get hq
theorem fwN_len (n : Nat) (X : Nat → Nat → Int) : (fwN n X).length ≤ n := by
  have := fw_len (X := X) (order := fwO n X) (q := n) (by rw [fwO_len]; exact Nat.le_refl _)
  unfold fwN; omega
/-- How far both lists have come: kept ones and left ones. -/
def FwAt (n : Nat) (X : Nat → Nat → Int) (q : Nat) (kl ol : List Nat) : Prop := q ≤ n ∧ fwS X (fwO n X) q = (kl, ol)
theorem FwAt.len {n q : Nat} {X : Nat → Nat → Int} {kl ol : List Nat} (h : FwAt n X q kl ol) : kl.length + ol.length = q := by
  have := fw_len (X := X) (order := fwO n X) (q := q) (by rw [fwO_len]; exact h.1)
  rw [h.2] at this; exact this
theorem FwAt.lt {n q x : Nat} {X : Nat → Nat → Int} {kl ol : List Nat} (h : FwAt n X q kl ol) (hx : x ∈ kl ∨ x ∈ ol) : x < n := by
  have := fw_mem (X := X) (order := fwO n X) (q := q) (x := x) (by rw [fwO_len]; exact h.1) (by rw [h.2]; exact hx)
  exact mem_insL.1 this
theorem FwAt.nodup {n q : Nat} {X : Nat → Nat → Int} {kl ol : List Nat} (h : FwAt n X q kl ol) : ol.Nodup := by
  have := (fw_nodup (X := X) (order := fwO n X) insL_nodup (q := q) (by rw [fwO_len]; exact h.1)).2
  rw [h.2] at this; exact this
theorem FwAt.keep {n q : Nat} {X : Nat → Nat → Int} {kl ol : List Nat} (h : FwAt n X q kl ol) (hq : q < n) (he : endH X (keptY (kl ++ [(fwO n X).getD q 0])) (kl.length + 1) ≤ X ((fwO n X).getD q 0) 3) : FwAt n X (q + 1) (kl ++ [(fwO n X).getD q 0]) ol := by
  refine ⟨hq, ?_⟩
  rw [fwS_keep (kp := kl ++ [(fwO n X).getD q 0]) (by rw [h.2]) (by simpa using he), h.2]
theorem FwAt.drop {n q : Nat} {X : Nat → Nat → Int} {kl ol kp : List Nat} {wst : Nat} (h : FwAt n X q kl ol) (hkp : kp = kl ++ [(fwO n X).getD q 0]) (hq : q < n) (he : ¬ endH X (keptY kp) (kl.length + 1) ≤ X ((fwO n X).getD q 0) 3) (hw : wst = worstOf X kp (kl.length + 1)) :
    FwAt n X (q + 1) (kp.eraseIdx wst) (ol ++ [kp.getD wst 0]) ∧ wst < kp.length ∧ kp.getD wst 0 ∉ ol := by
  have hl : kp.length = kl.length + 1 := by rw [hkp]; simp
  have h1 : FwAt n X (q + 1) (kp.eraseIdx wst) (ol ++ [kp.getD wst 0]) := by
    refine ⟨hq, ?_⟩
    rw [fwS_drop (kp := kp) (by rw [h.2]; exact hkp) (by rw [hl]; exact he), h.2, hl, ← hw]
  refine ⟨h1, by rw [hl, hw]; exact worst_lt _ _ _, fun hm => ?_⟩
  have := h1.nodup
  rw [List.nodup_append] at this
  exact this.2.2 _ hm _ (List.mem_singleton.2 rfl) rfl
theorem plan_kept {n : Nat} {l : List Nat} (h : ∀ x, x ∈ l → x < n) : planIn n l.length (keptY l) := fun i hi => by
  have : l.getD i 0 < n := h _ (by simp [List.getD, hi])
  unfold keptY; omega
theorem putAll_len' {l : List Nat} {k : Nat} : (putAll l k).length = k := putAll_len
theorem nl_snoc (l : List Nat) (x : Nat) : nl l ++ [.int .i64 (x : Int)] = nl (l ++ [x]) := by simp [nl]
theorem erase_app {l : List Nat} {t : Nat} : l.eraseIdx t = l.take t ++ l.drop (t + 1) := List.eraseIdx_eq_take_drop_succ l t

/-- What the loop keeps: the list of left ones (in its block g1), the kept ones, and the order's cells. -/
def FwSt (w w1 w2 : World) (g1 cp1 m : Nat) (vk : Value) (kl xs : List Nat) (W : World) : Prop :=
  Below w.heap.size w W ∧ w2.heap.size ≤ W.heap.size ∧ (∀ b o, w1.heap.size < b → b < w2.heap.size → W.cell? ⟨b, o, none⟩ = w2.cell? ⟨b, o, none⟩) ∧
  W.ownsRow w.heap.size 3 1 (.slice (some ⟨g1, 0, none⟩) m cp1) m (nl xs) ∧ W.ownsRow w.heap.size 3 1 vk kl.length (nl kl) ∧
  (g1 ≤ w1.heap.size ∨ w2.heap.size ≤ g1) ∧ (∀ g, vk.ownBlock = some g → g ≤ w1.heap.size ∨ w2.heap.size ≤ g) ∧ (∀ g, vk.ownBlock = some g → g ≠ g1)
theorem FwSt.below {w w1 w2 W W' : World} {g1 cp1 m : Nat} {vk : Value} {kl xs : List Nat} (h : FwSt w w1 w2 g1 cp1 m vk kl xs W) (hb : Below W.heap.size W W') : FwSt w w1 w2 g1 cp1 m vk kl xs W' := by
  obtain ⟨h1, h2, h3, h4, h5, h6⟩ := h
  exact ⟨below_call h1 hb, Nat.le_trans h2 hb.size, fun b o hb1 hb2 => (hb.cell (p := ⟨b, o, none⟩) (by show b < _; omega)).trans (h3 b o hb1 hb2), row_below h4 hb, row_below h5 hb, h6⟩
/-- The kept ones are written on: a row that grew. -/
theorem FwSt.put {w w1 w2 W W' : World} {g1 cp1 m : Nat} {vk v' : Value} {kl kl' xs : List Nat} (h : FwSt w w1 w2 g1 cp1 m vk kl xs W) (hg : W.grownBy W' vk.ownBlock) (hr : W'.ownsRow w.heap.size 3 1 v' kl'.length (nl kl')) (hf : ∀ g, v'.ownBlock = some g → vk.ownBlock = some g ∨ W.heap.size ≤ g) : FwSt w w1 w2 g1 cp1 m v' kl' xs W' := by
  obtain ⟨h1, h2, h3, h4, h5, h6, h7, h8⟩ := h
  have hgl := (h4.lt g1 rfl).2
  refine ⟨h1.grown hg h1.size (fun g e => (h5.lt g e).1), Nat.le_trans h2 hg.size, fun b o hb1 hb2 => ?_, h4.kept hg (.inr fun e => h8 g1 e.symm rfl), hr, h6, fun g e => ?_, fun g e => ?_⟩
  · exact (World.cell?_of_block (hg.block b (by omega) (fun e => by have := h7 b e.symm; omega))).trans (h3 b o hb1 hb2)
  · rcases hf g e with e | e
    · exact h7 g e
    · exact .inr (by omega)
  · rcases hf g e with e | e
    · exact h8 g e
    · omega
/-- The left ones lie in a new list. -/
theorem FwSt.out {w w1 w2 W W' : World} {g1 cp1 m g' cp' m' : Nat} {vk : Value} {kl xs xs' : List Nat} (h : FwSt w w1 w2 g1 cp1 m vk kl xs W) (hb : Below W.heap.size W W') (hg : W.heap.size ≤ g') (hr : W'.ownsRow W.heap.size 3 1 (.slice (some ⟨g', 0, none⟩) m' cp') m' (nl xs')) : FwSt w w1 w2 g' cp' m' vk kl xs' W' := by
  have h' := h.below hb
  obtain ⟨h1, h2, h3, h4, h5, h6, h7, h8⟩ := h
  exact ⟨h'.1, h'.2.1, h'.2.2.1, row_base hr h1.size, h'.2.2.2.2.1, .inr (by omega), h7, fun g e => by have := (h5.lt g e).2; omega⟩
/-- The kept ones lie in a new list. -/
theorem FwSt.kept {w w1 w2 W W' : World} {g1 cp1 m : Nat} {vk v' : Value} {kl kl' xs : List Nat} (h : FwSt w w1 w2 g1 cp1 m vk kl xs W) (hb : Below W.heap.size W W') (hr : W'.ownsRow W.heap.size 3 1 v' kl'.length (nl kl')) : FwSt w w1 w2 g1 cp1 m v' kl' xs W' := by
  have h' := h.below hb
  obtain ⟨h1, h2, h3, h4, h5, h6, h7, h8⟩ := h
  have hgl := (h4.lt g1 rfl).2
  exact ⟨h'.1, h'.2.1, h'.2.2.1, h'.2.2.2.1, row_base hr h1.size, h6, fun g e => .inr (by have := (hr.lt g e).1; omega), fun g e => by have := (hr.lt g e).1; omega⟩

attribute [local go_sem ↓] Go.wp_at_zero Go.wp_at_succ
set_option maxHeartbeats 8000000 in
set_option maxRecDepth 100000 in
theorem spec_fewest (A : Option Addr) (n c : Nat) (X : Nat → Nat → Int) (ok : Bool) (hv : errsB n X = ok) (q : Nat) (hq : q = onlyN ok (fwN n X).length) (w : World) (hn : n ≤ 1048576) (ha : Arr w w.heap.size A n 4 (iv X)) :
    Calls Try.prog 39 #[.slice A n c] w fun e w' => ∃ v, e = .returned (.tuple #[v, .bool ok]) ∧ Below w.heap.size w w' ∧ Own w' w.heap.size 3 1 v q (iv fun i _ => ((putAll (fwN n X) (fwN n X).length).getD i 0 : Nat)) := by
  obtain ⟨i0, hi0, hy0, hy1, hy2⟩ := info_parts info_int
  have HA := hide ha
  clear ha
  cases ok
  · subst hq
    have HV := hide hv
    clear hv
    go_enter Try.func39, Try.ntmps39
    go_wp2_with fail
    refine (spec_good23 A n c X false HV.out _ hn (HA.out.on (by go_grown))).mono ?_
    rintro e w1 ⟨rfl, hb1⟩
    have hq1 : Below w.heap.size w w1 := below_call (by go_grown) hb1
    have hB : Blk w1 w.heap.size 3 #[] := (Blk.new w 3 #[]).below hb1 (by simp)
    have HB := hide hB
    clear hb1 hB
    go_wp2
    go_returns
    exact ⟨_, rfl, hq1, .inr ⟨w.heap.size, 0, #[], rfl, Nat.le_refl _, HB.out, Nat.le_refl _, by unfold maxLen; omega, by simp, fun i j hi => absurd hi (by simp [onlyN])⟩⟩
  · obtain ⟨hn12, hX⟩ := errs_of hv
    have hqn : q = (fwN n X).length := hq
    have HQ := hide hqn; have HV := hide hv; have HX := hide hX
    clear hq hqn hv hX
    go_enter Try.func39, Try.ntmps39
    go_wp2_with fail
    refine (spec_good23 A n c X true HV.out _ hn (HA.out.on (by go_grown))).mono ?_
    rintro e w1 ⟨rfl, hb1⟩
    have hq1 : Below w.heap.size w w1 := below_call (by go_grown) hb1
    have hr1 := row_below (row_new_at w w.heap.size w.heap.size 1 3 rfl (Nat.le_refl _)) hb1
    have hz1 := hq1.size
    have hzb : w.heap.size < w1.heap.size := by have := hb1.size; simp at this; omega
    have HR1 := hide hr1
    clear hb1 hr1
    go_wp2_with fail
    refine (spec_dead A n c X _ hn12 (HA.out.on (by go_grown))).mono ?_
    rintro e w2 ⟨vO, rfl, hb2, OO⟩
    have hq2 : Below w.heap.size w w2 := below_call (by go_grown) hb2
    have hk2 : Below w1.heap.size w1 w2 := below_call (by go_grown) hb2
    have hr2 := row_below HR1.out hk2
    have hr3 := row_below (row_new_at w1 w1.heap.size w.heap.size 1 3 rfl hz1) hb2
    obtain ⟨AO, cO, rfl, hcO, _⟩ := OO.arr
    have hOb : ∀ g, (Value.slice AO n cO).ownBlock = some g → w1.heap.size < g ∧ g < w2.heap.size := fun g hg => by have := OO.blk g hg; simp at this; omega
    have HOO := hide OO.arr1; have HR2 := hide hr2; have HR3 := hide hr3; have HOB := hide hOb
    clear OO hb2 hk2 hr2 hr3 hOb
    have hst0 : FwSt w w1 w2 w.heap.size 0 0 (.slice (some ⟨w1.heap.size, 0, none⟩) 0 0) [] [] w2 := ⟨hq2, Nat.le_refl _, fun _ _ _ _ => rfl, HR2.out, HR3.out, .inl hz1, fun g hg => by simp [Value.ownBlock] at hg; omega, fun g hg => by simp [Value.ownBlock] at hg; omega⟩
    have HST0 := hide hst0
    clear hst0
    go_wp2
    go_loopw [4, 5, 7] (fun vo vk y wr => ∃ (p m g1 cp1 : Nat) (kl ol : List Nat), FwAt n X p kl ol ∧ ol.length = m ∧ y = .int .i64 p ∧ vo = .slice (some ⟨g1, 0, none⟩) m cp1 ∧ FwSt w w1 w2 g1 cp1 m vk kl (putAll ol m) wr) (fun _ _ y _ => n - (intOf y).toNat)
    case atStart => exact ⟨0, 0, w.heap.size, 0, [], [], ⟨Nat.zero_le _, rfl⟩, rfl, rfl, rfl, HST0.out⟩
    case round =>
      obtain ⟨p, m, g1, cp1, kl, ol, hfw, hol, rfl, rfl, hst⟩ := hrel
      have HFW := hide hfw; have HOL := hide hol
      have hpn := hfw.1
      have hlens := hfw.len
      have hbr := hst.1
      have hzr := hst.2.1
      have HST := hide hst
      clear hfw hol hst
      by_cases hlt : p < n
      · obtain ⟨x, hx⟩ : ∃ x, x = (fwO n X).getD p 0 := ⟨_, rfl⟩
        have hxn : x < n := by rw [hx]; exact fwO_lt hlt
        obtain ⟨bo, oo, hAO, hbo, hco⟩ := HOO.out (by omega)
        have hbo2 : w1.heap.size < bo := (HOB.out bo (by rw [hAO]; rfl)).1
        have hcx : w2.cell? ⟨bo, oo + p, none⟩ = some (.int .i64 (x : Int)) := by
          have := hco p 0 hlt (by omega)
          simp only [Nat.add_zero, Nat.mul_one] at this
          rw [this, hx]; rfl
        have co := (HST.out.2.2.1 bo (oo + p) hbo2 hbo).trans hcx
        obtain ⟨k, hk⟩ : ∃ k, k = kl.length := ⟨_, rfl⟩
        have hrk := HST.out.2.2.2.2.1
        rw [← hk] at hrk hlens
        have HX1 := hide hx; have HK := hide hk; have HCX := hide hcx
        subst hAO
        clear hco hx hcx
        go_wp2_with (at_builtin; refine wpList_append_far _ rfl _ _ 34 rfl w.heap.size 3 i0 (.int .i64 0) 1 8 Try.underlying34 hi0 hy0 hy1 hy2 rfl (by decide) _ _ _ rfl (hrk.alloc _) ⟨wr.heap.size, 0, none⟩ 1 1 [.int .i64 (x : Int)] rfl rfl ?c1 ?c2 ?c3 ?c4 ?c5 ?_)
        case c1 => exact cell_one_at _ _ _ _ (by first | rfl | simp)
        case c2 => intro u hu; simp only [List.mem_singleton] at hu; subst hu; rfl
        case c3 => unfold maxLen; omega
        case c4 => omega
        case c5 => simp only [World.size_alloc]; have := hbr.size; omega
        intro v3 w3 hown3 hgrow3 hfar3
        rw [nl_snoc] at hown3
        try rw [show kl.length = k from HK.out.symm] at hown3
        obtain ⟨kp, hkp⟩ : ∃ kp, kp = kl ++ [x] := ⟨_, rfl⟩
        have hkpl : kp.length = k + 1 := by rw [hkp]; simp [hk]
        rw [← hkp] at hown3
        have hst3 := (HST.out.below (below_al (Below.refl _ _))).put (kl' := kp) hgrow3 (by rw [hkpl]; exact hown3) (by simpa using hfar3)
        obtain ⟨g3, cp3, rfl, _, _⟩ := hown3.form (by omega)
        have hpl : planIn n (k + 1) (keptY kp) := by
          have := plan_kept (n := n) (l := kp) (fun y hy => by
            rw [hkp] at hy
            rcases List.mem_append.1 hy with hy | hy
            · exact HFW.out.lt (.inl hy)
            · rw [List.mem_singleton] at hy; omega)
          rwa [hkpl] at this
        have hA3 := (own_of_nl hkpl.symm hown3).arr1
        have HST3 := hide hst3; have HKP := hide hkp; have HKL := hide hkpl; have HPL := hide hpl; have HA3 := hide hA3
        have hz3 := hst3.1.size
        clear hown3 hgrow3 hfar3 hst3 hkp hkpl hpl hA3 hrk co hk
        go_wp2_with fail
        refine (spec_ends A (some ⟨g3, 0, none⟩) n (k + 1) c cp3 X (keptY kp) _ hn (by omega) (HA.out.on HST3.out.1) HA3.out HX.out HPL.out).mono ?_
        rintro e w4 ⟨vE, rfl, hb4, OE⟩
        have hs4 : Below w3.heap.size w3 w4 := below_call (by go_grown) hb4
        have hst4 := HST3.out.below hs4
        obtain ⟨AE, cE, rfl, hcE, hAE⟩ := OE.arr
        obtain ⟨be, oe, rfl, hbe, hce⟩ := hAE (by omega)
        obtain ⟨ba, oa, rfl, hba, hca⟩ := (HA.out.on hst4.1) (by omega)
        have ce := hce k 0 (by omega) (by omega)
        have ca := hca x 3 hxn (by omega)
        have co := (hst4.2.2.1 bo (oo + p) hbo2 hbo).trans HCX.out
        have hbo4 : bo < w4.heap.size := by have := hst4.2.1; omega
        simp only [Nat.add_zero, Nat.mul_one, iv] at ce ca
        have hbd := endH_bd HX.out HPL.out (k + 1) (Nat.le_refl _)
        obtain ⟨z, hz⟩ : ∃ z, endH X (keptY kp) (k + 1) = z := ⟨_, rfl⟩
        rw [hz] at ce hbd
        have HZ := hide hz; have HST4 := hide hst4; have HCA := hide hca
        have hx := BW.cell (w := w4)
        have hww : IntKind.i64.wrap ((k : Int) + 1 - 1) = (k : Int) := by rw [IntWalk.i64_in _ (by omega)]; omega
        have hxi : (x : Int) < (n : Int) := by omega
        have hz4 := hst4.1.size
        clear hb4 hs4 OE hAE hce hca hz hst4
        by_cases hle : z ≤ X x 3
        · have dl : decide (z ≤ X x 3) = true := decide_eq_true hle
          go_wp2
          refine wp_region_bw (by kernel_rfl) (by kernel_rfl) ?_
          repeat (go_big_quiet_step ((first | fail)))
          refine wpQuiet_end fun w1 hb1 => ?_
          have hst5 := HST4.out.below hb1
          have HST5 := hide hst5
          clear hww hst5
          go_wp2
          go_roundw
          case rel => exact ⟨p + 1, m, g1, cp1, kp, ol, by rw [HKP.out, HX1.out]; exact HFW.out.keep hlt (by rw [← HX1.out, ← HKP.out, ← HK.out, HZ.out]; exact hle), HOL.out, by go_num, rfl, HST5.out⟩
          case measure => simp [intOf]; omega
        · have dl : decide (z ≤ X x 3) = false := decide_eq_false hle
          go_wp2
          refine wp_region_bw (by kernel_rfl) (by kernel_rfl) ?_
          repeat (go_big_quiet_step ((first | fail)))
          refine wpQuiet_end fun w1 hb1 => ?_
          obtain ⟨w5, rfl⟩ : ∃ y, y = w1 := ⟨_, rfl⟩
          have hst5 := HST4.out.below hb1
          have HST5 := hide hst5
          have hz5 := hst5.1.size
          clear hww hx ce co ca hst5 hb1
          go_wp2
          go_loopw [9, 10] (fun u y wq => ∃ t : Nat, 1 ≤ t ∧ t ≤ k + 1 ∧ y = .int .i64 t ∧ u = .int .i64 (worstOf X kp t : Nat) ∧ Below w5.heap.size w5 wq) (fun _ y _ => k + 1 - (intOf y).toNat)
          case atStart => exact ⟨1, Nat.le_refl _, by omega, rfl, by rw [worst_one]; rfl, Below.refl _ _⟩
          case round =>
            obtain ⟨t, ht1, ht, rfl, rfl, hbq⟩ := hrel
            have hstq := HST5.out.below hbq
            obtain ⟨v, hv⟩ : ∃ v, v = worstOf X kp t := ⟨_, rfl⟩
            have hvt : v < t := by
              rw [hv]
              obtain ⟨t', rfl⟩ : ∃ t', t = t' + 1 := ⟨t - 1, by omega⟩
              exact worst_lt X kp t'
            rw [← hv]
            have hrow := hstq.2.2.2.2.1
            rw [HKL.out] at hrow
            have hkc : k + 1 ≤ cp3 := row_capP hrow
            have hkn : ∀ i, i < k + 1 → kp.getD i 0 < n := fun i hi => by
              have := HPL.out i hi
              unfold keptY at this; omega
            obtain ⟨b9, o9, e9, hb9, hc9⟩ := (HA.out.on hstq.1) (by omega)
            injection e9 with e9
            injection e9 with e9a e9b _
            subst e9a e9b
            have d2 := row_cell hrow (j := v) (by rw [HKL.out]; omega)
            obtain ⟨b, hb⟩ : ∃ b, b = kp.getD v 0 := ⟨_, rfl⟩
            have hbn : b < n := by rw [hb]; exact hkn v (by omega)
            rw [← hb] at d2
            have hg3 : g3 < wr.heap.size := (hrow.lt g3 rfl).2
            have hzq := hstq.1.size
            have HV2 := hide hv; have HBB := hide hb; have HSTQ := hide hstq
            have hx := BW.cell (w := wr)
            by_cases htk : t < k + 1
            · have d1 := row_cell hrow (j := t) (by rw [HKL.out]; exact htk)
              obtain ⟨a, ha⟩ : ∃ a, a = kp.getD t 0 := ⟨_, rfl⟩
              have han : a < n := by rw [ha]; exact hkn t htk
              rw [← ha] at d1
              have f1 := hc9 a 1 han (by omega); have f2 := hc9 b 1 hbn (by omega)
              simp only [iv] at f1 f2
              have HAA := hide ha
              have hai : (a : Int) < (n : Int) := by omega
              have hbi : (b : Int) < (n : Int) := by omega
              have hvk : v < k + 1 := by omega
              have hvc : v < cp3 := by omega
              have htc : t < cp3 := by omega
              clear hrow hkn hc9 hv hb ha hstq
              by_cases hge : X b 1 ≤ X a 1
              · have dg : decide (X b 1 ≤ X a 1) = true := decide_eq_true hge
                go_wp2
                refine wp_region_bw (by kernel_rfl) (by kernel_rfl) ?_
                repeat (go_big_quiet_step ((first | fail)))
                refine wpQuiet_end fun w1 hb1 => ?_
                go_wp2
                go_roundw
                case rel => exact ⟨t + 1, by omega, by omega, by go_num, by rw [worstOf, ← HV2.out, ← HBB.out, ← HAA.out, if_pos (by omega)], below_call hbq hb1⟩
                case measure => simp [intOf]; omega
              · have dg : decide (X b 1 ≤ X a 1) = false := decide_eq_false hge
                go_wp2
                refine wp_region_bw (by kernel_rfl) (by kernel_rfl) ?_
                repeat (go_big_quiet_step ((first | fail)))
                refine wpQuiet_end fun w1 hb1 => ?_
                go_wp2
                go_roundw
                case rel => exact ⟨t + 1, by omega, by omega, by go_num, by rw [worstOf, ← HV2.out, ← HBB.out, ← HAA.out, if_neg (by omega)], below_call hbq hb1⟩
                case measure => simp [intOf]; omega
            · obtain rfl : t = k + 1 := by omega
              have hdrop := HFW.out.drop (kp := kp) (wst := v) (by rw [HKP.out, HX1.out]) hlt (by rw [← HX1.out, ← HK.out, HZ.out]; omega) (by rw [← HK.out]; exact hv)
              rw [← hb] at hdrop
              have hnb : b ∉ putAll ol m := fun h => by
                obtain ⟨j, hj, e⟩ := mem_putAll.1 h
                exact hdrop.2.2 (by rw [e]; have := HOL.out; simp [List.getD, show j < ol.length from by omega])
              have HD := hide hdrop; have HNB := hide hnb
              have hm12 : m ≤ 12 := by have := HOL.out; omega
              have hvk : v < k + 1 := by omega
              have hvc : v < cp3 := by omega
              have hro := hstq.2.2.2.1
              have HRO := hide hro
              clear hrow hkn hc9 hv hb hstq hdrop hnb hro hx
              go_wp2_with fail
              refine (spec_put g1 cp1 m w.heap.size (putAll ol m) b _ putAll_len hm12 HNB.out HRO.out).mono ?_
              rintro e w6 ⟨g6, cp6, rfl, hb6, hg6, hr6⟩
              have hst6 := HSTQ.out.out (xs' := putAll (ol ++ [b]) (m + 1)) hb6 hg6 (by
                have := hr6
                rw [show putAll (ol ++ [b]) (m + 1) = putL b (putAll ol m) from by rw [← HOL.out]; exact putAll_snoc]
                exact this)
              have hrow6 := hst6.2.2.2.2.1
              rw [HKL.out] at hrow6
              have hg36 : g3 < w6.heap.size := (hrow6.lt g3 rfl).2
              have HO1 := hide hrow6; have HST6 := hide hst6
              have hz6 := hst6.1.size
              have hll : kp.length = k + 1 := HKL.out
              have hA4 : ∃ A4, (if cp3 = v + 1 then some ⟨g3, 0, none⟩ else some ⟨g3, v + 1, none⟩ : Option Addr) = some A4 ∧ ∀ W, Below w6.heap.size w6 W → ∀ j u, (nl (kp.drop (v + 1)))[j]? = some u → W.cell? (A4.add j) = some u := by
                by_cases e : cp3 = v + 1
                · refine ⟨_, if_pos e, fun W _ j u hu => ?_⟩
                  rw [List.drop_of_length_le (by omega)] at hu
                  simp [nl] at hu
                · exact ⟨_, if_neg e, fun W hW => news_row HO1.out hW hg36 (by intro j u hu; exact nl_dropP hu)⟩
              obtain ⟨A4, hA, hnA⟩ := hA4
              have HA4 := hide hnA
              have hvi : (v : Int) + 1 ≤ (cp3 : Int) := by omega
              have hvj : (v : Int) + 1 ≤ (k : Int) + 1 := by omega
              have s1 : (0 : Int) ≤ (v : Int) := by omega
              have s2 : (v : Int) ≤ (cp3 : Int) := by omega
              have s3 : (0 : Int) ≤ (v : Int) + 1 := by omega
              have s5 : v ≤ cp3 := by omega
              have s6 : v + 1 ≤ cp3 := by omega
              have s7 : v ≤ k := by omega
              have s8 : (v : Int) ≤ (k : Int) := by omega
              have hwv : IntKind.i64.wrap ((v : Int) + 1) = (v : Int) + 1 := IntWalk.i64_in _ (by omega)
              have s4 : ((v : Int) + 1).toNat = v + 1 := by omega
              clear hnA hb6 hg6 hr6 hst6 hrow6 d2
              go_wp2
              go_region_held3 (fun w' => Below w6.heap.size w6 w') (first | assumption | exact below_al (by assumption) | go_grown) (first
                | (refine step_app_b w6 _ (by rfl) _ _ _ (by rfl) 3 i0 (.int .i64 0) 1 8 Try.underlying34 hi0 hy0 hy1 hy2 rfl (by decide) (.slice (some ⟨_, 0, none⟩) 0 0) 0 [] (by rfl) (by first | assumption | exact below_al (by assumption) | go_grown) (by first | exact row_new_at _ _ _ _ _ (by first | rfl | simp) (by first | exact Nat.le_refl _ | simp) | exact (row_new_at _ _ _ _ _ (by first | rfl | simp) (by first | exact Nat.le_refl _ | simp)).alloc _) ⟨g3, 0, none⟩ v cp3 (nl (kp.take v)) (by rfl) (by rw [nl_len, List.length_take]; omega) (news_row HO1.out (by first | assumption | exact below_al (by assumption) | go_grown) hg36 (by intro j u hu; rw [Nat.zero_add]; exact nl_takeP hu)) (nl_one _) (by unfold maxLen; omega) (by omega) ?_; intro v2 w7 hb7 ho7 hk7 hz7)
                | (refine step_app_b w6 _ (by rfl) _ _ _ (by rfl) 3 i0 (.int .i64 0) 1 8 Try.underlying34 hi0 hy0 hy1 hy2 rfl (by decide) _ (0 + v) ([] ++ nl (kp.take v)) (by rfl) (by first | assumption | exact below_al (by assumption) | go_grown) (by first | exact ho7 | exact ho7.alloc _) A4 (k - v) (cp3 - (v + 1)) (nl (kp.drop (v + 1))) (by rfl) (by rw [nl_len, List.length_drop]; omega) (HA4.out _ (by first | assumption | exact below_al (by assumption) | go_grown)) (nl_one _) (by unfold maxLen; omega) (by omega) ?_; intro v4 w8 hb8 ho8 hk8 hz8))
              all_goals
                have hrow8 := ho8
                rw [List.nil_append, nl_app, ← erase_app] at hrow8
                have hel : (kp.eraseIdx v).length = 0 + v + (k - v) := by rw [erase_app, List.length_append, List.length_take, List.length_drop]; omega
                have hst8 := HST6.out.kept (kl' := kp.eraseIdx v) hb8 (by rw [hel]; exact hrow8)
                have HST8 := hide hst8
                clear hwv s4 hrow8 hel hst8 hb7 ho7 hk7 hz7 hb8 ho8 hk8 hz8
                go_wp2
                go_roundw
                case rel => exact ⟨p + 1, m + 1, g6, cp6, kp.eraseIdx v, ol ++ [b], HD.out.1, by simp [HOL.out], by go_num, rfl, HST8.out⟩
                case measure => simp [intOf]; omega
      · obtain rfl : p = n := by omega
        have hr := HST.out.2.2.2.1
        have hown : Own wr w.heap.size 3 1 (.slice (some ⟨g1, 0, none⟩) m cp1) m (iv fun i _ => ((putAll ol m).getD i 0 : Nat)) := own_of_nl putAll_len.symm hr
        have hfin : q = m ∧ fwN p X = ol := by
          have h1 := HFW.out.2
          have h2 : fwN p X = ol := by unfold fwN; rw [h1]
          exact ⟨by rw [HQ.out, h2, HOL.out], h2⟩
        have HO := hide hown; have HF := hide hfin
        clear hr hown hfin
        go_wp2
        go_returns
        exact ⟨_, rfl, hbr, by rw [HF.out.1, HF.out.2, HOL.out]; exact HO.out⟩
end Go.Proofs.Ytfdgnjnnbhelgaa
