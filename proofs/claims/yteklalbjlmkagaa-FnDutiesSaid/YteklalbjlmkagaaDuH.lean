/- Chapter 17: GapsBetween: plain law, the reference's side. -/
import Derived.Test.YteklalbjlmkagaaPrL
import Derived.Test.YteklalbjlmkagaaDuF
namespace Go.Proofs.Yteklalbjlmkagaa
open Go.RowKit
set_option linter.unusedVariables false
set_option linter.unusedSimpArgs false

def covB (D : Nat → Du) (h : Int) (k : Nat) : Bool := decide (∃ i, i < k ∧ hasB h (D i) = true)
theorem covB_zero (D : Nat → Du) (h : Int) : covB D h 0 = false := decide_eq_false (fun ⟨i, hi, _⟩ => by omega)
theorem covB_yes {D : Nat → Du} {h : Int} {k : Nat} (hk : covB D h k = true) : covB D h (k + 1) = true := by
  obtain ⟨i, hi, e⟩ := of_decide_eq_true hk
  exact decide_eq_true ⟨i, by omega, e⟩
theorem covB_next {D : Nat → Du} {h : Int} {k : Nat} (hk : covB D h k = false) : covB D h (k + 1) = hasB h (D k) := by
  have hn := of_decide_eq_false hk
  cases hh : hasB h (D k)
  · exact decide_eq_false (fun ⟨i, hi, e⟩ => by
      by_cases f : i = k
      · subst f; rw [hh] at e; cases e
      · exact hn ⟨i, by omega, e⟩)
  · exact decide_eq_true ⟨k, Nat.lt_succ_self _, hh⟩
/-- The gaps that are over, and where the open one began (or -1). -/
def gS (n : Nat) (D : Nat → Du) (f : Int) : Nat → List (Int × Int) × Int
  | 0 => ([], -1)
  | k + 1 => if covB D (f + k) n = true then (if 0 ≤ (gS n D f k).2 then ((gS n D f k).1 ++ [((gS n D f k).2, f + k)], -1) else gS n D f k) else (if (gS n D f k).2 < 0 then ((gS n D f k).1, f + k) else gS n D f k)
def gI (n : Nat) (D : Nat → Du) (f : Int) (k : Nat) : List (Int × Int) := if 0 ≤ (gS n D f k).2 then (gS n D f k).1 ++ [((gS n D f k).2, f + k)] else (gS n D f k).1
theorem gS_len (n : Nat) (D : Nat → Du) (f : Int) : ∀ k, (gS n D f k).1.length ≤ k
  | 0 => Nat.le_refl _
  | k + 1 => by
    have := gS_len n D f k
    rw [gS]; split <;> split <;> (try simp only [List.length_append, List.length_cons, List.length_nil]) <;> omega
theorem gI_len (n : Nat) (D : Nat → Du) (f : Int) (k : Nat) : (gI n D f k).length ≤ k + 1 := by
  have := gS_len n D f k
  unfold gI; split <;> (try simp only [List.length_append, List.length_cons, List.length_nil]) <;> omega
theorem gS_bd {n : Nat} {D : Nat → Du} {f : Int} (hf : 0 ≤ f) : ∀ k, ((gS n D f k).2 = -1 ∨ f ≤ (gS n D f k).2 ∧ (gS n D f k).2 < f + k) ∧ ∀ p, p ∈ (gS n D f k).1 → p.2 < f + k
  | 0 => ⟨.inl rfl, fun p hp => by cases hp⟩
  | k + 1 => by
    obtain ⟨h1, h2⟩ := gS_bd (n := n) (D := D) hf k
    rw [gS]
    split
    · split
      · refine ⟨.inl rfl, fun p hp => ?_⟩
        rcases List.mem_append.1 hp with e | e
        · have := h2 p e; omega
        · rw [List.mem_singleton] at e; subst e; show f + (k : Int) < _; omega
      · exact ⟨by omega, fun p hp => by have := h2 p hp; omega⟩
    · split
      · exact ⟨.inr ⟨by show f ≤ f + (k : Int); omega, by show f + (k : Int) < _; omega⟩, fun p hp => by have := h2 p hp; omega⟩
      · exact ⟨by omega, fun p hp => by have := h2 p hp; omega⟩
def gapOk (n : Nat) (D : Nat → Du) (f t : Int) : Bool := goodB n D && decide (0 ≤ f ∧ f < t ∧ t ≤ 9999)
set_option maxHeartbeats 8000000 in
set_option maxRecDepth 100000 in
theorem spec_gaps (A : Option Addr) (n c : Nat) (D : Nat → Du) (f t : Int) (ok : Bool) (hk : gapOk n D f t = ok) (ps : List (Int × Int)) (hps : (if ok = true then gI n D f (t - f).toNat else []) = ps) (w : World) (hn : n ≤ 1048576) (ha : Arr w w.heap.size A n 4 (dv D)) :
    Calls Try.prog 8 #[.slice A n c, .int .i64 f, .int .i64 t] w (PrsPost w ok ps) := by
  have hfa := frozen_al; have hfo := frozen_out
  have HA := hide ha; have HK := hide hk; have HPS := hide hps
  have HM0 := hide (MPs.nil w)
  have hba : Below w.heap.size w (w.alloc (.cells #[] 31)) := below_al (Below.refl _ _)
  clear ha hk hps
  cases hg : goodB n D
  · obtain rfl : false = ok := by rw [← HK.out, gapOk, hg]; rfl
    obtain rfl : [] = ps := HPS.out
    have HG := hide hg
    clear hg
    go_enter Try.func8, Try.ntmps8
    go_wp2_with fail
    refine (spec_good17 A n c D _ HG.out _ hn (HA.out.on (by go_grown))).mono ?_
    rintro e w1 ⟨rfl, hb1⟩
    obtain ⟨qc1, qf1⟩ := bcell hb1
    have hz1 := hb1.size
    try simp only [World.size_alloc, World.size_setCell, World.size_drew] at hz1
    have hq1 : Below w.heap.size w w1 := below_call (by go_grown) hb1
    try have hl0_1 : w.heap.size < w1.heap.size := by omega
    try have hl1_1 : w.heap.size + 1 < w1.heap.size := by omega
    try have hl2_1 : w.heap.size + 2 < w1.heap.size := by omega
    try have hl3_1 : w.heap.size + 3 < w1.heap.size := by omega
    have HM1 := hide (HM0.out.below hb1)
    go_wp2
    go_returns
    exact prs_post rfl hq1 HM1.out
  · have HG := hide hg
    cases h1 : inB t 0 9999
    · obtain rfl : false = ok := by rw [← HK.out, gapOk, hg, Bool.true_and]; have := inB_no h1; exact (decide_eq_false (by omega)).symm
      obtain rfl : [] = ps := HPS.out
      clear hg
      go_enter Try.func8, Try.ntmps8
      go_wp2_with fail
      refine (spec_good17 A n c D _ HG.out _ hn (HA.out.on (by go_grown))).mono ?_
      rintro e w1 ⟨rfl, hb1⟩
      obtain ⟨qc1, qf1⟩ := bcell hb1
      have hz1 := hb1.size
      try simp only [World.size_alloc, World.size_setCell, World.size_drew] at hz1
      have hq1 : Below w.heap.size w w1 := below_call (by go_grown) hb1
      try have hl0_1 : w.heap.size < w1.heap.size := by omega
      try have hl1_1 : w.heap.size + 1 < w1.heap.size := by omega
      try have hl2_1 : w.heap.size + 2 < w1.heap.size := by omega
      try have hl3_1 : w.heap.size + 3 < w1.heap.size := by omega
      have HM1 := hide (HM0.out.below hb1)
      go_wp2_with (go_at_call 38; refine (spec_in _ _ _ _ (by assumption) _).mono ?_; rintro e w' ⟨rfl, rfl⟩)
      go_returns
      exact prs_post rfl hq1 HM1.out
    · have ht := inB_of h1
      cases h2 : inB f 0 (t - 1)
      · obtain rfl : false = ok := by rw [← HK.out, gapOk, hg, Bool.true_and]; have := inB_no h2; exact (decide_eq_false (by omega)).symm
        obtain rfl : [] = ps := HPS.out
        clear hg
        go_enter Try.func8, Try.ntmps8
        go_wp2_with fail
        refine (spec_good17 A n c D _ HG.out _ hn (HA.out.on (by go_grown))).mono ?_
        rintro e w1 ⟨rfl, hb1⟩
        obtain ⟨qc1, qf1⟩ := bcell hb1
        have hz1 := hb1.size
        try simp only [World.size_alloc, World.size_setCell, World.size_drew] at hz1
        have hq1 : Below w.heap.size w w1 := below_call (by go_grown) hb1
        try have hl0_1 : w.heap.size < w1.heap.size := by omega
        try have hl1_1 : w.heap.size + 1 < w1.heap.size := by omega
        try have hl2_1 : w.heap.size + 2 < w1.heap.size := by omega
        try have hl3_1 : w.heap.size + 3 < w1.heap.size := by omega
        have HM1 := hide (HM0.out.below hb1)
        go_wp2_with (go_at_call 38; refine (spec_in _ _ _ _ (by assumption) _).mono ?_; rintro e w' ⟨rfl, rfl⟩)
        go_returns
        exact prs_post rfl hq1 HM1.out
      · have hf := inB_of h2
        obtain rfl : true = ok := by rw [← HK.out, gapOk, hg, Bool.true_and]; exact (decide_eq_true (by omega)).symm
        obtain ⟨T, hT⟩ : ∃ T : Nat, t = f + T := ⟨(t - f).toNat, by omega⟩
        obtain rfl : gI n D f T = ps := by rw [← HPS.out, if_pos rfl, hT]; congr 1; omega
        subst hT
        have hT0 : 0 < T := by omega
        have hT1 : T ≤ 9999 := by omega
        obtain ⟨hn12, hok⟩ := good_of hg
        clear hg hok
        go_enter Try.func8, Try.ntmps8
        go_wp2_with fail
        refine (spec_good17 A n c D _ HG.out _ hn (HA.out.on (by go_grown))).mono ?_
        rintro e w1 ⟨rfl, hb1⟩
        obtain ⟨qc1, qf1⟩ := bcell hb1
        have hz1 := hb1.size
        try simp only [World.size_alloc, World.size_setCell, World.size_drew] at hz1
        have hq1 : Below w.heap.size w w1 := below_call (by go_grown) hb1
        try have hl0_1 : w.heap.size < w1.heap.size := by omega
        try have hl1_1 : w.heap.size + 1 < w1.heap.size := by omega
        try have hl2_1 : w.heap.size + 2 < w1.heap.size := by omega
        try have hl3_1 : w.heap.size + 3 < w1.heap.size := by omega
        have HM1 := hide (HM0.out.below hb1)
        clear HM0
        go_wp2_with (go_at_call 38; refine (spec_in _ _ _ _ (by assumption) _).mono ?_; rintro e w' ⟨rfl, rfl⟩)
        go_loopw [8, 9, 10] (fun v z y wr => ∃ (k : Nat) (gs : List Nat) (q : Int), k ≤ T + 1 ∧ y = .int .i64 (f + k) ∧ z = .int .i64 q ∧ Below w.heap.size w wr ∧ (k ≤ T ∧ q = (gS n D f k).2 ∧ MPs wr w.heap.size v (gS n D f k).1 gs ∨ k = T + 1 ∧ MPs wr w.heap.size v (gI n D f T) gs)) (fun _ _ y _ => (T + 1) - (intOf y - f).toNat)
        case atStart => exact ⟨0, [], -1, by omega, by first | rfl | simp, rfl, hq1, .inl ⟨by omega, rfl, HM1.out⟩⟩
        case round =>
          clear HM1
          obtain ⟨k, gs, q, hk, rfl, rfl, hbw, hst⟩ := hrel
          have HST := hide hst
          clear hst
          by_cases hkt : k < T
          · rcases HST.out with ⟨_, hq, hmp⟩ | ⟨a, _⟩
            rotate_left
            · omega
            obtain ⟨hb1', hb2'⟩ := gS_bd (n := n) (D := D) hf.1 k
            rw [← hq] at hb1'
            have hln := gS_len n D f k
            have HQ := hide hq; have HMP := hide hmp
            have hcd : ((f + (k : Int)) == f + (T : Int)) = false := by simp; omega
            have hcd2 : (k == T) = false := by simp; omega
            have hkle : f + (k : Int) ≤ f + (T : Int) := by omega
            have hkle2 : k ≤ T := by omega
            have hkne : ¬ k = T := by omega
            obtain ⟨wo, rfl⟩ : ∃ x, x = wr := ⟨_, rfl⟩
            clear hq hmp HST hb2'
            go_wp2
            go_loopw [11, 12] (fun c i wr => ∃ j : Nat, j ≤ n ∧ i = .int .i64 j ∧ c = .bool (covB D (f + k) j) ∧ Below wo.heap.size wo wr) (fun _ i _ => n - (intOf i).toNat)
            case atStart => exact ⟨0, Nat.zero_le _, rfl, by rw [covB_zero], Below.refl _ _⟩
            case round =>
              obtain ⟨j, hj, rfl, rfl, hbx⟩ := hrel
              by_cases hjl : j < n
              · obtain ⟨b0, off, hA, hbb, hc⟩ := (HA.out.on (below_call hbw hbx)) (by omega)
                subst hA
                obtain ⟨c0, c1, c2, c3⟩ := load4 hjl hc
                rw [dv0] at c0; rw [dv1] at c1; rw [dv2] at c2; rw [dv3] at c3
                clear hc
                cases hcv : covB D (f + k) j
                · obtain ⟨u, hu⟩ : ∃ u, hasB (f + k) (D j) = u := ⟨_, rfl⟩
                  have HU := hide ((covB_next hcv).trans hu)
                  have HT := hide (fun W => (spec_has17 (D j) (f + k) u ((has_eq _ _).trans hu) W : Calls Try.prog 39 _ _ _))
                  clear hcv hu
                  go_wp2_with fail
                  refine (HT.out _).mono ?_
                  rintro e w1 ⟨rfl, hb2⟩
                  go_wp2
                  go_roundw
                  case rel => exact ⟨j + 1, by omega, by go_num, by rw [HU.out], below_call hbx hb2⟩
                  case measure => simp [intOf]; omega
                · have HU := hide (covB_yes hcv)
                  clear hcv
                  go_wp2
                  go_roundw
                  case rel => exact ⟨j + 1, by omega, by go_num, by rw [HU.out], hbx⟩
                  case measure => simp [intOf]; omega
              · obtain rfl : j = n := by omega
                have hbw2 := below_call hbw hbx
                have HM2 := hide (HMP.out.below hbx)
                clear HMP
                cases hcv : covB D (f + k) j
                · by_cases hq0 : q < 0
                  · have hs : gS j D f (k + 1) = ((gS j D f k).1, f + k) := by rw [gS, hcv, if_neg Bool.false_ne_true, if_pos (by rw [← HQ.out]; exact hq0)]
                    have HS := hide hs
                    clear hcv hs
                    go_wp2
                    go_roundw
                    case rel => exact ⟨k + 1, gs, f + k, by omega, by first | (congr 1; omega) | go_num, rfl, hbw2, .inl ⟨by omega, by rw [HS.out], by rw [HS.out]; exact HM2.out⟩⟩
                    case measure => simp [intOf]; omega
                  · have hs : gS j D f (k + 1) = gS j D f k := by rw [gS, hcv, if_neg Bool.false_ne_true, if_neg (by rw [← HQ.out]; exact hq0)]
                    have HS := hide hs
                    clear hcv hs
                    go_wp2
                    go_roundw
                    case rel => exact ⟨k + 1, gs, q, by omega, by first | (congr 1; omega) | go_num, rfl, hbw2, .inl ⟨by omega, by rw [HS.out, HQ.out], by rw [HS.out]; exact HM2.out⟩⟩
                    case measure => simp [intOf]; omega
                · by_cases hq0 : 0 ≤ q
                  · have hs : gS j D f (k + 1) = ((gS j D f k).1 ++ [(q, f + k)], -1) := by rw [gS, hcv, if_pos rfl, if_pos (by rw [← HQ.out]; exact hq0), ← HQ.out]
                    have HS := hide hs
                    clear hcv hs
                    go_wp2_with (at_builtin; (refine list_pair w wr rfl _ _ (by rfl) rfl _ _ gs (by rfl) hbw2 HM2.out (by omega) q (f + k) (by rfl) ?_); intro v5 w5 hb5 hm5 _ _)
                    have H1 := hide hb5; have H2 := hide hm5
                    clear hb5 hm5
                    go_wp2
                    go_roundw
                    case rel => exact ⟨k + 1, _, -1, by omega, by first | (congr 1; omega) | go_num, rfl, H1.out, .inl ⟨by omega, by rw [HS.out], by rw [HS.out]; exact H2.out⟩⟩
                    case measure => simp [intOf]; omega
                  · have hs : gS j D f (k + 1) = gS j D f k := by rw [gS, hcv, if_pos rfl, if_neg (by rw [← HQ.out]; exact hq0)]
                    have HS := hide hs
                    clear hcv hs
                    go_wp2
                    go_roundw
                    case rel => exact ⟨k + 1, gs, q, by omega, by first | (congr 1; omega) | go_num, rfl, hbw2, .inl ⟨by omega, by rw [HS.out, HQ.out], by rw [HS.out]; exact HM2.out⟩⟩
                    case measure => simp [intOf]; omega
          · by_cases hke : k = T
            · subst hke
              rcases HST.out with ⟨_, hq, hmp⟩ | ⟨a, _⟩
              rotate_left
              · omega
              obtain ⟨hb1', _⟩ := gS_bd (n := n) (D := D) hf.1 k
              rw [← hq] at hb1'
              have hln := gS_len n D f k
              have HQ := hide hq; have HMP := hide hmp
              obtain ⟨wo, rfl⟩ : ∃ x, x = wr := ⟨_, rfl⟩
              clear hq hmp HST
              go_wp2
              go_loopw [11, 12] (fun c i wr => ∃ j : Nat, j ≤ n ∧ i = .int .i64 j ∧ c = .bool true ∧ wr = wo) (fun _ i _ => n - (intOf i).toNat)
              case atStart => exact ⟨0, Nat.zero_le _, rfl, by first | rfl | simp, rfl⟩
              case round =>
                obtain ⟨j, hj, rfl, rfl, rfl⟩ := hrel
                by_cases hjl : j < n
                · go_wp2
                  go_roundw
                  case rel => exact ⟨j + 1, by omega, by go_num, by first | rfl | simp, by first | rfl | trivial⟩
                  case measure => simp [intOf]; omega
                · obtain rfl : j = n := by omega
                  by_cases hq0 : 0 ≤ q
                  · have hs : gI j D f k = (gS j D f k).1 ++ [(q, f + k)] := by rw [gI, if_pos (by rw [← HQ.out]; exact hq0), ← HQ.out]
                    have HS := hide hs
                    clear hs
                    go_wp2_with (at_builtin; (refine list_pair w wr rfl _ _ (by rfl) rfl _ _ gs (by rfl) hbw HMP.out (by omega) q (f + k) (by rfl) ?_); intro v5 w5 hb5 hm5 _ _)
                    have H1 := hide hb5; have H2 := hide hm5
                    clear hb5 hm5
                    go_wp2
                    go_roundw
                    case rel => exact ⟨k + 1, _, -1, by omega, by first | (congr 1; omega) | go_num, rfl, H1.out, .inr ⟨rfl, by rw [HS.out]; exact H2.out⟩⟩
                    case measure => simp [intOf]; omega
                  · have hs : gI j D f k = (gS j D f k).1 := by rw [gI, if_neg (by rw [← HQ.out]; exact hq0)]
                    have HS := hide hs
                    clear hs
                    go_wp2
                    go_roundw
                    case rel => exact ⟨k + 1, gs, q, by omega, by first | (congr 1; omega) | go_num, rfl, hbw, .inr ⟨rfl, by rw [HS.out]; exact HMP.out⟩⟩
                    case measure => simp [intOf]; omega
            · obtain rfl : k = T + 1 := by omega
              rcases HST.out with ⟨a, _⟩ | ⟨_, hmp⟩
              · omega
              have HMP := hide hmp
              clear HST hmp
              go_wp2
              go_returns
              exact prs_post rfl hbw HMP.out
end Go.Proofs.Yteklalbjlmkagaa
