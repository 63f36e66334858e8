/- The library's sort of a short list of numbers: made by putgen.py. -/
import Derived.Test.YteklalbjlmkagaaSrt
import Derived.Test.YteklalbjlmkagaaReg
import Derived.Test.YteklalbjlmkagaaGrow
import Derived.IntWalk
import Derived.RegionTactic
import Derived.BigRegion
namespace Go.Proofs.Yteklalbjlmkagaa
open Go.RowKit
set_option linter.unusedVariables false
set_option linter.unusedSimpArgs false

/-- The cells of a block, as numbers. -/
def CeS (S : Nat) (w : World) (g n : Nat) (F : Nat → Nat) : Prop := ∃ cur, Blk w g 3 cur ∧ cur.size = S ∧ ∀ p, p < n → cur[p]? = some (.int .i64 (F p : Nat))
theorem CeS.cell {S : Nat} {w : World} {g n : Nat} {F : Nat → Nat} (h : CeS S w g n F) {p : Nat} (hp : p < n) : w.cell? ⟨g, p, none⟩ = some (.int .i64 (F p : Nat)) := by
  obtain ⟨cur, hb, hs, hc⟩ := h
  rw [hb.cell, hc p hp]
theorem CeS.frozen {S : Nat} {w : World} {g n : Nat} {F : Nat → Nat} (h : CeS S w g n F) (p : Nat) : w.frozen? ⟨g, p, none⟩ = false := by
  obtain ⟨cur, hb, hs, hc⟩ := h
  exact hb.frozen p
theorem CeS.lt {S : Nat} {w : World} {g n : Nat} {F : Nat → Nat} (h : CeS S w g n F) : g < w.heap.size := by
  obtain ⟨cur, hb, hs, hc⟩ := h
  exact hb.lt
theorem CeS.below {S : Nat} {w w' : World} {g n B : Nat} {F : Nat → Nat} (h : CeS S w g n F) (hb : Below B w w') (hg : g < B) : CeS S w' g n F := by
  obtain ⟨cur, h1, hs0, h2⟩ := h
  exact ⟨cur, h1.below hb hg, hs0, h2⟩
theorem CeS.drew {S : Nat} {w : World} {g n : Nat} {F : Nat → Nat} (h : CeS S w g n F) : CeS S w.drew g n F := h
theorem CeS.congr {S : Nat} {w : World} {g n : Nat} {F G : Nat → Nat} (h : CeS S w g n F) (e : ∀ p, p < n → F p = G p) : CeS S w g n G := by
  obtain ⟨cur, h1, hs0, h2⟩ := h
  exact ⟨cur, h1, hs0, fun p hp => by rw [← e p hp]; exact h2 p hp⟩
theorem CeS.set_ {S : Nat} {w : World} {g n : Nat} {F : Nat → Nat} (h : CeS S w g n F) (q x : Nat) : CeS S (w.setCell ⟨g, q, none⟩ (.int .i64 (x : Nat))) g n (fun p => if p = q then x else F p) := by
  obtain ⟨cur, h1, hs0, h2⟩ := h
  refine ⟨_, h1.set_ q _, by simpa using hs0, fun p hp => ?_⟩
  rw [Array.getElem?_setIfInBounds]
  show (if q = p then _ else _) = some (Value.int .i64 ((if p = q then x else F p : Nat) : Int))
  by_cases e : q = p
  · subst e
    have hs : q < cur.size := by
      by_cases hs : q < cur.size
      · exact hs
      · have := h2 q hp
        rw [Array.getElem?_eq_none (by omega)] at this
        cases this
    rw [if_pos rfl, if_pos hs, if_pos rfl]
  · have e' : ¬ p = q := by omega
    rw [if_neg e, if_neg e', h2 p hp]

theorem grown_belowS {w a w' : World} {row : Option Nat} (h : w.grownBy a row) (hb : Below a.heap.size a w') : w.grownBy w' row :=
  grown_trans h ⟨hb.os, hb.tape, hb.output, hb.size, fun i hi _ => hb.block i hi⟩
theorem ces_of_nl {w : World} {base g n cap : Nat} {l : List Nat} (hl : l.length = n) (h : w.ownsRow base 3 1 (.slice (some ⟨g, 0, none⟩) n cap) n (nl l)) : CeS cap w g n (fun p => l.getD p 0) ∧ base ≤ g ∧ n ≤ cap ∧ cap ≤ maxLen := by
  rcases h.2 with ⟨hv, _⟩ | ⟨gg, cp, cur, hv, hg, hh, hc, hm, hs, ht⟩
  · cases hv
  · injection hv with e1 _ e3
    injection e1 with e1
    injection e1 with e1 _ _
    subst e1 e3
    refine ⟨⟨cur, hh, by rw [hs, Nat.mul_one], fun p hp => ?_⟩, hg, hc, hm⟩
    have h1 : (cur.toList.take (n * 1))[p]? = (nl l)[p]? := by rw [ht]
    rw [List.getElem?_take, if_pos (by omega), Array.getElem?_toList, nl_get l (by omega)] at h1
    exact h1
theorem nl_of_ces {w : World} {base g n cap : Nat} {l : List Nat} (hl : l.length = n) (h : CeS cap w g n (fun p => l.getD p 0)) (hb : base ≤ g) (hn : n ≤ cap) (hc : cap ≤ maxLen) : w.ownsRow base 3 1 (.slice (some ⟨g, 0, none⟩) n cap) n (nl l) := by
  obtain ⟨cur, h1, h2, h3⟩ := h
  refine ⟨by rw [nl_len, hl, Nat.mul_one], .inr ⟨g, cap, cur, rfl, hb, h1, hn, hc, by rw [h2, Nat.mul_one], ?_⟩⟩
  apply List.ext_getElem?
  intro i
  rw [Nat.mul_one, List.getElem?_take]
  by_cases hi : i < n
  · rw [if_pos hi, Array.getElem?_toList, h3 i hi, nl_get l (by omega)]
  · rw [if_neg hi, List.getElem?_eq_none (by rw [nl_len]; omega)]
/-- While x goes down its way in front of what is not sorted yet. -/
def stL (l L : List Nat) (x j i p : Nat) : Nat := if p ≤ i then (if p < j then L.getD p 0 else if p = j then x else L.getD (p - 1) 0) else l.getD p 0
theorem stL_start {l L : List Nat} {i p : Nat} : stL l L (l.getD i 0) i i p = if p < i then L.getD p 0 else l.getD p 0 := by
  unfold stL
  by_cases h : p < i
  · rw [if_pos (by omega : p ≤ i), if_pos h, if_pos h]
  · by_cases e : p = i
    · subst e; rw [if_pos (Nat.le_refl _), if_neg (by omega), if_pos rfl, if_neg (by omega)]
    · rw [if_neg (by omega : ¬ p ≤ i), if_neg h]
theorem stL_step {l L : List Nat} {x q i p : Nat} (hq : q + 1 ≤ i) : (if p = q then x else if p = q + 1 then L.getD q 0 else stL l L x (q + 1) i p) = stL l L x q i p := by
  unfold stL
  by_cases h1 : p = q
  · subst h1; rw [if_pos rfl, if_pos (by omega), if_neg (by omega), if_pos rfl]
  · rw [if_neg h1]
    by_cases h2 : p = q + 1
    · subst h2; rw [if_pos rfl, if_pos (by omega), if_neg (by omega), if_neg (by omega)]; rfl
    · rw [if_neg h2]
      by_cases h3 : p ≤ i
      · rw [if_pos h3, if_pos h3]
        by_cases h4 : p < q
        · rw [if_pos (by omega), if_pos h4]
        · rw [if_neg (by omega), if_neg h2, if_neg h4, if_neg h1]
      · rw [if_neg h3, if_neg h3]
def cutG (l : List Nat) (k t : Nat) : Nat := cutOf (fun x => (x : Int)) (insG l k) (l.getD k 0) t
theorem insG_len (l : List Nat) : ∀ k, (insG l k).length = k
  | 0 => rfl
  | k + 1 => by rw [insG, insAt_len, insG_len l k]
theorem stL_end {l : List Nat} {i j p : Nat} (hj : j ≤ i) (hc : cutG l i i = j) : stL l (insG l i) (l.getD i 0) j i p = if p < i + 1 then (insG l (i + 1)).getD p 0 else l.getD p 0 := by
  unfold stL
  unfold cutG at hc
  by_cases h : p ≤ i
  · have h2 : p < i + 1 := by omega
    rw [if_pos h, if_pos h2, insG, hc, insAt_getD (by rw [insG_len]; exact hj)]
  · have h2 : ¬ p < i + 1 := by omega
    rw [if_neg h, if_neg h2]
theorem less_int (x y : Int) (v : Bool) (hv : decide (x < y) = v) (w : World) :
    Calls Try.prog 98 #[.int .i64 x, .int .i64 y] w fun e w' => e = .returned (.bool v) ∧ w = w' := by
  have hnan : ∀ (z : Int) (W : World), Calls Try.prog 87 #[.int .i64 z] W fun e w' => e = .returned (.bool false) ∧ W = w' := by
    intro z W
    go_enter Try.func87, Try.ntmps87
    go_wp2
    go_ret
    exact ⟨ret_bool (by simp), rfl⟩
  go_enter Try.func98, Try.ntmps98
  go_wp2_with (go_at_call 87; refine (hnan _ _).mono ?_; rintro e w' ⟨rfl, rfl⟩)
  go_ret
  exact ⟨ret_bool (by rw [← hv]; try rfl), rfl⟩
set_option maxHeartbeats 2000000 in
set_option maxRecDepth 100000 in
theorem ins_short (g cap n : Nat) (l : List Nat) (w : World) (hl : l.length = n) (hn : n ≤ 12) (hnc : n ≤ cap) (hcel : CeS cap w g n (fun p => l.getD p 0)) :
    Calls Try.prog 92 #[.slice (some ⟨g, 0, none⟩) n cap, .int .i64 0, .int .i64 (n : Nat)] w
      fun e w' => e = .returned (.tuple #[]) ∧ w.grownBy w' (some g) ∧ CeS cap w' g n (fun p => (insG l n).getD p 0) := by
  have hg0 := hcel.lt
  have HL := hide hcel
  clear hcel
  go_enter Try.func92, Try.ntmps92
  go_wp2
  go_loopw [6] (fun i wr => ∃ k : Nat, (k ≤ n ∨ k = 1) ∧ 1 ≤ k ∧ i = .int .i64 k ∧ w.grownBy wr (some g) ∧ CeS cap wr g n (fun p => if p < k then (insG l k).getD p 0 else l.getD p 0)) (fun i _ => n - (intOf i).toNat)
  case atStart => exact ⟨1, .inr rfl, Nat.le_refl _, rfl, grown_refl _ _, HL.out.congr (fun p hp => by
    by_cases h : p < 1
    · obtain rfl : p = 0 := by omega
      rfl
    · rw [if_neg h])⟩
  case round =>
    obtain ⟨k, hk, hk1, rfl, hgr, hce⟩ := hrel
    have HG := hide hgr; have HE := hide hce
    clear hgr hce
    by_cases hlt : k < n
    · go_wp2
      go_loopw [7] (fun j wq => ∃ t : Nat, t ≤ k ∧ j = .int .i64 t ∧ w.grownBy wq (some g) ∧ cutG l k k = cutG l k t ∧ CeS cap wq g n (stL l (insG l k) (l.getD k 0) t k)) (fun j _ => (intOf j).toNat)
      case atStart => exact ⟨k, Nat.le_refl _, rfl, HG.out, rfl, HE.out.congr (fun p hp => stL_start.symm)⟩
      case round =>
        obtain ⟨t, ht, rfl, hgr, hcut, hce⟩ := hrel
        have HG2 := hide hgr; have HE2 := hide hce; have HT := hide hcut
        clear hgr hce hcut
        have hgl := HE2.out.lt
        rcases t with _ | q
        · have hx := BW.cell (w := wr)
          go_wp2
          refine wp_region_bw (by kernel_rfl) (by kernel_rfl) ?_
          repeat (go_big_quiet_step ((first | fail)))
          refine wpQuiet_end fun w1 hb1 => ?_
          clear hx
          have hce1 := HE2.out.below hb1 hgl
          have hgr1 := grown_belowS HG2.out hb1
          have hct : cutG l k k = 0 := by rw [HT.out]; rfl
          have H1 := hide hce1; have H2 := hide hgr1; have H3 := hide hct
          clear hce1 hgr1 hct
          go_wp2
          go_roundw
          case rel => exact ⟨k + 1, by omega, by omega, by go_num, H2.out, H1.out.congr (fun p hp => stL_end (Nat.zero_le _) H3.out)⟩
          case measure => simp [intOf]; omega
        · have d1 := HE2.out.cell (p := q + 1) (by omega)
          have d0 := HE2.out.cell (p := q) (by omega)
          obtain ⟨y, hy⟩ : ∃ y, l.getD k 0 = y := ⟨_, rfl⟩
          obtain ⟨z, hz⟩ : ∃ z, (insG l k).getD q 0 = z := ⟨_, rfl⟩
          have e1 : stL l (insG l k) (l.getD k 0) (q + 1) k (q + 1) = y := by unfold stL; rw [if_pos (by omega), if_neg (by omega), if_pos rfl, hy]
          have e0 : stL l (insG l k) (l.getD k 0) (q + 1) k q = z := by unfold stL; rw [if_pos (by omega), if_pos (by omega), hz]
          rw [e1] at d1; rw [e0] at d0
          have f1 := HE2.out.frozen (q + 1); have f0 := HE2.out.frozen q
          have HZ := hide hz; have HY := hide hy
          have hx := BW.cell (w := wr)
          have hww : IntKind.i64.wrap ((q : Int) + 1 - 1) = (q : Int) := by rw [IntWalk.i64_in _ (by omega)]; omega
          clear hz hy e1 e0
          by_cases hlz : (y : Int) < (z : Int)
          · have hb0 : decide ((y : Int) < (z : Int)) = true := decide_eq_true hlz
            go_wp2
            refine wp_region_bw (by kernel_rfl) (by kernel_rfl) ?_
            repeat (go_big_quiet_step ((first | (go_at_call 98; exact BW.call0 (less_int _ _ _ hb0 _)))))
            refine wpQuiet_end fun w1 hb1 => ?_
            clear hx hww
            have hce1 := HE2.out.below hb1 hgl
            have hgr1 := grown_belowS HG2.out hb1
            have hct : cutG l k k = cutG l k q := cut_step HT.out (by rw [HZ.out, HY.out]; exact hlz)
            obtain ⟨qc1, qf1⟩ := bcell hb1
            have d1' := (qc1 g (q + 1) hgl).trans d1; have d0' := (qc1 g q hgl).trans d0
            have f1' := (qf1 g (q + 1) hgl).trans f1; have f0' := (qf1 g q hgl).trans f0
            have hs1 := hb1.size
            have H1 := hide hce1; have H2 := hide hgr1; have H3 := hide hct
            clear hce1 hgr1 hct qc1 qf1 d1 d0 f1 f0
            go_wp2
            go_region
            all_goals
              go_wp2
              go_roundw
              case rel =>
                have hce2 := ((H1.out.drew.set_ (q + 1) z).set_ q y).congr (G := stL l (insG l k) (l.getD k 0) q k) (fun p hp => by
                  show (if p = q then y else if p = q + 1 then z else stL l (insG l k) (l.getD k 0) (q + 1) k p) = stL l (insG l k) (l.getD k 0) q k p
                  rw [← HZ.out, ← HY.out]; exact stL_step (by omega))
                exact ⟨q, by omega, by go_num, grown_setCell (grown_setCell (grown_drew H2.out) _ _) _ _, H3.out, hce2⟩
              case measure => first | (simp [intOf]; done) | (simp [intOf]; omega)
          · have hb0 : decide ((y : Int) < (z : Int)) = false := decide_eq_false hlz
            go_wp2
            refine wp_region_bw (by kernel_rfl) (by kernel_rfl) ?_
            repeat (go_big_quiet_step ((first | (go_at_call 98; exact BW.call0 (less_int _ _ _ hb0 _)))))
            refine wpQuiet_end fun w1 hb1 => ?_
            clear hx hww
            have hce1 := HE2.out.below hb1 hgl
            have hgr1 := grown_belowS HG2.out hb1
            have hct : cutG l k k = q + 1 := cut_stop HT.out (by rw [HZ.out, HY.out]; omega)
            have H1 := hide hce1; have H2 := hide hgr1; have H3 := hide hct
            clear hce1 hgr1 hct
            go_wp2
            go_roundw
            case rel => exact ⟨k + 1, by omega, by omega, by go_num, H2.out, H1.out.congr (fun p hp => stL_end (by omega) H3.out)⟩
            case measure => simp [intOf]; omega
    · go_wp2
      refine bodyPost_end (v := .tuple #[]) (by simp [results, Try.results92, go_sem]) rfl ⟨rfl, HG.out, HE.out.congr (fun p hp => ?_)⟩
      by_cases hkn : k = n
      · subst hkn; rw [if_pos hp]
      · omega
set_option maxRecDepth 100000 in
set_option maxHeartbeats 1000000 in
theorem pdq_short (g cap n : Nat) (z : Int) (l : List Nat) (w : World) (hl : l.length = n) (hn : n ≤ 12) (hnc : n ≤ cap) (hcel : CeS cap w g n (fun p => l.getD p 0)) :
    Calls Try.prog 83 #[.slice (some ⟨g, 0, none⟩) n cap, .int .i64 0, .int .i64 (n : Nat), .int .i64 z] w
      fun e w' => e = .returned (.tuple #[]) ∧ w.grownBy w' (some g) ∧ CeS cap w' g n (fun p => (insG l n).getD p 0) := by
  go_enter Try.func83, Try.ntmps83
  go_wp2
  go_loopw [1, 2] (fun a b wr => a = .int .i64 0 ∧ b = .int .i64 (n : Nat) ∧ wr = w) (fun _ _ _ => 0)
  case atStart => exact ⟨rfl, rfl, rfl⟩
  case round =>
    obtain ⟨rfl, rfl, rfl⟩ := hrel
    go_wp2_with fail
    refine (ins_short _ _ _ l _ hl hn hnc hcel).mono ?_
    rintro e w1 ⟨rfl, hg1, hc1⟩
    have HC := hide hc1; have HG := hide hg1
    clear hc1 hg1
    go_wp2
    refine bodyPost_ret (v := .tuple #[]) (by simp [results, Try.results83, go_sem]) rfl ⟨rfl, HG.out, HC.out⟩
set_option maxRecDepth 100000 in
set_option maxHeartbeats 1000000 in
theorem len_short (n : Nat) (hn : n ≤ 12) (w : World) : Calls Try.prog 84 #[.int .u64 (n : Nat)] w fun e w' => ∃ z : Int, e = .returned (.int .i64 z) ∧ w = w' := by
  have h64 : ∀ W : World, Calls Try.prog 102 #[.int .u64 (n : Nat)] W fun e w' => ∃ z : Int, e = .returned (.int .i64 z) ∧ W = w' := by
    intro W
    rcases (by omega : n = 0 ∨ n = 1 ∨ n = 2 ∨ n = 3 ∨ n = 4 ∨ n = 5 ∨ n = 6 ∨ n = 7 ∨ n = 8 ∨ n = 9 ∨ n = 10 ∨ n = 11 ∨ n = 12) with rfl | rfl | rfl | rfl | rfl | rfl | rfl | rfl | rfl | rfl | rfl | rfl | rfl <;>
      (go_enter Try.func102, Try.ntmps102; go_wp2; go_returns; exact ⟨_, rfl, rfl⟩)
  go_enter Try.func84, Try.ntmps84
  go_wp2_with fail
  refine (h64 _).mono ?_
  rintro e w' ⟨z, rfl, rfl⟩
  go_wp2
  go_returns
  exact ⟨_, rfl, rfl⟩
set_option maxRecDepth 100000 in
theorem sort_short (g cap n base : Nat) (l : List Nat) (w : World) (hl : l.length = n) (hn : n ≤ 12) (hd : l.Nodup) (hown : w.ownsRow base 3 1 (.slice (some ⟨g, 0, none⟩) n cap) n (nl l)) :
    Calls Try.prog 70 #[.slice (some ⟨g, 0, none⟩) n cap] w
      fun e w' => e = .returned (.tuple #[]) ∧ w.grownBy w' (some g) ∧ w'.ownsRow base 3 1 (.slice (some ⟨g, 0, none⟩) n cap) n (nl (putAll l n)) := by
  obtain ⟨hcel, hb, hnc, hcm⟩ := ces_of_nl hl hown
  have HC := hide hcel
  clear hcel hown
  go_enter Try.func70, Try.ntmps70
  go_wp2_with fail
  refine (len_short n hn _).mono ?_
  rintro e w1 ⟨z, rfl, rfl⟩
  go_wp2_with fail
  refine (pdq_short _ _ _ _ l _ hl hn hnc HC.out).mono ?_
  rintro e w2 ⟨rfl, hg2, hc2⟩
  have H2 := hide hc2; have HG := hide hg2
  clear hc2 hg2
  have hlen : (insG l n).length = n := insG_len l n
  have hp : insG l n = putAll l n := insG_put hd (by omega)
  go_wp2
  refine bodyPost_end (v := .tuple #[]) (by simp [results, Try.results70, go_sem]) rfl ⟨rfl, HG.out, ?_⟩
  rw [← hp]
  exact nl_of_ces hlen H2.out hb hnc hcm
end Go.Proofs.Yteklalbjlmkagaa
