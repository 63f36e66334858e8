/- Chapter 23: a plan in an order: the program's side. -/
import Derived.Test.YtfdgnjnnbhelgaaVisO
import Derived.Test.YtfdgnjnnbhelgaaVisG
import Derived.Test.YtfdgnjnnbhelgaaCmp
import Derived.Test.YtfdgnjnnbhelgaaGrow
import Derived.Deep.AppendLies
namespace Go.Proofs.Ytfdgnjnnbhelgaa
open Go.RowKit
set_option linter.unusedVariables false
set_option linter.unusedSimpArgs false

def SortFn : Value := .func (.func 119) #[] #[]
set_option maxHeartbeats 1000000 in
theorem stable_sort {S : Nat} (g cap n B bc bl : Nat) (f : Nat → Int) (r : Nat → Nat → Int) (w : World) (hn : n ≤ 12) (hnc : n ≤ cap) (hB : B ≤ g) (hr : ∀ a b, f a < f b ↔ r a b < 0) (hcmp : CmpOk r n B bc bl w) (hcel : Cel S w g n (fun p => p)) :
    Calls Try.prog 131 #[.slice (some ⟨g, 0, none⟩) n cap, .int .i64 (n : Nat), .func (.func 119) #[] #[.pointer (some ⟨bc, 0, none⟩), .pointer (some ⟨bl, 0, none⟩)]] w
      fun e w' => e = .returned (.tuple #[]) ∧ w.grownBy w' (some g) ∧ Cel S w' g n (fun p => (insL f n).getD p 0) := by
  have HC := hide hcmp; have HR := hide hr; have HL := hide hcel
  clear hcmp hr hcel
  go_enter Try.func131, Try.ntmps131
  go_wp2
  go_loop [7, 8] (fun a b => a = .int .i64 0 ∧ b = .int .i64 20) (fun _ _ => 0)
  case atStart => exact ⟨rfl, rfl⟩
  case round =>
    obtain ⟨rfl, rfl⟩ := hrel
    go_wp2_with fail
    refine (ins_sort g cap n B bc bl f r _ hn hnc hB HR.out HC.out HL.out).mono ?_
    rintro e w1 ⟨rfl, hg1, hc1⟩
    have HG := hide hg1; have HE := hide hc1
    clear hg1 hc1
    go_wp2
    go_loop [6] (fun a => a = .int .i64 20) (fun _ => 0)
    case atStart => exact rfl
    case round =>
      obtain rfl := hrel
      go_wp2
      exact bodyPost_end (v := .tuple #[]) (by simp [results, Try.results131, go_sem]) rfl ⟨rfl, HG.out, HE.out⟩
theorem sort_stable {S : Nat} (g cap n B bc bl : Nat) (f : Nat → Int) (r : Nat → Nat → Int) (w : World) (hn : n ≤ 12) (hnc : n ≤ cap) (hB : B ≤ g) (hr : ∀ a b, f a < f b ↔ r a b < 0) (hcmp : CmpOk r n B bc bl w) (hcel : Cel S w g n (fun p => p)) :
    Calls Try.prog 118 #[.slice (some ⟨g, 0, none⟩) n cap, .func (.func 119) #[] #[.pointer (some ⟨bc, 0, none⟩), .pointer (some ⟨bl, 0, none⟩)]] w
      fun e w' => e = .returned (.tuple #[]) ∧ w.grownBy w' (some g) ∧ Cel S w' g n (fun p => (insL f n).getD p 0) := by
  have HC := hide hcmp; have HR := hide hr; have HL := hide hcel
  clear hcmp hr hcel
  go_enter Try.func118, Try.ntmps118
  go_wp2_with fail
  refine (stable_sort g cap n B bc bl f r _ hn hnc hB HR.out HC.out HL.out).mono ?_
  rintro e w1 ⟨rfl, hg1, hc1⟩
  have HG := hide hg1; have HE := hide hc1
  clear hg1 hc1
  go_wp2
  exact bodyPost_end (v := .tuple #[]) (by simp [results, Try.results118, go_sem]) rfl ⟨rfl, HG.out, HE.out⟩

theorem cmpI_lt {a b : Int} : a < b ↔ cmpI a b < 0 := by unfold cmpI; split <;> (try split) <;> omega
theorem by_dead (x0 x1 x2 x3 y0 y1 y2 y3 : Int) (v : Int) (hv : cmpI x3 y3 = v) (w : World) :
    Calls Try.prog 96 #[.agg #[.int .i64 x0, .int .i64 x1, .int .i64 x2, .int .i64 x3], .agg #[.int .i64 y0, .int .i64 y1, .int .i64 y2, .int .i64 y3]] w fun e w' => e = .returned (.int .i64 v) ∧ Below w.heap.size w w' := by
  go_enter Try.func96, Try.ntmps96
  go_wp2_with (go_at_call 107; refine (compare_int _ _ _ hv _).mono ?_; rintro e w' ⟨rfl, rfl⟩)
  go_returns
  exact ⟨rfl, by go_grown⟩
/-- The order's function over a list, by the deadlines. -/
theorem cmp_dead (A : Option Addr) (n c B bc bl : Nat) (X : Nat → Nat → Int) (w : World) (hn : n ≤ 1048576) (ha : Arr w B A n 4 (iv X)) (hbc : bc < B) (hbl : bl < B) (hc : w.cell? ⟨bc, 0, none⟩ = some (.func (.func 96) #[] #[])) (hl : w.cell? ⟨bl, 0, none⟩ = some (.slice A n c)) (hB : B ≤ w.heap.size) :
    CmpOk (fun a b => cmpI (X a 3) (X b 3)) n B bc bl w := by
  intro w' a b han hbn hk
  obtain ⟨b0, off, rfl, hb0, hcc⟩ := ha (by omega)
  have e1 := (hk bc 0 hbc).trans hc; have e2 := (hk bl 0 hbl).trans hl
  have a0 := (hk b0 _ hb0).trans (hcc a 0 han (by omega)); have a1 := (hk b0 _ hb0).trans (hcc a 1 han (by omega)); have a2 := (hk b0 _ hb0).trans (hcc a 2 han (by omega)); have a3 := (hk b0 _ hb0).trans (hcc a 3 han (by omega))
  have d0 := (hk b0 _ hb0).trans (hcc b 0 hbn (by omega)); have d1 := (hk b0 _ hb0).trans (hcc b 1 hbn (by omega)); have d2 := (hk b0 _ hb0).trans (hcc b 2 hbn (by omega)); have d3 := (hk b0 _ hb0).trans (hcc b 3 hbn (by omega))
  simp only [Nat.add_zero, iv] at a0 a1 a2 a3 d0 d1 d2 d3
  have hw : ∀ (b o : Nat) (v : Value), w'.cell? ⟨b, o, none⟩ = some v → b < w'.heap.size := fun b o v h => World.block_lt_of_cell? w' _ h
  have g1 := hw _ _ _ e1; have g2 := hw _ _ _ e2; have g3 := hw _ _ _ a0
  have hx := BW.cell (w := w')
  clear hk hcc hc hl ha hw
  go_enter Try.func119, Try.ntmps119
  go_wp2_with fail
  refine wp_region_bw (by kernel_rfl) (by kernel_rfl) ?_
  repeat (go_big_quiet_step ((first | (go_at_call 96; exact BW.call (by_dead _ _ _ _ _ _ _ _ _ rfl _)))))
  refine wpQuiet_end fun w1 hb1 => ?_
  clear hx
  go_wp2
  go_ret
  exact ⟨rfl, hb1⟩

theorem cel_of_row {w : World} {base g n cap : Nat} {f : Nat → Int} {F : Nat → Nat} (h : w.ownsRow base 3 1 (.slice (some ⟨g, 0, none⟩) n cap) n (ints f n)) (hf : ∀ p, p < n → f p = (F p : Nat)) : Cel cap w g n F ∧ base ≤ g ∧ n ≤ cap ∧ cap ≤ maxLen := by
  rcases h.2 with ⟨hv, _⟩ | ⟨gg, cp, cur, hv, hg, hh, hc, hm, hs, ht⟩
  · cases hv
  · injection hv with e1 _ e3
    injection e1 with e1
    injection e1 with e1 _ _
    subst e1 e3
    refine ⟨⟨cur, hh, by rw [hs, Nat.mul_one], fun p hp => ?_⟩, hg, hc, hm⟩
    have h1 : (cur.toList.take (n * 1))[p]? = (ints f n)[p]? := by rw [ht]
    rw [List.getElem?_take, if_pos (by omega), Array.getElem?_toList] at h1
    simp only [ints, List.getElem?_map, List.getElem?_range hp, Option.map_some] at h1
    rw [h1, hf p hp]
theorem own_of_cel {w : World} {base g n cap : Nat} {F : Nat → Nat} (h : Cel cap w g n F) (hb : base ≤ g) (hn : n ≤ cap) (hc : cap ≤ maxLen) : Own w base 3 1 (.slice (some ⟨g, 0, none⟩) n cap) n (iv fun i _ => (F i : Nat)) := by
  obtain ⟨cur, h1, h2, h3⟩ := h
  refine .inr ⟨g, cap, cur, rfl, hb, h1, hn, hc, by rw [h2, Nat.mul_one], fun i j hi hj => ?_⟩
  obtain rfl : j = 0 := by omega
  rw [Nat.mul_one, Nat.add_zero]
  exact h3 i hi
theorem cell_far {w w' : World} {row : Option Nat} (hg : w.grownBy w' row) {b o : Nat} (hlt : b < w.heap.size) (hne : ∀ g, row = some g → b < g) : w'.cell? ⟨b, o, none⟩ = w.cell? ⟨b, o, none⟩ :=
  World.cell?_of_block (hg.block b hlt (fun e => by have := hne b e.symm; omega))
set_option maxHeartbeats 1000000 in
theorem sorted_plan (K : Nat) (A : Option Addr) (n c : Nat) (X : Nat → Nat → Int) (f : Nat → Int) (r : Nat → Nat → Int) (w : World) (hn : n ≤ 12) (ha : Arr w w.heap.size A n 4 (iv X)) (hr : ∀ a b, f a < f b ↔ r a b < 0)
    (hC : ∀ B bc bl w', Arr w' B A n 4 (iv X) → bc < B → bl < B → w'.cell? ⟨bc, 0, none⟩ = some (.func (.func K) #[] #[]) → w'.cell? ⟨bl, 0, none⟩ = some (.slice A n c) → B ≤ w'.heap.size → CmpOk r n B bc bl w') :
    Calls Try.prog 95 #[.slice A n c, .func (.func K) #[] #[]] w fun e w' => ∃ v, e = .returned v ∧ Below w.heap.size w w' ∧ Own w' w.heap.size 3 1 v n (iv fun i _ => ((insL f n).getD i 0 : Nat)) := by
  obtain ⟨i0, hi0, hy0, hy1, hy2⟩ := info_parts info_int
  have HC := hide hC; have HR := hide hr; have HA := hide ha
  clear hC hr ha
  go_enter Try.func95, Try.ntmps95
  go_wp2
  go_loopw [5, 10] (fun v i wr => ∃ (k g cap : Nat), k ≤ n ∧ i = .int .i64 k ∧ v = .slice (some ⟨g, 0, none⟩) k cap ∧ Below w.heap.size w wr ∧ wr.cell? ⟨w.heap.size, 0, none⟩ = some (.slice A n c) ∧ wr.cell? ⟨w.heap.size + 1, 0, none⟩ = some (.func (.func K) #[] #[]) ∧ w.heap.size + 2 ≤ wr.heap.size ∧
    wr.ownsRow (w.heap.size + 2) 3 1 v k (ints (fun i => (i : Int)) k)) (fun _ i _ => n - (intOf i).toNat)
  case atStart => exact ⟨0, _, _, Nat.zero_le _, rfl, rfl, by go_grown, by simp [go_sem], by simp [go_sem], by simp only [World.size_alloc]; omega, row_new_at _ _ _ _ _ (by simp only [World.size_alloc]) (by simp only [World.size_alloc]; omega)⟩
  case round =>
    obtain ⟨k, g, cap, hk, rfl, rfl, hbw, hl1, hl2, hsz, hown⟩ := hrel
    have H1 := hide hl1; have H2 := hide hl2
    clear hl1 hl2
    by_cases hlt : k < n
    · go_wp2_with (at_builtin; refine wpList_append_far _ rfl _ _ 34 rfl (w.heap.size + 2) 3 i0 (.int .i64 0) 1 8 Try.underlying34 hi0 hy0 hy1 hy2 rfl (by decide) _ _ _ rfl (hown.alloc _) ⟨wr.heap.size, 0, none⟩ 1 1 [.int .i64 (k : Int)] rfl rfl ?c1 ?c2 ?c3 ?c4 ?c5 ?_)
      case c1 => exact cell_one_at _ _ _ _ (by first | rfl | (simp only [World.size_alloc, World.size_setCell, World.size_drew]; done) | (simp only [World.size_alloc, World.size_setCell, World.size_drew]; omega))
      case c2 => intro u hu; simp only [List.mem_singleton] at hu; subst hu; rfl
      case c3 => unfold maxLen; omega
      case c4 => omega
      case c5 => first | (simp only [World.size_alloc]; omega) | (simp only [World.size_alloc, World.size_setCell, World.size_drew]; omega)
      intro v1 w1 hown1 hgrow1 hfar
      have hlt1 := hown.lt
      obtain ⟨g1, cap1, rfl, hg1, _⟩ := hown1.form (by omega)
      rw [ints_snoc (fun i => (i : Int)) k] at hown1
      have hcl : ∀ q, q < w.heap.size + 2 → w1.cell? ⟨q, 0, none⟩ = wr.cell? ⟨q, 0, none⟩ := fun q hq =>
        (cell_far hgrow1 (by simp only [World.size_alloc]; omega) (fun gg hgg => by have := (hlt1 gg hgg).1; omega)).trans (World.cell?_alloc_lt wr _ ⟨q, 0, none⟩ (by show q < _; omega))
      have hbw1 := (below_al (o := .cells #[.int .i64 (k : Int)] 3) hbw).grown hgrow1 (by simp only [World.size_alloc]; omega) (fun gg hgg => by have := (hlt1 gg hgg).1; omega)
      have hsz1 := hgrow1.size
      simp only [World.size_alloc] at hsz1
      have HO := hide hown1; have HB := hide hbw1
      have E1 := hide ((hcl w.heap.size (by omega)).trans H1.out); have E2 := hide ((hcl (w.heap.size + 1) (by omega)).trans H2.out)
      clear hown hown1 hgrow1 hlt1 hcl hbw1 hfar
      go_wp2
      go_roundw
      case rel => exact ⟨k + 1, g1, cap1, by omega, by go_num, rfl, HB.out, E1.out, E2.out, by omega, HO.out⟩
      case measure => simp [intOf]; omega
    · obtain rfl : k = n := by omega
      obtain ⟨hcel, hg2, hc1, hc2⟩ := cel_of_row (F := fun p => p) hown (fun p hp => rfl)
      have hcmp := HC.out (w.heap.size + 2) (w.heap.size + 1) w.heap.size wr ((HA.out.below hbw (Nat.le_refl _)).more (by omega)) (by omega) (by omega) H2.out H1.out hsz
      have HCM := hide hcmp; have HCE := hide hcel
      clear hown hcmp hcel
      go_wp2_with fail
      refine (sort_stable g cap k (w.heap.size + 2) (w.heap.size + 1) w.heap.size f r _ hn hc1 hg2 HR.out HCM.out HCE.out).mono ?_
      rintro e w2 ⟨rfl, hgr2, hce2⟩
      have HG := hide hgr2; have HE := hide hce2
      clear hgr2 hce2
      go_wp2
      go_returns
      exact ⟨_, rfl, hbw.grown HG.out (by omega) (fun gg hgg => by injection hgg with hgg; omega), own_of_cel HE.out (by omega) hc1 hc2⟩
theorem impl_byDead (A : Option Addr) (n c : Nat) (X : Nat → Nat → Int) (ok : Bool) (hv : errsB n X = ok) (q : Nat) (hq : q = onlyN ok n) (w : World) (hn : n ≤ 1048576) (ha : Arr w w.heap.size A n 4 (iv X)) :
    Calls Try.prog 66 #[.slice A n c] w fun e w' => ∃ v, e = .returned (.tuple #[v, .bool ok]) ∧ Below w.heap.size w w' ∧ Own w' w.heap.size 3 1 v q (iv fun i _ => ((insL (fun i => X i 3) n).getD i 0 : Nat)) := by
  subst hq
  have HV := hide hv
  clear hv
  cases ok
  · go_enter Try.func66, Try.ntmps66
    go_wp2_with fail
    refine (impl_errs _ _ _ X _ HV.out _ hn ha).mono ?_
    rintro e w1 ⟨rfl, hb1⟩
    obtain ⟨qc1, qf1⟩ := bcell hb1
    have hz1 := hb1.size
    try simp only [World.size_alloc, World.size_setCell, World.size_drew] at hz1
    have hq1 : Below w.heap.size w w1 := below_call (by go_grown) hb1
    try have hl0_1 : w.heap.size < w1.heap.size := by omega
    try have hl1_1 : w.heap.size + 1 < w1.heap.size := by omega
    try have hl2_1 : w.heap.size + 2 < w1.heap.size := by omega
    try have hl3_1 : w.heap.size + 3 < w1.heap.size := by omega
    go_wp2
    go_returns
    exact ⟨_, rfl, hq1, own_nil _ _ _ _ _⟩
  · obtain ⟨hn12, _⟩ := errs_of HV.out
    go_enter Try.func66, Try.ntmps66
    go_wp2_with fail
    refine (impl_errs _ _ _ X _ HV.out _ hn ha).mono ?_
    rintro e w1 ⟨rfl, hb1⟩
    obtain ⟨qc1, qf1⟩ := bcell hb1
    have hz1 := hb1.size
    try simp only [World.size_alloc, World.size_setCell, World.size_drew] at hz1
    have hq1 : Below w.heap.size w w1 := below_call (by go_grown) hb1
    try have hl0_1 : w.heap.size < w1.heap.size := by omega
    try have hl1_1 : w.heap.size + 1 < w1.heap.size := by omega
    try have hl2_1 : w.heap.size + 2 < w1.heap.size := by omega
    try have hl3_1 : w.heap.size + 3 < w1.heap.size := by omega
    go_wp2_with fail
    refine (sorted_plan _ _ _ _ X (fun i => X i 3) (fun a b => cmpI (X a 3) (X b 3)) _ hn12 (ha.on hq1) (fun a b => cmpI_lt) (fun B bc bl w' h1 h2 h3 h4 h5 h6 => cmp_dead _ _ _ B bc bl X w' hn h1 h2 h3 h4 h5 h6)).mono ?_
    rintro e w2 ⟨v, rfl, hb2, ho2⟩
    have hq2 : Below w.heap.size w w2 := below_call hq1 hb2
    have HO := hide ho2
    clear ho2
    go_wp2
    go_returns
    exact ⟨_, rfl, hq2, HO.out.base hq1.size⟩
end Go.Proofs.Ytfdgnjnnbhelgaa
