/- Chapter 19: what is asked of clusters: made by clu2gen.py. -/
import Derived.Test.YthpagjkkccimiaaClus
import Derived.Test.YthpagjkkccimiaaLarg
namespace Go.Proofs.Ythpagjkkccimiaa
open Go.RowKit
set_option linter.unusedVariables false
set_option linter.unusedSimpArgs false

/-- A list of small numbers of the call's own lies in a block's head. -/
theorem own_cells {w : World} {base n : Nat} {v : Value} {L : List Nat} (h : Own w base 3 1 v n (iv fun p _ => (L.getD p 0 : Nat))) (hn : L.length = n) :
    (v = .slice none 0 0 ∧ n = 0) ∨ ∃ gb cap, v = .slice (some ⟨gb, 0, none⟩) n cap ∧ base ≤ gb ∧ n ≤ cap ∧ Cells w gb (nl L) := by
  rcases h with h | ⟨gb, cap, cur, rfl, hb, hblk, hc, hm, hs, hF⟩
  · exact .inl h
  · refine .inr ⟨gb, cap, rfl, hb, hc, hblk.lt, fun j u hu => ?_⟩
    have hj : j < n := by
      rw [← hn, ← nl_len L]
      exact (List.getElem?_eq_some_iff.1 hu).1
    have := hF j 0 hj (by omega)
    rw [Nat.mul_one, Nat.add_zero] at this
    rw [hblk.cell, this, ← hu, nl_get L (by omega)]
    rfl
theorem cells_nl {w : World} {gb : Nat} {L : List Nat} (h : Cells w gb (nl L)) {k : Nat} (hk : k < L.length) : w.cell? ⟨gb, k, none⟩ = some (.int .i64 (L.getD k 0 : Nat)) := h.2 k _ (nl_get L hk)
theorem take_yes {L : List Nat} {P : Nat → Bool} {k y : Nat} (hk : k < L.length) (hy : L.getD k 0 = y) (h : P y = true) : (L.take (k + 1)).filter P = (L.take k).filter P ++ [y] := by
  have e : L[k] = y := by rw [← hy]; simp [List.getD, hk]
  rw [List.take_succ_eq_append_getElem hk, List.filter_append, e]; simp [h]
theorem take_no {L : List Nat} {P : Nat → Bool} {k y : Nat} (hk : k < L.length) (hy : L.getD k 0 = y) (h : P y = false) : (L.take (k + 1)).filter P = (L.take k).filter P := by
  have e : L[k] = y := by rw [← hy]; simp [List.getD, hk]
  rw [List.take_succ_eq_append_getElem hk, List.filter_append, e]; simp [h]
def aftL (n : Nat) (r : Nat → Nat → Bool) (S : Nat → Int) (i : Nat) : List Nat := (cluL n r i).filter fun k => decide (mainN n r S i < k)
theorem aftL_len (n : Nat) (r : Nat → Nat → Bool) (S : Nat → Int) (i : Nat) : (aftL n r S i).length ≤ n :=
  Nat.le_trans (List.length_filter_le _ _) (cluL_len n r i)
/-- The first cluster with the most quakes. -/
def lgS (n : Nat) (r : Nat → Nat → Bool) : Nat → Nat × Nat
  | 0 => (0, 0)
  | k + 1 => if (lgS n r k).2 < (cluL n r k).length then (k, (cluL n r k).length) else lgS n r k
theorem lgS_all (n : Nat) (r : Nat → Nat → Bool) : ∀ k j, j < k → (cluL n r j).length ≤ (lgS n r k).2
  | k + 1, j, hj => by
    rw [lgS]
    by_cases e : j = k
    · subst e; split
      · exact Nat.le_refl _
      · omega
    · have := lgS_all n r k j (by omega)
      split
      · simp; omega
      · exact this
theorem selL_first {P : Nat → Bool} : ∀ {k x : Nat}, x < k → P x = true → (selL P k).getD 0 0 ≤ x
  | k + 1, x, hx, hp => by
    rw [selL]
    by_cases e : x = k
    · subst e
      split
      · by_cases h : 0 < (selL P x).length
        · have h1 := (selL_get (P := P) h).1
          simp [List.getD, h] at h1 ⊢
          first | (rw [List.getElem_append_left h]; omega) | omega
        · have : selL P x = [] := List.eq_nil_of_length_eq_zero (by omega)
          rw [this]; simp
      · contradiction
    · have ih := selL_first (P := P) (k := k) (x := x) (by omega) hp
      split
      · have h : 0 < (selL P k).length := List.length_pos_of_mem (mem_selL.2 ⟨by omega, hp⟩)
        simp [List.getD, h] at ih ⊢
        first | exact ih | (rw [List.getElem_append_left h]; exact ih)
      · exact ih
theorem lg_first {n : Nat} {r : Nat → Nat → Bool} {k : Nat} (hk : k < n) (h : (lgS n r k).2 < (cluL n r k).length) : (cluL n r k).getD 0 0 = k := by
  have h1 := selL_first (P := cluP n r k) hk (by simp [cluP])
  have h2 := cluL_get (r := r) (i := k) (cluL_pos hk)
  have h3 : (cluL n r k).getD 0 0 ∈ cluL n r k := by
    have := cluL_pos (r := r) hk
    simp [List.getD, this]
  by_cases e : (cluL n r k).getD 0 0 = k
  · exact e
  · have hlt : (cluL n r k).getD 0 0 < k := by unfold cluL at e ⊢; omega
    have hs : cluL n r ((cluL n r k).getD 0 0) = cluL n r k := by
      have := (cluL_mem.1 h3).2
      unfold cluL cluP at this ⊢
      rw [this]
    have := lgS_all n r k _ hlt
    rw [hs] at this
    omega
set_option maxHeartbeats 1000000 in
theorem filter_after (A : Option Addr) (m c : Nat) (L : List Nat) (z : Nat) (bz : Nat) (w : World) (hm : m ≤ 1048576) (hL : L.length = m) (ha : Arr w w.heap.size A m 1 (iv fun p _ => (L.getD p 0 : Nat))) (hz : Cells w bz [.int .i64 (z : Int)]) :
    Calls Try.prog 88 #[.slice A m c, .func (.func 89) #[] #[.pointer (some ⟨bz, 0, none⟩)]] w fun e w' => ∃ v, e = .returned v ∧ Below w.heap.size w w' ∧ Own w' w.heap.size 3 1 v (L.filter fun k => decide (z < k)).length (iv fun p _ => ((L.filter fun k => decide (z < k)).getD p 0 : Nat)) := by
  obtain ⟨i0, hi0, hy0, hy1, hy2⟩ := info_parts info_int
  obtain ⟨PP, hPP⟩ : ∃ PP : Nat → Bool, (fun k => decide (z < k)) = PP := ⟨_, rfl⟩
  rw [hPP]
  obtain ⟨Q, hQ⟩ : ∃ Q, (L.filter PP).length = Q := ⟨_, rfl⟩
  rw [hQ]
  have HQ := hide hQ; have HLL := hide hL
  have hPe : ∀ k, PP k = decide (z < k) := fun k => by rw [← hPP]
  have HPP := hide hPe
  clear hQ hPP hPe hL
  go_enter Try.func88, Try.ntmps88
  go_wp2
  go_loopw [5, 11] (fun v x wr => ∃ (k p : Nat), k ≤ m ∧ p ≤ k ∧ x = .int .i64 k ∧ p = ((L.take k).filter PP).length ∧ Below w.heap.size w wr ∧ wr.ownsRow w.heap.size 3 1 v p (nl ((L.take k).filter PP))) (fun _ x _ => m - (intOf x).toNat)
  case atStart => exact ⟨0, 0, Nat.zero_le _, Nat.le_refl _, rfl, rfl, by go_grown, row_new_at _ _ _ _ _ rfl (Nat.le_refl _)⟩
  case round =>
    obtain ⟨k, p, hk, hpk, rfl, hp, hbw, hown⟩ := hrel
    have HP := hide hp; have HO := hide hown
    clear hp hown
    by_cases hlt : k < m
    · obtain ⟨b, off, rfl, hbb, hc⟩ := ha (by omega)
      obtain ⟨y, hy⟩ : ∃ y, L.getD k 0 = y := ⟨_, rfl⟩
      have d0 := (hbw.cell (p := ⟨b, _, none⟩) hbb).trans (hc k 0 hlt (by omega))
      simp only [Nat.add_zero, Nat.mul_one, iv, hy] at d0
      have hzr := hz.on hbw
      have z0 := hzr.2 0 _ rfl; have z1 := hzr.1
      have hsw := hbw.size
      have HY := hide hy
      clear hc ha hy
      by_cases hzy : (z : Int) < (y : Int)
      · have hs := take_yes (P := PP) (by rw [HLL.out]; exact hlt) HY.out (by rw [HPP.out]; simp; omega)
        have HS := hide hs
        clear hs
        go_wp2_with fail
        refine (show Calls Try.prog _ _ _ (fun e w' => e = .returned (.bool true) ∧ wr = w') from ?_).mono ?_
        · go_enter Try.func89, Try.ntmps89
          go_wp2
          go_ret
          exact ⟨rfl, rfl⟩
        rintro e u ⟨rfl, rfl⟩
        have hown2 := HO.out
        go_wp2_with (at_builtin; refine wpList_append_far _ rfl _ _ 37 rfl w.heap.size 3 i0 (.int .i64 0) 1 8 Try.underlying37 hi0 hy0 hy1 hy2 rfl (by decide) _ _ _ rfl (hown2.alloc _) ⟨wr.heap.size, 0, none⟩ 1 1 [.int .i64 (y : Int)] rfl rfl ?c1 ?c2 ?c3 ?c4 ?c5 ?_)
        case c1 => exact cell_one_at _ _ _ _ rfl
        case c2 => intro u hu; simp only [List.mem_singleton] at hu; subst hu; rfl
        case c3 => unfold maxLen; omega
        case c4 => omega
        case c5 => simp only [World.size_alloc]; omega
        intro v3 w3 hown3 hgrow3 _
        have hlt3 := hown2.lt
        have hb3 := (below_al (o := .cells #[.int .i64 (y : Int)] 3) hbw).grown hgrow3 (by simp only [World.size_alloc]; omega) (fun gg hg => (hlt3 gg hg).1)
        have hrow3 : w3.ownsRow w.heap.size 3 1 v3 (p + 1) (nl ((L.take (k + 1)).filter PP)) := by rw [HS.out, ← nl_app]; exact hown3
        have hp3 : p + 1 = ((L.take (k + 1)).filter PP).length := by rw [HS.out]; simp; exact HP.out
        have R1 := hide hrow3; have R2 := hide hb3; have R3 := hide hp3
        clear hown2 hown3 hgrow3 hlt3 hb3 hrow3 hp3
        go_wp2
        go_roundw
        case rel => exact ⟨k + 1, p + 1, by omega, by omega, by go_num, R3.out, R2.out, R1.out⟩
        case measure => simp [intOf]; omega
      · have hs := take_no (P := PP) (by rw [HLL.out]; exact hlt) HY.out (by rw [HPP.out]; simp; omega)
        have HS := hide hs
        have hzf : decide (z < y) = false := by simp; omega
        clear hs
        go_wp2_with fail
        refine (show Calls Try.prog _ _ _ (fun e w' => e = .returned (.bool false) ∧ wr = w') from ?_).mono ?_
        · go_enter Try.func89, Try.ntmps89
          go_wp2
          go_ret
          exact ⟨rfl, rfl⟩
        rintro e u ⟨rfl, rfl⟩
        go_wp2
        go_roundw
        case rel => exact ⟨k + 1, p, by omega, by omega, by go_num, by rw [HS.out]; exact HP.out, hbw, by rw [HS.out]; exact HO.out⟩
        case measure => simp [intOf]; omega
    · obtain rfl : k = m := by omega
      have htk : L.take k = L := List.take_of_length_le (by rw [HLL.out]; exact Nat.le_refl _)
      have hO := HO.out
      have hP2 := HP.out
      rw [htk] at hO hP2
      obtain rfl : Q = p := by rw [hP2, HQ.out]
      have HW := hide (own_of_nl hP2 hO)
      clear hO hP2 htk
      go_wp2
      go_ret
      exact ⟨_, rfl, hbw, HW.out⟩
set_option maxHeartbeats 1000000 in
theorem spec_clW (A : Option Addr) (n c : Nat) (X : Nat → Nat → Int) (t f g : Int) (x : Int) (v : Bool) (hv : ((catB n X && linkB t f g) && inB x 0 ((n : Int) - 1)) = v) (q : Nat) (hq : q = onlyN v (cluL n (rchX t f g X) x.toNat).length) (w : World) (hn : n ≤ 1048576) (ha : Arr w w.heap.size A n 4 (iv X)) :
    Calls Try.prog 21 #[.slice A n c, .agg #[.int .i64 t, .int .i64 f, .int .i64 g], .int .i64 x] w fun e w' => ∃ s, e = .returned (.tuple #[s, .bool v]) ∧ Below w.heap.size w w' ∧ Own w' w.heap.size 3 1 s q (iv fun p _ => ((cluL n (rchX t f g X) x.toNat).getD p 0 : Nat)) := by
  have HV := hide hv; have HQ := hide hq
  clear hv hq
  have hba : Below w.heap.size w (w.alloc (.cells #[.int .i64 t, .int .i64 f, .int .i64 g] 30)) := below_al (Below.refl _ _)
  have hcx : Cells (w.alloc (.cells #[.int .i64 t, .int .i64 f, .int .i64 g] 30)) w.heap.size [.int .i64 t, .int .i64 f, .int .i64 g] := Cells.new w _ _ _ rfl
  cases v
  · skip
    obtain rfl : q = 0 := HQ.out
    go_enter Try.func21, Try.ntmps21
    go_wp2_with fail
    refine (spec_at19 _ _ _ X _ _ _ _ _ HV.out _ hn (ha.on hba)).mono ?_
    rintro e w1 ⟨rfl, hb1⟩
    obtain ⟨qc1, qf1⟩ := bcell hb1
    have hz1 := hb1.size
    try simp only [World.size_alloc, World.size_setCell, World.size_drew] at hz1
    have hq1 : Below w.heap.size w w1 := below_call (by go_grown) hb1
    try have hl0_1 : w.heap.size < w1.heap.size := by omega
    try have hl1_1 : w.heap.size + 1 < w1.heap.size := by omega
    try have hl2_1 : w.heap.size + 2 < w1.heap.size := by omega
    try have hl3_1 : w.heap.size + 3 < w1.heap.size := by omega
    go_wp2
    go_returns
    exact ⟨_, rfl, below_al hq1, own_new hq1.size⟩
  · skip
    have hv1 := and_lx HV.out
    have CX := catX_of (and_lx hv1)
    have HL := hide (link_of (and_rx hv1))
    obtain ⟨x0, x1⟩ := inB_of (and_rx HV.out)
    obtain ⟨i, rfl⟩ : ∃ i : Nat, x = i := ⟨x.toNat, by omega⟩
    have hi : i < n := by omega
    clear hv1 x0 x1
    obtain rfl : q = (cluL n (rchX t f g X) i).length := HQ.out
    simp only [Int.toNat_natCast]
    go_enter Try.func21, Try.ntmps21
    go_wp2_with fail
    refine (spec_at19 _ _ _ X _ _ _ _ _ HV.out _ hn (ha.on hba)).mono ?_
    rintro e w1 ⟨rfl, hb1⟩
    obtain ⟨qc1, qf1⟩ := bcell hb1
    have hz1 := hb1.size
    try simp only [World.size_alloc, World.size_setCell, World.size_drew] at hz1
    have hq1 : Below w.heap.size w w1 := below_call (by go_grown) hb1
    try have hl0_1 : w.heap.size < w1.heap.size := by omega
    try have hl1_1 : w.heap.size + 1 < w1.heap.size := by omega
    try have hl2_1 : w.heap.size + 2 < w1.heap.size := by omega
    try have hl3_1 : w.heap.size + 3 < w1.heap.size := by omega
    have hcx1 := hcx.on hb1
    have l0 := hcx1.2 0 _ rfl; have l1 := hcx1.2 1 _ rfl; have l2 := hcx1.2 2 _ rfl
    have l3 := hcx1.1
    clear qc1 qf1
    go_wp2_with fail
    refine (spec_with _ _ _ X _ _ _ i hi _ CX HL.out (ha.on hq1)).mono ?_
    rintro e w2 ⟨s, rfl, hb2, ho2⟩
    have hq2 : Below w.heap.size w w2 := below_call hq1 hb2
    have HO := hide ho2
    clear ho2
    go_wp2
    go_returns
    exact ⟨_, rfl, hq2, HO.out.base hq1.size⟩
set_option maxHeartbeats 1000000 in
theorem spec_mainO (A : Option Addr) (n c : Nat) (X : Nat → Nat → Int) (t f g : Int) (x : Int) (v : Bool) (hv : ((catB n X && linkB t f g) && inB x 0 ((n : Int) - 1)) = v) (q : Int) (hq : onlyI v (mainN n (rchX t f g X) (sizeS X) x.toNat : Nat) = q) (w : World) (hn : n ≤ 1048576) (ha : Arr w w.heap.size A n 4 (iv X)) :
    Calls Try.prog 19 #[.slice A n c, .agg #[.int .i64 t, .int .i64 f, .int .i64 g], .int .i64 x] w fun e w' => e = .returned (.tuple #[.int .i64 q, .bool v]) ∧ Below w.heap.size w w' := by
  have HV := hide hv; have HQ := hide hq
  clear hv hq
  have hba : Below w.heap.size w (w.alloc (.cells #[.int .i64 t, .int .i64 f, .int .i64 g] 30)) := below_al (Below.refl _ _)
  have hcx : Cells (w.alloc (.cells #[.int .i64 t, .int .i64 f, .int .i64 g] 30)) w.heap.size [.int .i64 t, .int .i64 f, .int .i64 g] := Cells.new w _ _ _ rfl
  cases v
  · skip
    obtain rfl : 0 = q := HQ.out
    go_enter Try.func19, Try.ntmps19
    go_wp2_with fail
    refine (spec_at19 _ _ _ X _ _ _ _ _ HV.out _ hn (ha.on hba)).mono ?_
    rintro e w1 ⟨rfl, hb1⟩
    obtain ⟨qc1, qf1⟩ := bcell hb1
    have hz1 := hb1.size
    try simp only [World.size_alloc, World.size_setCell, World.size_drew] at hz1
    have hq1 : Below w.heap.size w w1 := below_call (by go_grown) hb1
    try have hl0_1 : w.heap.size < w1.heap.size := by omega
    try have hl1_1 : w.heap.size + 1 < w1.heap.size := by omega
    try have hl2_1 : w.heap.size + 2 < w1.heap.size := by omega
    try have hl3_1 : w.heap.size + 3 < w1.heap.size := by omega
    go_wp2
    go_returns
    exact ⟨rfl, hq1⟩
  · skip
    have hv1 := and_lx HV.out
    have CX := catX_of (and_lx hv1)
    have HL := hide (link_of (and_rx hv1))
    obtain ⟨x0, x1⟩ := inB_of (and_rx HV.out)
    obtain ⟨i, rfl⟩ : ∃ i : Nat, x = i := ⟨x.toNat, by omega⟩
    have hi : i < n := by omega
    clear hv1 x0 x1
    obtain rfl : ((mainN n (rchX t f g X) (sizeS X) i : Nat) : Int) = q := HQ.out
    go_enter Try.func19, Try.ntmps19
    go_wp2_with fail
    refine (spec_at19 _ _ _ X _ _ _ _ _ HV.out _ hn (ha.on hba)).mono ?_
    rintro e w1 ⟨rfl, hb1⟩
    obtain ⟨qc1, qf1⟩ := bcell hb1
    have hz1 := hb1.size
    try simp only [World.size_alloc, World.size_setCell, World.size_drew] at hz1
    have hq1 : Below w.heap.size w w1 := below_call (by go_grown) hb1
    try have hl0_1 : w.heap.size < w1.heap.size := by omega
    try have hl1_1 : w.heap.size + 1 < w1.heap.size := by omega
    try have hl2_1 : w.heap.size + 2 < w1.heap.size := by omega
    try have hl3_1 : w.heap.size + 3 < w1.heap.size := by omega
    have hcx1 := hcx.on hb1
    have l0 := hcx1.2 0 _ rfl; have l1 := hcx1.2 1 _ rfl; have l2 := hcx1.2 2 _ rfl
    have l3 := hcx1.1
    clear qc1 qf1
    go_wp2_with fail
    refine (spec_main _ _ _ X _ _ _ i hi _ CX HL.out (ha.on hq1)).mono ?_
    rintro e w2 ⟨rfl, hb2⟩
    have hq2 : Below w.heap.size w w2 := below_call hq1 hb2
    go_wp2
    go_returns
    exact ⟨rfl, hq2⟩
set_option maxHeartbeats 1000000 in
theorem spec_mainsh (A : Option Addr) (n c : Nat) (X : Nat → Nat → Int) (t f g : Int) (v : Bool) (hv : (catB n X && linkB t f g) = v) (q : Nat) (hq : q = onlyN v (mainsL n (rchX t f g X) (sizeS X)).length) (w : World) (hn : n ≤ 1048576) (ha : Arr w w.heap.size A n 4 (iv X)) :
    Calls Try.prog 27 #[.slice A n c, .agg #[.int .i64 t, .int .i64 f, .int .i64 g]] w fun e w' => ∃ s, e = .returned (.tuple #[s, .bool v]) ∧ Below w.heap.size w w' ∧ Own w' w.heap.size 3 1 s q (iv fun p _ => ((mainsL n (rchX t f g X) (sizeS X)).getD p 0 : Nat)) := by
  have HV := hide hv; have HQ := hide hq
  clear hv hq
  have hba : Below w.heap.size w (w.alloc (.cells #[.int .i64 t, .int .i64 f, .int .i64 g] 30)) := below_al (Below.refl _ _)
  have hcx : Cells (w.alloc (.cells #[.int .i64 t, .int .i64 f, .int .i64 g] 30)) w.heap.size [.int .i64 t, .int .i64 f, .int .i64 g] := Cells.new w _ _ _ rfl
  cases h1 : (catB n X && linkB t f g)
  · obtain rfl : false = v := by rw [← HV.out, h1] <;> rfl
    have H1 := hide h1
    clear h1
    obtain rfl : q = 0 := HQ.out
    go_enter Try.func27, Try.ntmps27
    go_wp2_with fail
    refine (spec_asked19 _ _ _ X _ _ _ _ H1.out _ hn (ha.on hba)).mono ?_
    rintro e w1 ⟨rfl, hb1⟩
    obtain ⟨qc1, qf1⟩ := bcell hb1
    have hz1 := hb1.size
    try simp only [World.size_alloc, World.size_setCell, World.size_drew] at hz1
    have hq1 : Below w.heap.size w w1 := below_call (by go_grown) hb1
    try have hl0_1 : w.heap.size < w1.heap.size := by omega
    try have hl1_1 : w.heap.size + 1 < w1.heap.size := by omega
    try have hl2_1 : w.heap.size + 2 < w1.heap.size := by omega
    try have hl3_1 : w.heap.size + 3 < w1.heap.size := by omega
    go_wp2
    go_returns
    exact ⟨_, rfl, below_al hq1, own_new hq1.size⟩
  · skip
    obtain rfl : true = v := by rw [← HV.out, h1] <;> skip
    have CX := catX_of (and_lx h1)
    have HL := hide (link_of (and_rx h1))
    have H1 := hide h1
    clear h1
    obtain rfl : q = (mainsL n (rchX t f g X) (sizeS X)).length := HQ.out
    go_enter Try.func27, Try.ntmps27
    go_wp2_with fail
    refine (spec_asked19 _ _ _ X _ _ _ _ H1.out _ hn (ha.on hba)).mono ?_
    rintro e w1 ⟨rfl, hb1⟩
    obtain ⟨qc1, qf1⟩ := bcell hb1
    have hz1 := hb1.size
    try simp only [World.size_alloc, World.size_setCell, World.size_drew] at hz1
    have hq1 : Below w.heap.size w w1 := below_call (by go_grown) hb1
    try have hl0_1 : w.heap.size < w1.heap.size := by omega
    try have hl1_1 : w.heap.size + 1 < w1.heap.size := by omega
    try have hl2_1 : w.heap.size + 2 < w1.heap.size := by omega
    try have hl3_1 : w.heap.size + 3 < w1.heap.size := by omega
    have hcx1 := hcx.on hb1
    have l0 := hcx1.2 0 _ rfl; have l1 := hcx1.2 1 _ rfl; have l2 := hcx1.2 2 _ rfl
    have l3 := hcx1.1
    clear qc1 qf1
    go_wp2_with fail
    refine (spec_mains _ _ _ X _ _ _ _ CX HL.out (ha.on hq1)).mono ?_
    rintro e w2 ⟨s, rfl, hb2, ho2⟩
    have hq2 : Below w.heap.size w w2 := below_call hq1 hb2
    have HO := hide ho2
    clear ho2
    go_wp2
    go_returns
    exact ⟨_, rfl, hq2, HO.out.base hq1.size⟩
set_option maxHeartbeats 2000000 in
set_option maxRecDepth 100000 in
theorem spec_largest (A : Option Addr) (n c : Nat) (X : Nat → Nat → Int) (t f g : Int) (v : Bool) (hv : ((catB n X && linkB t f g) && decide (n ≠ 0)) = v) (q1 q2 : Int) (hq1 : onlyI v ((lgS n (rchX t f g X) n).1 : Nat) = q1) (hq2 : onlyI v ((lgS n (rchX t f g X) n).2 : Nat) = q2) (w : World) (hn : n ≤ 1048576) (ha : Arr w w.heap.size A n 4 (iv X)) :
    Calls Try.prog 14 #[.slice A n c, .agg #[.int .i64 t, .int .i64 f, .int .i64 g]] w fun e w' => e = .returned (.tuple #[.int .i64 q1, .int .i64 q2, .bool v]) ∧ Below w.heap.size w w' := by
  have HV := hide hv; have HQ1 := hide hq1; have HQ2 := hide hq2
  clear hv hq1 hq2
  have hba : Below w.heap.size w (w.alloc (.cells #[.int .i64 t, .int .i64 f, .int .i64 g] 30)) := below_al (Below.refl _ _)
  have hcx : Cells (w.alloc (.cells #[.int .i64 t, .int .i64 f, .int .i64 g] 30)) w.heap.size [.int .i64 t, .int .i64 f, .int .i64 g] := Cells.new w _ _ _ rfl
  cases h1 : (catB n X && linkB t f g)
  · obtain rfl : false = v := by rw [← HV.out, h1] <;> rfl
    have H1 := hide h1
    clear h1
    obtain rfl : 0 = q1 := HQ1.out
    obtain rfl : 0 = q2 := HQ2.out
    go_enter Try.func14, Try.ntmps14
    go_wp2_with fail
    refine (spec_asked19 _ _ _ X _ _ _ _ H1.out _ hn (ha.on hba)).mono ?_
    rintro e w1 ⟨rfl, hb1⟩
    obtain ⟨qc1, qf1⟩ := bcell hb1
    have hz1 := hb1.size
    try simp only [World.size_alloc, World.size_setCell, World.size_drew] at hz1
    have hq1 : Below w.heap.size w w1 := below_call (by go_grown) hb1
    try have hl0_1 : w.heap.size < w1.heap.size := by omega
    try have hl1_1 : w.heap.size + 1 < w1.heap.size := by omega
    try have hl2_1 : w.heap.size + 2 < w1.heap.size := by omega
    try have hl3_1 : w.heap.size + 3 < w1.heap.size := by omega
    go_wp2
    go_returns
    exact ⟨rfl, hq1⟩
  · skip
    by_cases h0 : n = 0
    · subst h0
      obtain rfl : false = v := by rw [← HV.out, h1] <;> rfl
      have H1 := hide h1
      clear h1
      obtain rfl : 0 = q1 := HQ1.out
      obtain rfl : 0 = q2 := HQ2.out
      go_enter Try.func14, Try.ntmps14
      go_wp2_with fail
      refine (spec_asked19 _ _ _ X _ _ _ _ H1.out _ hn (ha.on hba)).mono ?_
      rintro e w1 ⟨rfl, hb1⟩
      obtain ⟨qc1, qf1⟩ := bcell hb1
      have hz1 := hb1.size
      try simp only [World.size_alloc, World.size_setCell, World.size_drew] at hz1
      have hq1 : Below w.heap.size w w1 := below_call (by go_grown) hb1
      try have hl0_1 : w.heap.size < w1.heap.size := by omega
      try have hl1_1 : w.heap.size + 1 < w1.heap.size := by omega
      try have hl2_1 : w.heap.size + 2 < w1.heap.size := by omega
      try have hl3_1 : w.heap.size + 3 < w1.heap.size := by omega
      go_wp2
      go_returns
      exact ⟨rfl, hq1⟩
    · skip
      obtain rfl : true = v := by rw [← HV.out, h1] <;> simp [h0]
      have CX := catX_of (and_lx h1)
      have HL := hide (link_of (and_rx h1))
      have H1 := hide h1
      clear h1
      obtain ⟨r, hr⟩ : ∃ r, (rchX t f g X) = r := ⟨_, rfl⟩
      rw [hr] at HQ1 HQ2
      have HR := hide hr
      have hn0 : ((n : Int) == 0) = false := by simp; omega
      have n10 := CX.n10
      clear hr
      go_enter Try.func14, Try.ntmps14
      go_wp2_with fail
      refine (spec_asked19 _ _ _ X _ _ _ _ H1.out _ hn (ha.on hba)).mono ?_
      rintro e w1 ⟨rfl, hb1⟩
      obtain ⟨qc1, qf1⟩ := bcell hb1
      have hz1 := hb1.size
      try simp only [World.size_alloc, World.size_setCell, World.size_drew] at hz1
      have hq1 : Below w.heap.size w w1 := below_call (by go_grown) hb1
      try have hl0_1 : w.heap.size < w1.heap.size := by omega
      try have hl1_1 : w.heap.size + 1 < w1.heap.size := by omega
      try have hl2_1 : w.heap.size + 2 < w1.heap.size := by omega
      try have hl3_1 : w.heap.size + 3 < w1.heap.size := by omega
      have hcx1 := hcx.on hb1
      have l0 := hcx1.2 0 _ rfl; have l1 := hcx1.2 1 _ rfl; have l2 := hcx1.2 2 _ rfl
      have l3 := hcx1.1
      clear qc1 qf1
      have haw := ha.on hq1
      clear l0 l1 l2 l3 hcx ha
      go_wp2
      clear hn0
      go_loopw [7, 8, 9] (fun b mo y wr => ∃ k : Nat, k ≤ n ∧ y = .int .i64 k ∧ b = .int .i64 ((lgS n r k).1 : Nat) ∧ mo = .int .i64 ((lgS n r k).2 : Nat) ∧ Below w1.heap.size w1 wr) (fun _ _ y _ => n - (intOf y).toNat)
      case atStart => exact ⟨0, Nat.zero_le _, rfl, rfl, rfl, Below.refl _ _⟩
      case round =>
        obtain ⟨k, hk, rfl, rfl, rfl, hbw⟩ := hrel
        by_cases hlt : k < n
        · have hcr := hcx1.on hbw
          have l0 := hcr.2 0 _ rfl; have l1 := hcr.2 1 _ rfl; have l2 := hcr.2 2 _ rfl; have l3 := hcr.1
          obtain ⟨m, hm⟩ : ∃ m, (cluL n r k).length = m := ⟨_, rfl⟩
          have hm0 : 0 < m := by rw [← hm]; exact cluL_pos hlt
          go_wp2_with fail
          refine (spec_with _ _ _ X _ _ _ k hlt _ CX HL.out (haw.on hbw)).mono ?_
          rintro e w2 ⟨v2, rfl, hb2, ho2⟩
          rw [HR.out, hm] at ho2
          obtain ⟨A2, c2, rfl, hc2, ha2⟩ := ho2.arr
          have hbw2 : Below w1.heap.size w1 w2 := below_call hbw hb2
          have HM := hide hm
          clear hm ho2 l0 l1 l2
          obtain ⟨z1, hz1⟩ : ∃ z1, (lgS n r k).1 = z1 := ⟨_, rfl⟩
          obtain ⟨z2, hz2⟩ : ∃ z2, (lgS n r k).2 = z2 := ⟨_, rfl⟩
          rw [hz1, hz2]
          by_cases hg : z2 < m
          · have hl : lgS n r (k + 1) = (k, m) := by rw [lgS, HM.out, hz2, if_pos hg]
            have hf := lg_first hlt (by rw [HM.out, hz2]; exact hg)
            obtain ⟨b, off, rfl, hbb, hc⟩ := ha2 hm0
            have d0 := hc 0 0 hm0 (by omega)
            simp only [Nat.add_zero, Nat.mul_one, Nat.zero_mul, iv, hf] at d0
            have hm0' : (0 : Int) < (m : Int) := by omega
            clear hc hf
            have HLG := hide hl
            clear hl hz1 hz2
            go_wp2
            go_roundw
            case rel => exact ⟨k + 1, by omega, by go_num, by rw [HLG.out], by rw [HLG.out], hbw2⟩
            case measure => simp [intOf]; omega
          · have hl : lgS n r (k + 1) = (z1, z2) := by rw [lgS, HM.out, hz2, if_neg hg, ← hz1, ← hz2]
            have HLG := hide hl
            clear hl hz1 hz2 ha2
            go_wp2
            go_roundw
            case rel => exact ⟨k + 1, by omega, by go_num, by rw [HLG.out], by rw [HLG.out], hbw2⟩
            case measure => simp [intOf]; omega
        · obtain rfl : k = n := by omega
          obtain rfl : (((lgS k r k).1 : Nat) : Int) = q1 := HQ1.out
          obtain rfl : (((lgS k r k).2 : Nat) : Int) = q2 := HQ2.out
          clear haw
          go_wp2
          go_returns
          exact ⟨rfl, hq1.trans (hbw.mono hq1.size)⟩
set_option maxHeartbeats 1000000 in
theorem impl_clW (A : Option Addr) (n c : Nat) (X : Nat → Nat → Int) (t f g : Int) (x : Int) (v : Bool) (hv : ((catB n X && linkB t f g) && inB x 0 ((n : Int) - 1)) = v) (q : Nat) (hq : q = onlyN v (cluL n (rchX t f g X) x.toNat).length) (w : World) (hn : n ≤ 1048576) (ha : Arr w w.heap.size A n 4 (iv X)) :
    Calls Try.prog 22 #[.slice A n c, .agg #[.int .i64 t, .int .i64 f, .int .i64 g], .int .i64 x] w fun e w' => ∃ s, e = .returned (.tuple #[s, .bool v]) ∧ Below w.heap.size w w' ∧ Own w' w.heap.size 3 1 s q (iv fun p _ => ((cluL n (rchX t f g X) x.toNat).getD p 0 : Nat)) := by
  have HV := hide hv; have HQ := hide hq
  clear hv hq
  have hba : Below w.heap.size w (w.alloc (.cells #[.int .i64 t, .int .i64 f, .int .i64 g] 30)) := below_al (Below.refl _ _)
  have hcx : Cells (w.alloc (.cells #[.int .i64 t, .int .i64 f, .int .i64 g] 30)) w.heap.size [.int .i64 t, .int .i64 f, .int .i64 g] := Cells.new w _ _ _ rfl
  cases h1 : (catB n X && linkB t f g)
  · obtain rfl : false = v := by rw [← HV.out, h1] <;> rfl
    have H1 := hide h1
    clear h1
    obtain rfl : q = 0 := HQ.out
    go_enter Try.func22, Try.ntmps22
    go_wp2_with fail
    refine (impl_asked19 _ _ _ X _ _ _ _ H1.out _ hn (ha.on hba)).mono ?_
    rintro e w1 ⟨rfl, hb1⟩
    obtain ⟨qc1, qf1⟩ := bcell hb1
    have hz1 := hb1.size
    try simp only [World.size_alloc, World.size_setCell, World.size_drew] at hz1
    have hq1 : Below w.heap.size w w1 := below_call (by go_grown) hb1
    try have hl0_1 : w.heap.size < w1.heap.size := by omega
    try have hl1_1 : w.heap.size + 1 < w1.heap.size := by omega
    try have hl2_1 : w.heap.size + 2 < w1.heap.size := by omega
    try have hl3_1 : w.heap.size + 3 < w1.heap.size := by omega
    go_wp2
    go_returns
    exact ⟨_, rfl, hq1, own_nil _ _ _ _ _⟩
  · cases h2 : inB x 0 ((n : Int) - 1)
    · obtain rfl : false = v := by rw [← HV.out, h1, h2]; rfl
      have H1 := hide h1; have H2 := hide h2
      clear h1 h2
      obtain rfl : q = 0 := HQ.out
      go_enter Try.func22, Try.ntmps22
      go_wp2_with fail
      refine (impl_asked19 _ _ _ X _ _ _ _ H1.out _ hn (ha.on hba)).mono ?_
      rintro e w1 ⟨rfl, hb1⟩
      obtain ⟨qc1, qf1⟩ := bcell hb1
      have hz1 := hb1.size
      try simp only [World.size_alloc, World.size_setCell, World.size_drew] at hz1
      have hq1 : Below w.heap.size w w1 := below_call (by go_grown) hb1
      try have hl0_1 : w.heap.size < w1.heap.size := by omega
      try have hl1_1 : w.heap.size + 1 < w1.heap.size := by omega
      try have hl2_1 : w.heap.size + 2 < w1.heap.size := by omega
      try have hl3_1 : w.heap.size + 3 < w1.heap.size := by omega
      go_wp2_with fail
      refine (impl_in _ _ _ _ H2.out _).mono ?_
      rintro e u ⟨rfl, rfl⟩
      go_wp2
      go_returns
      exact ⟨_, rfl, hq1, own_nil _ _ _ _ _⟩
    · obtain rfl : true = v := by rw [← HV.out, h1, h2]; rfl
      have CX := catX_of (and_lx h1)
      have HL := hide (link_of (and_rx h1))
      obtain ⟨x0, x1⟩ := inB_of h2
      obtain ⟨i, rfl⟩ : ∃ i : Nat, x = i := ⟨x.toNat, by omega⟩
      have hi : i < n := by omega
      have H1 := hide h1; have H2 := hide h2
      clear h1 h2 x0 x1
      obtain rfl : q = (cluL n (rchX t f g X) i).length := HQ.out
      simp only [Int.toNat_natCast]
      go_enter Try.func22, Try.ntmps22
      go_wp2_with fail
      refine (impl_asked19 _ _ _ X _ _ _ _ H1.out _ hn (ha.on hba)).mono ?_
      rintro e w1 ⟨rfl, hb1⟩
      obtain ⟨qc1, qf1⟩ := bcell hb1
      have hz1 := hb1.size
      try simp only [World.size_alloc, World.size_setCell, World.size_drew] at hz1
      have hq1 : Below w.heap.size w w1 := below_call (by go_grown) hb1
      try have hl0_1 : w.heap.size < w1.heap.size := by omega
      try have hl1_1 : w.heap.size + 1 < w1.heap.size := by omega
      try have hl2_1 : w.heap.size + 2 < w1.heap.size := by omega
      try have hl3_1 : w.heap.size + 3 < w1.heap.size := by omega
      go_wp2_with fail
      refine (impl_in _ _ _ _ H2.out _).mono ?_
      rintro e u ⟨rfl, rfl⟩
      have hcx1 := hcx.on hb1
      have l0 := hcx1.2 0 _ rfl; have l1 := hcx1.2 1 _ rfl; have l2 := hcx1.2 2 _ rfl
      have l3 := hcx1.1
      clear qc1 qf1
      go_wp2_with fail
      refine (impl_with _ _ _ X _ _ _ i hi _ CX HL.out (ha.on hq1)).mono ?_
      rintro e w2 ⟨s, rfl, hb2, ho2⟩
      have hq2 : Below w.heap.size w w2 := below_call hq1 hb2
      have HO := hide ho2
      clear ho2
      go_wp2
      go_returns
      exact ⟨_, rfl, hq2, HO.out.base hq1.size⟩
set_option maxHeartbeats 1000000 in
theorem impl_mainO (A : Option Addr) (n c : Nat) (X : Nat → Nat → Int) (t f g : Int) (x : Int) (v : Bool) (hv : ((catB n X && linkB t f g) && inB x 0 ((n : Int) - 1)) = v) (q : Int) (hq : onlyI v (mainN n (rchX t f g X) (sizeS X) x.toNat : Nat) = q) (w : World) (hn : n ≤ 1048576) (ha : Arr w w.heap.size A n 4 (iv X)) :
    Calls Try.prog 20 #[.slice A n c, .agg #[.int .i64 t, .int .i64 f, .int .i64 g], .int .i64 x] w fun e w' => e = .returned (.tuple #[.int .i64 q, .bool v]) ∧ Below w.heap.size w w' := by
  have HV := hide hv; have HQ := hide hq
  clear hv hq
  have hba : Below w.heap.size w (w.alloc (.cells #[.int .i64 t, .int .i64 f, .int .i64 g] 30)) := below_al (Below.refl _ _)
  have hcx : Cells (w.alloc (.cells #[.int .i64 t, .int .i64 f, .int .i64 g] 30)) w.heap.size [.int .i64 t, .int .i64 f, .int .i64 g] := Cells.new w _ _ _ rfl
  cases h1 : (catB n X && linkB t f g)
  · obtain rfl : false = v := by rw [← HV.out, h1] <;> rfl
    have H1 := hide h1
    clear h1
    obtain rfl : 0 = q := HQ.out
    go_enter Try.func20, Try.ntmps20
    go_wp2_with fail
    refine (impl_asked19 _ _ _ X _ _ _ _ H1.out _ hn (ha.on hba)).mono ?_
    rintro e w1 ⟨rfl, hb1⟩
    obtain ⟨qc1, qf1⟩ := bcell hb1
    have hz1 := hb1.size
    try simp only [World.size_alloc, World.size_setCell, World.size_drew] at hz1
    have hq1 : Below w.heap.size w w1 := below_call (by go_grown) hb1
    try have hl0_1 : w.heap.size < w1.heap.size := by omega
    try have hl1_1 : w.heap.size + 1 < w1.heap.size := by omega
    try have hl2_1 : w.heap.size + 2 < w1.heap.size := by omega
    try have hl3_1 : w.heap.size + 3 < w1.heap.size := by omega
    go_wp2
    go_returns
    exact ⟨rfl, hq1⟩
  · cases h2 : inB x 0 ((n : Int) - 1)
    · obtain rfl : false = v := by rw [← HV.out, h1, h2]; rfl
      have H1 := hide h1; have H2 := hide h2
      clear h1 h2
      obtain rfl : 0 = q := HQ.out
      go_enter Try.func20, Try.ntmps20
      go_wp2_with fail
      refine (impl_asked19 _ _ _ X _ _ _ _ H1.out _ hn (ha.on hba)).mono ?_
      rintro e w1 ⟨rfl, hb1⟩
      obtain ⟨qc1, qf1⟩ := bcell hb1
      have hz1 := hb1.size
      try simp only [World.size_alloc, World.size_setCell, World.size_drew] at hz1
      have hq1 : Below w.heap.size w w1 := below_call (by go_grown) hb1
      try have hl0_1 : w.heap.size < w1.heap.size := by omega
      try have hl1_1 : w.heap.size + 1 < w1.heap.size := by omega
      try have hl2_1 : w.heap.size + 2 < w1.heap.size := by omega
      try have hl3_1 : w.heap.size + 3 < w1.heap.size := by omega
      go_wp2_with fail
      refine (impl_in _ _ _ _ H2.out _).mono ?_
      rintro e u ⟨rfl, rfl⟩
      go_wp2
      go_returns
      exact ⟨rfl, hq1⟩
    · obtain rfl : true = v := by rw [← HV.out, h1, h2]; rfl
      have CX := catX_of (and_lx h1)
      have HL := hide (link_of (and_rx h1))
      obtain ⟨x0, x1⟩ := inB_of h2
      obtain ⟨i, rfl⟩ : ∃ i : Nat, x = i := ⟨x.toNat, by omega⟩
      have hi : i < n := by omega
      have H1 := hide h1; have H2 := hide h2
      clear h1 h2 x0 x1
      obtain rfl : ((mainN n (rchX t f g X) (sizeS X) i : Nat) : Int) = q := HQ.out
      go_enter Try.func20, Try.ntmps20
      go_wp2_with fail
      refine (impl_asked19 _ _ _ X _ _ _ _ H1.out _ hn (ha.on hba)).mono ?_
      rintro e w1 ⟨rfl, hb1⟩
      obtain ⟨qc1, qf1⟩ := bcell hb1
      have hz1 := hb1.size
      try simp only [World.size_alloc, World.size_setCell, World.size_drew] at hz1
      have hq1 : Below w.heap.size w w1 := below_call (by go_grown) hb1
      try have hl0_1 : w.heap.size < w1.heap.size := by omega
      try have hl1_1 : w.heap.size + 1 < w1.heap.size := by omega
      try have hl2_1 : w.heap.size + 2 < w1.heap.size := by omega
      try have hl3_1 : w.heap.size + 3 < w1.heap.size := by omega
      go_wp2_with fail
      refine (impl_in _ _ _ _ H2.out _).mono ?_
      rintro e u ⟨rfl, rfl⟩
      have hcx1 := hcx.on hb1
      have l0 := hcx1.2 0 _ rfl; have l1 := hcx1.2 1 _ rfl; have l2 := hcx1.2 2 _ rfl
      have l3 := hcx1.1
      clear qc1 qf1
      go_wp2_with fail
      refine (impl_main _ _ _ X _ _ _ i hi _ CX HL.out (ha.on hq1)).mono ?_
      rintro e w2 ⟨rfl, hb2⟩
      have hq2 : Below w.heap.size w w2 := below_call hq1 hb2
      go_wp2
      go_returns
      exact ⟨rfl, hq2⟩
set_option maxHeartbeats 1000000 in
theorem impl_mainsh (A : Option Addr) (n c : Nat) (X : Nat → Nat → Int) (t f g : Int) (v : Bool) (hv : (catB n X && linkB t f g) = v) (q : Nat) (hq : q = onlyN v (mainsL n (rchX t f g X) (sizeS X)).length) (w : World) (hn : n ≤ 1048576) (ha : Arr w w.heap.size A n 4 (iv X)) :
    Calls Try.prog 28 #[.slice A n c, .agg #[.int .i64 t, .int .i64 f, .int .i64 g]] w fun e w' => ∃ s, e = .returned (.tuple #[s, .bool v]) ∧ Below w.heap.size w w' ∧ Own w' w.heap.size 3 1 s q (iv fun p _ => ((mainsL n (rchX t f g X) (sizeS X)).getD p 0 : Nat)) := by
  have HV := hide hv; have HQ := hide hq
  clear hv hq
  have hba : Below w.heap.size w (w.alloc (.cells #[.int .i64 t, .int .i64 f, .int .i64 g] 30)) := below_al (Below.refl _ _)
  have hcx : Cells (w.alloc (.cells #[.int .i64 t, .int .i64 f, .int .i64 g] 30)) w.heap.size [.int .i64 t, .int .i64 f, .int .i64 g] := Cells.new w _ _ _ rfl
  cases h1 : (catB n X && linkB t f g)
  · obtain rfl : false = v := by rw [← HV.out, h1] <;> rfl
    have H1 := hide h1
    clear h1
    obtain rfl : q = 0 := HQ.out
    go_enter Try.func28, Try.ntmps28
    go_wp2_with fail
    refine (impl_asked19 _ _ _ X _ _ _ _ H1.out _ hn (ha.on hba)).mono ?_
    rintro e w1 ⟨rfl, hb1⟩
    obtain ⟨qc1, qf1⟩ := bcell hb1
    have hz1 := hb1.size
    try simp only [World.size_alloc, World.size_setCell, World.size_drew] at hz1
    have hq1 : Below w.heap.size w w1 := below_call (by go_grown) hb1
    try have hl0_1 : w.heap.size < w1.heap.size := by omega
    try have hl1_1 : w.heap.size + 1 < w1.heap.size := by omega
    try have hl2_1 : w.heap.size + 2 < w1.heap.size := by omega
    try have hl3_1 : w.heap.size + 3 < w1.heap.size := by omega
    go_wp2
    go_returns
    exact ⟨_, rfl, hq1, own_nil _ _ _ _ _⟩
  · skip
    obtain rfl : true = v := by rw [← HV.out, h1] <;> skip
    have CX := catX_of (and_lx h1)
    have HL := hide (link_of (and_rx h1))
    have H1 := hide h1
    clear h1
    obtain rfl : q = (mainsL n (rchX t f g X) (sizeS X)).length := HQ.out
    go_enter Try.func28, Try.ntmps28
    go_wp2_with fail
    refine (impl_asked19 _ _ _ X _ _ _ _ H1.out _ hn (ha.on hba)).mono ?_
    rintro e w1 ⟨rfl, hb1⟩
    obtain ⟨qc1, qf1⟩ := bcell hb1
    have hz1 := hb1.size
    try simp only [World.size_alloc, World.size_setCell, World.size_drew] at hz1
    have hq1 : Below w.heap.size w w1 := below_call (by go_grown) hb1
    try have hl0_1 : w.heap.size < w1.heap.size := by omega
    try have hl1_1 : w.heap.size + 1 < w1.heap.size := by omega
    try have hl2_1 : w.heap.size + 2 < w1.heap.size := by omega
    try have hl3_1 : w.heap.size + 3 < w1.heap.size := by omega
    have hcx1 := hcx.on hb1
    have l0 := hcx1.2 0 _ rfl; have l1 := hcx1.2 1 _ rfl; have l2 := hcx1.2 2 _ rfl
    have l3 := hcx1.1
    clear qc1 qf1
    go_wp2_with fail
    refine (impl_mains _ _ _ X _ _ _ _ CX HL.out (ha.on hq1)).mono ?_
    rintro e w2 ⟨s, rfl, hb2, ho2⟩
    have hq2 : Below w.heap.size w w2 := below_call hq1 hb2
    have HO := hide ho2
    clear ho2
    go_wp2
    go_returns
    exact ⟨_, rfl, hq2, HO.out.base hq1.size⟩
set_option maxHeartbeats 2000000 in
set_option maxRecDepth 100000 in
theorem impl_largest (A : Option Addr) (n c : Nat) (X : Nat → Nat → Int) (t f g : Int) (v : Bool) (hv : ((catB n X && linkB t f g) && decide (n ≠ 0)) = v) (q1 q2 : Int) (hq1 : onlyI v ((lgS n (rchX t f g X) n).1 : Nat) = q1) (hq2 : onlyI v ((lgS n (rchX t f g X) n).2 : Nat) = q2) (w : World) (hn : n ≤ 1048576) (ha : Arr w w.heap.size A n 4 (iv X)) :
    Calls Try.prog 17 #[.slice A n c, .agg #[.int .i64 t, .int .i64 f, .int .i64 g]] w fun e w' => e = .returned (.tuple #[.int .i64 q1, .int .i64 q2, .bool v]) ∧ Below w.heap.size w w' := by
  have HV := hide hv; have HQ1 := hide hq1; have HQ2 := hide hq2
  clear hv hq1 hq2
  have hba : Below w.heap.size w (w.alloc (.cells #[.int .i64 t, .int .i64 f, .int .i64 g] 30)) := below_al (Below.refl _ _)
  have hcx : Cells (w.alloc (.cells #[.int .i64 t, .int .i64 f, .int .i64 g] 30)) w.heap.size [.int .i64 t, .int .i64 f, .int .i64 g] := Cells.new w _ _ _ rfl
  cases h1 : (catB n X && linkB t f g)
  · obtain rfl : false = v := by rw [← HV.out, h1] <;> rfl
    have H1 := hide h1
    clear h1
    obtain rfl : 0 = q1 := HQ1.out
    obtain rfl : 0 = q2 := HQ2.out
    go_enter Try.func17, Try.ntmps17
    go_wp2_with fail
    refine (impl_asked19 _ _ _ X _ _ _ _ H1.out _ hn (ha.on hba)).mono ?_
    rintro e w1 ⟨rfl, hb1⟩
    obtain ⟨qc1, qf1⟩ := bcell hb1
    have hz1 := hb1.size
    try simp only [World.size_alloc, World.size_setCell, World.size_drew] at hz1
    have hq1 : Below w.heap.size w w1 := below_call (by go_grown) hb1
    try have hl0_1 : w.heap.size < w1.heap.size := by omega
    try have hl1_1 : w.heap.size + 1 < w1.heap.size := by omega
    try have hl2_1 : w.heap.size + 2 < w1.heap.size := by omega
    try have hl3_1 : w.heap.size + 3 < w1.heap.size := by omega
    go_wp2
    go_returns
    exact ⟨rfl, hq1⟩
  · skip
    by_cases h0 : n = 0
    · subst h0
      obtain rfl : false = v := by rw [← HV.out, h1] <;> rfl
      have H1 := hide h1
      clear h1
      obtain rfl : 0 = q1 := HQ1.out
      obtain rfl : 0 = q2 := HQ2.out
      go_enter Try.func17, Try.ntmps17
      go_wp2_with fail
      refine (impl_asked19 _ _ _ X _ _ _ _ H1.out _ hn (ha.on hba)).mono ?_
      rintro e w1 ⟨rfl, hb1⟩
      obtain ⟨qc1, qf1⟩ := bcell hb1
      have hz1 := hb1.size
      try simp only [World.size_alloc, World.size_setCell, World.size_drew] at hz1
      have hq1 : Below w.heap.size w w1 := below_call (by go_grown) hb1
      try have hl0_1 : w.heap.size < w1.heap.size := by omega
      try have hl1_1 : w.heap.size + 1 < w1.heap.size := by omega
      try have hl2_1 : w.heap.size + 2 < w1.heap.size := by omega
      try have hl3_1 : w.heap.size + 3 < w1.heap.size := by omega
      go_wp2
      go_returns
      exact ⟨rfl, hq1⟩
    · skip
      obtain rfl : true = v := by rw [← HV.out, h1] <;> simp [h0]
      have CX := catX_of (and_lx h1)
      have HL := hide (link_of (and_rx h1))
      have H1 := hide h1
      clear h1
      obtain ⟨r, hr⟩ : ∃ r, (rchX t f g X) = r := ⟨_, rfl⟩
      rw [hr] at HQ1 HQ2
      have HR := hide hr
      have hn0 : ((n : Int) == 0) = false := by simp; omega
      have n10 := CX.n10
      clear hr
      go_enter Try.func17, Try.ntmps17
      go_wp2_with fail
      refine (impl_asked19 _ _ _ X _ _ _ _ H1.out _ hn (ha.on hba)).mono ?_
      rintro e w1 ⟨rfl, hb1⟩
      obtain ⟨qc1, qf1⟩ := bcell hb1
      have hz1 := hb1.size
      try simp only [World.size_alloc, World.size_setCell, World.size_drew] at hz1
      have hq1 : Below w.heap.size w w1 := below_call (by go_grown) hb1
      try have hl0_1 : w.heap.size < w1.heap.size := by omega
      try have hl1_1 : w.heap.size + 1 < w1.heap.size := by omega
      try have hl2_1 : w.heap.size + 2 < w1.heap.size := by omega
      try have hl3_1 : w.heap.size + 3 < w1.heap.size := by omega
      have hcx1 := hcx.on hb1
      have l0 := hcx1.2 0 _ rfl; have l1 := hcx1.2 1 _ rfl; have l2 := hcx1.2 2 _ rfl
      have l3 := hcx1.1
      clear qc1 qf1
      have haw := ha.on hq1
      clear l0 l1 l2 l3 hcx ha
      go_wp2
      clear hn0
      go_loopw [7, 8, 22] (fun b mo y wr => ∃ k : Nat, k ≤ n ∧ y = .int .i64 k ∧ b = .int .i64 ((lgS n r k).1 : Nat) ∧ mo = .int .i64 ((lgS n r k).2 : Nat) ∧ Below w1.heap.size w1 wr) (fun _ _ y _ => n - (intOf y).toNat)
      case atStart => exact ⟨0, Nat.zero_le _, rfl, rfl, rfl, Below.refl _ _⟩
      case round =>
        obtain ⟨k, hk, rfl, rfl, rfl, hbw⟩ := hrel
        by_cases hlt : k < n
        · have hcr := hcx1.on hbw
          have l0 := hcr.2 0 _ rfl; have l1 := hcr.2 1 _ rfl; have l2 := hcr.2 2 _ rfl; have l3 := hcr.1
          obtain ⟨m, hm⟩ : ∃ m, (cluL n r k).length = m := ⟨_, rfl⟩
          have hm0 : 0 < m := by rw [← hm]; exact cluL_pos hlt
          go_wp2_with fail
          refine (impl_with _ _ _ X _ _ _ k hlt _ CX HL.out (haw.on hbw)).mono ?_
          rintro e w2 ⟨v2, rfl, hb2, ho2⟩
          rw [HR.out, hm] at ho2
          obtain ⟨A2, c2, rfl, hc2, ha2⟩ := ho2.arr
          have hbw2 : Below w1.heap.size w1 w2 := below_call hbw hb2
          have HM := hide hm
          clear hm ho2 l0 l1 l2
          obtain ⟨z1, hz1⟩ : ∃ z1, (lgS n r k).1 = z1 := ⟨_, rfl⟩
          obtain ⟨z2, hz2⟩ : ∃ z2, (lgS n r k).2 = z2 := ⟨_, rfl⟩
          rw [hz1, hz2]
          by_cases hg : z2 < m
          · have hl : lgS n r (k + 1) = (k, m) := by rw [lgS, HM.out, hz2, if_pos hg]
            have HLG := hide hl
            clear hl hz1 hz2 ha2
            go_wp2
            go_roundw
            case rel => exact ⟨k + 1, by omega, by go_num, by rw [HLG.out], by rw [HLG.out], hbw2⟩
            case measure => simp [intOf]; omega
          · have hl : lgS n r (k + 1) = (z1, z2) := by rw [lgS, HM.out, hz2, if_neg hg, ← hz1, ← hz2]
            have HLG := hide hl
            clear hl hz1 hz2 ha2
            go_wp2
            go_roundw
            case rel => exact ⟨k + 1, by omega, by go_num, by rw [HLG.out], by rw [HLG.out], hbw2⟩
            case measure => simp [intOf]; omega
        · obtain rfl : k = n := by omega
          obtain rfl : (((lgS k r k).1 : Nat) : Int) = q1 := HQ1.out
          obtain rfl : (((lgS k r k).2 : Nat) : Int) = q2 := HQ2.out
          clear haw
          go_wp2
          go_returns
          exact ⟨rfl, hq1.trans (hbw.mono hq1.size)⟩
end Go.Proofs.Ythpagjkkccimiaa
