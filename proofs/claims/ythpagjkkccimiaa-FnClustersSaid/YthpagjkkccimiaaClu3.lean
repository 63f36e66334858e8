/- Chapter 19: aftershocks and what is left, both sides. -/
import Derived.Test.YthpagjkkccimiaaClu2
namespace Go.Proofs.Ythpagjkkccimiaa
open Go.RowKit
set_option linter.unusedVariables false
set_option linter.unusedSimpArgs false

set_option maxHeartbeats 2000000 in
set_option maxRecDepth 100000 in
theorem spec_aft (A : Option Addr) (n c : Nat) (X : Nat → Nat → Int) (t f g : Int) (x : Int) (v : Bool) (hv : ((catB n X && linkB t f g) && inB x 0 ((n : Int) - 1)) = v) (q : Nat) (hq : q = onlyN v (aftL n (rchX t f g X) (sizeS X) x.toNat).length) (w : World) (hn : n ≤ 1048576) (ha : Arr w w.heap.size A n 4 (iv X)) :
    Calls Try.prog 29 #[.slice A n c, .agg #[.int .i64 t, .int .i64 f, .int .i64 g], .int .i64 x] w fun e w' => ∃ s, e = .returned (.tuple #[s, .bool v]) ∧ Below w.heap.size w w' ∧ Own w' w.heap.size 3 1 s q (iv fun p _ => ((aftL n (rchX t f g X) (sizeS X) x.toNat).getD p 0 : Nat)) := by
  obtain ⟨i0, hi0, hy0, hy1, hy2⟩ := info_parts info_int
  have HV := hide hv; have HQ := hide hq
  clear hv hq
  have hba : Below w.heap.size w ((w.alloc (.cells #[.int .i64 t, .int .i64 f, .int .i64 g] 30)).alloc (.cells #[] 3)) := below_al (below_al (Below.refl _ _))
  have hcx : Cells ((w.alloc (.cells #[.int .i64 t, .int .i64 f, .int .i64 g] 30)).alloc (.cells #[] 3)) w.heap.size [.int .i64 t, .int .i64 f, .int .i64 g] := (Cells.new w _ _ _ rfl).alloc _
  cases v
  · obtain rfl : q = 0 := HQ.out
    go_enter Try.func29, Try.ntmps29
    go_wp2_with fail
    refine (spec_at19 _ _ _ X _ _ _ _ _ HV.out _ hn (ha.on hba)).mono ?_
    rintro e w1 ⟨rfl, hb1⟩
    obtain ⟨qc1, qf1⟩ := bcell hb1
    have hz1 := hb1.size
    try simp only [World.size_alloc, World.size_setCell, World.size_drew] at hz1
    have hq1 : Below w.heap.size w w1 := below_call (by go_grown) hb1
    try have hl0_1 : w.heap.size < w1.heap.size := by omega
    try have hl1_1 : w.heap.size + 1 < w1.heap.size := by omega
    try have hl2_1 : w.heap.size + 2 < w1.heap.size := by omega
    try have hl3_1 : w.heap.size + 3 < w1.heap.size := by omega
    go_wp2
    go_returns
    exact ⟨_, rfl, hq1, Own.base ((own_new_at _ _ _ _ _ _ (by simp) (Nat.le_refl _)).below hb1 (Nat.le_refl _)) (by simp)⟩
  · have hv1 := and_lx HV.out
    have CX := catX_of (and_lx hv1)
    have n10 := CX.n10
    have HL := hide (link_of (and_rx hv1))
    obtain ⟨x0, x1⟩ := inB_of (and_rx HV.out)
    obtain ⟨i, rfl⟩ : ∃ i : Nat, x = i := ⟨x.toNat, by omega⟩
    have hi : i < n := by omega
    clear hv1 x0 x1
    obtain ⟨r, hr⟩ : ∃ r, (rchX t f g X) = r := ⟨_, rfl⟩
    simp only [Int.toNat_natCast] at HQ ⊢
    rw [hr] at HQ ⊢
    obtain ⟨z, hz⟩ : ∃ z, mainN n r (sizeS X) i = z := ⟨_, rfl⟩
    obtain ⟨L, hL⟩ : ∃ L, cluL n r i = L := ⟨_, rfl⟩
    obtain ⟨PP, hPP⟩ : ∃ PP : Nat → Bool, (fun k => decide (z < k)) = PP := ⟨_, rfl⟩
    have e : aftL n r (sizeS X) i = L.filter PP := by rw [← hL, ← hPP, ← hz]; rfl
    rw [e] at HQ ⊢
    obtain ⟨m, hm⟩ : ∃ m, L.length = m := ⟨_, rfl⟩
    have hm10 : m ≤ 10 := by rw [← hm, ← hL]; exact Nat.le_trans (cluL_len n r i) n10
    have hm0 : 0 < m := by rw [← hm, ← hL]; exact cluL_pos hi
    obtain ⟨Q, hQ⟩ : ∃ Q, (L.filter PP).length = Q := ⟨_, rfl⟩
    obtain rfl : q = Q := (HQ.out).trans hQ
    have hPe : ∀ k, PP k = decide (z < k) := fun k => by rw [← hPP]
    have HPE := hide hPe; have HR := hide hr; have HZ := hide hz; have HLL := hide hL; have HM := hide hm; have HQQ := hide hQ
    clear hPe hPP hr hz hL hm hQ e HQ
    go_enter Try.func29, Try.ntmps29
    go_wp2_with fail
    refine (spec_at19 _ _ _ X _ _ _ _ _ HV.out _ hn (ha.on hba)).mono ?_
    rintro e w1 ⟨rfl, hb1⟩
    obtain ⟨qc1, qf1⟩ := bcell hb1
    have hz1 := hb1.size
    try simp only [World.size_alloc, World.size_setCell, World.size_drew] at hz1
    have hq1 : Below w.heap.size w w1 := below_call (by go_grown) hb1
    try have hl0_1 : w.heap.size < w1.heap.size := by omega
    try have hl1_1 : w.heap.size + 1 < w1.heap.size := by omega
    try have hl2_1 : w.heap.size + 2 < w1.heap.size := by omega
    try have hl3_1 : w.heap.size + 3 < w1.heap.size := by omega
    have hcx1 := hcx.on hb1
    have l0 := hcx1.2 0 _ rfl; have l1 := hcx1.2 1 _ rfl; have l2 := hcx1.2 2 _ rfl
    have l3 := hcx1.1
    have hrow := row_below (row_new_at (w.alloc (.cells #[.int .i64 t, .int .i64 f, .int .i64 g] 30)) (w.heap.size + 1) (w.heap.size + 1) 1 3 (by simp) (by simp)) (hb1 : Below ((w.alloc (.cells #[.int .i64 t, .int .i64 f, .int .i64 g] 30)).alloc (.cells #[] 3)).heap.size _ _)
    have hw1 : w.heap.size + 1 < w1.heap.size := by have := hb1.size; simp only [World.size_alloc] at this; omega
    clear qc1 qf1
    have hsS1 := S_of ((Below.refl w1.heap.size w1).drew)
    have HWW := hide hrow
    clear hrow
    go_wp2_with fail
    go_region_held3 (fun w' => (∀ b o, b < w1.heap.size → w'.cell? ⟨b, o, none⟩ = w1.cell? ⟨b, o, none⟩) ∧ Below w1.heap.size w1 w') (assumption) (first | ((go_at_call 77); (refine (spec_with _ _ _ X _ _ _ i hi _ CX HL.out (ha.on (below_call hq1 (by go_grown)))).mono ?_); (rintro e w2 ⟨s2, rfl, hb2, ho2⟩); (rw [HR.out, HLL.out, HM.out] at ho2); (obtain ⟨gb, cap, rfl, hgb, hmc, hcl⟩ := (own_cells ho2 HM.out).resolve_left (fun h => by omega)); (have hs2 : Below w1.heap.size w1 w2 := below_call (by go_grown) hb2); (have hS2 := S_of (below_call (Below.refl _ _).drew hb2))) | ((go_at_call 83); (refine (spec_main _ _ _ X _ _ _ i hi _ CX HL.out (ha.on (below_call (hq1.trans (hs2.mono hq1.size)) (by go_grown)))).mono ?_); (rintro e w3 ⟨rfl, hb3⟩); (rw [HR.out, HZ.out]); (have hs3 : Below w2.heap.size w2 w3 := below_call (by go_grown) hb3); (have hS3 := S_of (below_call hS2.2 hb3))))
    clear hS2 hS3 hsS1
    simp only [World.size_drew] at hgb
    have hq2 : Below w.heap.size w w2 := hq1.trans (hs2.mono hq1.size)
    have hq3 : Below w.heap.size w w3 := hq2.trans (hs3.mono hq2.size)
    have hcl3 := hcl.on hs3
    have hrow3 := row_below (row_below HWW.out hs2) hs3
    have hz2 := hs2.size
    have hz3 := hs3.size
    have hg3 := hcl.1
    clear l0 l1 l2 l3 hcx1 hba hcx hcl ho2
    have HRW := hide hrow3
    clear hrow3
    go_wp2
    go_loopw [8, 11] (fun s y wr => ∃ (k p : Nat), k ≤ m ∧ p ≤ k ∧ y = .int .i64 k ∧ p = ((L.take k).filter PP).length ∧ Below w.heap.size w wr ∧ w3.heap.size ≤ wr.heap.size ∧ Cells wr gb (nl L) ∧ Lies (w.heap.size + 1) w3.heap.size s ∧ wr.ownsRow (w.heap.size + 1) 3 1 s p (nl ((L.take k).filter PP))) (fun _ y _ => m - (intOf y).toNat)
    case atStart => exact ⟨0, 0, Nat.zero_le _, Nat.le_refl _, rfl, rfl, hq3, Nat.le_refl _, hcl3, fun g hg => .inl (by injection hg with e; exact e.symm), HRW.out⟩
    case round =>
      clear hcl3
      obtain ⟨k, p, hk, hpk, rfl, hp, hbw, hw3, hcl, hli, hown⟩ := hrel
      have HP := hide hp; have HO := hide hown; have HLI := hide hli
      clear hp hown hli
      by_cases hlt : k < m
      · obtain ⟨y, hy⟩ : ∃ y, L.getD k 0 = y := ⟨_, rfl⟩
        have d0 := cells_nl hcl (k := k) (by rw [HM.out]; exact hlt)
        rw [hy] at d0
        have HY := hide hy
        have hkm : k < cap := by omega
        have hgw := hcl.1
        clear hy
        by_cases hzy : (z : Int) < (y : Int)
        · have hs := take_yes (P := PP) (by rw [HM.out]; exact hlt) HY.out (by rw [HPE.out]; simp; omega)
          have HS := hide hs
          have hown2 := HO.out
          clear hs
          go_wp2_with (at_builtin; refine wpList_append_far _ rfl _ _ 37 rfl (w.heap.size + 1) 3 i0 (.int .i64 0) 1 8 Try.underlying37 hi0 hy0 hy1 hy2 rfl (by decide) _ _ _ rfl (hown2.alloc _) ⟨wr.heap.size, 0, none⟩ 1 1 [.int .i64 (y : Int)] rfl rfl ?c1 ?c2 ?c3 ?c4 ?c5 ?_)
          case c1 => exact cell_one_at _ _ _ _ rfl
          case c2 => intro u hu; simp only [List.mem_singleton] at hu; subst hu; rfl
          case c3 => unfold maxLen; omega
          case c4 => omega
          case c5 => simp only [World.size_alloc]; omega
          intro v3 w4 hown4 hgrow4 hf4
          have hlt4 := hown2.lt
          have hb4 := (below_al (o := .cells #[.int .i64 (y : Int)] 3) hbw).grown hgrow4 (by simp only [World.size_alloc]; omega) (fun gg hg => by have := (hlt4 gg hg).1; omega)
          have hcl4 := (hcl.alloc (.cells #[.int .i64 (y : Int)] 3)).apart2 hgrow4 (fun e => HLI.out.ne (by omega) (by omega) e.symm)
          have hli4 := HLI.out.app hf4 (by first | omega | (simp only [World.size_alloc]; omega))
          have hw4 : w3.heap.size ≤ w4.heap.size := by have := hgrow4.size; simp only [World.size_alloc] at this; omega
          have hrow4 : w4.ownsRow (w.heap.size + 1) 3 1 v3 (p + 1) (nl ((L.take (k + 1)).filter PP)) := by rw [HS.out, ← nl_app]; exact hown4
          have hp4 : p + 1 = ((L.take (k + 1)).filter PP).length := by rw [HS.out]; simp; exact HP.out
          have R1 := hide hrow4; have R2 := hide hb4; have R3 := hide hp4; have R4 := hide hcl4; have R5 := hide hli4
          clear hown2 hown4 hgrow4 hlt4 hb4 hrow4 hp4 hcl4 hli4 hf4 d0
          go_wp2
          go_roundw
          case rel => exact ⟨k + 1, p + 1, by omega, by omega, by go_num, R3.out, R2.out, hw4, R4.out, R5.out, R1.out⟩
          case measure => simp [intOf]; omega
        · have hs := take_no (P := PP) (by rw [HM.out]; exact hlt) HY.out (by rw [HPE.out]; simp; omega)
          have HS := hide hs
          clear hs
          go_wp2
          go_roundw
          case rel => exact ⟨k + 1, p, by omega, by omega, by go_num, by rw [HS.out]; exact HP.out, hbw, hw3, hcl, HLI.out, by rw [HS.out]; exact HO.out⟩
          case measure => simp [intOf]; omega
      · obtain rfl : k = m := by omega
        have htk : L.take k = L := List.take_of_length_le (by rw [HM.out]; exact Nat.le_refl _)
        have hO := HO.out
        have hP2 := HP.out
        rw [htk] at hO hP2
        obtain rfl : q = p := by rw [hP2, HQQ.out]
        have HW := hide (own_of_nl hP2 hO)
        clear hO hP2 htk hcl
        go_wp2
        go_returns
        exact ⟨_, rfl, hbw, HW.out.base (by omega)⟩
set_option maxHeartbeats 2000000 in
set_option maxRecDepth 100000 in
theorem impl_aft (A : Option Addr) (n c : Nat) (X : Nat → Nat → Int) (t f g : Int) (x : Int) (v : Bool) (hv : ((catB n X && linkB t f g) && inB x 0 ((n : Int) - 1)) = v) (q : Nat) (hq : q = onlyN v (aftL n (rchX t f g X) (sizeS X) x.toNat).length) (w : World) (hn : n ≤ 1048576) (ha : Arr w w.heap.size A n 4 (iv X)) :
    Calls Try.prog 30 #[.slice A n c, .agg #[.int .i64 t, .int .i64 f, .int .i64 g], .int .i64 x] w fun e w' => ∃ s, e = .returned (.tuple #[s, .bool v]) ∧ Below w.heap.size w w' ∧ Own w' w.heap.size 3 1 s q (iv fun p _ => ((aftL n (rchX t f g X) (sizeS X) x.toNat).getD p 0 : Nat)) := by
  have HV := hide hv; have HQ := hide hq
  clear hv hq
  have hba : Below w.heap.size w (w.alloc (.cells #[.int .i64 t, .int .i64 f, .int .i64 g] 30)) := below_al (Below.refl _ _)
  have hcx : Cells (w.alloc (.cells #[.int .i64 t, .int .i64 f, .int .i64 g] 30)) w.heap.size [.int .i64 t, .int .i64 f, .int .i64 g] := Cells.new w _ _ _ rfl
  cases h1 : (catB n X && linkB t f g)
  · obtain rfl : false = v := by rw [← HV.out, h1] <;> rfl
    have H1 := hide h1
    clear h1
    obtain rfl : q = 0 := HQ.out
    go_enter Try.func30, Try.ntmps30
    go_wp2_with fail
    refine (impl_asked19 _ _ _ X _ _ _ _ H1.out _ hn (ha.on hba)).mono ?_
    rintro e w1 ⟨rfl, hb1⟩
    obtain ⟨qc1, qf1⟩ := bcell hb1
    have hz1 := hb1.size
    try simp only [World.size_alloc, World.size_setCell, World.size_drew] at hz1
    have hq1 : Below w.heap.size w w1 := below_call (by go_grown) hb1
    try have hl0_1 : w.heap.size < w1.heap.size := by omega
    try have hl1_1 : w.heap.size + 1 < w1.heap.size := by omega
    try have hl2_1 : w.heap.size + 2 < w1.heap.size := by omega
    try have hl3_1 : w.heap.size + 3 < w1.heap.size := by omega
    go_wp2
    go_returns
    exact ⟨_, rfl, hq1, own_nil _ _ _ _ _⟩
  · cases h2 : inB x 0 ((n : Int) - 1)
    · obtain rfl : false = v := by rw [← HV.out, h1, h2]; rfl
      have H1 := hide h1; have H2 := hide h2
      clear h1 h2
      obtain rfl : q = 0 := HQ.out
      go_enter Try.func30, Try.ntmps30
      go_wp2_with fail
      refine (impl_asked19 _ _ _ X _ _ _ _ H1.out _ hn (ha.on hba)).mono ?_
      rintro e w1 ⟨rfl, hb1⟩
      obtain ⟨qc1, qf1⟩ := bcell hb1
      have hz1 := hb1.size
      try simp only [World.size_alloc, World.size_setCell, World.size_drew] at hz1
      have hq1 : Below w.heap.size w w1 := below_call (by go_grown) hb1
      try have hl0_1 : w.heap.size < w1.heap.size := by omega
      try have hl1_1 : w.heap.size + 1 < w1.heap.size := by omega
      try have hl2_1 : w.heap.size + 2 < w1.heap.size := by omega
      try have hl3_1 : w.heap.size + 3 < w1.heap.size := by omega
      go_wp2_with fail
      refine (impl_in _ _ _ _ H2.out _).mono ?_
      rintro e u ⟨rfl, rfl⟩
      go_wp2
      go_returns
      exact ⟨_, rfl, hq1, own_nil _ _ _ _ _⟩
    · obtain rfl : true = v := by rw [← HV.out, h1, h2]; rfl
      have CX := catX_of (and_lx h1)
      have HL := hide (link_of (and_rx h1))
      obtain ⟨x0, x1⟩ := inB_of h2
      obtain ⟨i, rfl⟩ : ∃ i : Nat, x = i := ⟨x.toNat, by omega⟩
      have hi : i < n := by omega
      have H1 := hide h1; have H2 := hide h2
      have n10 := CX.n10
      clear h1 h2 x0 x1
      obtain ⟨r, hr⟩ : ∃ r, (rchX t f g X) = r := ⟨_, rfl⟩
      simp only [Int.toNat_natCast] at HQ ⊢
      rw [hr] at HQ ⊢
      obtain ⟨z, hz⟩ : ∃ z, mainN n r (sizeS X) i = z := ⟨_, rfl⟩
      obtain ⟨L, hL⟩ : ∃ L, cluL n r i = L := ⟨_, rfl⟩
      have e : aftL n r (sizeS X) i = L.filter (fun k => decide (z < k)) := by rw [← hL, ← hz]; rfl
      rw [e] at HQ ⊢
      obtain ⟨m, hm⟩ : ∃ m, L.length = m := ⟨_, rfl⟩
      have hm10 : m ≤ 10 := by rw [← hm, ← hL]; exact Nat.le_trans (cluL_len n r i) n10
      obtain rfl : q = (L.filter (fun k => decide (z < k))).length := HQ.out
      have HR := hide hr; have HZ := hide hz; have HLL := hide hL; have HM := hide hm
      clear hr hz hL hm e HQ
      go_enter Try.func30, Try.ntmps30
      go_wp2_with fail
      refine (impl_asked19 _ _ _ X _ _ _ _ H1.out _ hn (ha.on hba)).mono ?_
      rintro e w1 ⟨rfl, hb1⟩
      obtain ⟨qc1, qf1⟩ := bcell hb1
      have hz1 := hb1.size
      try simp only [World.size_alloc, World.size_setCell, World.size_drew] at hz1
      have hq1 : Below w.heap.size w w1 := below_call (by go_grown) hb1
      try have hl0_1 : w.heap.size < w1.heap.size := by omega
      try have hl1_1 : w.heap.size + 1 < w1.heap.size := by omega
      try have hl2_1 : w.heap.size + 2 < w1.heap.size := by omega
      try have hl3_1 : w.heap.size + 3 < w1.heap.size := by omega
      go_wp2_with fail
      refine (impl_in _ _ _ _ H2.out _).mono ?_
      rintro e u ⟨rfl, rfl⟩
      have hcx1 := hcx.on hb1
      have l0 := hcx1.2 0 _ rfl; have l1 := hcx1.2 1 _ rfl; have l2 := hcx1.2 2 _ rfl
      have l3 := hcx1.1
      clear qc1 qf1
      go_wp2_with fail
      refine (impl_main _ _ _ X _ _ _ i hi _ CX HL.out (ha.on hq1)).mono ?_
      rintro e w2 ⟨rfl, hb2⟩
      rw [HR.out, HZ.out]
      have hq2 : Below w.heap.size w w2 := below_call hq1 hb2
      have hcx2 := hcx1.on hb2
      clear l0 l1 l2 l3
      have hcy : Cells (w2.alloc (.cells #[.int .i64 (z : Int)] 3)) w2.heap.size [.int .i64 (z : Int)] := Cells.new w2 _ _ _ rfl
      have hq2' : Below w.heap.size w (w2.alloc (.cells #[.int .i64 (z : Int)] 3)) := below_al hq2
      have hcx3 := hcx2.alloc (.cells #[.int .i64 (z : Int)] 3)
      have l0 := hcx2.2 0 _ rfl; have l1 := hcx2.2 1 _ rfl; have l2 := hcx2.2 2 _ rfl
      have l3 := hcx2.1
      go_wp2_with fail
      refine (impl_with _ _ _ X _ _ _ i hi _ CX HL.out (ha.on hq2')).mono ?_
      rintro e w3 ⟨s3, rfl, hb3, ho3⟩
      rw [HR.out, HLL.out, HM.out] at ho3
      have hq3 : Below w.heap.size w w3 := below_call hq2' hb3
      obtain ⟨A3, c3, rfl, hc3, ha3⟩ := ho3.arr
      have hcy3 := hcy.on hb3
      clear l0 l1 l2 l3 ho3
      go_wp2_with fail
      refine (filter_after _ m _ L z w2.heap.size _ (by omega) HM.out ha3 hcy3).mono ?_
      rintro e w4 ⟨s4, rfl, hb4, ho4⟩
      have hq4 : Below w.heap.size w w4 := below_call hq3 hb4
      have HO := hide ho4
      clear ho4
      go_wp2
      go_returns
      exact ⟨_, rfl, hq4, HO.out.base hq3.size⟩
/-! what is left -/
def decF (X : Nat → Nat → Int) (L : List Nat) (p j : Nat) : Int := X (L.getD p 0) j
def rowX (X : Nat → Nat → Int) (k : Nat) : List Value := [.int .i64 (X k 0), .int .i64 (X k 1), .int .i64 (X k 2), .int .i64 (X k 3)]
theorem rowX_get (X : Nat → Nat → Int) (L : List Nat) : ∀ i j (hi : i < L.length), j < 4 → (rowX X L[i])[j]? = some (iv (decF X L) i j) := by
  intro i j hi hj
  have e : L.getD i 0 = L[i] := by simp [List.getD, hi]
  unfold iv decF
  rw [e]
  rcases (by omega : j = 0 ∨ j = 1 ∨ j = 2 ∨ j = 3) with rfl | rfl | rfl | rfl <;> rfl
theorem own_decl {w : World} {base n : Nat} {E : TypeId} {v : Value} {X : Nat → Nat → Int} {L : List Nat} (hn : n = L.length) (h : w.ownsRow base E 4 v n (L.flatMap (rowX X))) : Own w base E 4 v n (iv (decF X L)) :=
  own_of_rows hn (fun _ => rfl) (rowX_get X L) h
theorem take_snoc {L : List Nat} {k y : Nat} (hk : k < L.length) (hy : L.getD k 0 = y) : L.take (k + 1) = L.take k ++ [y] := by
  have e : L[k] = y := by rw [← hy]; simp [List.getD, hk]
  rw [List.take_succ_eq_append_getElem hk, e]
set_option maxHeartbeats 4000000 in
set_option maxRecDepth 100000 in
theorem spec_decl (A : Option Addr) (n c : Nat) (X : Nat → Nat → Int) (t f g : Int) (v : Bool) (hv : (catB n X && linkB t f g) = v) (q : Nat) (hq : q = onlyN v (mainsL n (rchX t f g X) (sizeS X)).length) (w : World) (hn : n ≤ 1048576) (ha : Arr w w.heap.size A n 4 (iv X)) :
    Calls Try.prog 31 #[.slice A n c, .agg #[.int .i64 t, .int .i64 f, .int .i64 g]] w fun e w' => ∃ s, e = .returned (.tuple #[s, .bool v]) ∧ Below w.heap.size w w' ∧ Own w' w.heap.size 60 4 s q (iv (decF X (mainsL n (rchX t f g X) (sizeS X)))) := by
  obtain ⟨i0, hi0, hy0, hy1, hy2⟩ := info_parts info_quake
  have HV := hide hv; have HQ := hide hq
  clear hv hq
  have hba : Below w.heap.size w ((w.alloc (.cells #[.int .i64 t, .int .i64 f, .int .i64 g] 30)).alloc (.cells #[] 60)) := below_al (below_al (Below.refl _ _))
  have hcx : Cells ((w.alloc (.cells #[.int .i64 t, .int .i64 f, .int .i64 g] 30)).alloc (.cells #[] 60)) w.heap.size [.int .i64 t, .int .i64 f, .int .i64 g] := (Cells.new w _ _ _ rfl).alloc _
  cases v
  · obtain rfl : q = 0 := HQ.out
    go_enter Try.func31, Try.ntmps31
    go_wp2_with fail
    refine (spec_asked19 _ _ _ X _ _ _ _ HV.out _ hn (ha.on hba)).mono ?_
    rintro e w1 ⟨rfl, hb1⟩
    obtain ⟨qc1, qf1⟩ := bcell hb1
    have hz1 := hb1.size
    try simp only [World.size_alloc, World.size_setCell, World.size_drew] at hz1
    have hq1 : Below w.heap.size w w1 := below_call (by go_grown) hb1
    try have hl0_1 : w.heap.size < w1.heap.size := by omega
    try have hl1_1 : w.heap.size + 1 < w1.heap.size := by omega
    try have hl2_1 : w.heap.size + 2 < w1.heap.size := by omega
    try have hl3_1 : w.heap.size + 3 < w1.heap.size := by omega
    go_wp2
    go_returns
    exact ⟨_, rfl, hq1, Own.base ((own_new_at _ _ _ _ _ _ (by simp) (Nat.le_refl _)).below hb1 (Nat.le_refl _)) (by simp)⟩
  · have CX := catX_of (and_lx HV.out)
    have n10 := CX.n10
    have HL := hide (link_of (and_rx HV.out))
    obtain ⟨r, hr⟩ : ∃ r, (rchX t f g X) = r := ⟨_, rfl⟩
    rw [hr] at HQ ⊢
    obtain ⟨L, hL⟩ : ∃ L, mainsL n r (sizeS X) = L := ⟨_, rfl⟩
    have hLn : ∀ k, k < L.length → L.getD k 0 < n := by rw [← hL]; exact fun k hk => mainsL_get hk
    rw [hL] at HQ ⊢
    obtain ⟨m, hm⟩ : ∃ m, L.length = m := ⟨_, rfl⟩
    have hm10 : m ≤ 10 := by rw [← hm, ← hL]; exact Nat.le_trans (mainsL_len n r _) n10
    obtain rfl : q = m := (HQ.out).trans hm
    have HR := hide hr; have HLL := hide hL; have HM := hide hm; have HLN := hide hLn
    clear hr hL hm hLn HQ
    go_enter Try.func31, Try.ntmps31
    go_wp2_with fail
    refine (spec_asked19 _ _ _ X _ _ _ _ HV.out _ hn (ha.on hba)).mono ?_
    rintro e w1 ⟨rfl, hb1⟩
    obtain ⟨qc1, qf1⟩ := bcell hb1
    have hz1 := hb1.size
    try simp only [World.size_alloc, World.size_setCell, World.size_drew] at hz1
    have hq1 : Below w.heap.size w w1 := below_call (by go_grown) hb1
    try have hl0_1 : w.heap.size < w1.heap.size := by omega
    try have hl1_1 : w.heap.size + 1 < w1.heap.size := by omega
    try have hl2_1 : w.heap.size + 2 < w1.heap.size := by omega
    try have hl3_1 : w.heap.size + 3 < w1.heap.size := by omega
    have hcx1 := hcx.on hb1
    have hrow := row_below (row_new_at (w.alloc (.cells #[.int .i64 t, .int .i64 f, .int .i64 g] 30)) (w.heap.size + 1) (w.heap.size + 1) 4 60 (by simp) (by simp)) (hb1 : Below ((w.alloc (.cells #[.int .i64 t, .int .i64 f, .int .i64 g] 30)).alloc (.cells #[] 60)).heap.size _ _)
    have hw1 : w.heap.size + 1 < w1.heap.size := by have := hb1.size; simp only [World.size_alloc] at this; omega
    have hqv := hq1; have hcv := hcx1; have hgv : w.heap.size + 1 < w1.heap.size := hw1
    have l0 := hcx1.2 0 _ rfl; have l1 := hcx1.2 1 _ rfl; have l2 := hcx1.2 2 _ rfl
    have l3 := hcx1.1; have hsz1 := hq1.size
    clear qc1 qf1
    go_wp2_with fail
    refine (spec_mains _ _ _ X _ _ _ _ CX HL.out (ha.on hqv)).mono ?_
    rintro e w2 ⟨s2, rfl, hb2, ho2⟩
    rw [HR.out, HLL.out, HM.out] at ho2
    have hq2 : Below w.heap.size w w2 := below_call hqv hb2
    have hrow2 := row_below hrow hb2
    have hz2 : (w.heap.size + 1) < w2.heap.size := by have := hb2.size; omega
    have HAA := hide ha
    have HRW := hide hrow2
    clear l0 l1 l2 l3 hrow hrow2 hcx1 hcv hcx hba ha
    obtain ⟨rfl, rfl⟩ | ⟨gb, cap, rfl, hgb, hmc, hcl⟩ := own_cells ho2 HM.out
    · have hL0 : L = [] := List.eq_nil_of_length_eq_zero HM.out
      go_wp2
      go_loopw [6, 8] (fun s y wr => y = .int .i64 0 ∧ wr = w2 ∧ w2.ownsRow (w.heap.size + 1) 60 4 s 0 []) (fun _ _ _ => 0)
      case atStart => exact ⟨rfl, rfl, HRW.out⟩
      case round =>
        obtain ⟨rfl, rfl, hown⟩ := hrel
        have HW := hide hown
        clear hown
        go_wp2
        go_returns
        exact ⟨_, rfl, hq2, (own_decl (X := X) (L := L) (by rw [hL0]; rfl) (by rw [hL0]; exact HW.out)).base (by omega)⟩
    · have hgb2 := hcl.1
      have hgb3 : (w.heap.size + 1) < gb := by omega
      clear ho2
      go_wp2
      go_loopw [6, 8] (fun s y wr => ∃ k : Nat, k ≤ q ∧ y = .int .i64 k ∧ Below w.heap.size w wr ∧ w2.heap.size ≤ wr.heap.size ∧ Cells wr gb (nl L) ∧ Lies (w.heap.size + 1) w2.heap.size s ∧ wr.ownsRow (w.heap.size + 1) 60 4 s k ((L.take k).flatMap (rowX X))) (fun _ y _ => q - (intOf y).toNat)
      case atStart => exact ⟨0, Nat.zero_le _, rfl, hq2, Nat.le_refl _, hcl, fun g hg => .inl (by injection hg with e; exact e.symm), HRW.out⟩
      case round =>
        clear hcl
        obtain ⟨k, hk, rfl, hbw, hw3, hcl, hli, hown⟩ := hrel
        have HO := hide hown; have HLI := hide hli
        clear hown hli
        by_cases hlt : k < q
        · obtain ⟨y, hy⟩ : ∃ y, L.getD k 0 = y := ⟨_, rfl⟩
          have d0 := cells_nl hcl (k := k) (by rw [HM.out]; exact hlt)
          have hyn : y < n := by rw [← hy]; exact HLN.out k (by rw [HM.out]; exact hlt)
          rw [hy] at d0
          have hs : L.take (k + 1) = L.take k ++ [y] := take_snoc (by rw [HM.out]; exact hlt) hy
          have HS := hide hs
          have hgw := hcl.1
          obtain ⟨b, off, rfl, hbb, hc⟩ := HAA.out (by omega)
          have e0 := (hbw.cell (p := ⟨b, _, none⟩) hbb).trans (hc y 0 hyn (by omega)); have e1 := (hbw.cell (p := ⟨b, _, none⟩) hbb).trans (hc y 1 hyn (by omega)); have e2 := (hbw.cell (p := ⟨b, _, none⟩) hbb).trans (hc y 2 hyn (by omega)); have e3 := (hbw.cell (p := ⟨b, _, none⟩) hbb).trans (hc y 3 hyn (by omega))
          simp only [Nat.add_zero, iv] at e0 e1 e2 e3
          have hbl : b < wr.heap.size := by have := hbw.size; omega
          have hown2 := HO.out
          clear hs hy hc
          go_wp2_with (at_builtin; refine wpList_append_far _ rfl _ _ 28 rfl (w.heap.size + 1) 60 i0 (.agg #[.int .i64 0, .int .i64 0, .int .i64 0, .int .i64 0]) 4 32 Try.underlying28 hi0 hy0 hy1 hy2 rfl (by decide) _ _ _ rfl (hown2.alloc _) ⟨wr.heap.size, 0, none⟩ 1 1 (rowX X y) rfl rfl ?c1 ?c2 ?c3 ?c4 ?c5 ?_)
          case c1 => exact cells_at wr _ _ _ rfl
          case c2 => intro u hu; simp only [rowX, List.mem_cons, List.not_mem_nil, or_false] at hu; rcases hu with rfl | rfl | rfl | rfl <;> rfl
          case c3 => unfold maxLen; omega
          case c4 => omega
          case c5 => simp only [World.size_alloc]; omega
          intro v3 w4 hown4 hgrow4 hf4
          have hlt4 := hown2.lt
          have hb4 := (below_al (o := .cells (rowX X y).toArray 60) hbw).grown hgrow4 (by simp only [World.size_alloc]; omega) (fun gg hg => by have := (hlt4 gg hg).1; omega)
          have hcl4 := (hcl.alloc (.cells (rowX X y).toArray 60)).apart2 hgrow4 (fun e => HLI.out.ne (by omega) (by omega) e.symm)
          have hli4 := HLI.out.app hf4 (by first | omega | (simp only [World.size_alloc]; omega))
          have hw4 : w2.heap.size ≤ w4.heap.size := by have := hgrow4.size; simp only [World.size_alloc] at this; omega
          have hrow4 : w4.ownsRow (w.heap.size + 1) 60 4 v3 (k + 1) ((L.take (k + 1)).flatMap (rowX X)) := by rw [HS.out, ← flat_snoc]; exact hown4
          have R1 := hide hrow4; have R2 := hide hb4; have R4 := hide hcl4; have R5 := hide hli4
          clear hown2 hown4 hgrow4 hlt4 hb4 hrow4 hcl4 hli4 hf4 d0 e0 e1 e2 e3
          go_wp2
          go_roundw
          case rel => exact ⟨k + 1, by omega, by go_num, R2.out, hw4, R4.out, R5.out, R1.out⟩
          case measure => simp [intOf]; omega
        · obtain rfl : k = q := by omega
          have hO := HO.out
          rw [List.take_of_length_le (by rw [HM.out]; exact Nat.le_refl _)] at hO
          have HW := hide (own_decl HM.out.symm hO)
          clear hO hcl
          go_wp2
          go_returns
          exact ⟨_, rfl, hbw, HW.out.base (by omega)⟩
set_option maxHeartbeats 4000000 in
set_option maxRecDepth 100000 in
theorem impl_decl (A : Option Addr) (n c : Nat) (X : Nat → Nat → Int) (t f g : Int) (v : Bool) (hv : (catB n X && linkB t f g) = v) (q : Nat) (hq : q = onlyN v (mainsL n (rchX t f g X) (sizeS X)).length) (w : World) (hn : n ≤ 1048576) (ha : Arr w w.heap.size A n 4 (iv X)) :
    Calls Try.prog 32 #[.slice A n c, .agg #[.int .i64 t, .int .i64 f, .int .i64 g]] w fun e w' => ∃ s, e = .returned (.tuple #[s, .bool v]) ∧ Below w.heap.size w w' ∧ Own w' w.heap.size 60 4 s q (iv (decF X (mainsL n (rchX t f g X) (sizeS X)))) := by
  obtain ⟨i0, hi0, hy0, hy1, hy2⟩ := info_parts info_quake
  have HV := hide hv; have HQ := hide hq
  clear hv hq
  have hba : Below w.heap.size w (w.alloc (.cells #[.int .i64 t, .int .i64 f, .int .i64 g] 30)) := below_al (Below.refl _ _)
  have hcx : Cells (w.alloc (.cells #[.int .i64 t, .int .i64 f, .int .i64 g] 30)) w.heap.size [.int .i64 t, .int .i64 f, .int .i64 g] := Cells.new w _ _ _ rfl
  cases v
  · obtain rfl : q = 0 := HQ.out
    go_enter Try.func32, Try.ntmps32
    go_wp2_with fail
    refine (impl_asked19 _ _ _ X _ _ _ _ HV.out _ hn (ha.on hba)).mono ?_
    rintro e w1 ⟨rfl, hb1⟩
    obtain ⟨qc1, qf1⟩ := bcell hb1
    have hz1 := hb1.size
    try simp only [World.size_alloc, World.size_setCell, World.size_drew] at hz1
    have hq1 : Below w.heap.size w w1 := below_call (by go_grown) hb1
    try have hl0_1 : w.heap.size < w1.heap.size := by omega
    try have hl1_1 : w.heap.size + 1 < w1.heap.size := by omega
    try have hl2_1 : w.heap.size + 2 < w1.heap.size := by omega
    try have hl3_1 : w.heap.size + 3 < w1.heap.size := by omega
    go_wp2
    go_returns
    exact ⟨_, rfl, hq1, own_nil _ _ _ _ _⟩
  · have CX := catX_of (and_lx HV.out)
    have n10 := CX.n10
    have HL := hide (link_of (and_rx HV.out))
    obtain ⟨r, hr⟩ : ∃ r, (rchX t f g X) = r := ⟨_, rfl⟩
    rw [hr] at HQ ⊢
    obtain ⟨L, hL⟩ : ∃ L, mainsL n r (sizeS X) = L := ⟨_, rfl⟩
    have hLn : ∀ k, k < L.length → L.getD k 0 < n := by rw [← hL]; exact fun k hk => mainsL_get hk
    rw [hL] at HQ ⊢
    obtain ⟨m, hm⟩ : ∃ m, L.length = m := ⟨_, rfl⟩
    have hm10 : m ≤ 10 := by rw [← hm, ← hL]; exact Nat.le_trans (mainsL_len n r _) n10
    obtain rfl : q = m := (HQ.out).trans hm
    have HR := hide hr; have HLL := hide hL; have HM := hide hm; have HLN := hide hLn
    clear hr hL hm hLn HQ
    go_enter Try.func32, Try.ntmps32
    go_wp2_with fail
    refine (impl_asked19 _ _ _ X _ _ _ _ HV.out _ hn (ha.on hba)).mono ?_
    rintro e w1 ⟨rfl, hb1⟩
    obtain ⟨qc1, qf1⟩ := bcell hb1
    have hz1 := hb1.size
    try simp only [World.size_alloc, World.size_setCell, World.size_drew] at hz1
    have hq1 : Below w.heap.size w w1 := below_call (by go_grown) hb1
    try have hl0_1 : w.heap.size < w1.heap.size := by omega
    try have hl1_1 : w.heap.size + 1 < w1.heap.size := by omega
    try have hl2_1 : w.heap.size + 2 < w1.heap.size := by omega
    try have hl3_1 : w.heap.size + 3 < w1.heap.size := by omega
    have hcx1 := hcx.on hb1
    have hqv : Below w.heap.size w (w1.alloc (.cells #[] 60)) := below_al hq1
    have hcv := hcx1.alloc (.cells #[] 60)
    have hrow := row_new_at w1 w1.heap.size w1.heap.size 4 60 rfl (Nat.le_refl _)
    have l0 := hcx1.2 0 _ rfl; have l1 := hcx1.2 1 _ rfl; have l2 := hcx1.2 2 _ rfl
    have l3 := hcx1.1; have hsz1 := hq1.size
    clear qc1 qf1
    go_wp2_with fail
    refine (impl_mains _ _ _ X _ _ _ _ CX HL.out (ha.on hqv)).mono ?_
    rintro e w2 ⟨s2, rfl, hb2, ho2⟩
    rw [HR.out, HLL.out, HM.out] at ho2
    have hq2 : Below w.heap.size w w2 := below_call hqv hb2
    have hrow2 := row_below hrow hb2
    have hz2 : w1.heap.size < w2.heap.size := by have := hb2.size; simp only [World.size_alloc] at this; omega
    have HAA := hide ha
    have HRW := hide hrow2
    clear l0 l1 l2 l3 hrow hrow2 hcx1 hcv hcx hba ha
    obtain ⟨rfl, rfl⟩ | ⟨gb, cap, rfl, hgb, hmc, hcl⟩ := own_cells ho2 HM.out
    · have hL0 : L = [] := List.eq_nil_of_length_eq_zero HM.out
      go_wp2
      go_loopw [6, 18] (fun s y wr => y = .int .i64 0 ∧ wr = w2 ∧ w2.ownsRow w1.heap.size 60 4 s 0 []) (fun _ _ _ => 0)
      case atStart => exact ⟨rfl, rfl, HRW.out⟩
      case round =>
        obtain ⟨rfl, rfl, hown⟩ := hrel
        have HW := hide hown
        clear hown
        go_wp2
        go_returns
        exact ⟨_, rfl, hq2, (own_decl (X := X) (L := L) (by rw [hL0]; rfl) (by rw [hL0]; exact HW.out)).base (by omega)⟩
    · have hgb2 := hcl.1
      have hgb3 : w1.heap.size < gb := by simp only [World.size_alloc] at hgb; omega
      clear ho2
      go_wp2
      go_loopw [6, 18] (fun s y wr => ∃ k : Nat, k ≤ q ∧ y = .int .i64 k ∧ Below w.heap.size w wr ∧ w2.heap.size ≤ wr.heap.size ∧ Cells wr gb (nl L) ∧ Lies w1.heap.size w2.heap.size s ∧ wr.ownsRow w1.heap.size 60 4 s k ((L.take k).flatMap (rowX X))) (fun _ y _ => q - (intOf y).toNat)
      case atStart => exact ⟨0, Nat.zero_le _, rfl, hq2, Nat.le_refl _, hcl, fun g hg => .inl (by injection hg with e; exact e.symm), HRW.out⟩
      case round =>
        clear hcl
        obtain ⟨k, hk, rfl, hbw, hw3, hcl, hli, hown⟩ := hrel
        have HO := hide hown; have HLI := hide hli
        clear hown hli
        by_cases hlt : k < q
        · obtain ⟨y, hy⟩ : ∃ y, L.getD k 0 = y := ⟨_, rfl⟩
          have d0 := cells_nl hcl (k := k) (by rw [HM.out]; exact hlt)
          have hyn : y < n := by rw [← hy]; exact HLN.out k (by rw [HM.out]; exact hlt)
          rw [hy] at d0
          have hs : L.take (k + 1) = L.take k ++ [y] := take_snoc (by rw [HM.out]; exact hlt) hy
          have HS := hide hs
          have hgw := hcl.1
          obtain ⟨b, off, rfl, hbb, hc⟩ := HAA.out (by omega)
          have e0 := (hbw.cell (p := ⟨b, _, none⟩) hbb).trans (hc y 0 hyn (by omega)); have e1 := (hbw.cell (p := ⟨b, _, none⟩) hbb).trans (hc y 1 hyn (by omega)); have e2 := (hbw.cell (p := ⟨b, _, none⟩) hbb).trans (hc y 2 hyn (by omega)); have e3 := (hbw.cell (p := ⟨b, _, none⟩) hbb).trans (hc y 3 hyn (by omega))
          simp only [Nat.add_zero, iv] at e0 e1 e2 e3
          have hbl : b < wr.heap.size := by have := hbw.size; omega
          have hown2 := HO.out
          clear hs hy hc
          go_wp2_with (at_builtin; refine wpList_append_far _ rfl _ _ 28 rfl w1.heap.size 60 i0 (.agg #[.int .i64 0, .int .i64 0, .int .i64 0, .int .i64 0]) 4 32 Try.underlying28 hi0 hy0 hy1 hy2 rfl (by decide) _ _ _ rfl (hown2.alloc _) ⟨wr.heap.size, 0, none⟩ 1 1 (rowX X y) rfl rfl ?c1 ?c2 ?c3 ?c4 ?c5 ?_)
          case c1 => exact cells_at wr _ _ _ rfl
          case c2 => intro u hu; simp only [rowX, List.mem_cons, List.not_mem_nil, or_false] at hu; rcases hu with rfl | rfl | rfl | rfl <;> rfl
          case c3 => unfold maxLen; omega
          case c4 => omega
          case c5 => simp only [World.size_alloc]; omega
          intro v3 w4 hown4 hgrow4 hf4
          have hlt4 := hown2.lt
          have hb4 := (below_al (o := .cells (rowX X y).toArray 60) hbw).grown hgrow4 (by simp only [World.size_alloc]; omega) (fun gg hg => by have := (hlt4 gg hg).1; omega)
          have hcl4 := (hcl.alloc (.cells (rowX X y).toArray 60)).apart2 hgrow4 (fun e => HLI.out.ne (by omega) (by omega) e.symm)
          have hli4 := HLI.out.app hf4 (by first | omega | (simp only [World.size_alloc]; omega))
          have hw4 : w2.heap.size ≤ w4.heap.size := by have := hgrow4.size; simp only [World.size_alloc] at this; omega
          have hrow4 : w4.ownsRow w1.heap.size 60 4 v3 (k + 1) ((L.take (k + 1)).flatMap (rowX X)) := by rw [HS.out, ← flat_snoc]; exact hown4
          have R1 := hide hrow4; have R2 := hide hb4; have R4 := hide hcl4; have R5 := hide hli4
          clear hown2 hown4 hgrow4 hlt4 hb4 hrow4 hcl4 hli4 hf4 d0 e0 e1 e2 e3
          go_wp2
          go_roundw
          case rel => exact ⟨k + 1, by omega, by go_num, R2.out, hw4, R4.out, R5.out, R1.out⟩
          case measure => simp [intOf]; omega
        · obtain rfl : k = q := by omega
          have hO := HO.out
          rw [List.take_of_length_le (by rw [HM.out]; exact Nat.le_refl _)] at hO
          have HW := hide (own_decl HM.out.symm hO)
          clear hO hcl
          go_wp2
          go_returns
          exact ⟨_, rfl, hbw, HW.out.base (by omega)⟩
end Go.Proofs.Ythpagjkkccimiaa
