/- Chapter 23: late errands, and the most late one: the program's side. -/
import Derived.Test.YtfdgnjnnbhelgaaVisM
import Derived.IntWalk
namespace Go.Proofs.Ytfdgnjnnbhelgaa
open Go.RowKit
set_option linter.unusedVariables false
set_option linter.unusedSimpArgs false

set_option maxHeartbeats 1000000 in
set_option maxRecDepth 100000 in
theorem impl_late (A B : Option Addr) (n c m d : Nat) (X Y : Nat → Nat → Int) (ok : Bool) (q : Nat) (hq : q = onlyN ok (lateL X Y m).length) (hok : (planB n m Y && errsB n X) = ok) (w : World) (hn : n ≤ 1048576) (hm : m ≤ 1048576) (ha : Arr w w.heap.size A n 4 (iv X)) (hb : Arr w w.heap.size B m 1 (iv Y)) :
    Calls Try.prog 67 #[.slice A n c, .slice B m d] w fun e w' => ∃ v, e = .returned (.tuple #[v, .bool ok]) ∧ Below w.heap.size w w' ∧ Own w' w.heap.size 3 1 v q (iv (lf (lateL X Y m))) := by
  have HQ := hide hq; have HK := hide hok
  clear hq hok
  obtain ⟨s, hs⟩ : ∃ s, errsB n X = s := ⟨_, rfl⟩
  obtain ⟨t, ht⟩ : ∃ t, planB n m Y = t := ⟨_, rfl⟩
  have HS := hide hs; have HT := hide ht
  clear hs ht
  cases s
  · obtain rfl : false = ok := by rw [← HK.out, HS.out]; simp
    go_enter Try.func67, Try.ntmps67
    go_wp2_with fail
    refine (impl_errs _ _ _ X _ HS.out _ hn ha).mono ?_
    rintro e w1 ⟨rfl, hb1⟩
    obtain ⟨qc1, qf1⟩ := bcell hb1
    have hz1 := hb1.size
    try simp only [World.size_alloc, World.size_setCell, World.size_drew] at hz1
    have hq1 : Below w.heap.size w w1 := below_call (by go_grown) hb1
    try have hl0_1 : w.heap.size < w1.heap.size := by omega
    try have hl1_1 : w.heap.size + 1 < w1.heap.size := by omega
    try have hl2_1 : w.heap.size + 2 < w1.heap.size := by omega
    try have hl3_1 : w.heap.size + 3 < w1.heap.size := by omega
    go_wp2
    go_returns
    obtain rfl : q = 0 := HQ.out
    exact ⟨_, rfl, hq1, .inl ⟨rfl, rfl⟩⟩
  · cases t
    · obtain rfl : false = ok := by rw [← HK.out, HS.out, HT.out]; rfl
      go_enter Try.func67, Try.ntmps67
      go_wp2_with fail
      refine (impl_errs _ _ _ X _ HS.out _ hn ha).mono ?_
      rintro e w1 ⟨rfl, hb1⟩
      obtain ⟨qc1, qf1⟩ := bcell hb1
      have hz1 := hb1.size
      try simp only [World.size_alloc, World.size_setCell, World.size_drew] at hz1
      have hq1 : Below w.heap.size w w1 := below_call (by go_grown) hb1
      try have hl0_1 : w.heap.size < w1.heap.size := by omega
      try have hl1_1 : w.heap.size + 1 < w1.heap.size := by omega
      try have hl2_1 : w.heap.size + 2 < w1.heap.size := by omega
      try have hl3_1 : w.heap.size + 3 < w1.heap.size := by omega
      go_wp2_with fail
      refine (impl_isPlan0 A _ n c _ _ Y _ HT.out _ hn hm (hb.on hq1)).mono ?_
      rintro e w2 ⟨rfl, hb2⟩
      obtain ⟨qc2, qf2⟩ := bcell hb2
      have hz2 := hb2.size
      try simp only [World.size_alloc, World.size_setCell, World.size_drew] at hz2
      have hq2 : Below w.heap.size w w2 := below_call (by go_grown) hb2
      try have hl0_2 : w.heap.size < w2.heap.size := by omega
      try have hl1_2 : w.heap.size + 1 < w2.heap.size := by omega
      try have hl2_2 : w.heap.size + 2 < w2.heap.size := by omega
      try have hl3_2 : w.heap.size + 3 < w2.heap.size := by omega
      try have hn1_2 : w1.heap.size < w2.heap.size := by omega
      go_wp2
      go_returns
      obtain rfl : q = 0 := HQ.out
      exact ⟨_, rfl, hq2, .inl ⟨rfl, rfl⟩⟩
    · obtain rfl : true = ok := by rw [← HK.out, HS.out, HT.out]; rfl
      obtain ⟨hP, hE, hX⟩ := plan_of HK.out
      obtain ⟨i0, hi0, hy0, hy1, hy2⟩ := info_parts info_int
      go_enter Try.func67, Try.ntmps67
      go_wp2_with fail
      refine (impl_errs _ _ _ X _ HS.out _ hn ha).mono ?_
      rintro e w1 ⟨rfl, hb1⟩
      obtain ⟨qc1, qf1⟩ := bcell hb1
      have hz1 := hb1.size
      try simp only [World.size_alloc, World.size_setCell, World.size_drew] at hz1
      have hq1 : Below w.heap.size w w1 := below_call (by go_grown) hb1
      try have hl0_1 : w.heap.size < w1.heap.size := by omega
      try have hl1_1 : w.heap.size + 1 < w1.heap.size := by omega
      try have hl2_1 : w.heap.size + 2 < w1.heap.size := by omega
      try have hl3_1 : w.heap.size + 3 < w1.heap.size := by omega
      go_wp2_with fail
      refine (impl_isPlan0 A _ n c _ _ Y _ HT.out _ hn hm (hb.on hq1)).mono ?_
      rintro e w2 ⟨rfl, hb2⟩
      obtain ⟨qc2, qf2⟩ := bcell hb2
      have hz2 := hb2.size
      try simp only [World.size_alloc, World.size_setCell, World.size_drew] at hz2
      have hq2 : Below w.heap.size w w2 := below_call (by go_grown) hb2
      try have hl0_2 : w.heap.size < w2.heap.size := by omega
      try have hl1_2 : w.heap.size + 1 < w2.heap.size := by omega
      try have hl2_2 : w.heap.size + 2 < w2.heap.size := by omega
      try have hl3_2 : w.heap.size + 3 < w2.heap.size := by omega
      try have hn1_2 : w1.heap.size < w2.heap.size := by omega
      have hba : Below w.heap.size w (w2.alloc (.cells #[] 3)) := below_al hq2
      go_wp2_with fail
      refine (impl_ends _ _ _ _ _ _ X Y _ hn hm (ha.on hba) (hb.on hba) hX hP).mono ?_
      rintro e w3 ⟨v3, rfl, hb3, O3⟩
      obtain ⟨A3, c3', rfl, hc3, a3⟩ := O3.arr
      have hq3 : Below w.heap.size w w3 := below_call hba hb3
      have hr3 : w3.ownsRow w2.heap.size 3 1 (.slice (some ⟨w2.heap.size, 0, none⟩) 0 0) 0 (il []) := row_below (World.ownsRow_made w2 #[] 0 (Nat.le_refl _) (Nat.zero_le _) (by simp)) hb3
      have hf3 := O3.from
      have hz3' := hb3.size
      have hq2s := hq2.size
      simp only [World.size_alloc] at hz3' hf3
      have HX := hide hX; have HY := hide hP; have HF := hide hf3
      clear hX hP hE qc1 qf1 qc2 qf2 hf3 O3
      go_wp2
      go_loopw [6, 24] (fun v i wr => ∃ (k q : Nat), k ≤ m ∧ i = .int .i64 k ∧ q = (lateL X Y k).length ∧ Below w.heap.size w wr ∧ wr.ownsRow w2.heap.size 3 1 v q (il (lateL X Y k)) ∧ Lies w2.heap.size w3.heap.size v ∧ Arr wr w3.heap.size A3 m 1 (iv fun i _ => endH X Y (i + 1)) ∧ w3.heap.size ≤ wr.heap.size) (fun _ i _ => m - (intOf i).toNat)
      case atStart => exact ⟨0, 0, Nat.zero_le _, rfl, rfl, hq3, hr3, fun g hg => .inl (by simp only [Value.ownBlock, Option.some.injEq] at hg; exact hg.symm), a3, Nat.le_refl _⟩
      case round =>
        obtain ⟨k, q', hk, rfl, hq', hbw, hown, hlies, hends, hsz⟩ := hrel
        have bq := lateL_len X Y k
        rw [← hq'] at bq
        have HQ' := hide hq'
        clear hq'
        by_cases hlt : k < m
        · obtain ⟨b2, off2, rfl, hbb2, hcb⟩ := hb (by omega)
          obtain ⟨b3, off3, rfl, hbb3, hce⟩ := hends (by omega)
          obtain ⟨y1, y2⟩ := HY.out k hlt
          obtain ⟨b, off, rfl, hbb, hc⟩ := ha (by omega)
          obtain ⟨p, hp⟩ : ∃ p : Nat, Y k 0 = p := ⟨(Y k 0).toNat, by omega⟩
          have hpn : p < n := by omega
          obtain ⟨q1, q2⟩ := bcell hbw
          have e0 := hcb k 0 hlt (by omega)
          have z0 := hce k 0 hlt (by omega)
          have c0 := hc p 0 hpn (by omega); have c1 := hc p 1 hpn (by omega); have c2 := hc p 2 hpn (by omega); have c3 := hc p 3 hpn (by omega)
          obtain ⟨z, hz⟩ : ∃ z, endH X Y (k + 1) = z := ⟨_, rfl⟩
          simp only [Nat.add_zero, Nat.mul_one, iv, hz] at e0 c0 c1 c2 c3 z0
          rw [hp] at e0
          obtain ⟨_, _, _, _, _, _, x3, x4⟩ := err_of (HX.out p hpn)
          have hsw := hbw.size
          have HP := hide hp; have HZ := hide hz; have HE := hide hends; have HL := hide hlies; have HW := hide hown
          clear hp hz hc hcb hce ha hb y1 y2 hends hlies hown
          have hbl : b < wr.heap.size := by omega
          have hbl2 : b2 < wr.heap.size := by omega
          have hbl3 : b3 < wr.heap.size := by omega
          by_cases hl : X p 3 < z
          · go_wp2_with (at_builtin; refine wpList_append_far _ rfl _ _ 34 rfl (w2.heap.size) 3 i0 (.int .i64 0) 1 8 Try.underlying34 hi0 hy0 hy1 hy2 rfl (by decide) _ _ _ rfl ((HW.out.alloc _).alloc _) ⟨wr.heap.size + 1, 0, none⟩ 1 1 [.int .i64 (X p 0)] rfl rfl ?c1 ?c2 ?c3 ?c4 ?c5 ?_)
            case c1 => exact cell_one_at _ _ _ _ (by first | rfl | (simp only [World.size_alloc, World.size_setCell, World.size_drew]; done) | (simp only [World.size_alloc, World.size_setCell, World.size_drew]; omega))
            case c2 => intro u hu; simp only [List.mem_singleton] at hu; subst hu; rfl
            case c3 => unfold maxLen; omega
            case c4 => omega
            case c5 => first | (simp only [World.size_alloc]; omega) | (simp only [World.size_alloc, World.size_setCell, World.size_drew]; omega)
            intro v1 w4 hown1 hgrow1 hfar1
            have hlt1 := HW.out.lt
            rw [il_snoc, ← lateL_yes HP.out HZ.out hl] at hown1
            have hend2 := (HE.out.alloc hsz (.cells #[.int .i64 (X p 0), .int .i64 (X p 1), .int .i64 (X p 2), .int .i64 (X p 3)] 66)).alloc (by simp only [World.size_alloc]; omega) (.cells #[.int .i64 (X p 0)] 3)
            have hend3 := hend2.apart hgrow1 (fun b o e => HL.out.ne (by have := HF.out b o e; omega) (HF.out b o e).2)
            have hl2 := HL.out.app hfar1 (by first | omega | (simp only [World.size_alloc]; omega))
            have hq' : q' + 1 = (lateL X Y (k + 1)).length := by rw [lateL_yes HP.out HZ.out hl]; simp; exact HQ'.out
            have hbw2 := (below_al (o := .cells #[.int .i64 (X p 0)] 3) (below_al (o := .cells #[.int .i64 (X p 0), .int .i64 (X p 1), .int .i64 (X p 2), .int .i64 (X p 3)] 66) hbw)).grown hgrow1 (by simp only [World.size_alloc]; omega) (fun g hg => by have := (hlt1 g hg).1; omega)
            have hsz2 := hgrow1.size
            try simp only [World.size_alloc] at hsz2
            have H1 := hide hown1; have H2 := hide hend3; have H3 := hide hl2; have H4 := hide hq'; have H5 := hide hbw2
            clear hown1 hgrow1 hfar1 hlt1 hend2 hend3 hl2 hq' hbw2
            go_wp2
            go_roundw
            case rel => exact ⟨k + 1, q' + 1, by omega, by go_num, H4.out, H5.out, H1.out, H3.out, H2.out, by omega⟩
            case measure => simp [intOf]; omega
          · have hno := lateL_no HP.out HZ.out (by omega)
            have hrow := HW.out.alloc (.cells #[.int .i64 (X p 0), .int .i64 (X p 1), .int .i64 (X p 2), .int .i64 (X p 3)] 66)
            rw [← hno] at hrow
            have hend := HE.out.alloc hsz (.cells #[.int .i64 (X p 0), .int .i64 (X p 1), .int .i64 (X p 2), .int .i64 (X p 3)] 66)
            have hq' : q' = (lateL X Y (k + 1)).length := by rw [hno]; exact HQ'.out
            have H1 := hide hrow; have H2 := hide hend; have H4 := hide hq'
            clear hrow hend hq' hno
            go_wp2
            go_roundw
            case rel => exact ⟨k + 1, q', by omega, by go_num, H4.out, below_al hbw, H1.out, HL.out, H2.out, by simp only [World.size_alloc]; omega⟩
            case measure => simp [intOf]; omega
        · obtain rfl : k = m := by omega
          have HO := hide hown
          clear hown
          go_wp2
          go_returns
          obtain rfl : q = q' := by rw [HQ'.out]; exact HQ.out
          exact ⟨_, rfl, hbw, (own_of_il HQ'.out HO.out).base hq2s⟩

def MostOk : Unit := ()
set_option maxHeartbeats 1000000 in
set_option maxRecDepth 100000 in
theorem spec_most23 (A B : Option Addr) (n c m d : Nat) (X Y : Nat → Nat → Int) (ok : Bool) (r : Int) (hr : onlyI ok (mostL X Y m) = r) (hok : (planB n m Y && errsB n X) = ok) (w : World) (hn : n ≤ 1048576) (hm : m ≤ 1048576) (hmd : m ≤ d) (ha : Arr w w.heap.size A n 4 (iv X)) (hb : Arr w w.heap.size B m 1 (iv Y)) :
    Calls Try.prog 65 #[.slice A n c, .slice B m d] w fun e w' => e = .returned (.tuple #[.int .i64 r, .bool ok]) ∧ Below w.heap.size w w' := by
  have HQ := hide hr; have HK := hide hok
  clear hr hok
  cases ok
  · obtain rfl : 0 = r := HQ.out
    go_enter Try.func65, Try.ntmps65
    go_wp2_with fail
    refine (spec_plan _ _ _ _ _ _ X Y _ HK.out _ hn hm hmd ha hb).mono ?_
    rintro e w1 ⟨rfl, hb1⟩
    obtain ⟨qc1, qf1⟩ := bcell hb1
    have hz1 := hb1.size
    try simp only [World.size_alloc, World.size_setCell, World.size_drew] at hz1
    have hq1 : Below w.heap.size w w1 := below_call (by go_grown) hb1
    try have hl0_1 : w.heap.size < w1.heap.size := by omega
    try have hl1_1 : w.heap.size + 1 < w1.heap.size := by omega
    try have hl2_1 : w.heap.size + 2 < w1.heap.size := by omega
    try have hl3_1 : w.heap.size + 3 < w1.heap.size := by omega
    go_wp2
    go_returns
    exact ⟨rfl, hq1⟩
  · obtain ⟨hP, hE, hX⟩ := plan_of HK.out
    obtain rfl : mostL X Y m = r := HQ.out
    go_enter Try.func65, Try.ntmps65
    go_wp2_with fail
    refine (spec_plan _ _ _ _ _ _ X Y _ HK.out _ hn hm hmd ha hb).mono ?_
    rintro e w1 ⟨rfl, hb1⟩
    obtain ⟨qc1, qf1⟩ := bcell hb1
    have hz1 := hb1.size
    try simp only [World.size_alloc, World.size_setCell, World.size_drew] at hz1
    have hq1 : Below w.heap.size w w1 := below_call (by go_grown) hb1
    try have hl0_1 : w.heap.size < w1.heap.size := by omega
    try have hl1_1 : w.heap.size + 1 < w1.heap.size := by omega
    try have hl2_1 : w.heap.size + 2 < w1.heap.size := by omega
    try have hl3_1 : w.heap.size + 3 < w1.heap.size := by omega
    go_wp2_with fail
    refine (spec_ends _ _ _ _ _ _ X Y _ hn hm (ha.on hq1) (hb.on hq1) hX hP).mono ?_
    rintro e w2 ⟨v2, rfl, hb2, O2⟩
    obtain ⟨A2, c2, rfl, hc2, a2⟩ := O2.arr
    have hq2 : Below w.heap.size w w2 := below_call hq1 hb2
    have ha2 := ha.on hq2; have hb2' := hb.on hq2
    have HX := hide hX; have HY := hide hP
    clear hX hP hE qc1 qf1 ha hb O2
    go_wp2
    go_loopw [6, 8] (fun t i wr => ∃ (k : Nat) (z : Int), k ≤ m ∧ i = .int .i64 k ∧ t = .int .i64 z ∧ z = mostL X Y k ∧ Below w2.heap.size w2 wr) (fun _ i _ => m - (intOf i).toNat)
    case atStart => exact ⟨0, 0, Nat.zero_le _, rfl, rfl, rfl, Below.refl _ _⟩
    case round =>
      obtain ⟨k, y, hk, rfl, rfl, hy, hbw⟩ := hrel
      have hyb := mostL_bd HX.out HY.out k hk
      rw [← hy] at hyb
      obtain ⟨v1, v2⟩ := hyb
      have HYY := hide hy
      clear hy
      by_cases hlt : k < m
      · obtain ⟨b2, off2, rfl, hbb2, hcb⟩ := hb2' (by omega)
        obtain ⟨b3, off3, rfl, hbb3, hce⟩ := a2 (by omega)
        obtain ⟨y1, y2⟩ := HY.out k hlt
        obtain ⟨b, off, rfl, hbb, hc⟩ := ha2 (by omega)
        obtain ⟨p, hp⟩ : ∃ p : Nat, Y k 0 = p := ⟨(Y k 0).toNat, by omega⟩
        have hpn : p < n := by omega
        obtain ⟨q1, q2⟩ := bcell hbw
        have e0 := hcb k 0 hlt (by omega)
        have z0 := hce k 0 hlt (by omega)
        have c3 := hc p 3 hpn (by omega)
        have bz := endH_bd HX.out HY.out (k + 1) (by omega)
        obtain ⟨z, hz⟩ : ∃ z, endH X Y (k + 1) = z := ⟨_, rfl⟩
        rw [hz] at bz
        obtain ⟨bz1, bz2⟩ := bz
        simp only [Nat.add_zero, Nat.mul_one, iv, hz] at e0 c3 z0
        rw [hp] at e0
        obtain ⟨_, _, _, _, _, _, x3, x4⟩ := err_of (HX.out p hpn)
        have hsw := hbw.size
        have HP := hide hp; have HZ := hide hz
        clear hp hz hc hcb hce ha2 hb2' y1 y2 a2
        have hbl : b < wr.heap.size := by omega
        have hbl2 : b2 < wr.heap.size := by omega
        have hbl3 : b3 < wr.heap.size := by omega
        have hx := BW.cell (w := wr)
        have hww : IntKind.i64.wrap (z - X p 3) = z - X p 3 := IntWalk.i64_in _ (by omega)
        go_wp2
        refine wp_region_bw (by kernel_rfl) (by kernel_rfl) ?_
        repeat (go_big_quiet_step ((first | (go_at_call 75; exact BW.call0 (spec_most _ _ _ rfl _)))))
        refine wpQuiet_end fun w1 hb1 => ?_
        clear hx hww
        go_wp2
        go_roundw
        case rel => exact ⟨k + 1, _, by omega, by go_num, rfl, by rw [mostL_step HP.out HZ.out, ← HYY.out], below_call hbw hb1⟩
        case measure => simp [intOf]; omega
      · obtain rfl : k = m := by omega
        go_wp2
        go_returns
        exact ⟨by rw [HYY.out]; rfl, below_call hq2 hbw⟩
set_option maxHeartbeats 1000000 in
set_option maxRecDepth 100000 in
theorem impl_most23 (A B : Option Addr) (n c m d : Nat) (X Y : Nat → Nat → Int) (ok : Bool) (r : Int) (hr : onlyI ok (mostL X Y m) = r) (hok : (planB n m Y && errsB n X) = ok) (w : World) (hn : n ≤ 1048576) (hm : m ≤ 1048576) (ha : Arr w w.heap.size A n 4 (iv X)) (hb : Arr w w.heap.size B m 1 (iv Y)) :
    Calls Try.prog 64 #[.slice A n c, .slice B m d] w fun e w' => e = .returned (.tuple #[.int .i64 r, .bool ok]) ∧ Below w.heap.size w w' := by
  have HQ := hide hr; have HK := hide hok
  clear hr hok
  obtain ⟨s, hs⟩ : ∃ s, errsB n X = s := ⟨_, rfl⟩
  obtain ⟨t, ht⟩ : ∃ t, planB n m Y = t := ⟨_, rfl⟩
  have HS := hide hs; have HT := hide ht
  clear hs ht
  cases s
  · obtain rfl : false = ok := by rw [← HK.out, HS.out]; simp
    obtain rfl : 0 = r := HQ.out
    go_enter Try.func64, Try.ntmps64
    go_wp2_with fail
    refine (impl_errs _ _ _ X _ HS.out _ hn ha).mono ?_
    rintro e w1 ⟨rfl, hb1⟩
    obtain ⟨qc1, qf1⟩ := bcell hb1
    have hz1 := hb1.size
    try simp only [World.size_alloc, World.size_setCell, World.size_drew] at hz1
    have hq1 : Below w.heap.size w w1 := below_call (by go_grown) hb1
    try have hl0_1 : w.heap.size < w1.heap.size := by omega
    try have hl1_1 : w.heap.size + 1 < w1.heap.size := by omega
    try have hl2_1 : w.heap.size + 2 < w1.heap.size := by omega
    try have hl3_1 : w.heap.size + 3 < w1.heap.size := by omega
    go_wp2
    go_returns
    exact ⟨rfl, hq1⟩
  · cases t
    · obtain rfl : false = ok := by rw [← HK.out, HS.out, HT.out]; rfl
      obtain rfl : 0 = r := HQ.out
      go_enter Try.func64, Try.ntmps64
      go_wp2_with fail
      refine (impl_errs _ _ _ X _ HS.out _ hn ha).mono ?_
      rintro e w1 ⟨rfl, hb1⟩
      obtain ⟨qc1, qf1⟩ := bcell hb1
      have hz1 := hb1.size
      try simp only [World.size_alloc, World.size_setCell, World.size_drew] at hz1
      have hq1 : Below w.heap.size w w1 := below_call (by go_grown) hb1
      try have hl0_1 : w.heap.size < w1.heap.size := by omega
      try have hl1_1 : w.heap.size + 1 < w1.heap.size := by omega
      try have hl2_1 : w.heap.size + 2 < w1.heap.size := by omega
      try have hl3_1 : w.heap.size + 3 < w1.heap.size := by omega
      go_wp2_with fail
      refine (impl_isPlan0 A _ n c _ _ Y _ HT.out _ hn hm (hb.on hq1)).mono ?_
      rintro e w2 ⟨rfl, hb2⟩
      obtain ⟨qc2, qf2⟩ := bcell hb2
      have hz2 := hb2.size
      try simp only [World.size_alloc, World.size_setCell, World.size_drew] at hz2
      have hq2 : Below w.heap.size w w2 := below_call (by go_grown) hb2
      try have hl0_2 : w.heap.size < w2.heap.size := by omega
      try have hl1_2 : w.heap.size + 1 < w2.heap.size := by omega
      try have hl2_2 : w.heap.size + 2 < w2.heap.size := by omega
      try have hl3_2 : w.heap.size + 3 < w2.heap.size := by omega
      try have hn1_2 : w1.heap.size < w2.heap.size := by omega
      go_wp2
      go_returns
      exact ⟨rfl, hq2⟩
    · obtain rfl : true = ok := by rw [← HK.out, HS.out, HT.out]; rfl
      obtain rfl : mostL X Y m = r := HQ.out
      obtain ⟨hP, hE, hX⟩ := plan_of HK.out
      go_enter Try.func64, Try.ntmps64
      go_wp2_with fail
      refine (impl_errs _ _ _ X _ HS.out _ hn ha).mono ?_
      rintro e w1 ⟨rfl, hb1⟩
      obtain ⟨qc1, qf1⟩ := bcell hb1
      have hz1 := hb1.size
      try simp only [World.size_alloc, World.size_setCell, World.size_drew] at hz1
      have hq1 : Below w.heap.size w w1 := below_call (by go_grown) hb1
      try have hl0_1 : w.heap.size < w1.heap.size := by omega
      try have hl1_1 : w.heap.size + 1 < w1.heap.size := by omega
      try have hl2_1 : w.heap.size + 2 < w1.heap.size := by omega
      try have hl3_1 : w.heap.size + 3 < w1.heap.size := by omega
      go_wp2_with fail
      refine (impl_isPlan0 A _ n c _ _ Y _ HT.out _ hn hm (hb.on hq1)).mono ?_
      rintro e w2 ⟨rfl, hb2⟩
      obtain ⟨qc2, qf2⟩ := bcell hb2
      have hz2 := hb2.size
      try simp only [World.size_alloc, World.size_setCell, World.size_drew] at hz2
      have hq2 : Below w.heap.size w w2 := below_call (by go_grown) hb2
      try have hl0_2 : w.heap.size < w2.heap.size := by omega
      try have hl1_2 : w.heap.size + 1 < w2.heap.size := by omega
      try have hl2_2 : w.heap.size + 2 < w2.heap.size := by omega
      try have hl3_2 : w.heap.size + 3 < w2.heap.size := by omega
      try have hn1_2 : w1.heap.size < w2.heap.size := by omega
      go_wp2_with fail
      refine (impl_ends _ _ _ _ _ _ X Y _ hn hm (ha.on hq2) (hb.on hq2) hX hP).mono ?_
      rintro e w3 ⟨v3, rfl, hb3, O3⟩
      obtain ⟨A3, c3', rfl, hc3, a3⟩ := O3.arr
      have hq3 : Below w.heap.size w w3 := below_call hq2 hb3
      have ha2 := ha.on hq3; have hb2' := hb.on hq3
      have HX := hide hX; have HY := hide hP
      clear hX hP hE qc1 qf1 qc2 qf2 ha hb O3
      go_wp2
      go_loopw [6, 22] (fun t i wr => ∃ (k : Nat) (z : Int), k ≤ m ∧ i = .int .i64 k ∧ t = .int .i64 z ∧ z = mostL X Y k ∧ Below w3.heap.size w3 wr) (fun _ i _ => m - (intOf i).toNat)
      case atStart => exact ⟨0, 0, Nat.zero_le _, rfl, rfl, rfl, Below.refl _ _⟩
      case round =>
        obtain ⟨k, y, hk, rfl, rfl, hy, hbw⟩ := hrel
        have hyb := mostL_bd HX.out HY.out k hk
        rw [← hy] at hyb
        obtain ⟨v1, v2⟩ := hyb
        have HYY := hide hy
        clear hy
        by_cases hlt : k < m
        · obtain ⟨b2, off2, rfl, hbb2, hcb⟩ := hb2' (by omega)
          obtain ⟨b3, off3, rfl, hbb3, hce⟩ := a3 (by omega)
          obtain ⟨y1, y2⟩ := HY.out k hlt
          obtain ⟨b, off, rfl, hbb, hc⟩ := ha2 (by omega)
          obtain ⟨p, hp⟩ : ∃ p : Nat, Y k 0 = p := ⟨(Y k 0).toNat, by omega⟩
          have hpn : p < n := by omega
          obtain ⟨q1, q2⟩ := bcell hbw
          have e0 := hcb k 0 hlt (by omega)
          have z0 := hce k 0 hlt (by omega)
          have c3 := hc p 3 hpn (by omega)
          have bz := endH_bd HX.out HY.out (k + 1) (by omega)
          obtain ⟨z, hz⟩ : ∃ z, endH X Y (k + 1) = z := ⟨_, rfl⟩
          rw [hz] at bz
          obtain ⟨bz1, bz2⟩ := bz
          simp only [Nat.add_zero, Nat.mul_one, iv, hz] at e0 c3 z0
          rw [hp] at e0
          obtain ⟨_, _, _, _, _, _, x3, x4⟩ := err_of (HX.out p hpn)
          have hsw := hbw.size
          have HP := hide hp; have HZ := hide hz
          clear hp hz hc hcb hce ha2 hb2' y1 y2 a3
          by_cases hl : y ≤ z - X p 3
          · go_wp2
            go_roundw
            case rel => exact ⟨k + 1, z - X p 3, by omega, by go_num, by first | rfl | go_num, by rw [mostL_step HP.out HZ.out, ← HYY.out]; omega, hbw⟩
            case measure => simp [intOf]; omega
          · go_wp2
            go_roundw
            case rel => exact ⟨k + 1, y, by omega, by go_num, by first | rfl | go_num, by rw [mostL_step HP.out HZ.out, ← HYY.out]; omega, hbw⟩
            case measure => simp [intOf]; omega
        · obtain rfl : k = m := by omega
          go_wp2
          go_returns
          exact ⟨by rw [HYY.out]; rfl, below_call hq3 hbw⟩
end Go.Proofs.Ytfdgnjnnbhelgaa
