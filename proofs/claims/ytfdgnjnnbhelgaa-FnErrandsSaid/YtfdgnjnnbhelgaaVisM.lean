/- Chapter 23: late errands, and the most late one: the plain law, and the reference's side. -/
import Derived.Test.YtfdgnjnnbhelgaaVisI
import Derived.Test.YtfdgnjnnbhelgaaApp
namespace Go.Proofs.Ytfdgnjnnbhelgaa
open Go.RowKit
set_option linter.unusedVariables false
set_option linter.unusedSimpArgs false

def lateL (X Y : Nat → Nat → Int) : Nat → List Int
  | 0 => []
  | k + 1 => if X (Y k 0).toNat 3 < endH X Y (k + 1) then lateL X Y k ++ [X (Y k 0).toNat 0] else lateL X Y k
theorem lateL_yes {X Y : Nat → Nat → Int} {k p : Nat} {z : Int} (hp : Y k 0 = p) (hz : endH X Y (k + 1) = z) (h : X p 3 < z) : lateL X Y (k + 1) = lateL X Y k ++ [X p 0] := by
  rw [lateL, hz, hp, Int.toNat_natCast, if_pos h]
theorem lateL_no {X Y : Nat → Nat → Int} {k p : Nat} {z : Int} (hp : Y k 0 = p) (hz : endH X Y (k + 1) = z) (h : ¬ X p 3 < z) : lateL X Y (k + 1) = lateL X Y k := by
  rw [lateL, hz, hp, Int.toNat_natCast, if_neg h]
theorem lateL_len (X Y : Nat → Nat → Int) : ∀ k, (lateL X Y k).length ≤ k
  | 0 => by simp [lateL]
  | k + 1 => by
    have := lateL_len X Y k
    simp only [lateL]; split <;> simp <;> omega
def mostL (X Y : Nat → Nat → Int) : Nat → Int
  | 0 => 0
  | k + 1 => max (mostL X Y k) (endH X Y (k + 1) - X (Y k 0).toNat 3)
theorem mostL_step {X Y : Nat → Nat → Int} {k p : Nat} {z : Int} (hp : Y k 0 = p) (hz : endH X Y (k + 1) = z) : mostL X Y (k + 1) = max (mostL X Y k) (z - X p 3) := by
  rw [mostL, hz, hp, Int.toNat_natCast]
theorem mostL_bd {n m : Nat} {X Y : Nat → Nat → Int} (hX : ∀ i, i < n → errOk X i) (hY : planIn n m Y) : ∀ k, k ≤ m → 0 ≤ mostL X Y k ∧ mostL X Y k ≤ 13 * m
  | 0, _ => by simp [mostL]; omega
  | k + 1, hk => by
    have h1 := mostL_bd hX hY k (by omega)
    have h2 := hY k (by omega)
    have h3 := err_of (hX (Y k 0).toNat (by omega))
    have h4 := endH_bd hX hY (k + 1) (by omega)
    simp only [mostL]; omega
theorem Arr.apart {w w' : World} {B n k : Nat} {A : Option Addr} {f : Nat → Nat → Value} {row : Option Nat} (h : Arr w B A n k f) (hg : w.grownBy w' row) (hne : ∀ b o, A = some ⟨b, o, none⟩ → some b ≠ row) : Arr w' B A n k f := by
  intro hn
  obtain ⟨b, off, rfl, hb, hc⟩ := h hn
  exact ⟨b, off, rfl, hb, fun i j hi hj => hg.cell (hc i j hi hj) (hne b off rfl)⟩
theorem Arr.alloc {w : World} {B n k : Nat} {A : Option Addr} {f : Nat → Nat → Value} (h : Arr w B A n k f) (hB : B ≤ w.heap.size) (o : Obj) : Arr (w.alloc o) B A n k f :=
  h.below (below_al (Below.refl w.heap.size w)) hB
theorem Own.from {w : World} {base k n c : Nat} {E : TypeId} {A : Option Addr} {F : Nat → Nat → Value} (h : Own w base E k (.slice A n c) n F) : ∀ b o, A = some ⟨b, o, none⟩ → base ≤ b ∧ b < w.heap.size := fun b o e => h.blk b (by rw [e]; rfl)

set_option maxHeartbeats 1000000 in
set_option maxRecDepth 100000 in
theorem spec_late (A B : Option Addr) (n c m d : Nat) (X Y : Nat → Nat → Int) (ok : Bool) (q : Nat) (hq : q = onlyN ok (lateL X Y m).length) (hok : (planB n m Y && errsB n X) = ok) (w : World) (hn : n ≤ 1048576) (hm : m ≤ 1048576) (hmd : m ≤ d) (ha : Arr w w.heap.size A n 4 (iv X)) (hb : Arr w w.heap.size B m 1 (iv Y)) :
    Calls Try.prog 68 #[.slice A n c, .slice B m d] w fun e w' => ∃ v, e = .returned (.tuple #[v, .bool ok]) ∧ Below w.heap.size w w' ∧ Own w' w.heap.size 3 1 v q (iv (lf (lateL X Y m))) := by
  have HQ := hide hq; have HK := hide hok
  clear hq hok
  have hba : Below w.heap.size w (w.alloc (.cells #[] 3)) := below_al (Below.refl _ _)
  cases ok
  · go_enter Try.func68, Try.ntmps68
    go_wp2_with fail
    refine (spec_plan _ _ _ _ _ _ X Y _ HK.out _ hn hm hmd (ha.on hba) (hb.on hba)).mono ?_
    rintro e w1 ⟨rfl, hb1⟩
    obtain ⟨qc1, qf1⟩ := bcell hb1
    have hz1 := hb1.size
    try simp only [World.size_alloc, World.size_setCell, World.size_drew] at hz1
    have hq1 : Below w.heap.size w w1 := below_call (by go_grown) hb1
    try have hl0_1 : w.heap.size < w1.heap.size := by omega
    try have hl1_1 : w.heap.size + 1 < w1.heap.size := by omega
    try have hl2_1 : w.heap.size + 2 < w1.heap.size := by omega
    try have hl3_1 : w.heap.size + 3 < w1.heap.size := by omega
    go_wp2
    go_returns
    obtain rfl : q = 0 := HQ.out
    exact ⟨_, rfl, hq1, (own_new (Nat.le_refl _)).below hb1 (Nat.le_refl _)⟩
  · obtain ⟨hP, hE, hX⟩ := plan_of HK.out
    obtain ⟨i0, hi0, hy0, hy1, hy2⟩ := info_parts info_int
    go_enter Try.func68, Try.ntmps68
    go_wp2_with fail
    refine (spec_plan _ _ _ _ _ _ X Y _ HK.out _ hn hm hmd (ha.on hba) (hb.on hba)).mono ?_
    rintro e w1 ⟨rfl, hb1⟩
    obtain ⟨qc1, qf1⟩ := bcell hb1
    have hz1 := hb1.size
    try simp only [World.size_alloc, World.size_setCell, World.size_drew] at hz1
    have hq1 : Below w.heap.size w w1 := below_call (by go_grown) hb1
    try have hl0_1 : w.heap.size < w1.heap.size := by omega
    try have hl1_1 : w.heap.size + 1 < w1.heap.size := by omega
    try have hl2_1 : w.heap.size + 2 < w1.heap.size := by omega
    try have hl3_1 : w.heap.size + 3 < w1.heap.size := by omega
    go_wp2_with fail
    refine (spec_ends _ _ _ _ _ _ X Y _ hn hm (ha.on hq1) (hb.on hq1) hX hP).mono ?_
    rintro e w2 ⟨v2, rfl, hb2, O2⟩
    obtain ⟨A2, c2, rfl, hc2, a2⟩ := O2.arr
    have hq2 : Below w.heap.size w w2 := below_call hq1 hb2
    have hr2 : w2.ownsRow w.heap.size 3 1 (.slice (some ⟨w.heap.size, 0, none⟩) 0 0) 0 (il []) := row_below (row_below (World.ownsRow_made w #[] 0 (Nat.le_refl _) (Nat.zero_le _) (by simp)) hb1) hb2
    have hf2 := O2.from
    have hz2' := hb2.size
    have hz1' := hb1.size
    simp only [World.size_alloc] at hz1'
    have HX := hide hX; have HY := hide hP
    clear hX hP hE qc1 qf1
    go_wp2
    go_loopw [6, 8] (fun v i wr => ∃ (k q : Nat), k ≤ m ∧ i = .int .i64 k ∧ q = (lateL X Y k).length ∧ Below w.heap.size w wr ∧ wr.ownsRow w.heap.size 3 1 v q (il (lateL X Y k)) ∧ Lies w.heap.size w2.heap.size v ∧ Arr wr w2.heap.size A2 m 1 (iv fun i _ => endH X Y (i + 1)) ∧ w2.heap.size ≤ wr.heap.size) (fun _ i _ => m - (intOf i).toNat)
    case atStart => exact ⟨0, 0, Nat.zero_le _, rfl, rfl, hq2, hr2, fun g hg => .inl (by simp only [Value.ownBlock, Option.some.injEq] at hg; exact hg.symm), a2, Nat.le_refl _⟩
    case round =>
      obtain ⟨k, q', hk, rfl, hq', hbw, hown, hlies, hends, hsz⟩ := hrel
      have bq := lateL_len X Y k
      rw [← hq'] at bq
      have HQ' := hide hq'
      clear hq'
      by_cases hlt : k < m
      · obtain ⟨b2, off2, rfl, hbb2, hcb⟩ := hb (by omega)
        obtain ⟨b3, off3, rfl, hbb3, hce⟩ := hends (by omega)
        obtain ⟨y1, y2⟩ := HY.out k hlt
        obtain ⟨b, off, rfl, hbb, hc⟩ := ha (by omega)
        obtain ⟨p, hp⟩ : ∃ p : Nat, Y k 0 = p := ⟨(Y k 0).toNat, by omega⟩
        have hpn : p < n := by omega
        obtain ⟨q1, q2⟩ := bcell hbw
        have e0 := hcb k 0 hlt (by omega)
        have z0 := hce k 0 hlt (by omega)
        have c0 := hc p 0 hpn (by omega); have c3 := hc p 3 hpn (by omega)
        obtain ⟨z, hz⟩ : ∃ z, endH X Y (k + 1) = z := ⟨_, rfl⟩
        simp only [Nat.add_zero, Nat.mul_one, iv, hz] at e0 c0 c3 z0
        rw [hp] at e0
        obtain ⟨_, _, _, _, _, _, x3, x4⟩ := err_of (HX.out p hpn)
        have hsw := hbw.size
        have HP := hide hp; have HZ := hide hz; have HE := hide hends; have HL := hide hlies; have HW := hide hown
        clear hp hz hc hcb hce ha hb y1 y2 hends hlies hown
        have hbl : b < wr.heap.size := by omega
        have hbl2 : b2 < wr.heap.size := by omega
        have hbl3 : b3 < wr.heap.size := by omega
        have hx := BW.cell (w := wr)
        by_cases hl : X p 3 < z
        · go_wp2
          refine wp_region_bw (by kernel_rfl) (by kernel_rfl) ?_
          repeat (go_big_quiet_step ((first | fail)))
          refine wpQuiet_end fun w1 hb1 => ?_
          clear hx
          obtain ⟨q3, q4⟩ := bcell hb1
          have hs1 := hb1.size
          go_wp2_with (at_builtin; refine wpList_append_far _ rfl _ _ 34 rfl (w.heap.size) 3 i0 (.int .i64 0) 1 8 Try.underlying34 hi0 hy0 hy1 hy2 rfl (by decide) _ _ _ rfl ((row_below HW.out hb1).alloc _) ⟨w1.heap.size, 0, none⟩ 1 1 [.int .i64 (X p 0)] rfl rfl ?c1 ?c2 ?c3 ?c4 ?c5 ?_)
          case c1 => exact cell_one_at _ _ _ _ (by first | rfl | (simp only [World.size_alloc, World.size_setCell, World.size_drew]; done) | (simp only [World.size_alloc, World.size_setCell, World.size_drew]; omega))
          case c2 => intro u hu; simp only [List.mem_singleton] at hu; subst hu; rfl
          case c3 => unfold maxLen; omega
          case c4 => omega
          case c5 => first | (simp only [World.size_alloc]; omega) | (simp only [World.size_alloc, World.size_setCell, World.size_drew]; omega)
          intro v1 w3 hown1 hgrow1 hfar1
          have hlt1 := HW.out.lt
          rw [il_snoc, ← lateL_yes HP.out HZ.out hl] at hown1
          have hend2 := (HE.out.below hb1 hsz).alloc (by omega) (.cells #[.int .i64 (X p 0)] 3)
          have hend3 := hend2.apart hgrow1 (fun b o e => HL.out.ne (by have := hf2 b o e; omega) (hf2 b o e).2)
          have hl2 := HL.out.app hfar1 (by first | omega | (simp only [World.size_alloc]; omega))
          have hq' : q' + 1 = (lateL X Y (k + 1)).length := by rw [lateL_yes HP.out HZ.out hl]; simp; exact HQ'.out
          have hbw2 := (below_al (o := .cells #[.int .i64 (X p 0)] 3) (below_call hbw hb1)).grown hgrow1 (by simp only [World.size_alloc]; omega) (fun g hg => (hlt1 g hg).1)
          have hsz2 := hgrow1.size
          try simp only [World.size_alloc] at hsz2
          have H1 := hide hown1; have H2 := hide hend3; have H3 := hide hl2; have H4 := hide hq'; have H5 := hide hbw2
          clear hown1 hgrow1 hfar1 hlt1 hend2 hend3 hl2 hq' hbw2
          go_wp2
          go_roundw
          case rel => exact ⟨k + 1, q' + 1, by omega, by go_num, H4.out, H5.out, H1.out, H3.out, H2.out, by omega⟩
          case measure => simp [intOf]; omega
        · go_wp2
          refine wp_region_bw (by kernel_rfl) (by kernel_rfl) ?_
          repeat (go_big_quiet_step ((first | fail)))
          refine wpQuiet_end fun w1 hb1 => ?_
          clear hx
          have hs1 := hb1.size
          have hrow := row_below HW.out hb1
          have hend := HE.out.below hb1 hsz
          have hbw2 := below_call hbw hb1
          have hno := lateL_no HP.out HZ.out (by omega)
          rw [← hno] at hrow
          have hq' : q' = (lateL X Y (k + 1)).length := by rw [hno]; exact HQ'.out
          have H1 := hide hrow; have H2 := hide hend; have H4 := hide hq'
          clear hrow hend hq' hno
          go_wp2
          go_roundw
          case rel => exact ⟨k + 1, q', by omega, by go_num, H4.out, hbw2, H1.out, HL.out, H2.out, by omega⟩
          case measure => simp [intOf]; omega
      · obtain rfl : k = m := by omega
        have HO := hide hown
        clear hown
        go_wp2
        go_returns
        obtain rfl : q = q' := by rw [HQ'.out]; exact HQ.out
        exact ⟨_, rfl, hbw, own_of_il HQ'.out HO.out⟩
end Go.Proofs.Ytfdgnjnnbhelgaa
