/- Draws of days of sun: made by sungen.py. -/
import Derived.Test.YtfdgnjnnbhelgaaDrwA
import Derived.Test.YtfdgnjnnbhelgaaRowsC
import Derived.Test.YtfdgnjnnbhelgaaApp
import Derived.IntWalk
namespace Go.Proofs.Ytfdgnjnnbhelgaa
open Go.RowKit
set_option linter.unusedVariables false
set_option linter.unusedSimpArgs false

theorem Cur.apart {w w' : World} {cb M : Nat} {K : Code} {row : Option Nat} (h : Cur w cb K M) (hg : w.grownBy w' row) (hne : ∀ g, row = some g → cb < g) : Cur w' cb K M := by
  obtain ⟨⟨h0, h1, h2⟩, a, s, h3, h4⟩ := h
  have hlt := h4.lt
  refine ⟨⟨h0, fun hn => ?_, h2⟩, a, s, h3, (hg.block cb hlt (fun e => by have := hne cb e.symm; omega)).trans h4⟩
  obtain ⟨b, off, e, hb, hc⟩ := h1 hn
  exact ⟨b, off, e, hb, fun i j hi hj => (World.cell?_of_block (hg.block b (by omega) (fun e => by have := hne b e.symm; omega))).trans (hc i j hi hj)⟩
theorem grown_new {w a b : World} {cb : Nat} {row : Option Nat} (h : w.grownBy a (some cb)) (hg : a.grownBy b row) (hr : ∀ g, row = some g → w.heap.size ≤ g) : w.grownBy b (some cb) :=
  ⟨hg.os.trans h.os, hg.tape.trans h.tape, hg.output.trans h.output, Nat.le_trans h.size hg.size, fun k hk hne => (hg.block k (Nat.lt_of_lt_of_le hk h.size) (fun e => by have := hr k e.symm; omega)).trans (h.block k hk hne)⟩
theorem row_drawn {w w' : World} {base n s cb M : Nat} {K : Code} {E : TypeId} {v : Value} {xs : List Value} (h : w.ownsRow base E s v n xs) (hd : w.grownBy w' (some cb)) (hb : cb < base) : w'.ownsRow base E s v n xs :=
  h.kept (row := some cb) hd (.inr fun e => by have := (h.lt cb e).1; omega)
theorem info_sd : (Try.prog.info? 39).map (fun i => (i.zero, i.size, i.bytes)) = some (some (.agg #[.int .i64 0, .int .i64 0]), 2, 16) := by kernel_rfl
def sdC (p : Int × Int) : List Value := [.int .i64 p.1, .int .i64 p.2]
def sdX (l : List (Int × Int)) (i j : Nat) : Int := if j = 0 then (l.getD i (0, 0)).1 else (l.getD i (0, 0)).2
theorem sdC_get (l : List (Int × Int)) : ∀ i j (hi : i < l.length), j < 2 → (sdC l[i])[j]? = some (iv (sdX l) i j) := by
  intro i j hi hj
  have e : l.getD i (0, 0) = l[i] := by simp [List.getD, hi]
  unfold iv sdX
  rw [e]
  rcases (by omega : j = 0 ∨ j = 1) with rfl | rfl <;> rfl
theorem own_sd {w : World} {base n : Nat} {E : TypeId} {v : Value} {l : List (Int × Int)} (hn : n = l.length) (h : w.ownsRow base E 2 v n (l.flatMap sdC)) : Own w base E 2 v n (iv (sdX l)) :=
  own_of_rows hn (fun _ => rfl) (sdC_get l) h

set_option maxHeartbeats 4000000 in
set_option maxRecDepth 100000 in
theorem spec_dSunDays (cb : Nat) (K : Code) (M : Nat) (w : World) (hM : M ≤ 900000000000) (h : Cur w cb K M) :
    Calls Try.prog 77 #[.pointer (some ⟨cb, 0, none⟩)] w fun e w' => ∃ (v : Value) (l : List (Int × Int)), l.length ≤ 40 ∧ e = .returned v ∧ Drawn w cb K (M + 400) w' ∧ Own w' w.heap.size 39 2 v l.length (iv (sdX l)) := by
  obtain ⟨i0, hi0, hy0, hy1, hy2⟩ := info_parts info_sd
  have hcb := h.lt
  go_enter Try.func77, Try.ntmps77
  go_wp2_with fail
  refine (spec_amongX cb K M [0, 50, 9985] _ _ _ rfl (by decide) (by decide) _ rfl (blk_new_atC _ _ _ _ (by first | rfl | simp)) (by first | omega | (simp; omega)) (by omega) (by (repeat (first | with_reducible assumption | (with_reducible refine Cur.alloc ?_ _) | (with_reducible refine Cur.setCell ?_ (by (first | with_reducible assumption | omega | (simp; done) | (simp; omega))) _))))).mono ?_
  rintro e w1 ⟨d0, rfl, hd1⟩
  have hg1 : w.grownBy w1 (some cb) := World.grownBy.trans (by (repeat (first | with_reducible assumption | (with_reducible refine World.grownBy.trans ?_ (World.grownBy_alloc _ _ _)) | (with_reducible refine grown_setNew ?_ (by (first | with_reducible assumption | omega | (simp; done) | (simp; omega))) _) | with_reducible exact grown_refl _ _))) hd1.1
  have hc1 : Cur w1 cb K (M + 2) := hd1.2
  have hr1 := row_drawn (M := M) (K := K) (row_below (row_new_at w w.heap.size w.heap.size 2 39 rfl (Nat.le_refl _)) (below_al (Below.refl _ _))) hd1.1 hcb
  clear hd1
  go_wp2_with fail
  refine (spec_pick cb K (M + 2) 12 _ (by omega) (by omega) hc1).mono ?_
  rintro e w2 ⟨N, rfl, n0, n1, _, hd2⟩
  have n2 := n1 (by omega)
  obtain ⟨N, rfl⟩ : ∃ m : Nat, N = m := ⟨N.toNat, by omega⟩
  have hg2 := hg1.trans hd2.1
  have hr2 := row_drawn (M := M) (K := K) hr1 hd2.1 hcb
  have HR := hide hr2; have HC2 := hide hd2.2; have HG2 := hide hg2
  clear hr1 hr2 hd2 hg1 hg2 hc1 n1
  have hN : N ≤ 11 := by omega
  go_wp2
  go_loopw [3, 4, 5] (fun s d y wr => ∃ (k : Nat) (l : List (Int × Int)) (z : Int), k ≤ N ∧ l.length + k = N ∧ y = .int .i64 k ∧ d = .int .i64 z ∧ w.grownBy wr (some cb) ∧ Cur wr cb K (M + 4 + 4 * l.length) ∧ wr.ownsRow w.heap.size 39 2 s l.length (l.flatMap sdC)) (fun _ _ y _ => (intOf y).toNat)
  case atStart => exact ⟨N, [], d0, Nat.le_refl _, by simp, rfl, rfl, HG2.out, HC2.out, HR.out⟩
  case round =>
    obtain ⟨k, l, z, hk, hl, rfl, rfl, hgw, hcu, hown⟩ := hrel
    have HO := hide hown
    clear hown
    by_cases hk0 : 0 < k
    · have hcl := hcu.lt
      go_wp2_with fail
      refine (spec_amongX cb K _ [0, 0, 49, 50, 120, 300, 1000] _ _ _ rfl (by decide) (by decide) _ rfl (blk_new_atC _ _ _ _ (by first | rfl | simp)) (by first | omega | (simp; omega)) (by omega) (hcu.alloc _)).mono ?_
      rintro e w3 ⟨x, rfl, hd3⟩
      have hg3 : w.grownBy w3 (some cb) := (hgw.trans (World.grownBy_alloc _ _ _)).trans hd3.1
      have hc3 := hd3.2
      have hr3 := row_drawn (M := M) (K := K) (row_below HO.out (below_al (Below.refl _ _))) hd3.1 hcb
      have hs3 := hg3.size
      clear hd3
      obtain ⟨q, hq⟩ : ∃ q, l.length = q := ⟨_, rfl⟩
      rw [hq] at hr3 hc3 hl
      go_wp2_with (at_builtin; refine wpList_append_far _ rfl _ _ 31 rfl w.heap.size 39 i0 (.agg #[.int .i64 0, .int .i64 0]) 2 16 Try.underlying31 hi0 hy0 hy1 hy2 rfl (by decide) _ _ _ rfl (hr3.alloc _) ⟨w3.heap.size, 0, none⟩ 1 1 (sdC (z, x)) rfl rfl ?c1 ?c2 ?c3 ?c4 ?c5 ?_)
      case c1 => exact cells_at w3 _ _ _ rfl
      case c2 => intro u hu; simp only [sdC, List.mem_cons, List.not_mem_nil, or_false] at hu; rcases hu with rfl | rfl <;> rfl
      case c3 => unfold maxLen; omega
      case c4 => omega
      case c5 => simp only [World.size_alloc]; omega
      intro v4 w4 hown4 hgrow4 _
      have hlt4 := hr3.lt
      have hgw4 : w.grownBy w4 (some cb) := grown_new (hg3.trans (World.grownBy_alloc _ _ _)) hgrow4 (fun g hg => (hlt4 g hg).1)
      have hcu4 := (hc3.alloc (.cells (sdC (z, x)).toArray 39)).apart hgrow4 (fun g hg => by have := (hlt4 g hg).1; omega)
      have hsz4 := hgw4.size
      have hrow4 : w4.ownsRow w.heap.size 39 2 v4 (q + 1) ((l ++ [(z, x)]).flatMap sdC) := by rw [← flat_snoc]; exact hown4
      have HR4 := hide hrow4; have HG4 := hide hgw4
      clear hown4 hgrow4 hlt4 hrow4 hr3
      go_wp2_with fail
      refine (spec_pick cb K _ 120 _ (by omega) (by omega) hcu4).mono ?_
      rintro e w5 ⟨u, rfl, u0, u1, _, hd5⟩
      have u2 := u1 (by omega)
      have hg5 := HG4.out.trans hd5.1
      have hr5 := row_drawn (M := M) (K := K) HR4.out hd5.1 hcb
      have hc5 := hd5.2
      have H1 := hide hg5; have H2 := hide hr5; have H3 := hide hc5
      have hkk : (k : Int) - 1 = ((k - 1 : Nat) : Int) := by omega
      clear hd5 hg5 hr5 hc5 u1 hgw4
      go_wp2
      go_roundw
      case rel => exact ⟨k - 1, l ++ [(z, x)], _, by omega, by simp; omega, by first | (congr 1; done) | (congr 1; omega), rfl, H1.out, H3.out.more (by simp; omega), by rw [List.length_append, hq]; exact H2.out⟩
      case measure => simp [intOf]; omega
    · obtain rfl : k = 0 := by omega
      have hcl := hcu.lt
      have hlen : l.length ≤ 11 := by omega
      go_wp2_with fail
      refine (spec_pick cb K _ 40 _ (by omega) (by omega) hcu).mono ?_
      rintro e w3 ⟨t, rfl, t0, _, _, hd3⟩
      have hg3 := hgw.trans hd3.1
      have hc3 := hd3.2
      have hr3 := row_drawn (M := M) (K := K) HO.out hd3.1 hcb
      have hs3 := hg3.size
      clear hd3
      by_cases e0 : t = 0
      · subst e0
        have hcl3 := hc3.lt
        go_wp2_with fail
        refine (spec_amongX cb K _ [-1, 1001] _ _ _ rfl (by decide) (by decide) _ rfl (blk_new_atC _ _ _ _ (by first | rfl | simp)) (by first | omega | (simp; omega)) (by omega) (hc3.alloc _)).mono ?_
        rintro e w5 ⟨x, rfl, hd5⟩
        have hg5 : w.grownBy w5 (some cb) := (hg3.trans (World.grownBy_alloc _ _ _)).trans hd5.1
        have hc5 := hd5.2
        have hr5 := row_drawn (M := M) (K := K) (row_below hr3 (below_al (Below.refl _ _))) hd5.1 hcb
        have hs5 := hg5.size
        obtain ⟨q, hq⟩ : ∃ q, l.length = q := ⟨_, rfl⟩
        rw [hq] at hr5 hc5 hlen
        clear hd5 hr3 hc3 hg3
        go_wp2_with (at_builtin; refine wpList_append_far _ rfl _ _ 31 rfl w.heap.size 39 i0 (.agg #[.int .i64 0, .int .i64 0]) 2 16 Try.underlying31 hi0 hy0 hy1 hy2 rfl (by decide) _ _ _ rfl (hr5.alloc _) ⟨w5.heap.size, 0, none⟩ 1 1 (sdC (z, x)) rfl rfl ?c1 ?c2 ?c3 ?c4 ?c5 ?_)
        case c1 => exact cells_at w5 _ _ _ rfl
        case c2 => intro u hu; simp only [sdC, List.mem_cons, List.not_mem_nil, or_false] at hu; rcases hu with rfl | rfl <;> rfl
        case c3 => unfold maxLen; omega
        case c4 => omega
        case c5 => simp only [World.size_alloc]; omega
        intro v6 w6 hown6 hgrow6 _
        have hlt6 := hr5.lt
        have hgw6 : w.grownBy w6 (some cb) := grown_new (hg5.trans (World.grownBy_alloc _ _ _)) hgrow6 (fun g hg => (hlt6 g hg).1)
        have hcu6 := (hc5.alloc (.cells (sdC (z, x)).toArray 39)).apart hgrow6 (fun g hg => by have := (hlt6 g hg).1; omega)
        have hsz6 := hgw6.size
        have hrow6 : w6.ownsRow w.heap.size 39 2 v6 (q + 1) ((l ++ [(z, x)]).flatMap sdC) := by rw [← flat_snoc]; exact hown6
        have H1 := hide hgw6; have H2 := hide hrow6; have H3 := hide hcu6
        clear hown6 hgrow6 hlt6 hrow6 hr5 hgw6 hcu6
        go_wp2
        go_returns
        exact ⟨_, l ++ [(z, x)], by simp; omega, rfl, ⟨H1.out, H3.out.more (by omega)⟩, by rw [List.length_append, hq]; exact own_sd (by simp; omega) H2.out⟩
      · have b0 : (t == 0) = false := by simp [e0]
        by_cases e1 : t = 1
        · subst e1
          have hg3' : w.grownBy (w3.alloc (.cells #[] 39)) (some cb) := hg3.trans (World.grownBy_alloc _ _ _)
          have hc3' : Cur (w3.alloc (.cells #[] 39)) cb K (M + 60) := (hc3.alloc _).more (by omega)
          have hr3' := row_new_at w3 w3.heap.size w.heap.size 2 39 rfl hs3
          have H1 := hide hg3'; have H2 := hide hr3'; have H3 := hide hc3'
          clear hg3 hr3 hc3 hg3' hr3' hc3' HO hgw hcu HG2 HC2 HR
          go_wp2
          go_loopw [3, 6] (fun s y wr => ∃ (k : Nat) (l : List (Int × Int)), k ≤ 21 ∧ l.length = k ∧ y = .int .i64 k ∧ w.grownBy wr (some cb) ∧ Cur wr cb K (M + 60 + 2 * k) ∧ wr.ownsRow w.heap.size 39 2 s k (l.flatMap sdC)) (fun _ y _ => 22 - (intOf y).toNat)
          case atStart => exact ⟨0, [], by omega, rfl, rfl, H1.out, H3.out, H2.out⟩
          case round =>
            obtain ⟨k, m, hk, hml, rfl, hgw, hcu, hown⟩ := hrel
            have HO := hide hown
            clear hown
            go_wp2_with fail
            refine (spec_pick cb K _ 2 _ (by omega) (by omega) hcu).mono ?_
            rintro e w5 ⟨u, rfl, u0, u1, _, hd5⟩
            have u2 := u1 (by omega)
            have hg5 := hgw.trans hd5.1
            have hc5 := hd5.2
            have hr5 := row_drawn (M := M) (K := K) HO.out hd5.1 hcb
            have hs5 := hg5.size
            clear hd5 u1
            by_cases hlt : (k : Int) < 20 + u
            · skip
              go_wp2_with (at_builtin; refine wpList_append_far _ rfl _ _ 31 rfl w.heap.size 39 i0 (.agg #[.int .i64 0, .int .i64 0]) 2 16 Try.underlying31 hi0 hy0 hy1 hy2 rfl (by decide) _ _ _ rfl (hr5.alloc _) ⟨w5.heap.size, 0, none⟩ 1 1 (sdC ((k : Int), 10 * (k : Int))) rfl rfl ?c1 ?c2 ?c3 ?c4 ?c5 ?_)
              case c1 => exact cells_at w5 _ _ _ rfl
              case c2 => intro u hu; simp only [sdC, List.mem_cons, List.not_mem_nil, or_false] at hu; rcases hu with rfl | rfl <;> rfl
              case c3 => unfold maxLen; omega
              case c4 => omega
              case c5 => simp only [World.size_alloc]; omega
              intro v6 w6 hown6 hgrow6 _
              have hlt6 := hr5.lt
              have hgw6 : w.grownBy w6 (some cb) := grown_new (hg5.trans (World.grownBy_alloc _ _ _)) hgrow6 (fun g hg => (hlt6 g hg).1)
              have hcu6 := (hc5.alloc (.cells (sdC ((k : Int), 10 * (k : Int))).toArray 39)).apart hgrow6 (fun g hg => by have := (hlt6 g hg).1; omega)
              have hsz6 := hgw6.size
              have hrow6 : w6.ownsRow w.heap.size 39 2 v6 (k + 1) ((m ++ [((k : Int), 10 * (k : Int))]).flatMap sdC) := by rw [← flat_snoc]; exact hown6
              have H1 := hide hgw6; have H2 := hide hrow6; have H3 := hide hcu6
              clear hown6 hgrow6 hlt6 hrow6 hr5 hgw6 hcu6
              go_wp2
              go_roundw
              case rel => exact ⟨k + 1, m ++ [((k : Int), 10 * (k : Int))], by omega, by simp; omega, by go_num, H1.out, H3.out.more (by omega), H2.out⟩
              case measure => simp [intOf]; omega
            · have H1 := hide hg5; have H2 := hide hr5; have H3 := hide hc5
              clear hg5 hr5 hc5
              go_wp2
              go_returns
              exact ⟨_, m, by omega, rfl, ⟨H1.out, H3.out.more (by omega)⟩, by rw [hml]; exact own_sd hml.symm H2.out⟩
        · have b1 : (t == 1) = false := by simp [e1]
          have H1 := hide hg3; have H2 := hide hr3; have H3 := hide hc3
          clear hg3 hr3 hc3
          go_wp2
          go_returns
          exact ⟨_, l, by omega, rfl, ⟨H1.out, H3.out.more (by omega)⟩, own_sd rfl H2.out⟩
end Go.Proofs.Ytfdgnjnnbhelgaa
