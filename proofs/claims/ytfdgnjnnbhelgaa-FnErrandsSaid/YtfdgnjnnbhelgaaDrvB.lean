/- Draws of errands and of plans: made by err2gen.py. -/
import Derived.Test.YtfdgnjnnbhelgaaDrvA
import Derived.Test.YtfdgnjnnbhelgaaRowsC
import Derived.Test.YtfdgnjnnbhelgaaApp
import Derived.Test.YtfdgnjnnbhelgaaVisG
import Derived.IntWalk
namespace Go.Proofs.Ytfdgnjnnbhelgaa
open Go.RowKit
set_option linter.unusedVariables false
set_option linter.unusedSimpArgs false

def qC (p : Int × Int × Int × Int) : List Value := [.int .i64 p.1, .int .i64 p.2.1, .int .i64 p.2.2.1, .int .i64 p.2.2.2]
def qX (l : List (Int × Int × Int × Int)) (i j : Nat) : Int := if j = 0 then (l.getD i (0, 0, 0, 0)).1 else if j = 1 then (l.getD i (0, 0, 0, 0)).2.1 else if j = 2 then (l.getD i (0, 0, 0, 0)).2.2.1 else (l.getD i (0, 0, 0, 0)).2.2.2
theorem qC_get (l : List (Int × Int × Int × Int)) : ∀ i j (hi : i < l.length), j < 4 → (qC l[i])[j]? = some (iv (qX l) i j) := by
  intro i j hi hj
  have e : l.getD i (0, 0, 0, 0) = l[i] := by simp [List.getD, hi]
  unfold iv qX
  rw [e]
  rcases (by omega : j = 0 ∨ j = 1 ∨ j = 2 ∨ j = 3) with rfl | rfl | rfl | rfl <;> rfl
theorem qC_one (p : Int × Int × Int × Int) : ∀ u ∈ qC p, u.oneCell' = true := by
  intro u hu
  simp only [qC, List.mem_cons, List.not_mem_nil, or_false] at hu
  rcases hu with rfl | rfl | rfl | rfl <;> rfl
theorem qCs_one (l : List (Int × Int × Int × Int)) : ∀ u ∈ l.flatMap qC, u.oneCell' = true := by
  intro u hu
  rw [List.mem_flatMap] at hu
  obtain ⟨p, _, h⟩ := hu
  exact qC_one p u h
theorem qC_len (l : List (Int × Int × Int × Int)) : (l.flatMap qC).length = l.length * 4 := flat_len (g := qC) (k := 4) (fun _ => rfl) l
theorem own_q {w : World} {base n : Nat} {E : TypeId} {v : Value} {l : List (Int × Int × Int × Int)} (hn : n = l.length) (h : w.ownsRow base E 4 v n (l.flatMap qC)) : Own w base E 4 v n (iv (qX l)) :=
  own_of_rows hn (fun _ => rfl) (qC_get l) h
theorem row_formQ {w : World} {base n s : Nat} {E : TypeId} {v : Value} {xs : List Value} (h : w.ownsRow base E s v n xs) (hn : 0 < n) : ∃ g cap, v = .slice (some ⟨g, 0, none⟩) n cap := by
  rcases h.2 with ⟨_, h0⟩ | ⟨gg, cp, cur, hv, _, _, hc, _⟩
  · omega
  · exact ⟨gg, cp, hv⟩
theorem Cur.apart {w w' : World} {cb M : Nat} {K : Code} {row : Option Nat} (h : Cur w cb K M) (hg : w.grownBy w' row) (hne : ∀ g, row = some g → cb < g) : Cur w' cb K M := by
  obtain ⟨⟨h0, h1, h2⟩, a, s, h3, h4⟩ := h
  have hlt := h4.lt
  refine ⟨⟨h0, fun hn => ?_, h2⟩, a, s, h3, (hg.block cb hlt (fun e => by have := hne cb e.symm; omega)).trans h4⟩
  obtain ⟨b, off, e, hb, hc⟩ := h1 hn
  exact ⟨b, off, e, hb, fun i j hi hj => (World.cell?_of_block (hg.block b (by omega) (fun e => by have := hne b e.symm; omega))).trans (hc i j hi hj)⟩
theorem grown_new {w a b : World} {cb : Nat} {row : Option Nat} (h : w.grownBy a (some cb)) (hg : a.grownBy b row) (hr : ∀ g, row = some g → w.heap.size ≤ g) : w.grownBy b (some cb) :=
  ⟨hg.os.trans h.os, hg.tape.trans h.tape, hg.output.trans h.output, Nat.le_trans h.size hg.size, fun k hk hne => (hg.block k (Nat.lt_of_lt_of_le hk h.size) (fun e => by have := hr k e.symm; omega)).trans (h.block k hk hne)⟩
theorem row_drawn {w w' : World} {base n s cb M : Nat} {K : Code} {E : TypeId} {v : Value} {xs : List Value} (h : w.ownsRow base E s v n xs) (hd : w.grownBy w' (some cb)) (hb : cb < base) : w'.ownsRow base E s v n xs :=
  h.kept (row := some cb) hd (.inr fun e => by have := (h.lt cb e).1; omega)

set_option maxHeartbeats 4000000 in
set_option maxRecDepth 100000 in
theorem spec_dErrs (cb : Nat) (K : Code) (M : Nat) (w : World) (hM : M ≤ 800000000000) (h : Cur w cb K M) :
    Calls Try.prog 104 #[.pointer (some ⟨cb, 0, none⟩)] w fun e w' => ∃ (v : Value) (l : List (Int × Int × Int × Int)), l.length ≤ 40 ∧ e = .returned v ∧ Drawn w cb K (M + 600) w' ∧ Own w' w.heap.size 66 4 v l.length (iv (qX l)) := by
  obtain ⟨i0, hi0, hy0, hy1, hy2⟩ := info_parts info_errand
  have hcb := h.lt
  go_enter Try.func104, Try.ntmps104
  go_wp2_with fail
  refine (spec_pick cb K M 9 _ (by omega) (by omega) (h.alloc _)).mono ?_
  rintro e w2 ⟨N, rfl, n0, n1, _, hd2⟩
  have n2 := n1 (by omega)
  obtain ⟨N, rfl⟩ : ∃ m : Nat, N = m := ⟨N.toNat, by omega⟩
  have hg2 : w.grownBy w2 (some cb) := World.grownBy.trans (by (repeat (first | with_reducible assumption | (with_reducible refine World.grownBy.trans ?_ (World.grownBy_alloc _ _ _)) | (with_reducible refine grown_setNew ?_ (by (first | with_reducible assumption | omega | (simp; done) | (simp; omega))) _) | with_reducible exact grown_refl _ _))) hd2.1
  have hr2 := row_drawn (M := M) (K := K) (row_new_at w w.heap.size w.heap.size 4 66 rfl (Nat.le_refl _)) hd2.1 hcb
  have HR := hide hr2; have HC2 := hide hd2.2; have HG2 := hide hg2
  clear hr2 hd2 hg2 n1
  have hN : N ≤ 8 := by omega
  go_wp2
  go_loopw [3, 4, 5] (fun s st y wr => ∃ (k m g cap : Nat) (z : Int) (l : List (Int × Int × Int × Int)), k ≤ N ∧ m + k = N ∧ l.length = m ∧ y = .int .i64 k ∧ st = .int .i64 z ∧ 0 ≤ z ∧ z ≤ 3 * m ∧ s = .slice (some ⟨g, 0, none⟩) m cap ∧ w.grownBy wr (some cb) ∧ Cur wr cb K (M + 2 + 24 * (N - k)) ∧ wr.ownsRow w.heap.size 66 4 (.slice (some ⟨g, 0, none⟩) m cap) m (l.flatMap qC)) (fun _ _ y _ => (intOf y).toNat)
  case atStart => exact ⟨N, 0, w.heap.size, 0, 0, [], Nat.le_refl _, by omega, rfl, rfl, rfl, by omega, by omega, rfl, HG2.out, HC2.out.more (by omega), HR.out⟩
  case round =>
    obtain ⟨k, m, g, cap, z, l, hk, hmk, hl, rfl, rfl, hz0, hz1, rfl, hg3, hc3, hown⟩ := hrel
    have HLN := hide hl
    have hglt := (hown.lt g rfl).1
    have hr3 := hown
    clear hown hl
    by_cases hk0 : 0 < k
    · have hkk : (k : Int) - 1 = ((k - 1 : Nat) : Int) := by omega
      go_wp2_with fail
      refine (spec_pick cb K (_) 3 _ (by omega) (by omega) hc3).mono ?_
      rintro e w4 ⟨u, rfl, u0, u1, u2, hd4⟩
      have hg4 : w.grownBy w4 (some cb) := hg3.trans hd4.1
      have hc4 := hd4.2
      have hr4 := row_drawn (M := M) (K := K) hr3 hd4.1 hcb
      clear hd4 hr3
      have u3 := u1 (by omega)
      go_wp2_with fail
      refine (spec_pick cb K (_) 90 _ (by omega) (by omega) hc4).mono ?_
      rintro e w5 ⟨t, rfl, t0, t1, t2, hd5⟩
      have hg5 : w.grownBy w5 (some cb) := hg4.trans hd5.1
      have hc5 := hd5.2
      have hr5 := row_drawn (M := M) (K := K) hr4 hd5.1 hcb
      clear hd5 hr4
      have t3 := t1 (by omega)
      clear u1 u2 t1 t2
      go_wp2_with fail
      refine (spec_errandD cb K _ _ _ (by omega) hc5).mono ?_
      rintro e w6a ⟨a, b, c, d, rfl, hd6⟩
      have hg6 : w.grownBy w6a (some cb) := hg5.trans hd6.1
      have hc6 := hd6.2
      have hr6 := row_drawn (M := M) (K := K) hr5 hd6.1 hcb
      have hs6 := hg6.size
      clear hd6 hr5 hg5 hc5 hg4 hc4 hg3 hc3
      go_wp2_with (at_builtin; refine wpList_append_far _ rfl _ _ 56 rfl w.heap.size 66 i0 (.agg #[.int .i64 0, .int .i64 0, .int .i64 0, .int .i64 0]) 4 32 Try.underlying56 hi0 hy0 hy1 hy2 rfl (by decide) _ _ _ rfl (hr6.alloc _) ⟨w6a.heap.size, 0, none⟩ 1 1 (qC (a, b, c, d)) rfl rfl ?c1 ?c2 ?c3 ?c4 ?c5 ?_)
      case c1 => exact cells_at w6a _ _ _ rfl
      case c2 => exact qC_one _
      case c3 => unfold maxLen; omega
      case c4 => omega
      case c5 => simp only [World.size_alloc]; omega
      intro v6 w6 hown6 hgrow6 _
      have hlt6 := hr6.lt
      have hgw6 : w.grownBy w6 (some cb) := grown_new (hg6.trans (World.grownBy_alloc _ _ _)) hgrow6 (fun g hg => (hlt6 g hg).1)
      have hcu6 := (hc6.alloc (.cells (qC (a, b, c, d)).toArray 66)).apart hgrow6 (fun g hg => by have := (hlt6 g hg).1; omega)
      have hsz6 := hgw6.size
      obtain ⟨g6, cap6, rfl⟩ := row_formQ hown6 (by omega)
      have hrow6 : w6.ownsRow w.heap.size 66 4 (.slice (some ⟨g6, 0, none⟩) (m + 1 : Nat) cap6) (m + 1) ((l ++ [(a, b, c, d)]).flatMap qC) := by rw [← flat_snoc]; exact hown6
      have H1 := hide hgw6; have H2 := hide hrow6; have H3 := hide hcu6
      clear hown6 hgrow6 hlt6 hrow6 hr6 hgw6 hcu6
      go_wp2
      go_roundw
      case rel => exact ⟨k - 1, m + 1, g6, cap6, _, l ++ [(a, b, c, d)], by omega, by omega, by simp [HLN.out], by first | (congr 1; done) | (congr 1; omega), rfl, by omega, by omega, rfl, H1.out, H3.out.more (by omega), H2.out⟩
      case measure => simp [intOf]; omega
    · obtain rfl : k = 0 := by omega
      have hlen : m ≤ 8 := by omega
      go_wp2_with fail
      refine (spec_one cb K _ 24 _ (by omega) (by omega) hc3).mono ?_
      rintro e w4 ⟨on, rfl, hd4⟩
      have hg4 : w.grownBy w4 (some cb) := hg3.trans hd4.1
      have hc4 := hd4.2
      have hr4 := row_drawn (M := M) (K := K) hr3 hd4.1 hcb
      have H1 := hide hg4; have H2 := hide hr4; have H3 := hide hc4
      clear hd4 hr3 hg3 hc3 hg4 hr4 hc4
      cases on
      · go_wp2
        go_returns
        exact ⟨_, l, by rw [HLN.out]; omega, rfl, ⟨H1.out, H3.out.more (by omega)⟩, by rw [HLN.out]; exact own_q HLN.out.symm H2.out⟩
      · go_wp2
        go_loopw [3, 4] (fun s st wr => ∃ (k g cap : Nat) (z : Int) (l : List (Int × Int × Int × Int)), k ≤ 13 ∧ l.length = k ∧ s = .slice (some ⟨g, 0, none⟩) k cap ∧ st = .int .i64 z ∧ 0 ≤ z ∧ z ≤ 24 + k ∧ w.grownBy wr (some cb) ∧ Cur wr cb K (M + 260 + 2 * k) ∧ wr.ownsRow w.heap.size 66 4 (.slice (some ⟨g, 0, none⟩) k cap) k (l.flatMap qC)) (fun s _ _ => match s with | .slice _ n _ => 14 - n | _ => 0)
        case atStart => exact ⟨m, g, cap, z, l, by omega, HLN.out, rfl, rfl, hz0, by omega, H1.out, H3.out.more (by omega), H2.out⟩
        case round =>
          obtain ⟨k, g, cap, z, l, hk, hl, rfl, rfl, hz0, hz1, hg3, hc3, hr3⟩ := hrel
          have HLN := hide hl
          clear hl
          go_wp2_with fail
          refine (spec_pick cb K (_) 2 _ (by omega) (by omega) hc3).mono ?_
          rintro e w4 ⟨u, rfl, u0, u1, u2, hd4⟩
          have hg4 : w.grownBy w4 (some cb) := hg3.trans hd4.1
          have hc4 := hd4.2
          have hr4 := row_drawn (M := M) (K := K) hr3 hd4.1 hcb
          clear hd4 hr3
          have u3 := u1 (by omega)
          have hs4 := hg4.size
          clear u1 u2
          by_cases hlt : (k : Int) < 12 + u
          · obtain ⟨y, hy⟩ : ∃ y : Int, 1 + (k : Int) % 3 = y := ⟨_, rfl⟩
            go_wp2_with (at_builtin; refine wpList_append_far _ rfl _ _ 56 rfl w.heap.size 66 i0 (.agg #[.int .i64 0, .int .i64 0, .int .i64 0, .int .i64 0]) 4 32 Try.underlying56 hi0 hy0 hy1 hy2 rfl (by decide) _ _ _ rfl (hr4.alloc _) ⟨w4.heap.size, 0, none⟩ 1 1 (qC (z + 1, y, 2, 20)) rfl rfl ?c1 ?c2 ?c3 ?c4 ?c5 ?_)
            case c1 => exact cells_at w4 _ _ _ rfl
            case c2 => exact qC_one _
            case c3 => unfold maxLen; omega
            case c4 => omega
            case c5 => simp only [World.size_alloc]; omega
            intro v6 w6 hown6 hgrow6 _
            have hlt6 := hr4.lt
            have hgw6 : w.grownBy w6 (some cb) := grown_new (hg4.trans (World.grownBy_alloc _ _ _)) hgrow6 (fun g hg => (hlt6 g hg).1)
            have hcu6 := (hc4.alloc (.cells (qC (z + 1, y, 2, 20)).toArray 66)).apart hgrow6 (fun g hg => by have := (hlt6 g hg).1; omega)
            have hsz6 := hgw6.size
            obtain ⟨g6, cap6, rfl⟩ := row_formQ hown6 (by omega)
            have hrow6 : w6.ownsRow w.heap.size 66 4 (.slice (some ⟨g6, 0, none⟩) (k + 1 : Nat) cap6) (k + 1) ((l ++ [(z + 1, y, 2, 20)]).flatMap qC) := by rw [← flat_snoc]; exact hown6
            have H1 := hide hgw6; have H2 := hide hrow6; have H3 := hide hcu6
            clear hown6 hgrow6 hlt6 hrow6 hr4 hgw6 hcu6
            go_wp2
            go_roundw
            case rel => exact ⟨k + 1, g6, cap6, _, l ++ [(z + 1, y, 2, 20)], by omega, by simp [HLN.out], rfl, rfl, by omega, by omega, H1.out, H3.out.more (by omega), H2.out⟩
            case measure => simp; omega
          · have H1 := hide hg4; have H2 := hide hr4; have H3 := hide hc4
            clear hg4 hr4 hc4
            go_wp2
            go_returns
            exact ⟨_, l, by rw [HLN.out]; omega, rfl, ⟨H1.out, H3.out.more (by omega)⟩, by rw [HLN.out]; exact own_q HLN.out.symm H2.out⟩

end Go.Proofs.Ytfdgnjnnbhelgaa
