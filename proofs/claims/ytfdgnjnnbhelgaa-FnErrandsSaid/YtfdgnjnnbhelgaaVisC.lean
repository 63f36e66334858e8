/- Chapter 23: the ends of a plan. -/
import Derived.Test.YtfdgnjnnbhelgaaVisB
import Derived.Laws.AppendOwn
import Derived.OwnWalk
namespace Go.Proofs.Ytfdgnjnnbhelgaa
open Go.RowKit
set_option linter.unusedVariables false
set_option linter.unusedSimpArgs false

/-- When the k-th errand of a plan has ended. -/
def endH (X Y : Nat → Nat → Int) : Nat → Int
  | 0 => 0
  | k + 1 => endH X Y k + 1 + X (Y k 0).toNat 1
/-- A list of numbers, laid cell by cell. -/
def ints (f : Nat → Int) (k : Nat) : List Value := (List.range k).map fun i => .int .i64 (f i)
theorem ints_snoc (f : Nat → Int) (k : Nat) : ints f k ++ [.int .i64 (f k)] = ints f (k + 1) := by
  simp [ints, List.range_succ]
theorem own_of_row {w : World} {base n : Nat} {E : TypeId} {v : Value} {f : Nat → Int} (h : w.ownsRow base E 1 v n (ints f n)) : Own w base E 1 v n (iv fun i _ => f i) := by
  rcases h.2 with ⟨rfl, rfl⟩ | ⟨g, cap, cur, rfl, hg, hh, hc, hm, hs, ht⟩
  · exact .inl ⟨rfl, rfl⟩
  · refine .inr ⟨g, cap, cur, rfl, hg, hh, hc, hm, hs, fun i j hi hj => ?_⟩
    obtain rfl : j = 0 := by omega
    have h1 : (cur.toList.take (n * 1))[i]? = (ints f n)[i]? := by rw [ht]
    rw [List.getElem?_take, if_pos (by omega)] at h1
    simp only [ints, List.getElem?_map, List.getElem?_range hi, Option.map_some, Array.getElem?_toList] at h1
    simpa [iv] using h1

/-- All places of a plan are errands. -/
def planIn (n m : Nat) (Y : Nat → Nat → Int) : Prop := ∀ i, i < m → 0 ≤ Y i 0 ∧ Y i 0 < n
theorem endH_bd {n m : Nat} {X Y : Nat → Nat → Int} (hX : ∀ i, i < n → errOk X i) (hY : planIn n m Y) : ∀ k, k ≤ m → 0 ≤ endH X Y k ∧ endH X Y k ≤ 13 * k
  | 0, _ => by simp [endH]
  | k + 1, hk => by
    have h1 := endH_bd hX hY k (by omega)
    have h2 := hY k (by omega)
    have h3 := err_of (hX (Y k 0).toNat (by omega))
    simp only [endH]; omega

set_option maxHeartbeats 1000000 in
theorem impl_ends (A B : Option Addr) (n m c d : Nat) (X Y : Nat → Nat → Int) (w : World) (hn : n ≤ 1048576) (hm : m ≤ 1048576) (ha : Arr w w.heap.size A n 4 (iv X)) (hb : Arr w w.heap.size B m 1 (iv Y)) (hX : ∀ i, i < n → errOk X i) (hY : planIn n m Y) :
    Calls Try.prog 97 #[.slice A n c, .slice B m d] w fun e w' => ∃ v, e = .returned v ∧ Below w.heap.size w w' ∧ Own w' w.heap.size 3 1 v m (iv fun i _ => endH X Y (i + 1)) := by
  obtain ⟨i0, hi0, hz0, hz1, hz2⟩ := info_parts info_int
  have HX := hide hX; have HY := hide hY
  clear hX hY
  go_enter Try.func97, Try.ntmps97
  go_wp2
  go_loopw [5, 6, 12] (fun v t i wr => ∃ (k : Nat) (z : Int), k ≤ m ∧ i = .int .i64 k ∧ t = .int .i64 z ∧ z = endH X Y k ∧ Below w.heap.size w wr ∧ wr.ownsRow w.heap.size 3 1 v k (ints (fun i => endH X Y (i + 1)) k)) (fun _ _ i _ => m - (intOf i).toNat)
  case atStart => exact ⟨0, 0, Nat.zero_le _, rfl, rfl, rfl, by go_grown, World.ownsRow_made _ #[] 0 (Nat.le_refl _) (Nat.zero_le _) (by simp)⟩
  case round =>
    obtain ⟨k, z, hk, rfl, rfl, hz, hbw, hown⟩ := hrel
    have bz := endH_bd HX.out HY.out k hk
    rw [← hz] at bz
    obtain ⟨z1, z2⟩ := bz
    have HZ := hide hz
    clear hz
    by_cases hlt : k < m
    · obtain ⟨b2, off2, rfl, hbb2, hc2⟩ := hb (by omega)
      have hy := HY.out k hlt
      obtain ⟨y1, y2⟩ := hy
      obtain ⟨b, off, rfl, hbb, hc⟩ := ha (by omega)
      obtain ⟨p, hp⟩ : ∃ p : Nat, Y k 0 = p := ⟨(Y k 0).toNat, by omega⟩
      have hpn : p < n := by omega
      obtain ⟨q1, q2⟩ := bcell hbw
      have e0 := hc2 k 0 hlt (by omega)
      have c1 := hc p 1 hpn (by omega)
      simp only [Nat.add_zero, Nat.mul_one, iv] at e0 c1
      rw [hp] at e0
      have hx := err_of (HX.out p hpn)
      obtain ⟨_, _, x3, x4, _⟩ := hx
      have hend : z + (1 + X p 1) = endH X Y (k + 1) := by rw [endH, ← HZ.out, hp]; simp <;> omega
      have HE := hide hend; have HP := hide hp
      have hsw := hbw.size
      clear hend hp hc hc2 ha hb y1 y2
      go_wp2_with (at_builtin; refine wpList_append_own _ rfl _ _ 34 rfl w.heap.size 3 i0 (.int .i64 0) 1 8 Try.underlying34 hi0 hz0 hz1 hz2 rfl (by decide) _ _ _ rfl (hown.alloc _) ⟨wr.heap.size, 0, none⟩ 1 1 [.int .i64 (z + (1 + X p 1))] rfl rfl ?c1 ?c2 ?c3 ?c4 ?c5 ?_)
      case c1 => exact cell_one_new _ _ _
      case c2 => intro u hu; simp only [List.mem_singleton] at hu; subst hu; rfl
      case c3 => unfold maxLen; omega
      case c4 => omega
      case c5 => simp only [World.size_alloc]; omega
      intro v1 w1 hown1 hgrow1 _
      have hlt1 := hown.lt
      rw [HE.out, ints_snoc (fun i => endH X Y (i + 1)) k] at hown1
      have HO := hide hown1; have HG := hide hgrow1; have HL := hide hlt1
      clear hown hown1 hgrow1 hlt1
      go_wp2
      go_roundw
      case rel => exact ⟨k + 1, _, by omega, by go_num, rfl, HE.out, (below_al hbw).grown HG.out (by simp only [World.size_alloc]; omega) (fun g hg => (HL.out g hg).1), HO.out⟩
      case measure => simp [intOf]; omega
    · obtain rfl : k = m := by omega
      have HO := hide hown
      clear hown
      go_wp2
      go_ret
      exact ⟨_, rfl, hbw, own_of_row HO.out⟩
set_option maxHeartbeats 1000000 in
theorem spec_ends (A B : Option Addr) (n m c d : Nat) (X Y : Nat → Nat → Int) (w : World) (hn : n ≤ 1048576) (hm : m ≤ 1048576) (ha : Arr w w.heap.size A n 4 (iv X)) (hb : Arr w w.heap.size B m 1 (iv Y)) (hX : ∀ i, i < n → errOk X i) (hY : planIn n m Y) :
    Calls Try.prog 92 #[.slice A n c, .slice B m d] w fun e w' => ∃ v, e = .returned v ∧ Below w.heap.size w w' ∧ Own w' w.heap.size 3 1 v m (iv fun i _ => endH X Y (i + 1)) := by
  obtain ⟨i0, hi0, hz0, hz1, hz2⟩ := info_parts info_int
  have HX := hide hX; have HY := hide hY
  clear hX hY
  go_enter Try.func92, Try.ntmps92
  go_wp2
  go_loopw [5, 6, 7] (fun v t i wr => ∃ (k : Nat) (z : Int), k ≤ m ∧ i = .int .i64 k ∧ t = .int .i64 z ∧ z = endH X Y k ∧ Below w.heap.size w wr ∧ wr.ownsRow w.heap.size 3 1 v k (ints (fun i => endH X Y (i + 1)) k)) (fun _ _ i _ => m - (intOf i).toNat)
  case atStart => exact ⟨0, 0, Nat.zero_le _, rfl, rfl, rfl, by go_grown, World.ownsRow_made _ #[] 0 (Nat.le_refl _) (Nat.zero_le _) (by simp)⟩
  case round =>
    obtain ⟨k, z, hk, rfl, rfl, hz, hbw, hown⟩ := hrel
    have bz := endH_bd HX.out HY.out k hk
    rw [← hz] at bz
    obtain ⟨z1, z2⟩ := bz
    have HZ := hide hz
    clear hz
    by_cases hlt : k < m
    · obtain ⟨b2, off2, rfl, hbb2, hc2⟩ := hb (by omega)
      have hy := HY.out k hlt
      obtain ⟨y1, y2⟩ := hy
      obtain ⟨b, off, rfl, hbb, hc⟩ := ha (by omega)
      obtain ⟨p, hp⟩ : ∃ p : Nat, Y k 0 = p := ⟨(Y k 0).toNat, by omega⟩
      have hpn : p < n := by omega
      obtain ⟨q1, q2⟩ := bcell hbw
      have e0 := hc2 k 0 hlt (by omega)
      have c1 := hc p 1 hpn (by omega)
      simp only [Nat.add_zero, Nat.mul_one, iv] at e0 c1
      rw [hp] at e0
      have hx := err_of (HX.out p hpn)
      obtain ⟨_, _, x3, x4, _⟩ := hx
      have hend : z + 1 + X p 1 = endH X Y (k + 1) := by rw [endH, ← HZ.out, hp]; simp <;> omega
      have HE := hide hend; have HP := hide hp
      have hsw := hbw.size
      clear hend hp hc hc2 ha hb y1 y2
      go_wp2_with (at_builtin; refine wpList_append_own _ rfl _ _ 34 rfl w.heap.size 3 i0 (.int .i64 0) 1 8 Try.underlying34 hi0 hz0 hz1 hz2 rfl (by decide) _ _ _ rfl (hown.alloc _) ⟨wr.heap.size, 0, none⟩ 1 1 [.int .i64 (z + 1 + X p 1)] rfl rfl ?c1 ?c2 ?c3 ?c4 ?c5 ?_)
      case c1 => exact cell_one_new _ _ _
      case c2 => intro u hu; simp only [List.mem_singleton] at hu; subst hu; rfl
      case c3 => unfold maxLen; omega
      case c4 => omega
      case c5 => simp only [World.size_alloc]; omega
      intro v1 w1 hown1 hgrow1 _
      have hlt1 := hown.lt
      rw [HE.out, ints_snoc (fun i => endH X Y (i + 1)) k] at hown1
      have HO := hide hown1; have HG := hide hgrow1; have HL := hide hlt1
      clear hown hown1 hgrow1 hlt1
      go_wp2
      go_roundw
      case rel => exact ⟨k + 1, _, by omega, by go_num, rfl, HE.out, (below_al hbw).grown HG.out (by simp only [World.size_alloc]; omega) (fun g hg => (HL.out g hg).1), HO.out⟩
      case measure => simp [intOf]; omega
    · obtain rfl : k = m := by omega
      have HO := hide hown
      clear hown
      go_wp2
      go_ret
      exact ⟨_, rfl, hbw, own_of_row HO.out⟩
end Go.Proofs.Ytfdgnjnnbhelgaa
