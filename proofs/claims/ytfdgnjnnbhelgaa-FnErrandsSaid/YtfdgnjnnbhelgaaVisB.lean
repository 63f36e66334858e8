/- Chapter 23: the hours of each rank. -/
import Derived.Test.YtfdgnjnnbhelgaaVisA
import Derived.Test.YtfdgnjnnbhelgaaTyInt
import Derived.RegionTactic
import Derived.BigRegion
namespace Go.Proofs.Ytfdgnjnnbhelgaa
open Go.RowKit
set_option linter.unusedVariables false
set_option linter.unusedSimpArgs false

/-- The hours of rank r + 1 among the first k errands. -/
def hrs (X : Nat → Nat → Int) : Nat → Nat → Int
  | 0, _ => 0
  | k + 1, r => hrs X k r + if X k 2 = (r : Int) + 1 then X k 1 else 0
theorem err_of {X : Nat → Nat → Int} {k : Nat} (h : errOk X k) : 1 ≤ X k 0 ∧ X k 0 ≤ 99 ∧ 1 ≤ X k 1 ∧ X k 1 ≤ 12 ∧ 1 ≤ X k 2 ∧ X k 2 ≤ 5 ∧ 1 ≤ X k 3 ∧ X k 3 ≤ 200 := by
  have := h.1
  simp only [errB, inB, Bool.and_eq_true, decide_eq_true_eq] at this
  omega
theorem errs_of {n : Nat} {X : Nat → Nat → Int} (h : errsB n X = true) : n ≤ 12 ∧ ∀ i, i < n → errOk X i := by
  simp only [errsB, Bool.and_eq_true, decide_eq_true_eq] at h
  exact ⟨h.2, h.1⟩
theorem hrs_bd {X : Nat → Nat → Int} : ∀ {k : Nat} {r : Nat}, (∀ i, i < k → errOk X i) → 0 ≤ hrs X k r ∧ hrs X k r ≤ 12 * k
  | 0, r, _ => by simp [hrs]
  | k + 1, r, h => by
    have h1 := hrs_bd (k := k) (r := r) fun i hi => h i (by omega)
    have h2 := err_of (h k (by omega))
    simp only [hrs]
    split <;> omega
theorem hrs_set {X : Nat → Nat → Int} {cur : Array Value} {k q : Nat} (hs : cur.size = 5) (hq : q < 5) (hX : X k 2 = (q : Int) + 1) (h : ∀ r, r < 5 → cur[r]? = some (.int .i64 (hrs X k r))) :
    ∀ r, r < 5 → (cur.setIfInBounds q (.int .i64 (hrs X k q + X k 1)))[r]? = some (.int .i64 (hrs X (k + 1) r)) := by
  intro r hr
  simp only [Array.getElem?_setIfInBounds]
  by_cases e : q = r
  · subst e
    rw [if_pos rfl, if_pos (by omega)]
    simp [hrs, hX]
  · rw [if_neg e, h r hr]
    simp only [hrs]
    rw [if_neg (by omega)]
    simp
theorem mk5 (w : World) : (Instr.makeSlice 34 (.int .i64 5) (.int .i64 5)).run Try.prog w = .ok (.slice (some ⟨w.heap.size, 0, none⟩) 5 5) (w.alloc (.cells (madeCells #[.int .i64 0] 5) 3)) :=
  mk_row (P := Try.prog) (.int .i64 0) 1 8 Try.underlying34 info_int 5 (by omega) (by omega) w
theorem made5 : ∀ r, r < 5 → (madeCells #[.int .i64 0] 5)[r]? = some (.int .i64 0) := by
  intro r hr
  rw [Array.getElem?_eq_getElem (by simpa [madeCells] using hr)]
  simp [madeCells, Nat.mod_one]
theorem own5 {w : World} {base g : Nat} {cur : Array Value} {f : Nat → Int} (hg : base ≤ g) (hb : Blk w g 3 cur) (hs : cur.size = 5) (h : ∀ r, r < 5 → cur[r]? = some (.int .i64 (f r))) :
    Own w base 3 1 (.slice (some ⟨g, 0, none⟩) 5 5) 5 (iv fun r _ => f r) :=
  Own.made (by omega) hg hb (by omega) fun i j hi hj => by obtain rfl : j = 0 := (by omega); simpa [iv] using h i hi

def HrPost (n : Nat) (X : Nat → Nat → Int) (ok : Bool) (w : World) (e : Ending) (w' : World) : Prop :=
  ∃ (m : Nat) (v : Value), m = (if ok then 5 else 0) ∧ e = .returned (.tuple #[v, .bool ok]) ∧ Below w.heap.size w w' ∧ Own w' w.heap.size 3 1 v m (iv fun r _ => hrs X n r)

theorem impl_hrNo (A : Option Addr) (n c : Nat) (X : Nat → Nat → Int) (hv : errsB n X = false) (w : World) (hn : n ≤ 1048576) (ha : Arr w w.heap.size A n 4 (iv X)) :
    Calls Try.prog 56 #[.slice A n c] w (HrPost n X false w) := by
  go_enter Try.func56, Try.ntmps56
  go_wp2_with fail
  refine (impl_errs _ _ _ X _ hv _ hn ha).mono ?_
  rintro e w1 ⟨rfl, hb1⟩
  obtain ⟨qc1, qf1⟩ := bcell hb1
  have hz1 := hb1.size
  try simp only [World.size_alloc, World.size_setCell, World.size_drew] at hz1
  have hq1 : Below w.heap.size w w1 := below_call (by go_grown) hb1
  try have hl0_1 : w.heap.size < w1.heap.size := by omega
  try have hl1_1 : w.heap.size + 1 < w1.heap.size := by omega
  try have hl2_1 : w.heap.size + 2 < w1.heap.size := by omega
  try have hl3_1 : w.heap.size + 3 < w1.heap.size := by omega
  go_wp2
  go_returns
  exact ⟨0, _, rfl, rfl, hq1, .inl ⟨rfl, rfl⟩⟩
theorem spec_hrNo (A : Option Addr) (n c : Nat) (X : Nat → Nat → Int) (hv : errsB n X = false) (w : World) (hn : n ≤ 1048576) (ha : Arr w w.heap.size A n 4 (iv X)) :
    Calls Try.prog 57 #[.slice A n c] w (HrPost n X false w) := by
  go_enter Try.func57, Try.ntmps57
  go_wp2_with fail
  refine (spec_good23 _ _ _ X _ hv _ hn ha).mono ?_
  rintro e w1 ⟨rfl, hb1⟩
  obtain ⟨qc1, qf1⟩ := bcell hb1
  have hz1 := hb1.size
  try simp only [World.size_alloc, World.size_setCell, World.size_drew] at hz1
  have hq1 : Below w.heap.size w w1 := below_call (by go_grown) hb1
  try have hl0_1 : w.heap.size < w1.heap.size := by omega
  try have hl1_1 : w.heap.size + 1 < w1.heap.size := by omega
  try have hl2_1 : w.heap.size + 2 < w1.heap.size := by omega
  try have hl3_1 : w.heap.size + 3 < w1.heap.size := by omega
  go_wp2
  go_returns
  exact ⟨0, _, rfl, rfl, below_al hq1, .inr ⟨w1.heap.size, 0, _, rfl, hq1.size, Blk.new _ _ _, Nat.le_refl _, by unfold maxLen; omega, by simp, fun i j hi => absurd hi (by omega)⟩⟩

set_option maxHeartbeats 1000000 in
theorem impl_hr (A : Option Addr) (n c : Nat) (X : Nat → Nat → Int) (hv : errsB n X = true) (w : World) (hn : n ≤ 1048576) (ha : Arr w w.heap.size A n 4 (iv X)) :
    Calls Try.prog 56 #[.slice A n c] w (HrPost n X true w) := by
  obtain ⟨hn12, hok⟩ := errs_of hv
  have hmk := mk5
  go_enter Try.func56, Try.ntmps56
  go_wp2_with fail
  refine (impl_errs _ _ _ X _ hv _ hn ha).mono ?_
  rintro e w1 ⟨rfl, hb1⟩
  obtain ⟨qc1, qf1⟩ := bcell hb1
  have hz1 := hb1.size
  try simp only [World.size_alloc, World.size_setCell, World.size_drew] at hz1
  have hq1 : Below w.heap.size w w1 := below_call (by go_grown) hb1
  try have hl0_1 : w.heap.size < w1.heap.size := by omega
  try have hl1_1 : w.heap.size + 1 < w1.heap.size := by omega
  try have hl2_1 : w.heap.size + 2 < w1.heap.size := by omega
  try have hl3_1 : w.heap.size + 3 < w1.heap.size := by omega
  go_wp2
  clear hmk
  have ha1 := ha.below hq1 (Nat.le_refl _)
  have HO := hide hok
  clear hok hv ha qc1 qf1
  go_loopw [13] (fun i wr => ∃ k : Nat, k ≤ n ∧ i = .int .i64 k ∧ Below w.heap.size w wr ∧ Below w1.heap.size w1 wr ∧ ∃ cur : Array Value, Blk wr w1.heap.size 3 cur ∧ cur.size = 5 ∧ ∀ r, r < 5 → cur[r]? = some (.int .i64 (hrs X k r))) (fun i _ => n - (intOf i).toNat)
  case atStart => exact ⟨0, Nat.zero_le _, rfl, below_al hq1, below_al (Below.refl _ _), _, Blk.new _ _ _, by simp [madeCells], fun r hr => by rw [made5 r hr]; simp [hrs]⟩
  case round =>
    obtain ⟨k, hk, rfl, hb, hbb1, cur, hblk, hsz, hcur⟩ := hrel
    by_cases hlt : k < n
    · obtain ⟨b, off, rfl, hbb, hc⟩ := ha1 (by omega)
      obtain ⟨q1, q2⟩ := bcell hbb1
      have hbx : b < w1.heap.size := by omega
      have c0 := hc k 0 hlt (by omega); have c1 := hc k 1 hlt (by omega); have c2 := hc k 2 hlt (by omega); have c3 := hc k 3 hlt (by omega)
      simp only [Nat.add_zero, iv] at c0 c1 c2 c3
      obtain ⟨e1, e2, e3, e4, e5, e6, e7, e8⟩ := err_of (HO.out k hlt)
      obtain ⟨q, hq⟩ : ∃ q : Nat, X k 2 = (q : Int) + 1 := ⟨(X k 2 - 1).toNat, by omega⟩
      have hq5 : q < 5 := by omega
      have hq5' : (q : Int) < 5 := by omega
      rw [hq] at c2
      obtain ⟨r1, r2⟩ := hrs_bd (k := k) (r := q) fun i hi => HO.out i (by omega)
      have d0 := hblk.cell q; have f0 := hblk.frozen q
      rw [hcur q hq5] at d0
      have hlt1 := hblk.lt
      have hfa := frozen_al; have hfo := frozen_out
      have HS := hide hsz; have HC := hide hcur; have HB := hide hblk; have HQ := hide hq
      clear hsz hcur hblk hq hc ha1 e5 e6
      go_wp2
      go_region
      go_wp2
      go_roundw
      case rel =>
        have hrow := hrs_set HS.out hq5 HQ.out HC.out
        exact ⟨k + 1, by omega, by go_num, (below_al (hb.setCell (p := ⟨w1.heap.size, q, none⟩) hq1.size _)).drew, (below_al (hbb1.setCell (p := ⟨w1.heap.size, q, none⟩) (Nat.le_refl _) _)).drew, _, (HB.out.set_ q _).alloc _, by simpa only [Array.size_setIfInBounds] using HS.out, hrow⟩
      case measure => simp [intOf]; omega
    · obtain rfl : k = n := by omega
      go_wp2
      go_returns
      exact ⟨5, _, rfl, rfl, hb, own5 hq1.size hblk hsz hcur⟩
set_option maxHeartbeats 1000000 in
theorem spec_hr (A : Option Addr) (n c : Nat) (X : Nat → Nat → Int) (hv : errsB n X = true) (w : World) (hn : n ≤ 1048576) (ha : Arr w w.heap.size A n 4 (iv X)) :
    Calls Try.prog 57 #[.slice A n c] w (HrPost n X true w) := by
  obtain ⟨hn12, hok⟩ := errs_of hv
  have hmk := mk5
  go_enter Try.func57, Try.ntmps57
  go_wp2_with fail
  refine (spec_good23 _ _ _ X _ hv _ hn ha).mono ?_
  rintro e w1 ⟨rfl, hb1⟩
  obtain ⟨qc1, qf1⟩ := bcell hb1
  have hz1 := hb1.size
  try simp only [World.size_alloc, World.size_setCell, World.size_drew] at hz1
  have hq1 : Below w.heap.size w w1 := below_call (by go_grown) hb1
  try have hl0_1 : w.heap.size < w1.heap.size := by omega
  try have hl1_1 : w.heap.size + 1 < w1.heap.size := by omega
  try have hl2_1 : w.heap.size + 2 < w1.heap.size := by omega
  try have hl3_1 : w.heap.size + 3 < w1.heap.size := by omega
  go_wp2
  clear hmk
  have ha1 := ha.below hq1 (Nat.le_refl _)
  have HO := hide hok
  clear hok hv ha qc1 qf1
  go_loopw [5] (fun i wr => ∃ k : Nat, k ≤ n ∧ i = .int .i64 k ∧ Below w.heap.size w wr ∧ Below w1.heap.size w1 wr ∧ ∃ cur : Array Value, Blk wr w1.heap.size 3 cur ∧ cur.size = 5 ∧ ∀ r, r < 5 → cur[r]? = some (.int .i64 (hrs X k r))) (fun i _ => n - (intOf i).toNat)
  case atStart => exact ⟨0, Nat.zero_le _, rfl, below_al hq1, below_al (Below.refl _ _), _, Blk.new _ _ _, by simp [madeCells], fun r hr => by rw [made5 r hr]; simp [hrs]⟩
  case round =>
    obtain ⟨k, hk, rfl, hb, hbb1, cur, hblk, hsz, hcur⟩ := hrel
    by_cases hlt : k < n
    · obtain ⟨b, off, rfl, hbb, hc⟩ := ha1 (by omega)
      obtain ⟨q1, q2⟩ := bcell hbb1
      have hbx : b < w1.heap.size := by omega
      have c0 := hc k 0 hlt (by omega); have c1 := hc k 1 hlt (by omega); have c2 := hc k 2 hlt (by omega); have c3 := hc k 3 hlt (by omega)
      simp only [Nat.add_zero, iv] at c0 c1 c2 c3
      obtain ⟨e1, e2, e3, e4, e5, e6, e7, e8⟩ := err_of (HO.out k hlt)
      obtain ⟨q, hq⟩ : ∃ q : Nat, X k 2 = (q : Int) + 1 := ⟨(X k 2 - 1).toNat, by omega⟩
      have hq5 : q < 5 := by omega
      have hq5' : (q : Int) < 5 := by omega
      rw [hq] at c2
      obtain ⟨r1, r2⟩ := hrs_bd (k := k) (r := q) fun i hi => HO.out i (by omega)
      have d0 := hblk.cell q; have f0 := hblk.frozen q
      rw [hcur q hq5] at d0
      have hlt1 := hblk.lt
      have HS := hide hsz; have HC := hide hcur; have HB := hide hblk; have HQ := hide hq
      clear hsz hcur hblk hq hc ha1 e5 e6
      go_wp2
      go_region
      go_wp2
      go_roundw
      case rel =>
        have hrow := hrs_set HS.out hq5 HQ.out HC.out
        exact ⟨k + 1, by omega, by go_num, (hb.setCell (p := ⟨w1.heap.size, q, none⟩) hq1.size _).drew, (hbb1.setCell (p := ⟨w1.heap.size, q, none⟩) (Nat.le_refl _) _).drew, _, HB.out.set_ q _, by simpa only [Array.size_setIfInBounds] using HS.out, hrow⟩
      case measure => simp [intOf]; omega
    · obtain rfl : k = n := by omega
      go_wp2
      go_returns
      exact ⟨5, _, rfl, rfl, hb, own5 hq1.size hblk hsz hcur⟩

theorem impl_hrAll (A : Option Addr) (n c : Nat) (X : Nat → Nat → Int) (ok : Bool) (hv : errsB n X = ok) (w : World) (hn : n ≤ 1048576) (ha : Arr w w.heap.size A n 4 (iv X)) :
    Calls Try.prog 56 #[.slice A n c] w (HrPost n X ok w) := by
  cases ok
  · exact impl_hrNo A n c X hv w hn ha
  · exact impl_hr A n c X hv w hn ha
theorem spec_hrAll (A : Option Addr) (n c : Nat) (X : Nat → Nat → Int) (ok : Bool) (hv : errsB n X = ok) (w : World) (hn : n ≤ 1048576) (ha : Arr w w.heap.size A n 4 (iv X)) :
    Calls Try.prog 57 #[.slice A n c] w (HrPost n X ok w) := by
  cases ok
  · exact spec_hrNo A n c X hv w hn ha
  · exact spec_hr A n c X hv w hn ha
def hrLen (ok : Bool) : Nat := if ok then 5 else 0
theorem impl_hrL (A : Option Addr) (n c : Nat) (X : Nat → Nat → Int) (ok : Bool) (m : Nat) (hm : m = hrLen ok) (hv : errsB n X = ok) (w : World) (hn : n ≤ 1048576) (ha : Arr w w.heap.size A n 4 (iv X)) :
    Calls Try.prog 56 #[.slice A n c] w fun e w' => ∃ v, e = .returned (.tuple #[v, .bool ok]) ∧ Below w.heap.size w w' ∧ Own w' w.heap.size 3 1 v m (iv fun r _ => hrs X n r) := by
  subst hm
  exact (impl_hrAll A n c X ok hv w hn ha).mono fun _ _ ⟨_, v, hm, he, hb, ho⟩ => ⟨v, he, hb, by subst hm; exact ho⟩
theorem spec_hrL (A : Option Addr) (n c : Nat) (X : Nat → Nat → Int) (ok : Bool) (m : Nat) (hm : m = hrLen ok) (hv : errsB n X = ok) (w : World) (hn : n ≤ 1048576) (ha : Arr w w.heap.size A n 4 (iv X)) :
    Calls Try.prog 57 #[.slice A n c] w fun e w' => ∃ v, e = .returned (.tuple #[v, .bool ok]) ∧ Below w.heap.size w w' ∧ Own w' w.heap.size 3 1 v m (iv fun r _ => hrs X n r) := by
  subst hm
  exact (spec_hrAll A n c X ok hv w hn ha).mono fun _ _ ⟨_, v, hm, he, hb, ho⟩ => ⟨v, he, hb, by subst hm; exact ho⟩
end Go.Proofs.Ytfdgnjnnbhelgaa
