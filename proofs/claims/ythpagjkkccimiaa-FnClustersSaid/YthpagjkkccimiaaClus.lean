/- Chapter 19: clusters and their main ones: made by clugen.py. -/
import Derived.Test.YthpagjkkccimiaaClN
import Derived.Test.YthpagjkkccimiaaRateM
import Derived.Test.YthpagjkkccimiaaReg
namespace Go.Proofs.Ythpagjkkccimiaa
open Go.RowKit
set_option linter.unusedVariables false
set_option linter.unusedSimpArgs false

def cluP (n : Nat) (r : Nat → Nat → Bool) (i k : Nat) : Bool := decide (numN n r k = numN n r i)
def cluL (n : Nat) (r : Nat → Nat → Bool) (i : Nat) : List Nat := selL (cluP n r i) n
theorem cluL_mem {n : Nat} {r : Nat → Nat → Bool} {i k : Nat} : k ∈ cluL n r i ↔ k < n ∧ numN n r k = numN n r i := by
  unfold cluL; rw [mem_selL]; simp [cluP]
theorem cluL_pos {n : Nat} {r : Nat → Nat → Bool} {i : Nat} (hi : i < n) : 0 < (cluL n r i).length := List.length_pos_of_mem (cluL_mem.2 ⟨hi, rfl⟩)
theorem cluL_get {n : Nat} {r : Nat → Nat → Bool} {i k : Nat} (hk : k < (cluL n r i).length) : (cluL n r i).getD k 0 < n := (selL_get hk).1
theorem cluL_len (n : Nat) (r : Nat → Nat → Bool) (i : Nat) : (cluL n r i).length ≤ n := selL_len _ _
/-- The first of the greatest of a list. -/
def mnK (S : Nat → Int) (l : List Nat) : Nat → Nat
  | 0 => l.getD 0 0
  | k + 1 => if S (mnK S l k) < S (l.getD k 0) then l.getD k 0 else mnK S l k
theorem mnK_one (S : Nat → Int) (l : List Nat) : mnK S l 1 = l.getD 0 0 := by simp [mnK]
theorem mnK_in {S : Nat → Int} {l : List Nat} {n : Nat} (h0 : 0 < l.length) (h : ∀ k, k < l.length → l.getD k 0 < n) : ∀ k, k ≤ l.length → mnK S l k < n
  | 0, _ => h 0 h0
  | k + 1, hk => by
    have := mnK_in (S := S) h0 h k (by omega)
    rw [mnK]; split
    · exact h k (by omega)
    · exact this
def sizeS (X : Nat → Nat → Int) (i : Nat) : Int := X i 3
def mainN (n : Nat) (r : Nat → Nat → Bool) (S : Nat → Int) (i : Nat) : Nat := mnK S (cluL n r i) (cluL n r i).length
theorem mainN_lt {n : Nat} {r : Nat → Nat → Bool} {S : Nat → Int} {i : Nat} (hi : i < n) : mainN n r S i < n :=
  mnK_in (cluL_pos hi) (fun k hk => cluL_get hk) _ (Nat.le_refl _)
def mainP (n : Nat) (r : Nat → Nat → Bool) (S : Nat → Int) (i : Nat) : Bool := decide (mainN n r S i = i)
def mainsL (n : Nat) (r : Nat → Nat → Bool) (S : Nat → Int) : List Nat := selL (mainP n r S) n
theorem mainsL_len (n : Nat) (r : Nat → Nat → Bool) (S : Nat → Int) : (mainsL n r S).length ≤ n := selL_len _ _
theorem mainsL_get {n : Nat} {r : Nat → Nat → Bool} {S : Nat → Int} {k : Nat} (hk : k < (mainsL n r S).length) : (mainsL n r S).getD k 0 < n := (selL_get hk).1
theorem spec_at19 (A : Option Addr) (n c : Nat) (X : Nat → Nat → Int) (t f g x : Int) (v : Bool) (hv : ((catB n X && linkB t f g) && inB x 0 ((n : Int) - 1)) = v) (w : World) (hn : n ≤ 1048576) (ha : Arr w w.heap.size A n 4 (iv X)) :
    Calls Try.prog 82 #[.slice A n c, .agg #[.int .i64 t, .int .i64 f, .int .i64 g], .int .i64 x] w fun e w' => e = .returned (.bool v) ∧ Below w.heap.size w w' := by
  have hba : Below w.heap.size w (w.alloc (.cells #[.int .i64 t, .int .i64 f, .int .i64 g] 30)) := below_al (Below.refl _ _)
  have HV := hide hv
  clear hv
  cases h0 : (catB n X && linkB t f g)
  · skip
    obtain rfl : false = v := by rw [← HV.out]; simp [h0]
    have H0 := hide h0; clear h0
    go_enter Try.func82, Try.ntmps82
    go_wp2_with fail
    refine (spec_asked19 _ _ _ X _ _ _ _ H0.out _ hn (ha.on hba)).mono ?_
    rintro e w1 ⟨rfl, hb1⟩
    obtain ⟨qc1, qf1⟩ := bcell hb1
    have hz1 := hb1.size
    try simp only [World.size_alloc, World.size_setCell, World.size_drew] at hz1
    have hq1 : Below w.heap.size w w1 := below_call (by go_grown) hb1
    try have hl0_1 : w.heap.size < w1.heap.size := by omega
    try have hl1_1 : w.heap.size + 1 < w1.heap.size := by omega
    try have hl2_1 : w.heap.size + 2 < w1.heap.size := by omega
    try have hl3_1 : w.heap.size + 3 < w1.heap.size := by omega
    go_wp2
    go_returns
    exact ⟨rfl, hq1⟩
  · skip
    cases h1 : inB x 0 ((n : Int) - 1)
    · skip
      obtain rfl : false = v := by rw [← HV.out]; simp [h0, h1]
      have H0 := hide h0; clear h0
      have H1 := hide h1; clear h1
      go_enter Try.func82, Try.ntmps82
      go_wp2_with fail
      refine (spec_asked19 _ _ _ X _ _ _ _ H0.out _ hn (ha.on hba)).mono ?_
      rintro e w1 ⟨rfl, hb1⟩
      obtain ⟨qc1, qf1⟩ := bcell hb1
      have hz1 := hb1.size
      try simp only [World.size_alloc, World.size_setCell, World.size_drew] at hz1
      have hq1 : Below w.heap.size w w1 := below_call (by go_grown) hb1
      try have hl0_1 : w.heap.size < w1.heap.size := by omega
      try have hl1_1 : w.heap.size + 1 < w1.heap.size := by omega
      try have hl2_1 : w.heap.size + 2 < w1.heap.size := by omega
      try have hl3_1 : w.heap.size + 3 < w1.heap.size := by omega
      go_wp2_with fail
      refine (spec_in _ _ _ _ H1.out _).mono ?_
      rintro e w1' ⟨rfl, rfl⟩
      go_wp2
      go_returns
      exact ⟨rfl, hq1⟩
    · skip
      obtain rfl : true = v := by rw [← HV.out]; simp [h0, h1]
      have H0 := hide h0; clear h0
      have H1 := hide h1; clear h1
      go_enter Try.func82, Try.ntmps82
      go_wp2_with fail
      refine (spec_asked19 _ _ _ X _ _ _ _ H0.out _ hn (ha.on hba)).mono ?_
      rintro e w1 ⟨rfl, hb1⟩
      obtain ⟨qc1, qf1⟩ := bcell hb1
      have hz1 := hb1.size
      try simp only [World.size_alloc, World.size_setCell, World.size_drew] at hz1
      have hq1 : Below w.heap.size w w1 := below_call (by go_grown) hb1
      try have hl0_1 : w.heap.size < w1.heap.size := by omega
      try have hl1_1 : w.heap.size + 1 < w1.heap.size := by omega
      try have hl2_1 : w.heap.size + 2 < w1.heap.size := by omega
      try have hl3_1 : w.heap.size + 3 < w1.heap.size := by omega
      go_wp2_with fail
      refine (spec_in _ _ _ _ H1.out _).mono ?_
      rintro e w1' ⟨rfl, rfl⟩
      go_wp2
      go_returns
      exact ⟨rfl, hq1⟩
set_option maxHeartbeats 2000000 in
set_option maxRecDepth 100000 in
theorem spec_with (A : Option Addr) (n c : Nat) (X : Nat → Nat → Int) (t f g : Int) (i : Nat) (hi : i < n) (w : World) (CX : CatX n X) (HL : LinkIn t f g) (ha : Arr w w.heap.size A n 4 (iv X)) :
    Calls Try.prog 77 #[.slice A n c, .agg #[.int .i64 t, .int .i64 f, .int .i64 g], .int .i64 (i : Int)] w fun e w' => ∃ v, e = .returned v ∧ Below w.heap.size w w' ∧ Own w' w.heap.size 3 1 v (cluL n (rchX t f g X) i).length (iv fun p _ => ((cluL n (rchX t f g X) i).getD p 0 : Nat)) := by
  obtain ⟨i0, hi0, hy0, hy1, hy2⟩ := info_parts info_int
  obtain ⟨r, hr⟩ : ∃ r, rchX t f g X = r := ⟨_, rfl⟩
  rw [hr]
  have HR := hide hr; have HLI := hide HL
  have n10 := CX.n10
  have hba : Below w.heap.size w (w.alloc (.cells #[.int .i64 t, .int .i64 f, .int .i64 g] 30)) := below_al (Below.refl _ _)
  have hcx : Cells (w.alloc (.cells #[.int .i64 t, .int .i64 f, .int .i64 g] 30)) w.heap.size [.int .i64 t, .int .i64 f, .int .i64 g] := Cells.new w _ _ _ rfl
  clear hr HL
  obtain ⟨Q, hQ⟩ : ∃ Q, (cluL n r i).length = Q := ⟨_, rfl⟩
  rw [hQ]
  have HQ := hide hQ
  clear hQ
  go_enter Try.func77, Try.ntmps77
  go_wp2_with fail
  refine (spec_nums _ _ _ X _ _ _ _ CX HLI.out (ha.on hba)).mono ?_
  rintro e w1 ⟨v1, rfl, hb1, ho1⟩
  rw [HR.out] at ho1
  obtain ⟨A1, c1, rfl, hc1, ha1⟩ := ho1.arr
  have hq1 : Below w.heap.size w w1 := below_call hba hb1
  clear ho1 ha
  obtain ⟨b, off, rfl, hbb, hc⟩ := ha1 (by omega)
  have HCC := hide hc
  have di := hc i 0 hi (by omega)
  simp only [Nat.add_zero, Nat.mul_one, iv] at di
  have DI := hide di
  clear ha1 hc di
  go_wp2
  go_loopw [8, 9] (fun v x wr => ∃ (k p : Nat), k ≤ n ∧ p ≤ k ∧ x = .int .i64 k ∧ p = (selL (cluP n r i) k).length ∧ Below w1.heap.size w1 wr ∧ wr.ownsRow w1.heap.size 3 1 v p (nl (selL (cluP n r i) k))) (fun _ x _ => n - (intOf x).toNat)
  case atStart => exact ⟨0, 0, Nat.zero_le _, Nat.le_refl _, rfl, rfl, by go_grown, row_new_at _ _ _ _ _ rfl (Nat.le_refl _)⟩
  case round =>
    obtain ⟨k, p, hk, hpk, rfl, hp, hbw, hown⟩ := hrel
    have HP := hide hp; have HO := hide hown
    clear hp hown
    by_cases hlt : k < n
    · have dk := HCC.out k 0 hlt (by omega)
      simp only [Nat.add_zero, Nat.mul_one, iv] at dk
      have e1 := (hbw.cell (p := ⟨b, _, none⟩) hbb).trans dk; have e2 := (hbw.cell (p := ⟨b, _, none⟩) hbb).trans DI.out
      have hbl : b < wr.heap.size := by have := hbw.size; omega
      have hx := BW.cell (w := wr)
      have hk' : (k : Int) < (n : Int) := by omega
      have hi' : (i : Int) < (n : Int) := by omega
      have hsw := hbw.size
      clear dk
      by_cases heq : numN n r k = numN n r i
      · have hs := selL_yes (P := cluP n r i) (k := k) (by simp [cluP, heq])
        have HS := hide hs
        rw [heq] at e1
        clear hs heq
        go_wp2
        refine wp_region_bw (by kernel_rfl) (by kernel_rfl) ?_
        repeat (go_big_quiet_step (fail))
        refine wpQuiet_end fun w2 hb2 => ?_
        clear hx
        have hown2 := row_below HO.out hb2
        have hbw2 : Below w1.heap.size w1 w2 := hbw.trans (hb2.mono hbw.size)
        clear e1 e2
        go_wp2_with (at_builtin; refine wpList_append_far _ rfl _ _ 37 rfl w1.heap.size 3 i0 (.int .i64 0) 1 8 Try.underlying37 hi0 hy0 hy1 hy2 rfl (by decide) _ _ _ rfl (hown2.alloc _) ⟨w2.heap.size, 0, none⟩ 1 1 [.int .i64 (k : Int)] rfl rfl ?c1 ?c2 ?c3 ?c4 ?c5 ?_)
        case c1 => exact cell_one_at _ _ _ _ rfl
        case c2 => intro u hu; simp only [List.mem_singleton] at hu; subst hu; rfl
        case c3 => unfold maxLen; omega
        case c4 => omega
        case c5 => have := hbw2.size; simp only [World.size_alloc]; omega
        intro v3 w3 hown3 hgrow3 _
        have hlt3 := hown2.lt
        have hb3 := (below_al (o := .cells #[.int .i64 (k : Int)] 3) hbw2).grown hgrow3 (by have := hbw2.size; simp only [World.size_alloc]; omega) (fun gg hg => (hlt3 gg hg).1)
        have hrow3 : w3.ownsRow w1.heap.size 3 1 v3 (p + 1) (nl (selL (cluP n r i) (k + 1))) := by rw [HS.out, ← nl_app]; exact hown3
        have hp3 : p + 1 = (selL (cluP n r i) (k + 1)).length := by rw [HS.out]; simp; exact HP.out
        have R1 := hide hrow3; have R2 := hide hb3; have R3 := hide hp3
        clear hown2 hown3 hgrow3 hlt3 hb3 hrow3 hp3
        go_wp2
        go_roundw
        case rel => exact ⟨k + 1, p + 1, by omega, by omega, by go_num, R3.out, R2.out, R1.out⟩
        case measure => simp [intOf]; omega
      · have hs := selL_no (P := cluP n r i) (k := k) (by simp [cluP, heq])
        have HS := hide hs
        have hB : (((numN n r k : Nat) : Int) == ((numN n r i : Nat) : Int)) = false := by simp; omega
        clear hs heq
        go_wp2
        refine wp_region_bw (by kernel_rfl) (by kernel_rfl) ?_
        repeat (go_big_quiet_step (fail))
        refine wpQuiet_end fun w2 hb2 => ?_
        clear hx
        have hown2 := row_below HO.out hb2
        have HO2 := hide hown2
        clear hown2 e1 e2
        go_wp2
        go_roundw
        case rel => exact ⟨k + 1, p, by omega, by omega, by go_num, by rw [HS.out]; exact HP.out, hbw.trans (hb2.mono hbw.size), by rw [HS.out]; exact HO2.out⟩
        case measure => simp [intOf]; omega
    · obtain rfl : k = n := by omega
      have HW := hide (own_of_nl HP.out HO.out)
      obtain rfl : Q = p := by rw [HP.out, ← HQ.out]; rfl
      have hle : w.heap.size ≤ w1.heap.size := hq1.size
      go_wp2
      go_returns
      exact ⟨_, rfl, hq1.trans (hbw.mono hle), HW.out.base hle⟩
set_option maxHeartbeats 2000000 in
set_option maxRecDepth 100000 in
theorem spec_main (A : Option Addr) (n c : Nat) (X : Nat → Nat → Int) (t f g : Int) (i : Nat) (hi : i < n) (w : World) (CX : CatX n X) (HL : LinkIn t f g) (ha : Arr w w.heap.size A n 4 (iv X)) :
    Calls Try.prog 83 #[.slice A n c, .agg #[.int .i64 t, .int .i64 f, .int .i64 g], .int .i64 (i : Int)] w fun e w' => e = .returned (.int .i64 (mainN n (rchX t f g X) (sizeS X) i : Nat)) ∧ Below w.heap.size w w' := by
  obtain ⟨i0, hi0, hy0, hy1, hy2⟩ := info_parts info_int
  obtain ⟨r, hr⟩ : ∃ r, rchX t f g X = r := ⟨_, rfl⟩
  rw [hr]
  have HR := hide hr; have HLI := hide HL
  have n10 := CX.n10
  have hba : Below w.heap.size w (w.alloc (.cells #[.int .i64 t, .int .i64 f, .int .i64 g] 30)) := below_al (Below.refl _ _)
  have hcx : Cells (w.alloc (.cells #[.int .i64 t, .int .i64 f, .int .i64 g] 30)) w.heap.size [.int .i64 t, .int .i64 f, .int .i64 g] := Cells.new w _ _ _ rfl
  clear hr HL
  obtain ⟨Q, hQ⟩ : ∃ Q, mainN n r (sizeS X) i = Q := ⟨_, rfl⟩
  rw [hQ]
  have HQ := hide hQ
  clear hQ
  go_enter Try.func83, Try.ntmps83
  go_wp2_with fail
  refine (spec_with _ _ _ X _ _ _ i hi _ CX HLI.out (ha.on hba)).mono ?_
  rintro e w1 ⟨v1, rfl, hb1, ho1⟩
  rw [HR.out] at ho1
  obtain ⟨L, hL⟩ : ∃ L, cluL n r i = L := ⟨_, rfl⟩
  obtain ⟨m, hm⟩ : ∃ m, L.length = m := ⟨_, rfl⟩
  have hget : ∀ k, k < m → L.getD k 0 < n := fun k hk => by rw [← hL]; exact cluL_get (by rw [hL, hm]; exact hk)
  have hm0 : 0 < m := by rw [← hm, ← hL]; exact cluL_pos hi
  have hmn : m ≤ n := by rw [← hm, ← hL]; exact cluL_len _ _ _
  have hres : mainN n r (sizeS X) i = mnK (sizeS X) L m := by unfold mainN; rw [hL, hm]
  have hin : ∀ k, k ≤ m → mnK (sizeS X) L k < n := fun k hk => mnK_in (by omega) (fun j hj => hget j (by omega)) k (by omega)
  rw [hL, hm] at ho1
  have hres' : mnK (sizeS X) L m = Q := by rw [← hres]; exact HQ.out
  have HRS := hide hres'
  obtain ⟨A1, c1, rfl, hc1, ha1⟩ := ho1.arr
  have hq1 : Below w.heap.size w w1 := below_call hba hb1
  have HG := hide hget; have HIN := hide hin; have HLL := hide hL
  have haw := ha.on hq1
  have HAW := hide haw
  obtain ⟨b, off, rfl, hbb, hc⟩ := ha1 hm0
  have HCC := hide hc
  have d0 := hc 0 0 hm0 (by omega)
  simp only [Nat.add_zero, Nat.mul_one, Nat.zero_mul, iv] at d0
  obtain ⟨y0, hy0⟩ : ∃ y0, L.getD 0 0 = y0 := ⟨_, rfl⟩
  rw [hy0] at d0
  have hz0 := hin 1 hm0
  have hz1 : mnK (sizeS X) L 1 = L.getD 0 0 := mnK_one _ _
  rw [hz1, hy0] at hz0
  rw [hy0] at hz1
  have HZ1 := hide hz1
  have hm0' : (0 : Int) < (m : Int) := by omega
  clear ho1 ha ha1 hc hget hin hL hres hres' haw hz1 hy0
  go_wp2
  go_loopw [8, 9] (fun bv x wr => ∃ k z : Nat, 1 ≤ k ∧ k ≤ m ∧ x = .int .i64 k ∧ bv = .int .i64 z ∧ z = mnK (sizeS X) L k ∧ z < n ∧ Below w1.heap.size w1 wr) (fun _ x _ => m - (intOf x).toNat)
  case atStart => exact ⟨1, _, Nat.le_refl _, by omega, rfl, rfl, HZ1.out.symm, hz0, Below.refl _ _⟩
  case round =>
    clear d0 hz0
    obtain ⟨k, z, hk1, hk, rfl, rfl, hz, hzn, hbw⟩ := hrel
    have HZ := hide hz
    clear hz
    by_cases hlt : k < m
    · have dk := (hbw.cell (p := ⟨b, _, none⟩) hbb).trans (HCC.out k 0 hlt (by omega))
      simp only [Nat.add_zero, Nat.mul_one, iv] at dk
      obtain ⟨y, hy⟩ : ∃ y, L.getD k 0 = y := ⟨_, rfl⟩
      rw [hy] at dk
      have hyn : y < n := by rw [← hy]; exact HG.out k hlt
      obtain ⟨bb, oo, hA, hbo, hcx⟩ := HAW.out (by omega)
      have sy := (hbw.cell (p := ⟨bb, _, none⟩) hbo).trans (hcx y 3 hyn (by omega)); have sz := (hbw.cell (p := ⟨bb, _, none⟩) hbo).trans (hcx z 3 hzn (by omega))
      simp only [iv] at sy sz
      have hbl : b < wr.heap.size := by have := hbw.size; omega
      have hbl2 : bb < wr.heap.size := by have := hbw.size; omega
      have hx := BW.cell (w := wr)
      have hk' : (k : Int) < (m : Int) := by omega
      have hy' : (y : Int) < (n : Int) := by omega
      have hz' : (z : Int) < (n : Int) := by omega
      have HY := hide hy
      subst hA
      clear hcx hy
      by_cases hg : X z 3 < X y 3
      · have hn : y = mnK (sizeS X) L (k + 1) := by rw [mnK, ← HZ.out, HY.out]; exact (if_pos hg).symm
        have HN := hide hn
        clear hn
        go_wp2
        refine wp_region_bw (by kernel_rfl) (by kernel_rfl) ?_
        repeat (go_big_quiet_step (fail))
        refine wpQuiet_end fun w2 hb2 => ?_
        clear hx
        have dk2 := (hb2.cell (p := ⟨b, _, none⟩) hbl).trans dk
        go_wp2
        go_roundw
        case rel => exact ⟨k + 1, y, by omega, by omega, by go_num, rfl, HN.out, hyn, hbw.trans (hb2.mono hbw.size)⟩
        case measure => simp [intOf]; omega
      · have hn : z = mnK (sizeS X) L (k + 1) := by rw [mnK, ← HZ.out, HY.out]; exact (if_neg hg).symm
        have HN := hide hn
        clear hn
        go_wp2
        refine wp_region_bw (by kernel_rfl) (by kernel_rfl) ?_
        repeat (go_big_quiet_step (fail))
        refine wpQuiet_end fun w2 hb2 => ?_
        clear hx
        go_wp2
        go_roundw
        case rel => exact ⟨k + 1, z, by omega, by omega, by go_num, rfl, HN.out, hzn, hbw.trans (hb2.mono hbw.size)⟩
        case measure => simp [intOf]; omega
    · obtain rfl : k = m := by omega
      have hbq : Below w.heap.size w wr := hq1.trans (hbw.mono hq1.size)
      obtain rfl : z = Q := by rw [HZ.out]; exact HRS.out
      go_wp2
      go_returns
      exact ⟨rfl, hbq⟩
set_option maxHeartbeats 2000000 in
set_option maxRecDepth 100000 in
theorem spec_mains (A : Option Addr) (n c : Nat) (X : Nat → Nat → Int) (t f g : Int) (w : World) (CX : CatX n X) (HL : LinkIn t f g) (ha : Arr w w.heap.size A n 4 (iv X)) :
    Calls Try.prog 86 #[.slice A n c, .agg #[.int .i64 t, .int .i64 f, .int .i64 g]] w fun e w' => ∃ v, e = .returned v ∧ Below w.heap.size w w' ∧ Own w' w.heap.size 3 1 v (mainsL n (rchX t f g X) (sizeS X)).length (iv fun p _ => ((mainsL n (rchX t f g X) (sizeS X)).getD p 0 : Nat)) := by
  obtain ⟨i0, hi0, hy0, hy1, hy2⟩ := info_parts info_int
  obtain ⟨r, hr⟩ : ∃ r, rchX t f g X = r := ⟨_, rfl⟩
  rw [hr]
  have HR := hide hr; have HLI := hide HL
  have n10 := CX.n10
  have hba : Below w.heap.size w (w.alloc (.cells #[.int .i64 t, .int .i64 f, .int .i64 g] 30)) := below_al (Below.refl _ _)
  have hcx : Cells (w.alloc (.cells #[.int .i64 t, .int .i64 f, .int .i64 g] 30)) w.heap.size [.int .i64 t, .int .i64 f, .int .i64 g] := Cells.new w _ _ _ rfl
  clear hr HL
  have HAA := hide ha
  obtain ⟨Q, hQ⟩ : ∃ Q, (mainsL n r (sizeS X)).length = Q := ⟨_, rfl⟩
  rw [hQ]
  have HQ := hide hQ
  clear ha hQ
  go_enter Try.func86, Try.ntmps86
  go_wp2
  go_loopw [5, 6] (fun v x wr => ∃ (k p : Nat), k ≤ n ∧ p ≤ k ∧ x = .int .i64 k ∧ p = (selL (mainP n r (sizeS X)) k).length ∧ Below w.heap.size w wr ∧ Cells wr w.heap.size [.int .i64 t, .int .i64 f, .int .i64 g] ∧ wr.ownsRow (w.heap.size + 1) 3 1 v p (nl (selL (mainP n r (sizeS X)) k))) (fun _ x _ => n - (intOf x).toNat)
  case atStart => exact ⟨0, 0, Nat.zero_le _, Nat.le_refl _, rfl, rfl, by go_grown, hcx.alloc _, row_new_at _ _ _ _ _ (by simp) (by simp)⟩
  case round =>
    clear hcx
    obtain ⟨k, p, hk, hpk, rfl, hp, hbw, hcx, hown⟩ := hrel
    have HP := hide hp; have HO := hide hown
    clear hp hown
    by_cases hlt : k < n
    · have l0 := hcx.2 0 _ rfl; have l1 := hcx.2 1 _ rfl; have l2 := hcx.2 2 _ rfl
      have l3 := hcx.1
      go_wp2_with fail
      refine (spec_main _ _ _ X _ _ _ k hlt _ CX HLI.out (HAA.out.on hbw)).mono ?_
      rintro e w1 ⟨rfl, hb1⟩
      rw [HR.out]
      have hown2 := row_below HO.out hb1
      have hcx2 := hcx.on hb1
      have hbw2 : Below w.heap.size w w1 := below_call hbw hb1
      clear l0 l1 l2
      by_cases heq : mainN n r (sizeS X) k = k
      · have hs := selL_yes (P := mainP n r (sizeS X)) (k := k) (by simp [mainP, heq])
        have HS := hide hs
        rw [heq]
        clear hs heq
        go_wp2_with (at_builtin; refine wpList_append_far _ rfl _ _ 37 rfl (w.heap.size + 1) 3 i0 (.int .i64 0) 1 8 Try.underlying37 hi0 hy0 hy1 hy2 rfl (by decide) _ _ _ rfl (hown2.alloc _) ⟨w1.heap.size, 0, none⟩ 1 1 [.int .i64 (k : Int)] rfl rfl ?c1 ?c2 ?c3 ?c4 ?c5 ?_)
        case c1 => exact cell_one_at _ _ _ _ rfl
        case c2 => intro u hu; simp only [List.mem_singleton] at hu; subst hu; rfl
        case c3 => unfold maxLen; omega
        case c4 => omega
        case c5 => have := hcx2.1; simp only [World.size_alloc]; omega
        intro v3 w3 hown3 hgrow3 _
        have hlt3 := hown2.lt
        have hcx3 := (hcx2.alloc (.cells #[.int .i64 (k : Int)] 3)).grown hgrow3 (fun gg hg => by have := (hlt3 gg hg).1; omega)
        have hb3 := (below_al (o := .cells #[.int .i64 (k : Int)] 3) hbw2).grown hgrow3 (by have := hbw2.size; simp only [World.size_alloc]; omega) (fun gg hg => by have := (hlt3 gg hg).1; omega)
        have hrow3 : w3.ownsRow (w.heap.size + 1) 3 1 v3 (p + 1) (nl (selL (mainP n r (sizeS X)) (k + 1))) := by rw [HS.out, ← nl_app]; exact hown3
        have hp3 : p + 1 = (selL (mainP n r (sizeS X)) (k + 1)).length := by rw [HS.out]; simp; exact HP.out
        have R1 := hide hrow3; have R2 := hide hb3; have R3 := hide hp3
        clear hown2 hown3 hgrow3 hlt3 hb3 hrow3 hp3
        go_wp2
        go_roundw
        case rel => exact ⟨k + 1, p + 1, by omega, by omega, by go_num, R3.out, R2.out, hcx3, R1.out⟩
        case measure => simp [intOf]; omega
      · have hs := selL_no (P := mainP n r (sizeS X)) (k := k) (by simp [mainP, heq])
        have HS := hide hs; have HO2 := hide hown2
        have hB : (((mainN n r (sizeS X) k : Nat) : Int) == (k : Int)) = false := by simp; omega
        clear hs heq hown2
        go_wp2
        go_roundw
        case rel => exact ⟨k + 1, p, by omega, by omega, by go_num, by rw [HS.out]; exact HP.out, hbw2, hcx2, by rw [HS.out]; exact HO2.out⟩
        case measure => simp [intOf]; omega
    · obtain rfl : k = n := by omega
      have HW := hide (own_of_nl HP.out HO.out)
      obtain rfl : Q = p := by rw [HP.out, ← HQ.out]; rfl
      go_wp2
      go_returns
      exact ⟨_, rfl, hbw, HW.out.base (by omega)⟩
set_option maxHeartbeats 2000000 in
set_option maxRecDepth 100000 in
theorem impl_with (A : Option Addr) (n c : Nat) (X : Nat → Nat → Int) (t f g : Int) (i : Nat) (hi : i < n) (w : World) (CX : CatX n X) (HL : LinkIn t f g) (ha : Arr w w.heap.size A n 4 (iv X)) :
    Calls Try.prog 80 #[.agg #[.int .i64 t, .int .i64 f, .int .i64 g], .slice A n c, .int .i64 (i : Int)] w fun e w' => ∃ v, e = .returned v ∧ Below w.heap.size w w' ∧ Own w' w.heap.size 3 1 v (cluL n (rchX t f g X) i).length (iv fun p _ => ((cluL n (rchX t f g X) i).getD p 0 : Nat)) := by
  obtain ⟨i0, hi0, hy0, hy1, hy2⟩ := info_parts info_int
  obtain ⟨r, hr⟩ : ∃ r, rchX t f g X = r := ⟨_, rfl⟩
  rw [hr]
  have HR := hide hr; have HLI := hide HL
  have n10 := CX.n10
  have hba : Below w.heap.size w (w.alloc (.cells #[.int .i64 t, .int .i64 f, .int .i64 g] 30)) := below_al (Below.refl _ _)
  have hcx : Cells (w.alloc (.cells #[.int .i64 t, .int .i64 f, .int .i64 g] 30)) w.heap.size [.int .i64 t, .int .i64 f, .int .i64 g] := Cells.new w _ _ _ rfl
  clear hr HL
  obtain ⟨Q, hQ⟩ : ∃ Q, (cluL n r i).length = Q := ⟨_, rfl⟩
  rw [hQ]
  have HQ := hide hQ
  clear hQ
  go_enter Try.func80, Try.ntmps80
  go_wp2_with fail
  refine (impl_nums _ _ _ X _ _ _ _ CX HLI.out (ha.on hba)).mono ?_
  rintro e w1 ⟨v1, rfl, hb1, ho1⟩
  rw [HR.out] at ho1
  obtain ⟨A1, c1, rfl, hc1, ha1⟩ := ho1.arr
  have hq1 : Below w.heap.size w w1 := below_call hba hb1
  clear ho1 ha
  obtain ⟨b, off, rfl, hbb, hc⟩ := ha1 (by omega)
  have HCC := hide hc
  have di := hc i 0 hi (by omega)
  simp only [Nat.add_zero, Nat.mul_one, iv] at di
  have DI := hide di
  clear ha1 hc di
  go_wp2
  go_loopw [8, 17] (fun v x wr => ∃ (k p : Nat), k ≤ n ∧ p ≤ k ∧ x = .int .i64 k ∧ p = (selL (cluP n r i) k).length ∧ Below w1.heap.size w1 wr ∧ wr.ownsRow w1.heap.size 3 1 v p (nl (selL (cluP n r i) k))) (fun _ x _ => n - (intOf x).toNat)
  case atStart => exact ⟨0, 0, Nat.zero_le _, Nat.le_refl _, rfl, rfl, by go_grown, row_new_at _ _ _ _ _ rfl (Nat.le_refl _)⟩
  case round =>
    obtain ⟨k, p, hk, hpk, rfl, hp, hbw, hown⟩ := hrel
    have HP := hide hp; have HO := hide hown
    clear hp hown
    by_cases hlt : k < n
    · have dk := HCC.out k 0 hlt (by omega)
      simp only [Nat.add_zero, Nat.mul_one, iv] at dk
      have e1 := (hbw.cell (p := ⟨b, _, none⟩) hbb).trans dk; have e2 := (hbw.cell (p := ⟨b, _, none⟩) hbb).trans DI.out
      have hbl : b < wr.heap.size := by have := hbw.size; omega
      have hx := BW.cell (w := wr)
      have hk' : (k : Int) < (n : Int) := by omega
      have hi' : (i : Int) < (n : Int) := by omega
      have hsw := hbw.size
      clear dk
      by_cases heq : numN n r k = numN n r i
      · have hs := selL_yes (P := cluP n r i) (k := k) (by simp [cluP, heq])
        have HS := hide hs
        rw [heq] at e1
        clear hs heq
        have hown2 := HO.out; have hbw2 := hbw
        clear hx
        go_wp2_with (at_builtin; refine wpList_append_far _ rfl _ _ 37 rfl w1.heap.size 3 i0 (.int .i64 0) 1 8 Try.underlying37 hi0 hy0 hy1 hy2 rfl (by decide) _ _ _ rfl (hown2.alloc _) ⟨wr.heap.size, 0, none⟩ 1 1 [.int .i64 (k : Int)] rfl rfl ?c1 ?c2 ?c3 ?c4 ?c5 ?_)
        case c1 => exact cell_one_at _ _ _ _ rfl
        case c2 => intro u hu; simp only [List.mem_singleton] at hu; subst hu; rfl
        case c3 => unfold maxLen; omega
        case c4 => omega
        case c5 => have := hbw2.size; simp only [World.size_alloc]; omega
        intro v3 w3 hown3 hgrow3 _
        have hlt3 := hown2.lt
        have hb3 := (below_al (o := .cells #[.int .i64 (k : Int)] 3) hbw2).grown hgrow3 (by have := hbw2.size; simp only [World.size_alloc]; omega) (fun gg hg => (hlt3 gg hg).1)
        have hrow3 : w3.ownsRow w1.heap.size 3 1 v3 (p + 1) (nl (selL (cluP n r i) (k + 1))) := by rw [HS.out, ← nl_app]; exact hown3
        have hp3 : p + 1 = (selL (cluP n r i) (k + 1)).length := by rw [HS.out]; simp; exact HP.out
        have R1 := hide hrow3; have R2 := hide hb3; have R3 := hide hp3
        clear hown2 hown3 hgrow3 hlt3 hb3 hrow3 hp3
        go_wp2
        go_roundw
        case rel => exact ⟨k + 1, p + 1, by omega, by omega, by go_num, R3.out, R2.out, R1.out⟩
        case measure => simp [intOf]; omega
      · have hs := selL_no (P := cluP n r i) (k := k) (by simp [cluP, heq])
        have HS := hide hs
        have hB : (((numN n r k : Nat) : Int) == ((numN n r i : Nat) : Int)) = false := by simp; omega
        clear hs heq
        go_wp2
        go_roundw
        case rel => exact ⟨k + 1, p, by omega, by omega, by go_num, by rw [HS.out]; exact HP.out, hbw, by rw [HS.out]; exact HO.out⟩
        case measure => simp [intOf]; omega
    · obtain rfl : k = n := by omega
      have HW := hide (own_of_nl HP.out HO.out)
      obtain rfl : Q = p := by rw [HP.out, ← HQ.out]; rfl
      have hle : w.heap.size ≤ w1.heap.size := hq1.size
      go_wp2
      go_returns
      exact ⟨_, rfl, hq1.trans (hbw.mono hle), HW.out.base hle⟩
set_option maxHeartbeats 2000000 in
set_option maxRecDepth 100000 in
theorem impl_main (A : Option Addr) (n c : Nat) (X : Nat → Nat → Int) (t f g : Int) (i : Nat) (hi : i < n) (w : World) (CX : CatX n X) (HL : LinkIn t f g) (ha : Arr w w.heap.size A n 4 (iv X)) :
    Calls Try.prog 85 #[.agg #[.int .i64 t, .int .i64 f, .int .i64 g], .slice A n c, .int .i64 (i : Int)] w fun e w' => e = .returned (.int .i64 (mainN n (rchX t f g X) (sizeS X) i : Nat)) ∧ Below w.heap.size w w' := by
  obtain ⟨i0, hi0, hy0, hy1, hy2⟩ := info_parts info_int
  obtain ⟨r, hr⟩ : ∃ r, rchX t f g X = r := ⟨_, rfl⟩
  rw [hr]
  have HR := hide hr; have HLI := hide HL
  have n10 := CX.n10
  have hba : Below w.heap.size w (w.alloc (.cells #[.int .i64 t, .int .i64 f, .int .i64 g] 30)) := below_al (Below.refl _ _)
  have hcx : Cells (w.alloc (.cells #[.int .i64 t, .int .i64 f, .int .i64 g] 30)) w.heap.size [.int .i64 t, .int .i64 f, .int .i64 g] := Cells.new w _ _ _ rfl
  clear hr HL
  obtain ⟨Q, hQ⟩ : ∃ Q, mainN n r (sizeS X) i = Q := ⟨_, rfl⟩
  rw [hQ]
  have HQ := hide hQ
  clear hQ
  go_enter Try.func85, Try.ntmps85
  go_wp2_with fail
  refine (impl_with _ _ _ X _ _ _ i hi _ CX HLI.out (ha.on hba)).mono ?_
  rintro e w1 ⟨v1, rfl, hb1, ho1⟩
  rw [HR.out] at ho1
  obtain ⟨L, hL⟩ : ∃ L, cluL n r i = L := ⟨_, rfl⟩
  obtain ⟨m, hm⟩ : ∃ m, L.length = m := ⟨_, rfl⟩
  have hget : ∀ k, k < m → L.getD k 0 < n := fun k hk => by rw [← hL]; exact cluL_get (by rw [hL, hm]; exact hk)
  have hm0 : 0 < m := by rw [← hm, ← hL]; exact cluL_pos hi
  have hmn : m ≤ n := by rw [← hm, ← hL]; exact cluL_len _ _ _
  have hres : mainN n r (sizeS X) i = mnK (sizeS X) L m := by unfold mainN; rw [hL, hm]
  have hin : ∀ k, k ≤ m → mnK (sizeS X) L k < n := fun k hk => mnK_in (by omega) (fun j hj => hget j (by omega)) k (by omega)
  rw [hL, hm] at ho1
  have hres' : mnK (sizeS X) L m = Q := by rw [← hres]; exact HQ.out
  have HRS := hide hres'
  obtain ⟨A1, c1, rfl, hc1, ha1⟩ := ho1.arr
  have hq1 : Below w.heap.size w w1 := below_call hba hb1
  have HG := hide hget; have HIN := hide hin; have HLL := hide hL
  have haw := ha.on hq1
  have HAW := hide haw
  obtain ⟨b, off, rfl, hbb, hc⟩ := ha1 hm0
  have HCC := hide hc
  have d0 := hc 0 0 hm0 (by omega)
  simp only [Nat.add_zero, Nat.mul_one, Nat.zero_mul, iv] at d0
  obtain ⟨y0, hy0⟩ : ∃ y0, L.getD 0 0 = y0 := ⟨_, rfl⟩
  rw [hy0] at d0
  have hz0 := hin 0 (by omega)
  have hz1 : mnK (sizeS X) L 0 = L.getD 0 0 := rfl
  rw [hz1, hy0] at hz0
  rw [hy0] at hz1
  have HZ1 := hide hz1
  have hm0' : (0 : Int) < (m : Int) := by omega
  clear ho1 ha ha1 hc hget hin hL hres hres' haw hz1 hy0
  go_wp2
  go_loopw [8, 20] (fun bv x wr => ∃ k z : Nat, k ≤ m ∧ x = .int .i64 k ∧ bv = .int .i64 z ∧ z = mnK (sizeS X) L k ∧ z < n ∧ Below w1.heap.size w1 wr) (fun _ x _ => m - (intOf x).toNat)
  case atStart => exact ⟨0, _, Nat.zero_le _, rfl, rfl, HZ1.out.symm, hz0, Below.refl _ _⟩
  case round =>
    clear d0 hz0
    obtain ⟨k, z, hk, rfl, rfl, hz, hzn, hbw⟩ := hrel
    have HZ := hide hz
    clear hz
    by_cases hlt : k < m
    · have dk := (hbw.cell (p := ⟨b, _, none⟩) hbb).trans (HCC.out k 0 hlt (by omega))
      simp only [Nat.add_zero, Nat.mul_one, iv] at dk
      obtain ⟨y, hy⟩ : ∃ y, L.getD k 0 = y := ⟨_, rfl⟩
      rw [hy] at dk
      have hyn : y < n := by rw [← hy]; exact HG.out k hlt
      obtain ⟨bb, oo, hA, hbo, hcx⟩ := HAW.out (by omega)
      have sy := (hbw.cell (p := ⟨bb, _, none⟩) hbo).trans (hcx y 3 hyn (by omega)); have sz := (hbw.cell (p := ⟨bb, _, none⟩) hbo).trans (hcx z 3 hzn (by omega))
      simp only [iv] at sy sz
      have hbl : b < wr.heap.size := by have := hbw.size; omega
      have hbl2 : bb < wr.heap.size := by have := hbw.size; omega
      have hx := BW.cell (w := wr)
      have hk' : (k : Int) < (m : Int) := by omega
      have hy' : (y : Int) < (n : Int) := by omega
      have hz' : (z : Int) < (n : Int) := by omega
      have HY := hide hy
      subst hA
      clear hcx hy
      by_cases hg : X z 3 < X y 3
      · have hn : y = mnK (sizeS X) L (k + 1) := by rw [mnK, ← HZ.out, HY.out]; exact (if_pos hg).symm
        have HN := hide hn
        clear hn
        go_wp2
        refine wp_region_bw (by kernel_rfl) (by kernel_rfl) ?_
        repeat (go_big_quiet_step (fail))
        refine wpQuiet_end fun w2 hb2 => ?_
        clear hx
        skip
        go_wp2
        go_roundw
        case rel => exact ⟨k + 1, y, by omega, by go_num, rfl, HN.out, hyn, hbw.trans (hb2.mono hbw.size)⟩
        case measure => simp [intOf]; omega
      · have hn : z = mnK (sizeS X) L (k + 1) := by rw [mnK, ← HZ.out, HY.out]; exact (if_neg hg).symm
        have HN := hide hn
        clear hn
        go_wp2
        refine wp_region_bw (by kernel_rfl) (by kernel_rfl) ?_
        repeat (go_big_quiet_step (fail))
        refine wpQuiet_end fun w2 hb2 => ?_
        clear hx
        go_wp2
        go_roundw
        case rel => exact ⟨k + 1, z, by omega, by go_num, rfl, HN.out, hzn, hbw.trans (hb2.mono hbw.size)⟩
        case measure => simp [intOf]; omega
    · obtain rfl : k = m := by omega
      have hbq : Below w.heap.size w wr := hq1.trans (hbw.mono hq1.size)
      obtain rfl : z = Q := by rw [HZ.out]; exact HRS.out
      go_wp2
      go_returns
      exact ⟨rfl, hbq⟩
set_option maxHeartbeats 2000000 in
set_option maxRecDepth 100000 in
theorem impl_mains (A : Option Addr) (n c : Nat) (X : Nat → Nat → Int) (t f g : Int) (w : World) (CX : CatX n X) (HL : LinkIn t f g) (ha : Arr w w.heap.size A n 4 (iv X)) :
    Calls Try.prog 87 #[.agg #[.int .i64 t, .int .i64 f, .int .i64 g], .slice A n c] w fun e w' => ∃ v, e = .returned v ∧ Below w.heap.size w w' ∧ Own w' w.heap.size 3 1 v (mainsL n (rchX t f g X) (sizeS X)).length (iv fun p _ => ((mainsL n (rchX t f g X) (sizeS X)).getD p 0 : Nat)) := by
  obtain ⟨i0, hi0, hy0, hy1, hy2⟩ := info_parts info_int
  obtain ⟨r, hr⟩ : ∃ r, rchX t f g X = r := ⟨_, rfl⟩
  rw [hr]
  have HR := hide hr; have HLI := hide HL
  have n10 := CX.n10
  have hba : Below w.heap.size w (w.alloc (.cells #[.int .i64 t, .int .i64 f, .int .i64 g] 30)) := below_al (Below.refl _ _)
  have hcx : Cells (w.alloc (.cells #[.int .i64 t, .int .i64 f, .int .i64 g] 30)) w.heap.size [.int .i64 t, .int .i64 f, .int .i64 g] := Cells.new w _ _ _ rfl
  clear hr HL
  have HAA := hide ha
  obtain ⟨Q, hQ⟩ : ∃ Q, (mainsL n r (sizeS X)).length = Q := ⟨_, rfl⟩
  rw [hQ]
  have HQ := hide hQ
  clear ha hQ
  go_enter Try.func87, Try.ntmps87
  go_wp2
  go_loopw [5, 10] (fun v x wr => ∃ (k p : Nat), k ≤ n ∧ p ≤ k ∧ x = .int .i64 k ∧ p = (selL (mainP n r (sizeS X)) k).length ∧ Below w.heap.size w wr ∧ Cells wr w.heap.size [.int .i64 t, .int .i64 f, .int .i64 g] ∧ wr.ownsRow (w.heap.size + 1) 3 1 v p (nl (selL (mainP n r (sizeS X)) k))) (fun _ x _ => n - (intOf x).toNat)
  case atStart => exact ⟨0, 0, Nat.zero_le _, Nat.le_refl _, rfl, rfl, by go_grown, hcx.alloc _, row_new_at _ _ _ _ _ (by simp) (by simp)⟩
  case round =>
    clear hcx
    obtain ⟨k, p, hk, hpk, rfl, hp, hbw, hcx, hown⟩ := hrel
    have HP := hide hp; have HO := hide hown
    clear hp hown
    by_cases hlt : k < n
    · have l0 := hcx.2 0 _ rfl; have l1 := hcx.2 1 _ rfl; have l2 := hcx.2 2 _ rfl
      have l3 := hcx.1
      go_wp2_with fail
      refine (impl_main _ _ _ X _ _ _ k hlt _ CX HLI.out (HAA.out.on hbw)).mono ?_
      rintro e w1 ⟨rfl, hb1⟩
      rw [HR.out]
      have hown2 := row_below HO.out hb1
      have hcx2 := hcx.on hb1
      have hbw2 : Below w.heap.size w w1 := below_call hbw hb1
      clear l0 l1 l2
      by_cases heq : mainN n r (sizeS X) k = k
      · have hs := selL_yes (P := mainP n r (sizeS X)) (k := k) (by simp [mainP, heq])
        have HS := hide hs
        rw [heq]
        clear hs heq
        go_wp2_with (at_builtin; refine wpList_append_far _ rfl _ _ 37 rfl (w.heap.size + 1) 3 i0 (.int .i64 0) 1 8 Try.underlying37 hi0 hy0 hy1 hy2 rfl (by decide) _ _ _ rfl (hown2.alloc _) ⟨w1.heap.size, 0, none⟩ 1 1 [.int .i64 (k : Int)] rfl rfl ?c1 ?c2 ?c3 ?c4 ?c5 ?_)
        case c1 => exact cell_one_at _ _ _ _ rfl
        case c2 => intro u hu; simp only [List.mem_singleton] at hu; subst hu; rfl
        case c3 => unfold maxLen; omega
        case c4 => omega
        case c5 => have := hcx2.1; simp only [World.size_alloc]; omega
        intro v3 w3 hown3 hgrow3 _
        have hlt3 := hown2.lt
        have hcx3 := (hcx2.alloc (.cells #[.int .i64 (k : Int)] 3)).grown hgrow3 (fun gg hg => by have := (hlt3 gg hg).1; omega)
        have hb3 := (below_al (o := .cells #[.int .i64 (k : Int)] 3) hbw2).grown hgrow3 (by have := hbw2.size; simp only [World.size_alloc]; omega) (fun gg hg => by have := (hlt3 gg hg).1; omega)
        have hrow3 : w3.ownsRow (w.heap.size + 1) 3 1 v3 (p + 1) (nl (selL (mainP n r (sizeS X)) (k + 1))) := by rw [HS.out, ← nl_app]; exact hown3
        have hp3 : p + 1 = (selL (mainP n r (sizeS X)) (k + 1)).length := by rw [HS.out]; simp; exact HP.out
        have R1 := hide hrow3; have R2 := hide hb3; have R3 := hide hp3
        clear hown2 hown3 hgrow3 hlt3 hb3 hrow3 hp3
        go_wp2
        go_roundw
        case rel => exact ⟨k + 1, p + 1, by omega, by omega, by go_num, R3.out, R2.out, hcx3, R1.out⟩
        case measure => simp [intOf]; omega
      · have hs := selL_no (P := mainP n r (sizeS X)) (k := k) (by simp [mainP, heq])
        have HS := hide hs; have HO2 := hide hown2
        have hB : (((mainN n r (sizeS X) k : Nat) : Int) == (k : Int)) = false := by simp; omega
        clear hs heq hown2
        go_wp2
        go_roundw
        case rel => exact ⟨k + 1, p, by omega, by omega, by go_num, by rw [HS.out]; exact HP.out, hbw2, hcx2, by rw [HS.out]; exact HO2.out⟩
        case measure => simp [intOf]; omega
    · obtain rfl : k = n := by omega
      have HW := hide (own_of_nl HP.out HO.out)
      obtain rfl : Q = p := by rw [HP.out, ← HQ.out]; rfl
      go_wp2
      go_returns
      exact ⟨_, rfl, hbw, HW.out.base (by omega)⟩
end Go.Proofs.Ythpagjkkccimiaa
