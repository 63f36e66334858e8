/- Chapter 19: all linked pairs, both sides. -/
import Derived.Test.YthpagjkkccimiaaReach
import Derived.Test.YthpagjkkccimiaaPair
import Derived.Test.YthpagjkkccimiaaRowsC
import Derived.Test.YthpagjkkccimiaaApp
import Derived.Test.YthpagjkkccimiaaCells
namespace Go.Proofs.Ythpagjkkccimiaa
open Go.RowKit
set_option linter.unusedVariables false
set_option linter.unusedSimpArgs false

def rchX (t f g : Int) (X : Nat → Nat → Int) (i k : Nat) : Bool := rchV t f g (X i 0) (X i 1) (X i 2) (X i 3) (X k 0) (X k 1) (X k 2)
def LinkIn (t f g : Int) : Prop := 0 ≤ t ∧ t ≤ 100000 ∧ 0 ≤ f ∧ f ≤ 500 ∧ 0 ≤ g ∧ g ≤ 100
theorem link_of {t f g : Int} (h : linkB t f g = true) : LinkIn t f g := by
  simp only [linkB, inB, Bool.and_eq_true, decide_eq_true_eq] at h
  unfold LinkIn; omega
/-- A valid catalogue, for reaches. -/
structure CatX (n : Nat) (X : Nat → Nat → Int) : Prop where
  n10 : n ≤ 10
  num : catIn n X
  up : ∀ i k, i ≤ k → k < n → X i 0 ≤ X k 0
theorem catX_of {n : Nat} {X : Nat → Nat → Int} (h : catB n X = true) : CatX n X := by
  obtain ⟨h1, h2⟩ := catB_of h
  exact ⟨h1, catIn_of h2, fun i k hi hk => cat_tick h2 hi hk⟩
theorem rch_in {n : Nat} {X : Nat → Nat → Int} {t f g : Int} (hX : CatX n X) (hL : LinkIn t f g) {i k : Nat} (hik : i ≤ k) (hk : k < n) : RchIn t f g (X i 0) (X i 1) (X i 2) (X i 3) (X k 0) (X k 1) (X k 2) (X k 3) := by
  obtain ⟨l1, l2, l3, l4, l5, l6⟩ := hL
  obtain ⟨a1, a2, a3, a4, a5, a6, a7, a8⟩ := hX.num i (by omega)
  obtain ⟨b1, b2, b3, b4, b5, b6, b7, b8⟩ := hX.num k hk
  have hu := hX.up i k hik hk
  exact ⟨l1, l2, l3, l4, l5, l6, a1, hu, b2, a3, a4, a5, a6, a7, a8, b3, b4, b5, b6⟩
theorem spec_asked19 (A : Option Addr) (n c : Nat) (X : Nat → Nat → Int) (t f g : Int) (v : Bool) (hv : (catB n X && linkB t f g) = v) (w : World) (hn : n ≤ 1048576) (ha : Arr w w.heap.size A n 4 (iv X)) :
    Calls Try.prog 76 #[.slice A n c, .agg #[.int .i64 t, .int .i64 f, .int .i64 g]] w fun e w' => e = .returned (.bool v) ∧ Below w.heap.size w w' := by
  have hba : Below w.heap.size w (w.alloc (.cells #[.int .i64 t, .int .i64 f, .int .i64 g] 30)) := below_al (Below.refl _ _)
  have HV := hide hv
  clear hv
  cases h0 : catB n X
  · skip
    obtain rfl : false = v := by rw [← HV.out]; simp [h0]
    have H0 := hide h0; clear h0
    go_enter Try.func76, Try.ntmps76
    go_wp2_with fail
    refine (spec_good16 _ _ _ X _ H0.out _ hn (ha.on hba)).mono ?_
    rintro e w1 ⟨rfl, hb1⟩
    obtain ⟨qc1, qf1⟩ := bcell hb1
    have hz1 := hb1.size
    try simp only [World.size_alloc, World.size_setCell, World.size_drew] at hz1
    have hq1 : Below w.heap.size w w1 := below_call (by go_grown) hb1
    try have hl0_1 : w.heap.size < w1.heap.size := by omega
    try have hl1_1 : w.heap.size + 1 < w1.heap.size := by omega
    try have hl2_1 : w.heap.size + 2 < w1.heap.size := by omega
    try have hl3_1 : w.heap.size + 3 < w1.heap.size := by omega
    go_wp2
    go_returns
    exact ⟨rfl, hq1⟩
  · skip
    cases h1 : linkB t f g
    · skip
      obtain rfl : false = v := by rw [← HV.out]; simp [h0, h1]
      have H0 := hide h0; clear h0
      have H1 := hide h1; clear h1
      go_enter Try.func76, Try.ntmps76
      go_wp2_with fail
      refine (spec_good16 _ _ _ X _ H0.out _ hn (ha.on hba)).mono ?_
      rintro e w1 ⟨rfl, hb1⟩
      obtain ⟨qc1, qf1⟩ := bcell hb1
      have hz1 := hb1.size
      try simp only [World.size_alloc, World.size_setCell, World.size_drew] at hz1
      have hq1 : Below w.heap.size w w1 := below_call (by go_grown) hb1
      try have hl0_1 : w.heap.size < w1.heap.size := by omega
      try have hl1_1 : w.heap.size + 1 < w1.heap.size := by omega
      try have hl2_1 : w.heap.size + 2 < w1.heap.size := by omega
      try have hl3_1 : w.heap.size + 3 < w1.heap.size := by omega
      go_wp2_with fail
      refine (spec_link _ _ _ _ H1.out _).mono ?_
      rintro e w2 ⟨rfl, hb2⟩
      obtain ⟨qc2, qf2⟩ := bcell hb2
      have hz2 := hb2.size
      try simp only [World.size_alloc, World.size_setCell, World.size_drew] at hz2
      have hq2 : Below w.heap.size w w2 := below_call (by go_grown) hb2
      try have hl0_2 : w.heap.size < w2.heap.size := by omega
      try have hl1_2 : w.heap.size + 1 < w2.heap.size := by omega
      try have hl2_2 : w.heap.size + 2 < w2.heap.size := by omega
      try have hl3_2 : w.heap.size + 3 < w2.heap.size := by omega
      try have hn1_2 : w1.heap.size < w2.heap.size := by omega
      go_wp2
      go_returns
      exact ⟨rfl, hq2⟩
    · skip
      obtain rfl : true = v := by rw [← HV.out]; simp [h0, h1]
      have H0 := hide h0; clear h0
      have H1 := hide h1; clear h1
      go_enter Try.func76, Try.ntmps76
      go_wp2_with fail
      refine (spec_good16 _ _ _ X _ H0.out _ hn (ha.on hba)).mono ?_
      rintro e w1 ⟨rfl, hb1⟩
      obtain ⟨qc1, qf1⟩ := bcell hb1
      have hz1 := hb1.size
      try simp only [World.size_alloc, World.size_setCell, World.size_drew] at hz1
      have hq1 : Below w.heap.size w w1 := below_call (by go_grown) hb1
      try have hl0_1 : w.heap.size < w1.heap.size := by omega
      try have hl1_1 : w.heap.size + 1 < w1.heap.size := by omega
      try have hl2_1 : w.heap.size + 2 < w1.heap.size := by omega
      try have hl3_1 : w.heap.size + 3 < w1.heap.size := by omega
      go_wp2_with fail
      refine (spec_link _ _ _ _ H1.out _).mono ?_
      rintro e w2 ⟨rfl, hb2⟩
      obtain ⟨qc2, qf2⟩ := bcell hb2
      have hz2 := hb2.size
      try simp only [World.size_alloc, World.size_setCell, World.size_drew] at hz2
      have hq2 : Below w.heap.size w w2 := below_call (by go_grown) hb2
      try have hl0_2 : w.heap.size < w2.heap.size := by omega
      try have hl1_2 : w.heap.size + 1 < w2.heap.size := by omega
      try have hl2_2 : w.heap.size + 2 < w2.heap.size := by omega
      try have hl3_2 : w.heap.size + 3 < w2.heap.size := by omega
      try have hn1_2 : w1.heap.size < w2.heap.size := by omega
      go_wp2
      go_returns
      exact ⟨rfl, hq2⟩
theorem impl_asked19 (A : Option Addr) (n c : Nat) (X : Nat → Nat → Int) (t f g : Int) (v : Bool) (hv : (catB n X && linkB t f g) = v) (w : World) (hn : n ≤ 1048576) (ha : Arr w w.heap.size A n 4 (iv X)) :
    Calls Try.prog 79 #[.slice A n c, .agg #[.int .i64 t, .int .i64 f, .int .i64 g]] w fun e w' => e = .returned (.bool v) ∧ Below w.heap.size w w' := by
  have hba : Below w.heap.size w (w.alloc (.cells #[.int .i64 t, .int .i64 f, .int .i64 g] 30)) := below_al (Below.refl _ _)
  have HV := hide hv
  clear hv
  cases h0 : catB n X
  · skip
    obtain rfl : false = v := by rw [← HV.out]; simp [h0]
    have H0 := hide h0; clear h0
    go_enter Try.func79, Try.ntmps79
    go_wp2_with fail
    refine (impl_cat _ _ _ X _ H0.out _ hn (ha.on hba)).mono ?_
    rintro e w1 ⟨rfl, hb1⟩
    obtain ⟨qc1, qf1⟩ := bcell hb1
    have hz1 := hb1.size
    try simp only [World.size_alloc, World.size_setCell, World.size_drew] at hz1
    have hq1 : Below w.heap.size w w1 := below_call (by go_grown) hb1
    try have hl0_1 : w.heap.size < w1.heap.size := by omega
    try have hl1_1 : w.heap.size + 1 < w1.heap.size := by omega
    try have hl2_1 : w.heap.size + 2 < w1.heap.size := by omega
    try have hl3_1 : w.heap.size + 3 < w1.heap.size := by omega
    go_wp2
    go_returns
    exact ⟨rfl, hq1⟩
  · skip
    cases h1 : linkB t f g
    · skip
      obtain rfl : false = v := by rw [← HV.out]; simp [h0, h1]
      have H0 := hide h0; clear h0
      have H1 := hide h1; clear h1
      go_enter Try.func79, Try.ntmps79
      go_wp2_with fail
      refine (impl_cat _ _ _ X _ H0.out _ hn (ha.on hba)).mono ?_
      rintro e w1 ⟨rfl, hb1⟩
      obtain ⟨qc1, qf1⟩ := bcell hb1
      have hz1 := hb1.size
      try simp only [World.size_alloc, World.size_setCell, World.size_drew] at hz1
      have hq1 : Below w.heap.size w w1 := below_call (by go_grown) hb1
      try have hl0_1 : w.heap.size < w1.heap.size := by omega
      try have hl1_1 : w.heap.size + 1 < w1.heap.size := by omega
      try have hl2_1 : w.heap.size + 2 < w1.heap.size := by omega
      try have hl3_1 : w.heap.size + 3 < w1.heap.size := by omega
      go_wp2_with fail
      refine (impl_link _ _ _ _ H1.out _).mono ?_
      rintro e w2 ⟨rfl, hb2⟩
      obtain ⟨qc2, qf2⟩ := bcell hb2
      have hz2 := hb2.size
      try simp only [World.size_alloc, World.size_setCell, World.size_drew] at hz2
      have hq2 : Below w.heap.size w w2 := below_call (by go_grown) hb2
      try have hl0_2 : w.heap.size < w2.heap.size := by omega
      try have hl1_2 : w.heap.size + 1 < w2.heap.size := by omega
      try have hl2_2 : w.heap.size + 2 < w2.heap.size := by omega
      try have hl3_2 : w.heap.size + 3 < w2.heap.size := by omega
      try have hn1_2 : w1.heap.size < w2.heap.size := by omega
      go_wp2
      go_returns
      exact ⟨rfl, hq2⟩
    · skip
      obtain rfl : true = v := by rw [← HV.out]; simp [h0, h1]
      have H0 := hide h0; clear h0
      have H1 := hide h1; clear h1
      go_enter Try.func79, Try.ntmps79
      go_wp2_with fail
      refine (impl_cat _ _ _ X _ H0.out _ hn (ha.on hba)).mono ?_
      rintro e w1 ⟨rfl, hb1⟩
      obtain ⟨qc1, qf1⟩ := bcell hb1
      have hz1 := hb1.size
      try simp only [World.size_alloc, World.size_setCell, World.size_drew] at hz1
      have hq1 : Below w.heap.size w w1 := below_call (by go_grown) hb1
      try have hl0_1 : w.heap.size < w1.heap.size := by omega
      try have hl1_1 : w.heap.size + 1 < w1.heap.size := by omega
      try have hl2_1 : w.heap.size + 2 < w1.heap.size := by omega
      try have hl3_1 : w.heap.size + 3 < w1.heap.size := by omega
      go_wp2_with fail
      refine (impl_link _ _ _ _ H1.out _).mono ?_
      rintro e w2 ⟨rfl, hb2⟩
      obtain ⟨qc2, qf2⟩ := bcell hb2
      have hz2 := hb2.size
      try simp only [World.size_alloc, World.size_setCell, World.size_drew] at hz2
      have hq2 : Below w.heap.size w w2 := below_call (by go_grown) hb2
      try have hl0_2 : w.heap.size < w2.heap.size := by omega
      try have hl1_2 : w.heap.size + 1 < w2.heap.size := by omega
      try have hl2_2 : w.heap.size + 2 < w2.heap.size := by omega
      try have hl3_2 : w.heap.size + 3 < w2.heap.size := by omega
      try have hn1_2 : w1.heap.size < w2.heap.size := by omega
      go_wp2
      go_returns
      exact ⟨rfl, hq2⟩

theorem and_lx {a b : Bool} (h : (a && b) = true) : a = true := by cases a <;> simp_all
theorem and_rx {a b : Bool} (h : (a && b) = true) : b = true := by cases a <;> simp_all
theorem own_new_at (X : World) (g base k : Nat) (E : TypeId) (F : Nat → Nat → Value) (h : g = X.heap.size) (hb : base ≤ X.heap.size) : Own (X.alloc (.cells #[] E)) base E k (.slice (some ⟨g, 0, none⟩) 0 0) 0 F := by
  subst h
  exact own_new hb
theorem Cells.apart2 {w w' : World} {b : Nat} {l : List Value} {row : Option Nat} (h : Cells w b l) (hg : w.grownBy w' row) (hne : row ≠ some b) : Cells w' b l :=
  ⟨Nat.lt_of_lt_of_le h.1 hg.size, fun j u hu => (World.cell?_of_block (hg.block b h.1 (fun e => hne e.symm))).trans (h.2 j u hu)⟩
theorem onlyN_if {ok : Bool} {m b : Nat} (h : ok = true → m ≤ b) : onlyN ok m ≤ b := by
  cases ok
  · exact Nat.zero_le _
  · exact h rfl
/-! pairs -/
def prK (r : Nat → Nat → Bool) (i : Nat) : Nat → List (Nat × Nat)
  | 0 => []
  | k + 1 => if i < k ∧ r i k = true then prK r i k ++ [(i, k)] else prK r i k
def prI (r : Nat → Nat → Bool) (n : Nat) : Nat → List (Nat × Nat)
  | 0 => []
  | i + 1 => prI r n i ++ prK r i n
theorem prK_low (r : Nat → Nat → Bool) (i : Nat) : ∀ k, k ≤ i + 1 → prK r i k = []
  | 0, _ => rfl
  | k + 1, h => by rw [prK, if_neg (by omega), prK_low r i k (by omega)]
theorem prK_yes {r : Nat → Nat → Bool} {i k : Nat} (h : i < k) (hr : r i k = true) : prK r i (k + 1) = prK r i k ++ [(i, k)] := by rw [prK, if_pos ⟨h, hr⟩]
theorem prK_no {r : Nat → Nat → Bool} {i k : Nat} (hr : r i k = false) : prK r i (k + 1) = prK r i k := by rw [prK, if_neg (by simp [hr])]
theorem prK_len (r : Nat → Nat → Bool) (i : Nat) : ∀ k, (prK r i k).length ≤ k
  | 0 => by simp [prK]
  | k + 1 => by
    have := prK_len r i k
    rw [prK]; split <;> simp <;> omega
theorem prI_len (r : Nat → Nat → Bool) (n : Nat) : ∀ i, (prI r n i).length ≤ i * n
  | 0 => by simp [prI]
  | i + 1 => by
    have h1 := prI_len r n i
    have h2 := prK_len r i n
    rw [prI, List.length_append, Nat.add_mul]; omega
def pairC (p : Nat × Nat) : List Value := [.int .i64 (p.1 : Int), .int .i64 (p.2 : Int)]
def pairF (l : List (Nat × Nat)) (i j : Nat) : Int := if j = 0 then ((l.getD i (0, 0)).1 : Nat) else ((l.getD i (0, 0)).2 : Nat)
theorem pairC_get (l : List (Nat × Nat)) : ∀ i j (hi : i < l.length), j < 2 → (pairC l[i])[j]? = some (iv (pairF l) i j) := by
  intro i j hi hj
  have e : l.getD i (0, 0) = l[i] := by simp [List.getD, hi]
  unfold iv pairF
  rw [e]
  rcases (by omega : j = 0 ∨ j = 1) with rfl | rfl <;> rfl
theorem own_pairs {w : World} {base n : Nat} {E : TypeId} {v : Value} {l : List (Nat × Nat)} (hn : n = l.length) (h : w.ownsRow base E 2 v n (l.flatMap pairC)) : Own w base E 2 v n (iv (pairF l)) :=
  own_of_rows hn (fun _ => rfl) (pairC_get l) h
set_option maxHeartbeats 4000000 in
set_option maxRecDepth 100000 in
theorem spec_links (A : Option Addr) (n c : Nat) (X : Nat → Nat → Int) (t f g : Int) (v : Bool) (hv : (catB n X && linkB t f g) = v) (q : Nat) (hq : q = onlyN v (prI (rchX t f g X) n n).length) (w : World) (hn : n ≤ 1048576) (ha : Arr w w.heap.size A n 4 (iv X)) :
    Calls Try.prog 42 #[.slice A n c, .agg #[.int .i64 t, .int .i64 f, .int .i64 g]] w fun e w' => ∃ s, e = .returned (.tuple #[s, .bool v]) ∧ Below w.heap.size w w' ∧ Own w' w.heap.size 55 2 s q (iv (pairF (prI (rchX t f g X) n n))) := by
  obtain ⟨i0, hi0, hy0, hy1, hy2⟩ := info_parts info_intA2
  obtain ⟨r, hr⟩ : ∃ r, rchX t f g X = r := ⟨_, rfl⟩
  rw [hr] at hq ⊢
  have HV := hide hv; have HQ := hide hq; have HR := hide hr
  clear hv hq hr
  have hba : Below w.heap.size w ((w.alloc (.cells #[.int .i64 t, .int .i64 f, .int .i64 g] 30)).alloc (.cells #[] 55)) := below_al (below_al (Below.refl _ _))
  cases v
  · obtain rfl : q = 0 := HQ.out
    go_enter Try.func42, Try.ntmps42
    go_wp2_with fail
    refine (spec_asked19 _ _ _ X _ _ _ _ HV.out _ hn (ha.on hba)).mono ?_
    rintro e w1 ⟨rfl, hb1⟩
    obtain ⟨qc1, qf1⟩ := bcell hb1
    have hz1 := hb1.size
    try simp only [World.size_alloc, World.size_setCell, World.size_drew] at hz1
    have hq1 : Below w.heap.size w w1 := below_call (by go_grown) hb1
    try have hl0_1 : w.heap.size < w1.heap.size := by omega
    try have hl1_1 : w.heap.size + 1 < w1.heap.size := by omega
    try have hl2_1 : w.heap.size + 2 < w1.heap.size := by omega
    try have hl3_1 : w.heap.size + 3 < w1.heap.size := by omega
    go_wp2
    go_returns
    exact ⟨_, rfl, hq1, Own.base ((own_new_at _ _ _ _ _ _ (by simp) (Nat.le_refl _)).below hb1 (Nat.le_refl _)) (by simp)⟩
  · have hc : catB n X = true := and_lx HV.out
    have hl : linkB t f g = true := and_rx HV.out
    have CX := catX_of hc
    have n10 := CX.n10
    have HL := hide (link_of hl); have HAA := hide ha
    clear hc hl
    go_enter Try.func42, Try.ntmps42
    go_wp2_with fail
    refine (spec_asked19 _ _ _ X _ _ _ _ HV.out _ hn (ha.on hba)).mono ?_
    rintro e w1 ⟨rfl, hb1⟩
    obtain ⟨qc1, qf1⟩ := bcell hb1
    have hz1 := hb1.size
    try simp only [World.size_alloc, World.size_setCell, World.size_drew] at hz1
    have hq1 : Below w.heap.size w w1 := below_call (by go_grown) hb1
    try have hl0_1 : w.heap.size < w1.heap.size := by omega
    try have hl1_1 : w.heap.size + 1 < w1.heap.size := by omega
    try have hl2_1 : w.heap.size + 2 < w1.heap.size := by omega
    try have hl3_1 : w.heap.size + 3 < w1.heap.size := by omega
    have hcx : Cells (w.alloc (.cells #[.int .i64 t, .int .i64 f, .int .i64 g] 30)) w.heap.size [.int .i64 t, .int .i64 f, .int .i64 g] := Cells.new w _ _ _ rfl
    have hcx1 : Cells w1 w.heap.size [.int .i64 t, .int .i64 f, .int .i64 g] := (hcx.alloc _).on hb1
    have h0 := hcx1.2 0 _ rfl; have h1 := hcx1.2 1 _ rfl; have h2 := hcx1.2 2 _ rfl
    clear qc1 qf1 ha
    have hrow := row_below (row_new_at (w.alloc (.cells #[.int .i64 t, .int .i64 f, .int .i64 g] 30)) (w.heap.size + 1) (w.heap.size + 1) 2 55 (by simp) (by simp)) (hb1 : Below ((w.alloc (.cells #[.int .i64 t, .int .i64 f, .int .i64 g] 30)).alloc (.cells #[] 55)).heap.size _ _)
    have HRW := hide hrow
    clear hrow
    go_wp2
    go_loopw [6, 7] (fun s x wr => ∃ (i m : Nat), i ≤ n ∧ m ≤ i * 10 ∧ x = .int .i64 i ∧ m = (prI r n i).length ∧ Below w.heap.size w wr ∧ Cells wr w.heap.size [.int .i64 t, .int .i64 f, .int .i64 g] ∧ wr.ownsRow (w.heap.size + 1) 55 2 s m ((prI r n i).flatMap pairC)) (fun _ x _ => n - (intOf x).toNat)
    case atStart => exact ⟨0, 0, Nat.zero_le _, by omega, rfl, rfl, hq1, hcx1, HRW.out⟩
    case round =>
      clear h0 h1 h2 hcx hcx1
      obtain ⟨i, m, hi, hmi, rfl, hm, hbw, hcx, hown⟩ := hrel
      have HM := hide hm; have HO := hide hown
      clear hm hown
      by_cases hlt : i < n
      · obtain ⟨b, off, hA, hbb, hc⟩ := HAA.out (by omega)
        have HCC := hide hc
        have hblw : b < wr.heap.size := by have := hbw.size; omega
        have a0 := (hbw.cell (p := ⟨b, _, none⟩) hbb).trans (hc i 0 hlt (by omega)); have a1 := (hbw.cell (p := ⟨b, _, none⟩) hbb).trans (hc i 1 hlt (by omega)); have a2 := (hbw.cell (p := ⟨b, _, none⟩) hbb).trans (hc i 2 hlt (by omega)); have a3 := (hbw.cell (p := ⟨b, _, none⟩) hbb).trans (hc i 3 hlt (by omega))
        simp only [Nat.add_zero, iv] at a0 a1 a2 a3
        subst hA
        clear hc
        go_wp2
        go_loopw [6, 8] (fun s x wq => ∃ (k p : Nat), i + 1 ≤ k ∧ k ≤ n ∧ p ≤ i * 10 + k ∧ x = .int .i64 k ∧ p = (prI r n i ++ prK r i k).length ∧ Below w.heap.size w wq ∧ Cells wq w.heap.size [.int .i64 t, .int .i64 f, .int .i64 g] ∧ wq.ownsRow (w.heap.size + 1) 55 2 s p ((prI r n i ++ prK r i k).flatMap pairC)) (fun _ x _ => n - (intOf x).toNat)
        case atStart => exact ⟨i + 1, m, Nat.le_refl _, by omega, by omega, by go_num, by rw [prK_low r i (i + 1) (Nat.le_refl _), List.append_nil]; exact HM.out, hbw, hcx, by rw [prK_low r i (i + 1) (Nat.le_refl _), List.append_nil]; exact HO.out⟩
        case round =>
          clear a0 a1 a2 a3
          obtain ⟨k, p, hik, hkn, hpb, rfl, hp, hbq, hcq, hown⟩ := hrel
          have HP := hide hp; have HO2 := hide hown
          clear hp hown
          by_cases hlk : k < n
          · have b0 := (hbq.cell (p := ⟨b, _, none⟩) hbb).trans (HCC.out k 0 hlk (by omega)); have b1 := (hbq.cell (p := ⟨b, _, none⟩) hbb).trans (HCC.out k 1 hlk (by omega)); have b2 := (hbq.cell (p := ⟨b, _, none⟩) hbb).trans (HCC.out k 2 hlk (by omega)); have b3 := (hbq.cell (p := ⟨b, _, none⟩) hbb).trans (HCC.out k 3 hlk (by omega))
            have a0 := (hbq.cell (p := ⟨b, _, none⟩) hbb).trans (HCC.out i 0 hlt (by omega)); have a1 := (hbq.cell (p := ⟨b, _, none⟩) hbb).trans (HCC.out i 1 hlt (by omega)); have a2 := (hbq.cell (p := ⟨b, _, none⟩) hbb).trans (HCC.out i 2 hlt (by omega)); have a3 := (hbq.cell (p := ⟨b, _, none⟩) hbb).trans (HCC.out i 3 hlt (by omega))
            simp only [Nat.add_zero, iv] at a0 a1 a2 a3 b0 b1 b2 b3
            have l0 := hcq.2 0 _ rfl; have l1 := hcq.2 1 _ rfl; have l2 := hcq.2 2 _ rfl
            have hcq1 := hcq.1
            have RB := rch_in CX HL.out (by omega : i ≤ k) hlk
            have hbl : b < wr.heap.size := by have := hbq.size; omega
            have hx := BW.cell (w := wr)
            obtain ⟨v2, hv2⟩ : ∃ v2, r i k = v2 := ⟨_, rfl⟩
            have hv2' : rchV t f g (X i 0) (X i 1) (X i 2) (X i 3) (X k 0) (X k 1) (X k 2) = v2 := by rw [← hv2, ← HR.out]; rfl
            have HV2 := hide hv2'
            cases v2
            · have hpk := prK_no hv2
              have HPK := hide hpk
              clear hv2 hv2' hpk
              go_wp2
              refine wp_region_bw (by kernel_rfl) (by kernel_rfl) ?_
              repeat (go_big_quiet_step ((first | (go_at_call 94; exact BW.call (spec_reach _ _ _ _ _ _ _ _ _ _ _ _ HV2.out RB _)))))
              refine wpQuiet_end fun w1 hb1 => ?_
              clear hx
              have hown1 := row_below HO2.out hb1
              have HO3 := hide hown1
              have hcq2 := hcq.on hb1
              clear hown1 l0 l1 l2 a0 a1 a2 a3 b0 b1 b2 b3
              go_wp2
              go_roundw
              case rel => exact ⟨k + 1, p, by omega, by omega, by omega, by go_num, by rw [HPK.out]; exact HP.out, hbq.trans (hb1.mono hbq.size), hcq2, by rw [HPK.out]; exact HO3.out⟩
              case measure => simp [intOf]; omega
            · have hpk := prK_yes (by omega : i < k) hv2
              have HPK := hide hpk
              clear hv2 hv2' hpk
              go_wp2
              refine wp_region_bw (by kernel_rfl) (by kernel_rfl) ?_
              repeat (go_big_quiet_step ((first | (go_at_call 94; exact BW.call (spec_reach _ _ _ _ _ _ _ _ _ _ _ _ HV2.out RB _)))))
              refine wpQuiet_end fun w1 hb1 => ?_
              clear hx
              have hown1 := row_below HO2.out hb1
              have hcq2 := hcq.on hb1
              have hbq1 : Below w.heap.size w w1 := hbq.trans (hb1.mono hbq.size)
              have hpb2 : p ≤ 1000 := by omega
              clear l0 l1 l2 a0 a1 a2 a3 b0 b1 b2 b3
              go_wp2_with (at_builtin; refine wpList_append_far _ rfl _ _ 51 rfl (w.heap.size + 1) 55 i0 (.agg #[.int .i64 0, .int .i64 0]) 2 16 Try.underlying51 hi0 hy0 hy1 hy2 rfl (by decide) _ _ _ rfl (hown1.alloc _) ⟨w1.heap.size, 0, none⟩ 1 1 (pairC (i, k)) rfl rfl ?c1 ?c2 ?c3 ?c4 ?c5 ?_)
              case c1 => exact cells_at w1 _ _ _ rfl
              case c2 => intro u hu; simp only [pairC, List.mem_cons, List.not_mem_nil, or_false] at hu; rcases hu with rfl | rfl <;> rfl
              case c3 => unfold maxLen; omega
              case c4 => omega
              case c5 => have := hcq2.1; simp only [World.size_alloc]; omega
              intro v3 w3 hown3 hgrow3 hfar3
              have hlt3 := hown1.lt
              have hcq3 := (hcq2.alloc (.cells #[.int .i64 (i : Int), .int .i64 (k : Int)] 55)).grown hgrow3 (fun gg hg => by have := (hlt3 gg hg).1; omega)
              have hb3 := (below_al (o := .cells #[.int .i64 (i : Int), .int .i64 (k : Int)] 55) hbq1).grown hgrow3 (by have := hbq1.size; simp only [World.size_alloc]; omega) (fun gg hg => by have := (hlt3 gg hg).1; omega)
              have hrow3 : w3.ownsRow (w.heap.size + 1) 55 2 v3 (p + 1) ((prI r n i ++ prK r i (k + 1)).flatMap pairC) := by rw [HPK.out]; simpa [pairC] using hown3
              have hp3 : p + 1 = (prI r n i ++ prK r i (k + 1)).length := by rw [HPK.out, ← List.append_assoc, List.length_append, ← HP.out]; rfl
              have R1 := hide hrow3; have R2 := hide hb3; have R3 := hide hp3
              clear hown1 hown3 hrow3 hgrow3 hlt3 hb3 hp3 hcq2 hfar3
              go_wp2
              go_roundw
              case rel => exact ⟨k + 1, p + 1, by omega, by omega, by omega, by go_num, R3.out, R2.out, hcq3, R1.out⟩
              case measure => simp [intOf]; omega
          · obtain rfl : k = n := by omega
            go_wp2
            go_roundw
            case rel => exact ⟨i + 1, p, by omega, by omega, by go_num, by rw [prI]; exact HP.out, hbq, hcq, by rw [prI]; exact HO2.out⟩
            case measure => simp [intOf]; omega
      · obtain rfl : i = n := by omega
        have hqm : q = m := by rw [HM.out]; exact HQ.out
        have HW := hide (own_pairs HM.out HO.out)
        subst hqm
        go_wp2
        go_returns
        exact ⟨_, rfl, hbw, HW.out.base (by omega)⟩
set_option maxHeartbeats 4000000 in
set_option maxRecDepth 100000 in
theorem impl_links (A : Option Addr) (n c : Nat) (X : Nat → Nat → Int) (t f g : Int) (v : Bool) (hv : (catB n X && linkB t f g) = v) (q : Nat) (hq : q = onlyN v (prI (rchX t f g X) n n).length) (w : World) (hn : n ≤ 1048576) (ha : Arr w w.heap.size A n 4 (iv X)) :
    Calls Try.prog 41 #[.slice A n c, .agg #[.int .i64 t, .int .i64 f, .int .i64 g]] w fun e w' => ∃ s, e = .returned (.tuple #[s, .bool v]) ∧ Below w.heap.size w w' ∧ Own w' w.heap.size 55 2 s q (iv (pairF (prI (rchX t f g X) n n))) := by
  obtain ⟨i0, hi0, hy0, hy1, hy2⟩ := info_parts info_intA2
  obtain ⟨r, hr⟩ : ∃ r, rchX t f g X = r := ⟨_, rfl⟩
  rw [hr] at hq ⊢
  have HV := hide hv; have HQ := hide hq; have HR := hide hr
  clear hv hq hr
  have hba : Below w.heap.size w (w.alloc (.cells #[.int .i64 t, .int .i64 f, .int .i64 g] 30)) := below_al (Below.refl _ _)
  cases v
  · obtain rfl : q = 0 := HQ.out
    go_enter Try.func41, Try.ntmps41
    go_wp2_with fail
    refine (impl_asked19 _ _ _ X _ _ _ _ HV.out _ hn (ha.on hba)).mono ?_
    rintro e w1 ⟨rfl, hb1⟩
    obtain ⟨qc1, qf1⟩ := bcell hb1
    have hz1 := hb1.size
    try simp only [World.size_alloc, World.size_setCell, World.size_drew] at hz1
    have hq1 : Below w.heap.size w w1 := below_call (by go_grown) hb1
    try have hl0_1 : w.heap.size < w1.heap.size := by omega
    try have hl1_1 : w.heap.size + 1 < w1.heap.size := by omega
    try have hl2_1 : w.heap.size + 2 < w1.heap.size := by omega
    try have hl3_1 : w.heap.size + 3 < w1.heap.size := by omega
    go_wp2
    go_returns
    exact ⟨_, rfl, hq1, own_nil _ _ _ _ _⟩
  · have hc : catB n X = true := and_lx HV.out
    have hl : linkB t f g = true := and_rx HV.out
    have CX := catX_of hc
    have n10 := CX.n10
    have HL := hide (link_of hl); have HAA := hide ha
    clear hc hl
    go_enter Try.func41, Try.ntmps41
    go_wp2_with fail
    refine (impl_asked19 _ _ _ X _ _ _ _ HV.out _ hn (ha.on hba)).mono ?_
    rintro e w1 ⟨rfl, hb1⟩
    obtain ⟨qc1, qf1⟩ := bcell hb1
    have hz1 := hb1.size
    try simp only [World.size_alloc, World.size_setCell, World.size_drew] at hz1
    have hq1 : Below w.heap.size w w1 := below_call (by go_grown) hb1
    try have hl0_1 : w.heap.size < w1.heap.size := by omega
    try have hl1_1 : w.heap.size + 1 < w1.heap.size := by omega
    try have hl2_1 : w.heap.size + 2 < w1.heap.size := by omega
    try have hl3_1 : w.heap.size + 3 < w1.heap.size := by omega
    have hcx : Cells (w.alloc (.cells #[.int .i64 t, .int .i64 f, .int .i64 g] 30)) w.heap.size [.int .i64 t, .int .i64 f, .int .i64 g] := Cells.new w _ _ _ rfl
    have hcx1 : Cells w1 w.heap.size [.int .i64 t, .int .i64 f, .int .i64 g] := hcx.on hb1
    have h0 := hcx1.2 0 _ rfl; have h1 := hcx1.2 1 _ rfl; have h2 := hcx1.2 2 _ rfl
    clear qc1 qf1 ha
    go_wp2
    go_loopw [6, 17] (fun s x wr => ∃ (i m : Nat), i ≤ n ∧ m ≤ i * 10 ∧ x = .int .i64 i ∧ m = (prI r n i).length ∧ Below w.heap.size w wr ∧ Cells wr w.heap.size [.int .i64 t, .int .i64 f, .int .i64 g] ∧ wr.ownsRow (w.heap.size + 1) 55 2 s m ((prI r n i).flatMap pairC)) (fun _ x _ => n - (intOf x).toNat)
    case atStart => exact ⟨0, 0, Nat.zero_le _, by omega, rfl, rfl, below_al hq1, hcx1.alloc _, row_new_at _ _ _ _ _ rfl (by have := hcx1.1; omega)⟩
    case round =>
      clear h0 h1 h2 hcx hcx1
      obtain ⟨i, m, hi, hmi, rfl, hm, hbw, hcx, hown⟩ := hrel
      have HM := hide hm; have HO := hide hown
      clear hm hown
      by_cases hlt : i < n
      · obtain ⟨b, off, hA, hbb, hc⟩ := HAA.out (by omega)
        have HCC := hide hc
        have hblw : b < wr.heap.size := by have := hbw.size; omega
        have a0 := (hbw.cell (p := ⟨b, _, none⟩) hbb).trans (hc i 0 hlt (by omega)); have a1 := (hbw.cell (p := ⟨b, _, none⟩) hbb).trans (hc i 1 hlt (by omega)); have a2 := (hbw.cell (p := ⟨b, _, none⟩) hbb).trans (hc i 2 hlt (by omega)); have a3 := (hbw.cell (p := ⟨b, _, none⟩) hbb).trans (hc i 3 hlt (by omega))
        simp only [Nat.add_zero, iv] at a0 a1 a2 a3
        subst hA
        clear hc
        go_wp2
        go_loopw [6, 9] (fun s x wq => ∃ (k p : Nat), i + 1 ≤ k ∧ k ≤ n ∧ p ≤ i * 10 + k ∧ x = .int .i64 k ∧ p = (prI r n i ++ prK r i k).length ∧ Below w.heap.size w wq ∧ Cells wq w.heap.size [.int .i64 t, .int .i64 f, .int .i64 g] ∧ Cells wq wr.heap.size [.int .i64 (X i 0), .int .i64 (X i 1), .int .i64 (X i 2), .int .i64 (X i 3)] ∧ NotIn s wr.heap.size ∧ wq.ownsRow (w.heap.size + 1) 55 2 s p ((prI r n i ++ prK r i k).flatMap pairC)) (fun _ x _ => n - (intOf x).toNat)
        case atStart => exact ⟨i + 1, m, Nat.le_refl _, by omega, by omega, by go_num, by rw [prK_low r i (i + 1) (Nat.le_refl _), List.append_nil]; exact HM.out, below_al hbw, hcx.alloc _, Cells.new wr _ [.int .i64 (X i 0), .int .i64 (X i 1), .int .i64 (X i 2), .int .i64 (X i 3)] _ rfl, (fun gg hg => by have := (HO.out.lt gg hg).2; omega), by rw [prK_low r i (i + 1) (Nat.le_refl _), List.append_nil]; exact HO.out.alloc _⟩
        case round =>
          clear a0 a1 a2 a3
          obtain ⟨k, p, hik, hkn, hpb, rfl, hp, hbq, hcq, hbx, hnb, hown⟩ := hrel
          have HP := hide hp; have HO2 := hide hown
          clear hp hown
          by_cases hlk : k < n
          · have b0 := (hbq.cell (p := ⟨b, _, none⟩) hbb).trans (HCC.out k 0 hlk (by omega)); have b1 := (hbq.cell (p := ⟨b, _, none⟩) hbb).trans (HCC.out k 1 hlk (by omega)); have b2 := (hbq.cell (p := ⟨b, _, none⟩) hbb).trans (HCC.out k 2 hlk (by omega)); have b3 := (hbq.cell (p := ⟨b, _, none⟩) hbb).trans (HCC.out k 3 hlk (by omega))
            have a0 := hbx.2 0 _ rfl; have a1 := hbx.2 1 _ rfl; have a2 := hbx.2 2 _ rfl; have a3 := hbx.2 3 _ rfl
            have hbx1 := hbx.1
            simp only [Nat.add_zero, iv] at a0 a1 a2 a3 b0 b1 b2 b3
            have l0 := hcq.2 0 _ rfl; have l1 := hcq.2 1 _ rfl; have l2 := hcq.2 2 _ rfl
            have hcq1 := hcq.1
            have RB := rch_in CX HL.out (by omega : i ≤ k) hlk
            have hbl : b < wr.heap.size := by have := hbq.size; omega
            have hx := BW.cell (w := wr)
            obtain ⟨v2, hv2⟩ : ∃ v2, r i k = v2 := ⟨_, rfl⟩
            have hv2' : rchV t f g (X i 0) (X i 1) (X i 2) (X i 3) (X k 0) (X k 1) (X k 2) = v2 := by rw [← hv2, ← HR.out]; rfl
            have HV2 := hide hv2'
            cases v2
            · have hpk := prK_no hv2
              have HPK := hide hpk
              clear hv2 hv2' hpk
              go_wp2
              refine wp_region_bw (by kernel_rfl) (by kernel_rfl) ?_
              repeat (go_big_quiet_step ((first | (go_at_call 93; exact BW.call (impl_reach _ _ _ _ _ _ _ _ _ _ _ _ HV2.out RB _)))))
              refine wpQuiet_end fun w1 hb1 => ?_
              clear hx
              have hown1 := row_below HO2.out hb1
              have HO3 := hide hown1
              have hcq2 := hcq.on hb1
              have hbx2 := hbx.on hb1
              clear hown1 l0 l1 l2 a0 a1 a2 a3 b0 b1 b2 b3
              go_wp2
              go_roundw
              case rel => exact ⟨k + 1, p, by omega, by omega, by omega, by go_num, by rw [HPK.out]; exact HP.out, hbq.trans (hb1.mono hbq.size), hcq2, hbx2, hnb, by rw [HPK.out]; exact HO3.out⟩
              case measure => simp [intOf]; omega
            · have hpk := prK_yes (by omega : i < k) hv2
              have HPK := hide hpk
              clear hv2 hv2' hpk
              go_wp2
              refine wp_region_bw (by kernel_rfl) (by kernel_rfl) ?_
              repeat (go_big_quiet_step ((first | (go_at_call 93; exact BW.call (impl_reach _ _ _ _ _ _ _ _ _ _ _ _ HV2.out RB _)))))
              refine wpQuiet_end fun w1 hb1 => ?_
              clear hx
              have hown1 := row_below HO2.out hb1
              have hcq2 := hcq.on hb1
              have hbx2 := hbx.on hb1
              have hbq1 : Below w.heap.size w w1 := hbq.trans (hb1.mono hbq.size)
              have hpb2 : p ≤ 1000 := by omega
              clear l0 l1 l2 a0 a1 a2 a3 b0 b1 b2 b3
              go_wp2_with (at_builtin; refine wpList_append_far _ rfl _ _ 51 rfl (w.heap.size + 1) 55 i0 (.agg #[.int .i64 0, .int .i64 0]) 2 16 Try.underlying51 hi0 hy0 hy1 hy2 rfl (by decide) _ _ _ rfl (hown1.alloc _) ⟨w1.heap.size, 0, none⟩ 1 1 (pairC (i, k)) rfl rfl ?c1 ?c2 ?c3 ?c4 ?c5 ?_)
              case c1 => exact cells_at w1 _ _ _ rfl
              case c2 => intro u hu; simp only [pairC, List.mem_cons, List.not_mem_nil, or_false] at hu; rcases hu with rfl | rfl <;> rfl
              case c3 => unfold maxLen; omega
              case c4 => omega
              case c5 => have := hcq2.1; simp only [World.size_alloc]; omega
              intro v3 w3 hown3 hgrow3 hfar3
              have hlt3 := hown1.lt
              have hcq3 := (hcq2.alloc (.cells #[.int .i64 (i : Int), .int .i64 (k : Int)] 55)).grown hgrow3 (fun gg hg => by have := (hlt3 gg hg).1; omega)
              have hbx3 := Cells.apart2 (hbx2.alloc (.cells #[.int .i64 (i : Int), .int .i64 (k : Int)] 55)) hgrow3 (fun e => hnb _ e rfl)
              have hnb3 := hnb.app hfar3 (by have := hbx2.1; first | omega | (simp only [World.size_alloc]; omega))
              have hb3 := (below_al (o := .cells #[.int .i64 (i : Int), .int .i64 (k : Int)] 55) hbq1).grown hgrow3 (by have := hbq1.size; simp only [World.size_alloc]; omega) (fun gg hg => by have := (hlt3 gg hg).1; omega)
              have hrow3 : w3.ownsRow (w.heap.size + 1) 55 2 v3 (p + 1) ((prI r n i ++ prK r i (k + 1)).flatMap pairC) := by rw [HPK.out]; simpa [pairC] using hown3
              have hp3 : p + 1 = (prI r n i ++ prK r i (k + 1)).length := by rw [HPK.out, ← List.append_assoc, List.length_append, ← HP.out]; rfl
              have R1 := hide hrow3; have R2 := hide hb3; have R3 := hide hp3
              clear hown1 hown3 hrow3 hgrow3 hlt3 hb3 hp3 hcq2 hfar3
              go_wp2
              go_roundw
              case rel => exact ⟨k + 1, p + 1, by omega, by omega, by omega, by go_num, R3.out, R2.out, hcq3, hbx3, hnb3, R1.out⟩
              case measure => simp [intOf]; omega
          · obtain rfl : k = n := by omega
            go_wp2
            go_roundw
            case rel => exact ⟨i + 1, p, by omega, by omega, by go_num, by rw [prI]; exact HP.out, hbq, hcq, by rw [prI]; exact HO2.out⟩
            case measure => simp [intOf]; omega
      · obtain rfl : i = n := by omega
        have hqm : q = m := by rw [HM.out]; exact HQ.out
        have HW := hide (own_pairs HM.out HO.out)
        subst hqm
        go_wp2
        go_returns
        exact ⟨_, rfl, hbw, HW.out.base (by omega)⟩
end Go.Proofs.Ythpagjkkccimiaa
