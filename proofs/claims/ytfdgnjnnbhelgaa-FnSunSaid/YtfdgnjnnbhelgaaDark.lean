/- Chapter 22: the darkest run. -/
import Derived.Test.YtfdgnjnnbhelgaaSun
namespace Go.Proofs.Ytfdgnjnnbhelgaa
open Go.RowKit
set_option linter.unusedVariables false
set_option linter.unusedSimpArgs false

/-- The run of dark days that ends with day k - 1; the longest run so far, and its last day. -/
def rnD (X : Nat → Nat → Int) (s : Int) : Nat → Int
  | 0 => 0
  | k + 1 => if s ≤ X k 1 then 0 else rnD X s k + 1
def msD (X : Nat → Nat → Int) (s : Int) : Nat → Int
  | 0 => 0
  | k + 1 => if msD X s k < rnD X s (k + 1) then rnD X s (k + 1) else msD X s k
def lsD (X : Nat → Nat → Int) (s : Int) : Nat → Int
  | 0 => 0
  | k + 1 => if msD X s k < rnD X s (k + 1) then X k 0 else lsD X s k
theorem rnD_bd (X : Nat → Nat → Int) (s : Int) : ∀ k, 0 ≤ rnD X s k ∧ rnD X s k ≤ k
  | 0 => by simp [rnD]
  | k + 1 => by have := rnD_bd X s k; simp only [rnD]; split <;> omega
theorem msD_bd (X : Nat → Nat → Int) (s : Int) : ∀ k, 0 ≤ msD X s k ∧ msD X s k ≤ k
  | 0 => by simp [msD]
  | k + 1 => by have := msD_bd X s k; have := rnD_bd X s (k + 1); simp only [msD]; split <;> omega
theorem lsD_bd {X : Nat → Nat → Int} {s : Int} {n : Nat} (h : ∀ i, i < n → 0 ≤ X i 0 ∧ X i 0 ≤ 9999 ∧ 0 ≤ X i 1 ∧ X i 1 ≤ 1000 ∧ (0 < i → X i 0 = X (i - 1) 0 + 1)) : ∀ k, k ≤ n → 0 ≤ lsD X s k ∧ lsD X s k ≤ 9999
  | 0, _ => by simp [lsD]
  | k + 1, hk => by
    have h1 := lsD_bd h (s := s) k (by omega)
    have h2 := h k (by omega)
    simp only [lsD]; split <;> omega
/-- One day more. -/
theorem dark_hi {X : Nat → Nat → Int} {s : Int} {k : Nat} (h : s ≤ X k 1) : rnD X s (k + 1) = 0 ∧ msD X s (k + 1) = msD X s k ∧ lsD X s (k + 1) = lsD X s k := by
  have h0 : rnD X s (k + 1) = 0 := by simp [rnD, h]
  have := msD_bd X s k
  refine ⟨h0, ?_, ?_⟩
  · simp only [msD]; rw [if_neg (by omega)]
  · simp only [lsD]; rw [if_neg (by omega)]
theorem dark_more {X : Nat → Nat → Int} {s : Int} {k : Nat} (h : ¬ s ≤ X k 1) (hm : msD X s k < rnD X s k + 1) : rnD X s (k + 1) = rnD X s k + 1 ∧ msD X s (k + 1) = rnD X s k + 1 ∧ lsD X s (k + 1) = X k 0 := by
  have h0 : rnD X s (k + 1) = rnD X s k + 1 := by simp [rnD, h]
  refine ⟨h0, ?_, ?_⟩
  · simp only [msD]; rw [if_pos (by omega), h0]
  · simp only [lsD]; rw [if_pos (by omega)]
theorem dark_less {X : Nat → Nat → Int} {s : Int} {k : Nat} (h : ¬ s ≤ X k 1) (hm : ¬ msD X s k < rnD X s k + 1) : rnD X s (k + 1) = rnD X s k + 1 ∧ msD X s (k + 1) = msD X s k ∧ lsD X s (k + 1) = lsD X s k := by
  have h0 : rnD X s (k + 1) = rnD X s k + 1 := by simp [rnD, h]
  refine ⟨h0, ?_, ?_⟩
  · simp only [msD]; rw [if_neg (by omega)]
  · simp only [lsD]; rw [if_neg (by omega)]

def darkOk (n : Nat) (X : Nat → Nat → Int) (s : Int) : Bool := sunB n X && inB s 1 1000
def darkV (n : Nat) (X : Nat → Nat → Int) (s : Int) : Int × Int × Bool :=
  if darkOk n X s = true ∧ 0 < msD X s n then (lsD X s n - msD X s n + 1, lsD X s n, true) else (0, 0, false)
def DarkRes (n : Nat) (X : Nat → Nat → Int) (s : Int) (w : World) (e : Ending) (w' : World) : Prop :=
  e = .returned (.tuple #[.int .i64 (darkV n X s).1, .int .i64 (darkV n X s).2.1, .bool (darkV n X s).2.2]) ∧ Below w.heap.size w w'
theorem darkV_no {n : Nat} {X : Nat → Nat → Int} {s : Int} (h : ¬ (darkOk n X s = true ∧ 0 < msD X s n)) : darkV n X s = (0, 0, false) := by unfold darkV; rw [if_neg h]
theorem darkV_yes {n : Nat} {X : Nat → Nat → Int} {s : Int} (h : darkOk n X s = true) (h' : 0 < msD X s n) : darkV n X s = (lsD X s n - msD X s n + 1, lsD X s n, true) := by unfold darkV; rw [if_pos ⟨h, h'⟩]
theorem darkRes_mk {n : Nat} {X : Nat → Nat → Int} {s : Int} {w w' : World} {e : Ending} {a b : Int} {c : Bool} (h : darkV n X s = (a, b, c)) (he : e = .returned (.tuple #[.int .i64 a, .int .i64 b, .bool c])) (hb : Below w.heap.size w w') : DarkRes n X s w e w' := by
  unfold DarkRes; rw [h]; exact ⟨he, hb⟩

set_option maxHeartbeats 1000000 in
theorem spec_darkest (A : Option Addr) (n c : Nat) (X : Nat → Nat → Int) (s : Int) (w : World) (hn : n ≤ 1048576) (ha : Arr w w.heap.size A n 2 (iv X)) :
    Calls Try.prog 32 #[.slice A n c, .int .i64 s] w (DarkRes n X s w) := by
  cases hB : sunB n X
  · have hd : darkOk n X s = false := by simp [darkOk, hB]
    go_enter Try.func32, Try.ntmps32
    go_wp2_with fail
    refine (spec_good22 _ _ _ X _ hn ha).mono ?_
    rintro e w1 ⟨rfl, hb1⟩
    obtain ⟨qc1, qf1⟩ := bcell hb1
    have hz1 := hb1.size
    try simp only [World.size_alloc, World.size_setCell, World.size_drew] at hz1
    have hq1 : Below w.heap.size w w1 := below_call (by go_grown) hb1
    try have hl0_1 : w.heap.size < w1.heap.size := by omega
    try have hl1_1 : w.heap.size + 1 < w1.heap.size := by omega
    try have hl2_1 : w.heap.size + 2 < w1.heap.size := by omega
    try have hl3_1 : w.heap.size + 3 < w1.heap.size := by omega
    go_wp2
    go_returns
    exact darkRes_mk (darkV_no (by rw [hd]; simp)) rfl hq1
  · cases hS : inB s 0 1000
    · have hd : darkOk n X s = false := by
        have := inB_no hS
        simp only [darkOk, Bool.and_eq_false_iff, inB, decide_eq_false_iff_not]; omega
      go_enter Try.func32, Try.ntmps32
      go_wp2_with fail
      refine (spec_good22 _ _ _ X _ hn ha).mono ?_
      rintro e w1 ⟨rfl, hb1⟩
      obtain ⟨qc1, qf1⟩ := bcell hb1
      have hz1 := hb1.size
      try simp only [World.size_alloc, World.size_setCell, World.size_drew] at hz1
      have hq1 : Below w.heap.size w w1 := below_call (by go_grown) hb1
      try have hl0_1 : w.heap.size < w1.heap.size := by omega
      try have hl1_1 : w.heap.size + 1 < w1.heap.size := by omega
      try have hl2_1 : w.heap.size + 2 < w1.heap.size := by omega
      try have hl3_1 : w.heap.size + 3 < w1.heap.size := by omega
      go_wp2_with (go_at_call 85; refine (spec_sun _ _ (by assumption) _).mono ?_; rintro e w' ⟨rfl, rfl⟩)
      go_returns
      exact darkRes_mk (darkV_no (by rw [hd]; simp)) rfl hq1
    · by_cases h0 : s = 0
      · subst h0
        have hd : darkOk n X 0 = false := by simp [darkOk, inB]
        go_enter Try.func32, Try.ntmps32
        go_wp2_with fail
        refine (spec_good22 _ _ _ X _ hn ha).mono ?_
        rintro e w1 ⟨rfl, hb1⟩
        obtain ⟨qc1, qf1⟩ := bcell hb1
        have hz1 := hb1.size
        try simp only [World.size_alloc, World.size_setCell, World.size_drew] at hz1
        have hq1 : Below w.heap.size w w1 := below_call (by go_grown) hb1
        try have hl0_1 : w.heap.size < w1.heap.size := by omega
        try have hl1_1 : w.heap.size + 1 < w1.heap.size := by omega
        try have hl2_1 : w.heap.size + 2 < w1.heap.size := by omega
        try have hl3_1 : w.heap.size + 3 < w1.heap.size := by omega
        go_wp2_with (go_at_call 85; refine (spec_sun _ _ (by assumption) _).mono ?_; rintro e w' ⟨rfl, rfl⟩)
        go_returns
        exact darkRes_mk (darkV_no (by rw [hd]; simp)) rfl hq1
      · obtain ⟨s1, s2⟩ := inB_of hS
        have hd : darkOk n X s = true := by simp only [darkOk, hB, inB, Bool.true_and, Bool.and_eq_true, decide_eq_true_eq]; omega
        have hs0 : (s == 0) = false := by simp [h0]
        obtain ⟨hn20, hok⟩ := sunB_of hB
        have HD := hide hd; have HO := hide hok; have HB := hide hB
        clear hd hok h0
        go_enter Try.func32, Try.ntmps32
        go_wp2_with fail
        refine (spec_good22 _ _ _ X _ hn ha).mono ?_
        rintro e w1 ⟨rfl, hb1⟩
        obtain ⟨qc1, qf1⟩ := bcell hb1
        have hz1 := hb1.size
        try simp only [World.size_alloc, World.size_setCell, World.size_drew] at hz1
        have hq1 : Below w.heap.size w w1 := below_call (by go_grown) hb1
        try have hl0_1 : w.heap.size < w1.heap.size := by omega
        try have hl1_1 : w.heap.size + 1 < w1.heap.size := by omega
        try have hl2_1 : w.heap.size + 2 < w1.heap.size := by omega
        try have hl3_1 : w.heap.size + 3 < w1.heap.size := by omega
        go_wp2_with (go_at_call 85; refine (spec_sun _ _ (by assumption) _).mono ?_; rintro e w' ⟨rfl, rfl⟩)
        have ha1 := ha.below hq1 (Nat.le_refl _)
        clear ha qc1 qf1 hB hS hs0
        go_loop [7, 8, 9, 10] (fun p q r i => ∃ (k : Nat) (l m z : Int), k ≤ n ∧ i = .int .i64 k ∧ p = .int .i64 l ∧ q = .int .i64 m ∧ r = .int .i64 z ∧ l = lsD X s k ∧ m = msD X s k ∧ z = rnD X s k) (fun _ _ _ i => n - (intOf i).toNat)
        case atStart => exact ⟨0, 0, 0, 0, Nat.zero_le _, rfl, rfl, rfl, rfl, rfl, rfl, rfl⟩
        case round =>
          obtain ⟨k, l, m, z, hk, rfl, rfl, rfl, rfl, hl, hm, hz⟩ := hrel
          have bz := rnD_bd X s k; have bm := msD_bd X s k
          rw [← hz] at bz; rw [← hm] at bm
          obtain ⟨z1, z2⟩ := bz; obtain ⟨m1, m2⟩ := bm
          have HL := hide hl; have HM := hide hm; have HZ := hide hz
          clear hl hm hz
          by_cases hlt : k < n
          · obtain ⟨b, off, rfl, hbb, hc⟩ := ha1 (by omega)
            have c0 := hc k 0 hlt (by omega); have c1 := hc k 1 hlt (by omega)
            simp only [Nat.add_zero, iv] at c0 c1
            clear hc ha1
            by_cases h1 : s ≤ X k 1
            · obtain ⟨g1, g2, g3⟩ := dark_hi (X := X) (s := s) (k := k) h1
              have G1 := hide g1; have G2 := hide g2; have G3 := hide g3
              clear g1 g2 g3
              go_wp2
              go_round
              case rel => exact ⟨k + 1, l, m, 0, by omega, by go_num, rfl, rfl, rfl, by rw [G3.out, HL.out], by rw [G2.out, HM.out], by rw [G1.out]⟩
              case measure => simp [intOf]; omega
            · by_cases h2 : m < z + 1
              · obtain ⟨g1, g2, g3⟩ := dark_more (X := X) (s := s) (k := k) h1 (by rw [← HM.out, ← HZ.out]; exact h2)
                have G1 := hide g1; have G2 := hide g2; have G3 := hide g3
                clear g1 g2 g3
                go_wp2
                go_round
                case rel => exact ⟨k + 1, X k 0, z + 1, z + 1, by omega, by go_num, rfl, rfl, rfl, by rw [G3.out], by rw [G2.out, HZ.out], by rw [G1.out, HZ.out]⟩
                case measure => simp [intOf]; omega
              · obtain ⟨g1, g2, g3⟩ := dark_less (X := X) (s := s) (k := k) h1 (by rw [← HM.out, ← HZ.out]; exact h2)
                have G1 := hide g1; have G2 := hide g2; have G3 := hide g3
                clear g1 g2 g3
                go_wp2
                go_round
                case rel => exact ⟨k + 1, l, m, z + 1, by omega, by go_num, rfl, rfl, rfl, by rw [G3.out, HL.out], by rw [G2.out, HM.out], by rw [G1.out, HZ.out]⟩
                case measure => simp [intOf]; omega
          · obtain rfl : k = n := by omega
            by_cases h3 : m = 0
            · have hv : darkV k X s = (0, 0, false) := darkV_no (by rw [← HM.out, h3]; simp)
              have HV := hide hv
              clear hv
              subst h3
              go_wp2
              go_returns
              exact darkRes_mk HV.out rfl hq1
            · have hv : darkV k X s = (l - m + 1, l, true) := by rw [HL.out, HM.out]; exact darkV_yes HD.out (by rw [← HM.out]; omega)
              have HV := hide hv
              have h4 : (m == 0) = false := by simp [h3]
              clear hv
              have hl0 : 0 ≤ l ∧ l ≤ 9999 := by rw [HL.out]; exact lsD_bd HO.out k (Nat.le_refl _)
              obtain ⟨hl1, hl2⟩ := hl0
              go_wp2
              go_returns
              exact darkRes_mk HV.out rfl hq1

set_option maxHeartbeats 2000000 in
theorem impl_darkest (A : Option Addr) (n c : Nat) (X : Nat → Nat → Int) (s : Int) (w : World) (hn : n ≤ 1048576) (ha : Arr w w.heap.size A n 2 (iv X)) :
    Calls Try.prog 31 #[.slice A n c, .int .i64 s] w (DarkRes n X s w) := by
  cases hB : sunB n X
  · have hd : darkOk n X s = false := by simp [darkOk, hB]
    go_enter Try.func31, Try.ntmps31
    go_wp2_with fail
    refine (impl_areSunDays _ _ _ X _ hB _ hn ha).mono ?_
    rintro e w1 ⟨rfl, hb1⟩
    obtain ⟨qc1, qf1⟩ := bcell hb1
    have hz1 := hb1.size
    try simp only [World.size_alloc, World.size_setCell, World.size_drew] at hz1
    have hq1 : Below w.heap.size w w1 := below_call (by go_grown) hb1
    try have hl0_1 : w.heap.size < w1.heap.size := by omega
    try have hl1_1 : w.heap.size + 1 < w1.heap.size := by omega
    try have hl2_1 : w.heap.size + 2 < w1.heap.size := by omega
    try have hl3_1 : w.heap.size + 3 < w1.heap.size := by omega
    go_wp2
    go_returns
    exact darkRes_mk (darkV_no (by rw [hd]; simp)) rfl hq1
  · cases hS : inB s 1 1000
    · have hd : darkOk n X s = false := by simp [darkOk, hS]
      go_enter Try.func31, Try.ntmps31
      go_wp2_with fail
      refine (impl_areSunDays _ _ _ X _ hB _ hn ha).mono ?_
      rintro e w1 ⟨rfl, hb1⟩
      obtain ⟨qc1, qf1⟩ := bcell hb1
      have hz1 := hb1.size
      try simp only [World.size_alloc, World.size_setCell, World.size_drew] at hz1
      have hq1 : Below w.heap.size w w1 := below_call (by go_grown) hb1
      try have hl0_1 : w.heap.size < w1.heap.size := by omega
      try have hl1_1 : w.heap.size + 1 < w1.heap.size := by omega
      try have hl2_1 : w.heap.size + 2 < w1.heap.size := by omega
      try have hl3_1 : w.heap.size + 3 < w1.heap.size := by omega
      go_wp2_with (go_at_call 81; refine (impl_in _ _ _ _ (by assumption) _).mono ?_; rintro e w' ⟨rfl, rfl⟩)
      go_returns
      exact darkRes_mk (darkV_no (by rw [hd]; simp)) rfl hq1
    · obtain ⟨s1, s2⟩ := inB_of hS
      have hd : darkOk n X s = true := by simp [darkOk, hB, hS]
      obtain ⟨hn20, hok⟩ := sunB_of hB
      have HD := hide hd; have HO := hide hok
      clear hd hok
      go_enter Try.func31, Try.ntmps31
      go_wp2_with fail
      refine (impl_areSunDays _ _ _ X _ hB _ hn ha).mono ?_
      rintro e w1 ⟨rfl, hb1⟩
      obtain ⟨qc1, qf1⟩ := bcell hb1
      have hz1 := hb1.size
      try simp only [World.size_alloc, World.size_setCell, World.size_drew] at hz1
      have hq1 : Below w.heap.size w w1 := below_call (by go_grown) hb1
      try have hl0_1 : w.heap.size < w1.heap.size := by omega
      try have hl1_1 : w.heap.size + 1 < w1.heap.size := by omega
      try have hl2_1 : w.heap.size + 2 < w1.heap.size := by omega
      try have hl3_1 : w.heap.size + 3 < w1.heap.size := by omega
      go_wp2_with (go_at_call 81; refine (impl_in _ _ _ _ (by assumption) _).mono ?_; rintro e w' ⟨rfl, rfl⟩)
      have ha1 := ha.below hq1 (Nat.le_refl _)
      clear ha qc1 qf1 hB hS
      go_loopw [7, 8, 9, 22] (fun p q r i wr => ∃ (k : Nat) (f g l m z : Int), k ≤ n ∧ i = .int .i64 k ∧ p = .int .i64 f ∧ q = .int .i64 g ∧ r = .int .i64 z ∧ l = lsD X s k ∧ m = msD X s k ∧ z = rnD X s k ∧ ((m = 0 ∧ f = 0 ∧ g = -1) ∨ (0 < m ∧ f = l - m + 1 ∧ g = l)) ∧ Below w.heap.size w wr ∧ Below w1.heap.size w1 wr) (fun _ _ _ i _ => n - (intOf i).toNat)
      case atStart => exact ⟨0, 0, -1, 0, 0, 0, Nat.zero_le _, rfl, rfl, rfl, rfl, rfl, rfl, rfl, .inl ⟨rfl, rfl, rfl⟩, hq1, Below.refl _ _⟩
      case round =>
        obtain ⟨k, f, g, l, m, z, hk, rfl, rfl, rfl, rfl, hl, hm, hz, hfg, hb, hbb1⟩ := hrel
        have bz := rnD_bd X s k; have bm := msD_bd X s k; have bl := lsD_bd (s := s) HO.out k hk
        rw [← hz] at bz; rw [← hm] at bm; rw [← hl] at bl
        obtain ⟨z1, z2⟩ := bz; obtain ⟨m1, m2⟩ := bm; obtain ⟨l1, l2⟩ := bl
        have e1 : g - f + 1 = m := by omega
        have f1 : 0 ≤ f + 100 := by omega
        have f2 : f ≤ 20000 := by omega
        have g1 : -1 ≤ g := by omega
        have g2 : g ≤ 9999 := by omega
        have HE := hide e1; have HF := hide hfg
        have HL := hide hl; have HM := hide hm; have HZ := hide hz
        clear hl hm hz e1 hfg
        by_cases hlt : k < n
        · obtain ⟨b, off, rfl, hbb, hc⟩ := ha1 (by omega)
          obtain ⟨q1, q2⟩ := bcell hbb1
          have hbx : b < w1.heap.size := by omega
          have hbs := hbb1.size
          have hbl : b < wr.heap.size := by omega
          have c0 := hc k 0 hlt (by omega); have c1 := hc k 1 hlt (by omega)
          simp only [Nat.add_zero, iv] at c0 c1
          obtain ⟨x1, x2, x3, x4, _⟩ := HO.out k hlt
          have hx := fun (o : Obj) => BW.cell (w := wr.alloc o)
          clear hc ha1
          by_cases h1 : s ≤ X k 1
          · obtain ⟨g1, g2, g3⟩ := dark_hi (X := X) (s := s) (k := k) h1
            have G1 := hide g1; have G2 := hide g2; have G3 := hide g3
            clear g1 g2 g3
            go_wp2
            go_roundw
            case rel => exact ⟨k + 1, f, g, l, m, 0, by omega, by go_num, rfl, rfl, rfl, by rw [G3.out, HL.out], by rw [G2.out, HM.out], by rw [G1.out], HF.out, below_al hb, below_al hbb1⟩
            case measure => simp [intOf]; omega
          · by_cases h2 : m < z + 1
            · obtain ⟨g1, g2, g3⟩ := dark_more (X := X) (s := s) (k := k) h1 (by rw [← HM.out, ← HZ.out]; exact h2)
              have G1 := hide g1; have G2 := hide g2; have G3 := hide g3
              clear g1 g2 g3
              have h5 : g - f + 1 < z + 1 := by rw [HE.out]; exact h2
              go_wp2
              refine wp_region_bw (by kernel_rfl) (by kernel_rfl) ?_
              repeat (go_big_quiet_step ((first | fail)))
              refine wpQuiet_end fun w1 hb1 => ?_
              go_wp2
              go_roundw
              case rel => exact ⟨k + 1, _, _, X k 0, z + 1, z + 1, by omega, by go_num, rfl, rfl, rfl, by rw [G3.out], by rw [G2.out, HZ.out], by rw [G1.out, HZ.out], .inr ⟨by omega, by omega, rfl⟩, below_call (below_al hb) hb1, below_call (below_al hbb1) hb1⟩
              case measure => simp [intOf]; omega
            · obtain ⟨g1, g2, g3⟩ := dark_less (X := X) (s := s) (k := k) h1 (by rw [← HM.out, ← HZ.out]; exact h2)
              have G1 := hide g1; have G2 := hide g2; have G3 := hide g3
              clear g1 g2 g3
              have h5 : z + 1 ≤ g - f + 1 := by rw [HE.out]; omega
              go_wp2
              go_roundw
              case rel => exact ⟨k + 1, f, g, l, m, z + 1, by omega, by go_num, rfl, rfl, rfl, by rw [G3.out, HL.out], by rw [G2.out, HM.out], by rw [G1.out, HZ.out], HF.out, below_al hb, below_al hbb1⟩
              case measure => simp [intOf]; omega
        · obtain rfl : k = n := by omega
          by_cases h3 : m = 0
          · have hv : darkV k X s = (0, 0, false) := darkV_no (by rw [← HM.out, h3]; simp)
            have HV := hide hv
            have h6 : g < f := by have := HE.out; omega
            have H3 := hide h3
            clear hv h3
            go_wp2
            go_returns
            exact darkRes_mk HV.out rfl hb
          · have hv : darkV k X s = (l - m + 1, l, true) := by rw [HL.out, HM.out]; exact darkV_yes HD.out (by rw [← HM.out]; omega)
            have HV := hide hv
            have h6 : f ≤ g := by have := HE.out; omega
            have h7 := hide h3
            clear hv h3
            go_wp2
            go_returns
            refine darkRes_mk HV.out ?_ hb
            rcases HF.out with h | ⟨_, h8, h9⟩
            · exact absurd h.1 h7.out
            · simp [h8, h9]
theorem darkRes_use {n : Nat} {X : Nat → Nat → Int} {s : Int} {w w' : World} {e : Ending} {a b : Int} {c : Bool} (h : (a, b, c) = darkV n X s) (hd : DarkRes n X s w e w') :
    e = .returned (.tuple #[.int .i64 a, .int .i64 b, .bool c]) ∧ Below w.heap.size w w' := by
  unfold DarkRes at hd; rw [← h] at hd; exact hd
end Go.Proofs.Ytfdgnjnnbhelgaa
