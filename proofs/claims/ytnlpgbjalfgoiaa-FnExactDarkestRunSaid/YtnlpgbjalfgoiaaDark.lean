/- Chapter 22: the darkest run. -/
import Derived.Test.YtnlpgbjalfgoiaaSun
namespace Go.Proofs.Ytnlpgbjalfgoiaa
open Go.RowKit
set_option linter.unusedVariables false

/-- The run of dark days that ends with day k - 1; the longest run so far, and its last day. -/
def rnD (X : Nat → Nat → Int) (s : Int) : Nat → Int
  | 0 => 0
  | k + 1 => if s ≤ X k 1 then 0 else rnD X s k + 1
def msD (X : Nat → Nat → Int) (s : Int) : Nat → Int
  | 0 => 0
  | k + 1 => if msD X s k < rnD X s (k + 1) then rnD X s (k + 1) else msD X s k
def lsD (X : Nat → Nat → Int) (s : Int) : Nat → Int
  | 0 => 0
  | k + 1 => if msD X s k < rnD X s (k + 1) then X k 0 else lsD X s k
theorem rnD_bd (X : Nat → Nat → Int) (s : Int) : ∀ k, 0 ≤ rnD X s k ∧ rnD X s k ≤ k
  | 0 => by simp [rnD]
  | k + 1 => by have := rnD_bd X s k; simp only [rnD]; split <;> omega
theorem msD_bd (X : Nat → Nat → Int) (s : Int) : ∀ k, 0 ≤ msD X s k ∧ msD X s k ≤ k
  | 0 => by simp [msD]
  | k + 1 => by have := msD_bd X s k; have := rnD_bd X s (k + 1); simp only [msD]; split <;> omega
theorem lsD_bd {X : Nat → Nat → Int} {s : Int} {n : Nat} (h : ∀ i, i < n → 0 ≤ X i 0 ∧ X i 0 ≤ 9999 ∧ 0 ≤ X i 1 ∧ X i 1 ≤ 1000 ∧ (0 < i → X i 0 = X (i - 1) 0 + 1)) : ∀ k, k ≤ n → 0 ≤ lsD X s k ∧ lsD X s k ≤ 9999
  | 0, _ => by simp [lsD]
  | k + 1, hk => by
    have h1 := lsD_bd h (s := s) k (by omega)
    have h2 := h k (by omega)
    simp only [lsD]; split <;> omega
/-- One day more. -/
theorem dark_hi {X : Nat → Nat → Int} {s : Int} {k : Nat} (h : s ≤ X k 1) : rnD X s (k + 1) = 0 ∧ msD X s (k + 1) = msD X s k ∧ lsD X s (k + 1) = lsD X s k := by
  have h0 : rnD X s (k + 1) = 0 := by simp [rnD, h]
  have := msD_bd X s k
  refine ⟨h0, ?_, ?_⟩
  · simp only [msD]; rw [if_neg (by omega)]
  · simp only [lsD]; rw [if_neg (by omega)]
theorem dark_more {X : Nat → Nat → Int} {s : Int} {k : Nat} (h : ¬ s ≤ X k 1) (hm : msD X s k < rnD X s k + 1) : rnD X s (k + 1) = rnD X s k + 1 ∧ msD X s (k + 1) = rnD X s k + 1 ∧ lsD X s (k + 1) = X k 0 := by
  have h0 : rnD X s (k + 1) = rnD X s k + 1 := by simp [rnD, h]
  refine ⟨h0, ?_, ?_⟩
  · simp only [msD]; rw [if_pos (by omega), h0]
  · simp only [lsD]; rw [if_pos (by omega)]
theorem dark_less {X : Nat → Nat → Int} {s : Int} {k : Nat} (h : ¬ s ≤ X k 1) (hm : ¬ msD X s k < rnD X s k + 1) : rnD X s (k + 1) = rnD X s k + 1 ∧ msD X s (k + 1) = msD X s k ∧ lsD X s (k + 1) = lsD X s k := by
  have h0 : rnD X s (k + 1) = rnD X s k + 1 := by simp [rnD, h]
  refine ⟨h0, ?_, ?_⟩
  · simp only [msD]; rw [if_neg (by omega)]
  · simp only [lsD]; rw [if_neg (by omega)]

def darkOk (n : Nat) (X : Nat → Nat → Int) (s : Int) : Bool := sunB n X && inB s 1 1000
def darkV (n : Nat) (X : Nat → Nat → Int) (s : Int) : Int × Int × Bool :=
  if darkOk n X s = true ∧ 0 < msD X s n then (lsD X s n - msD X s n + 1, lsD X s n, true) else (0, 0, false)
def DarkRes (n : Nat) (X : Nat → Nat → Int) (s : Int) (w : World) (e : Ending) (w' : World) : Prop :=
  e = .returned (.tuple #[.int .i64 (darkV n X s).1, .int .i64 (darkV n X s).2.1, .bool (darkV n X s).2.2]) ∧ Below w.heap.size w w'
theorem darkV_no {n : Nat} {X : Nat → Nat → Int} {s : Int} (h : ¬ (darkOk n X s = true ∧ 0 < msD X s n)) : darkV n X s = (0, 0, false) := by unfold darkV; rw [if_neg h]
theorem darkV_yes {n : Nat} {X : Nat → Nat → Int} {s : Int} (h : darkOk n X s = true) (h' : 0 < msD X s n) : darkV n X s = (lsD X s n - msD X s n + 1, lsD X s n, true) := by unfold darkV; rw [if_pos ⟨h, h'⟩]
theorem darkRes_mk {n : Nat} {X : Nat → Nat → Int} {s : Int} {w w' : World} {e : Ending} {a b : Int} {c : Bool} (h : darkV n X s = (a, b, c)) (he : e = .returned (.tuple #[.int .i64 a, .int .i64 b, .bool c])) (hb : Below w.heap.size w w') : DarkRes n X s w e w' := by
  unfold DarkRes; rw [h]; exact ⟨he, hb⟩

set_option maxHeartbeats 1000000 in
theorem spec_darkest (A : Option Addr) (n c : Nat) (X : Nat → Nat → Int) (s : Int) (w : World) (hn : n ≤ 1048576) (ha : Arr w w.heap.size A n 2 (iv X)) :
    Calls Try.prog 30 #[.slice A n c, .int .i64 s] w (DarkRes n X s w) := by
  cases hB : sunB n X
  · have hd : darkOk n X s = false := by simp [darkOk, hB]
    go_enter Try.func30, Try.ntmps30
    go_wp2_with fail
    refine (spec_good22 _ _ _ X _ hn ha).mono ?_
    rintro e w1 ⟨rfl, hb1⟩
    obtain ⟨qc1, qf1⟩ := bcell hb1
    have hz1 := hb1.size
    try simp only [World.size_alloc, World.size_setCell, World.size_drew] at hz1
    have hq1 : Below w.heap.size w w1 := below_call (by go_grown) hb1
    try have hl0_1 : w.heap.size < w1.heap.size := by omega
    try have hl1_1 : w.heap.size + 1 < w1.heap.size := by omega
    try have hl2_1 : w.heap.size + 2 < w1.heap.size := by omega
    try have hl3_1 : w.heap.size + 3 < w1.heap.size := by omega
    go_wp2
    go_returns
    exact darkRes_mk (darkV_no (by rw [hd]; simp)) rfl hq1
  · cases hS : inB s 0 1000
    · have hd : darkOk n X s = false := by
        have := inB_no hS
        simp only [darkOk, Bool.and_eq_false_iff, inB, decide_eq_false_iff_not]; omega
      go_enter Try.func30, Try.ntmps30
      go_wp2_with fail
      refine (spec_good22 _ _ _ X _ hn ha).mono ?_
      rintro e w1 ⟨rfl, hb1⟩
      obtain ⟨qc1, qf1⟩ := bcell hb1
      have hz1 := hb1.size
      try simp only [World.size_alloc, World.size_setCell, World.size_drew] at hz1
      have hq1 : Below w.heap.size w w1 := below_call (by go_grown) hb1
      try have hl0_1 : w.heap.size < w1.heap.size := by omega
      try have hl1_1 : w.heap.size + 1 < w1.heap.size := by omega
      try have hl2_1 : w.heap.size + 2 < w1.heap.size := by omega
      try have hl3_1 : w.heap.size + 3 < w1.heap.size := by omega
      go_wp2_with (go_at_call 64; refine (spec_sun _ _ (by assumption) _).mono ?_; rintro e w' ⟨rfl, rfl⟩)
      go_returns
      exact darkRes_mk (darkV_no (by rw [hd]; simp)) rfl hq1
    · by_cases h0 : s = 0
      · subst h0
        have hd : darkOk n X 0 = false := by simp [darkOk, inB]
        go_enter Try.func30, Try.ntmps30
        go_wp2_with fail
        refine (spec_good22 _ _ _ X _ hn ha).mono ?_
        rintro e w1 ⟨rfl, hb1⟩
        obtain ⟨qc1, qf1⟩ := bcell hb1
        have hz1 := hb1.size
        try simp only [World.size_alloc, World.size_setCell, World.size_drew] at hz1
        have hq1 : Below w.heap.size w w1 := below_call (by go_grown) hb1
        try have hl0_1 : w.heap.size < w1.heap.size := by omega
        try have hl1_1 : w.heap.size + 1 < w1.heap.size := by omega
        try have hl2_1 : w.heap.size + 2 < w1.heap.size := by omega
        try have hl3_1 : w.heap.size + 3 < w1.heap.size := by omega
        go_wp2_with (go_at_call 64; refine (spec_sun _ _ (by assumption) _).mono ?_; rintro e w' ⟨rfl, rfl⟩)
        go_returns
        exact darkRes_mk (darkV_no (by rw [hd]; simp)) rfl hq1
      · obtain ⟨s1, s2⟩ := inB_of hS
        have hd : darkOk n X s = true := by simp only [darkOk, hB, inB, Bool.true_and, Bool.and_eq_true, decide_eq_true_eq]; omega
        have hs0 : (s == 0) = false := by simp [h0]
        obtain ⟨hn20, hok⟩ := sunB_of hB
        have HD := hide hd; have HO := hide hok; have HB := hide hB
        clear hd hok h0
        go_enter Try.func30, Try.ntmps30
        go_wp2_with fail
        refine (spec_good22 _ _ _ X _ hn ha).mono ?_
        rintro e w1 ⟨rfl, hb1⟩
        obtain ⟨qc1, qf1⟩ := bcell hb1
        have hz1 := hb1.size
        try simp only [World.size_alloc, World.size_setCell, World.size_drew] at hz1
        have hq1 : Below w.heap.size w w1 := below_call (by go_grown) hb1
        try have hl0_1 : w.heap.size < w1.heap.size := by omega
        try have hl1_1 : w.heap.size + 1 < w1.heap.size := by omega
        try have hl2_1 : w.heap.size + 2 < w1.heap.size := by omega
        try have hl3_1 : w.heap.size + 3 < w1.heap.size := by omega
        go_wp2_with (go_at_call 64; refine (spec_sun _ _ (by assumption) _).mono ?_; rintro e w' ⟨rfl, rfl⟩)
        have ha1 := ha.below hq1 (Nat.le_refl _)
        clear ha qc1 qf1 hB hS hs0
        go_loop [7, 8, 9, 10] (fun p q r i => ∃ (k : Nat) (l m z : Int), k ≤ n ∧ i = .int .i64 k ∧ p = .int .i64 l ∧ q = .int .i64 m ∧ r = .int .i64 z ∧ l = lsD X s k ∧ m = msD X s k ∧ z = rnD X s k) (fun _ _ _ i => n - (intOf i).toNat)
        case atStart => exact ⟨0, 0, 0, 0, Nat.zero_le _, rfl, rfl, rfl, rfl, rfl, rfl, rfl⟩
        case round =>
          obtain ⟨k, l, m, z, hk, rfl, rfl, rfl, rfl, hl, hm, hz⟩ := hrel
          have bz := rnD_bd X s k; have bm := msD_bd X s k
          rw [← hz] at bz; rw [← hm] at bm
          obtain ⟨z1, z2⟩ := bz; obtain ⟨m1, m2⟩ := bm
          have HL := hide hl; have HM := hide hm; have HZ := hide hz
          clear hl hm hz
          by_cases hlt : k < n
          · obtain ⟨b, off, rfl, hbb, hc⟩ := ha1 (by omega)
            have c0 := hc k 0 hlt (by omega); have c1 := hc k 1 hlt (by omega)
            simp only [Nat.add_zero, iv] at c0 c1
            clear hc ha1
            by_cases h1 : s ≤ X k 1
            · obtain ⟨g1, g2, g3⟩ := dark_hi (X := X) (s := s) (k := k) h1
              have G1 := hide g1; have G2 := hide g2; have G3 := hide g3
              clear g1 g2 g3
              go_wp2
              go_round
              case rel => exact ⟨k + 1, l, m, 0, by omega, by go_num, rfl, rfl, rfl, by rw [G3.out, HL.out], by rw [G2.out, HM.out], by rw [G1.out]⟩
              case measure => simp [intOf]; omega
            · by_cases h2 : m < z + 1
              · obtain ⟨g1, g2, g3⟩ := dark_more (X := X) (s := s) (k := k) h1 (by rw [← HM.out, ← HZ.out]; exact h2)
                have G1 := hide g1; have G2 := hide g2; have G3 := hide g3
                clear g1 g2 g3
                go_wp2
                go_round
                case rel => exact ⟨k + 1, X k 0, z + 1, z + 1, by omega, by go_num, rfl, rfl, rfl, by rw [G3.out], by rw [G2.out, HZ.out], by rw [G1.out, HZ.out]⟩
                case measure => simp [intOf]; omega
              · obtain ⟨g1, g2, g3⟩ := dark_less (X := X) (s := s) (k := k) h1 (by rw [← HM.out, ← HZ.out]; exact h2)
                have G1 := hide g1; have G2 := hide g2; have G3 := hide g3
                clear g1 g2 g3
                go_wp2
                go_round
                case rel => exact ⟨k + 1, l, m, z + 1, by omega, by go_num, rfl, rfl, rfl, by rw [G3.out, HL.out], by rw [G2.out, HM.out], by rw [G1.out, HZ.out]⟩
                case measure => simp [intOf]; omega
          · obtain rfl : k = n := by omega
            by_cases h3 : m = 0
            · have hv : darkV k X s = (0, 0, false) := darkV_no (by rw [← HM.out, h3]; simp)
              have HV := hide hv
              clear hv
              subst h3
              go_wp2
              go_returns
              exact darkRes_mk HV.out rfl hq1
            · have hv : darkV k X s = (l - m + 1, l, true) := by rw [HL.out, HM.out]; exact darkV_yes HD.out (by rw [← HM.out]; omega)
              have HV := hide hv
              have h4 : (m == 0) = false := by simp [h3]
              clear hv
              have hl0 : 0 ≤ l ∧ l ≤ 9999 := by rw [HL.out]; exact lsD_bd HO.out k (Nat.le_refl _)
              obtain ⟨hl1, hl2⟩ := hl0
              go_wp2
              go_returns
              exact darkRes_mk HV.out rfl hq1

set_option maxHeartbeats 2000000 in
theorem impl_darkest (A : Option Addr) (n c : Nat) (X : Nat → Nat → Int) (s : Int) (w : World) (hn : n ≤ 1048576) (ha : Arr w w.heap.size A n 2 (iv X)) :
    Calls Try.prog 31 #[.slice A n c, .int .i64 s] w (DarkRes n X s w) := by
  cases hB : sunB n X
  · have hd : darkOk n X s = false := by simp [darkOk, hB]
    go_enter Try.func31, Try.ntmps31
    go_wp2_with fail
    refine (impl_areSunDays _ _ _ X _ hB _ hn ha).mono ?_
    rintro e w1 ⟨rfl, hb1⟩
    obtain ⟨qc1, qf1⟩ := bcell hb1
    have hz1 := hb1.size
    try simp only [World.size_alloc, World.size_setCell, World.size_drew] at hz1
    have hq1 : Below w.heap.size w w1 := below_call (by go_grown) hb1
    try have hl0_1 : w.heap.size < w1.heap.size := by omega
    try have hl1_1 : w.heap.size + 1 < w1.heap.size := by omega
    try have hl2_1 : w.heap.size + 2 < w1.heap.size := by omega
    try have hl3_1 : w.heap.size + 3 < w1.heap.size := by omega
    go_wp2
    go_returns
    exact darkRes_mk (darkV_no (by rw [hd]; simp)) rfl hq1
  · cases hS : inB s 1 1000
    · have hd : darkOk n X s = false := by simp [darkOk, hS]
      go_enter Try.func31, Try.ntmps31
      go_wp2_with fail
      refine (impl_areSunDays _ _ _ X _ hB _ hn ha).mono ?_
      rintro e w1 ⟨rfl, hb1⟩
      obtain ⟨qc1, qf1⟩ := bcell hb1
      have hz1 := hb1.size
      try simp only [World.size_alloc, World.size_setCell, World.size_drew] at hz1
      have hq1 : Below w.heap.size w w1 := below_call (by go_grown) hb1
      try have hl0_1 : w.heap.size < w1.heap.size := by omega
      try have hl1_1 : w.heap.size + 1 < w1.heap.size := by omega
      try have hl2_1 : w.heap.size + 2 < w1.heap.size := by omega
      try have hl3_1 : w.heap.size + 3 < w1.heap.size := by omega
      go_wp2_with (go_at_call 56; refine (impl_in _ _ _ _ (by assumption) _).mono ?_; rintro e w' ⟨rfl, rfl⟩)
      go_returns
      exact darkRes_mk (darkV_no (by rw [hd]; simp)) rfl hq1
    · obtain ⟨s1, s2⟩ := inB_of hS
      have hd : darkOk n X s = true := by simp [darkOk, hB, hS]
      obtain ⟨hn20, hok⟩ := sunB_of hB
      have HD := hide hd; have HO := hide hok
      clear hd hok
      go_enter Try.func31, Try.ntmps31
      go_wp2_with fail
      refine (impl_areSunDays _ _ _ X _ hB _ hn ha).mono ?_
      rintro e w1 ⟨rfl, hb1⟩
      obtain ⟨qc1, qf1⟩ := bcell hb1
      have hz1 := hb1.size
      try simp only [World.size_alloc, World.size_setCell, World.size_drew] at hz1
      have hq1 : Below w.heap.size w w1 := below_call (by go_grown) hb1
      try have hl0_1 : w.heap.size < w1.heap.size := by omega
      try have hl1_1 : w.heap.size + 1 < w1.heap.size := by omega
      try have hl2_1 : w.heap.size + 2 < w1.heap.size := by omega
      try have hl3_1 : w.heap.size + 3 < w1.heap.size := by omega
      go_wp2_with (go_at_call 56; refine (impl_in _ _ _ _ (by assumption) _).mono ?_; rintro e w' ⟨rfl, rfl⟩)
      have ha1 := ha.below hq1 (Nat.le_refl _)
      clear ha qc1 qf1 hB hS
      go_loopw [7, 8, 9, 22] (fun p q r i wr => ∃ (k : Nat) (f g l m z : Int), k ≤ n ∧ i = .int .i64 k ∧ p = .int .i64 f ∧ q = .int .i64 g ∧ r = .int .i64 z ∧ l = lsD X s k ∧ m = msD X s k ∧ z = rnD X s k ∧ ((m = 0 ∧ f = 0 ∧ g = -1) ∨ (0 < m ∧ f = l - m + 1 ∧ g = l)) ∧ Below w.heap.size w wr ∧ Below w1.heap.size w1 wr) (fun _ _ _ i _ => n - (intOf i).toNat)
      case atStart => exact ⟨0, 0, -1, 0, 0, 0, Nat.zero_le _, rfl, rfl, rfl, rfl, rfl, rfl, rfl, .inl ⟨rfl, rfl, rfl⟩, hq1, Below.refl _ _⟩
      case round =>
        obtain ⟨k, f, g, l, m, z, hk, rfl, rfl, rfl, rfl, hl, hm, hz, hfg, hb, hbb1⟩ := hrel
        have bz := rnD_bd X s k; have bm := msD_bd X s k; have bl := lsD_bd (s := s) HO.out k hk
        rw [← hz] at bz; rw [← hm] at bm; rw [← hl] at bl
        obtain ⟨z1, z2⟩ := bz; obtain ⟨m1, m2⟩ := bm; obtain ⟨l1, l2⟩ := bl
        have e1 : g - f + 1 = m := by omega
        have f1 : 0 ≤ f + 100 := by omega
        have f2 : f ≤ 20000 := by omega
        have g1 : -1 ≤ g := by omega
        have g2 : g ≤ 9999 := by omega
        have HE := hide e1; have HF := hide hfg
        have HL := hide hl; have HM := hide hm; have HZ := hide hz
        clear hl hm hz e1 hfg
        by_cases hlt : k < n
        · obtain ⟨b, off, rfl, hbb, hc⟩ := ha1 (by omega)
          obtain ⟨q1, q2⟩ := bcell hbb1
          have hbx : b < w1.heap.size := by omega
          have hbs := hbb1.size
          have hbl : b < wr.heap.size := by omega
          have c0 := hc k 0 hlt (by omega); have c1 := hc k 1 hlt (by omega)
          simp only [Nat.add_zero, iv] at c0 c1
          obtain ⟨x1, x2, x3, x4, _⟩ := HO.out k hlt
          have hx := fun (o : Obj) => BW.cell (w := wr.alloc o)
          clear hc ha1
          by_cases h1 : s ≤ X k 1
          · obtain ⟨g1, g2, g3⟩ := dark_hi (X := X) (s := s) (k := k) h1
            have G1 := hide g1; have G2 := hide g2; have G3 := hide g3
            clear g1 g2 g3
            go_wp2
            go_roundw
            case rel => exact ⟨k + 1, f, g, l, m, 0, by omega, by go_num, rfl, rfl, rfl, by rw [G3.out, HL.out], by rw [G2.out, HM.out], by rw [G1.out], HF.out, below_al hb, below_al hbb1⟩
            case measure => simp [intOf]; omega
          · by_cases h2 : m < z + 1
            · obtain ⟨g1, g2, g3⟩ := dark_more (X := X) (s := s) (k := k) h1 (by rw [← HM.out, ← HZ.out]; exact h2)
              have G1 := hide g1; have G2 := hide g2; have G3 := hide g3
              clear g1 g2 g3
              have h5 : g - f + 1 < z + 1 := by rw [HE.out]; exact h2
              go_wp2
              refine wp_region_bw (by kernel_rfl) (by kernel_rfl) ?_
              repeat (go_big_quiet_step ((first | fail)))
              refine wpQuiet_end fun w1 hb1 => ?_
              go_wp2
              go_roundw
              case rel => exact ⟨k + 1, _, _, X k 0, z + 1, z + 1, by omega, by go_num, rfl, rfl, rfl, by rw [G3.out], by rw [G2.out, HZ.out], by rw [G1.out, HZ.out], .inr ⟨by omega, by omega, rfl⟩, below_call (below_al hb) hb1, below_call (below_al hbb1) hb1⟩
              case measure => simp [intOf]; omega
            · obtain ⟨g1, g2, g3⟩ := dark_less (X := X) (s := s) (k := k) h1 (by rw [← HM.out, ← HZ.out]; exact h2)
              have G1 := hide g1; have G2 := hide g2; have G3 := hide g3
              clear g1 g2 g3
              have h5 : z + 1 ≤ g - f + 1 := by rw [HE.out]; omega
              go_wp2
              go_roundw
              case rel => exact ⟨k + 1, f, g, l, m, z + 1, by omega, by go_num, rfl, rfl, rfl, by rw [G3.out, HL.out], by rw [G2.out, HM.out], by rw [G1.out, HZ.out], HF.out, below_al hb, below_al hbb1⟩
              case measure => simp [intOf]; omega
        · obtain rfl : k = n := by omega
          by_cases h3 : m = 0
          · have hv : darkV k X s = (0, 0, false) := darkV_no (by rw [← HM.out, h3]; simp)
            have HV := hide hv
            have h6 : g < f := by have := HE.out; omega
            have H3 := hide h3
            clear hv h3
            go_wp2
            go_returns
            exact darkRes_mk HV.out rfl hb
          · have hv : darkV k X s = (l - m + 1, l, true) := by rw [HL.out, HM.out]; exact darkV_yes HD.out (by rw [← HM.out]; omega)
            have HV := hide hv
            have h6 : f ≤ g := by have := HE.out; omega
            have h7 := hide h3
            clear hv h3
            go_wp2
            go_returns
            refine darkRes_mk HV.out ?_ hb
            rcases HF.out with h | ⟨_, h8, h9⟩
            · exact absurd h.1 h7.out
            · simp [h8, h9]
theorem darkRes_use {n : Nat} {X : Nat → Nat → Int} {s : Int} {w w' : World} {e : Ending} {a b : Int} {c : Bool} (h : (a, b, c) = darkV n X s) (hd : DarkRes n X s w e w') :
    e = .returned (.tuple #[.int .i64 a, .int .i64 b, .bool c]) ∧ Below w.heap.size w w' := by
  unfold DarkRes at hd; rw [← h] at hd; exact hd
theorem walk_FnExactDarkestRun (A : Option Addr) (n c : Nat) (X : Nat → Nat → Int) (s : Int) (w0 : World) (hn : n ≤ maxLen) (ha : Arr w0 w0.heap.size A n 2 (iv X)) (_hs : -9223372036854775808 ≤ s ∧ s ≤ 9223372036854775807) :
    Calls Try.prog 8 #[.slice A n c, .int .i64 s] w0 fun e w' => e = .returned (.bool true) ∧ Below w0.heap.size w0 w' := by
  clear _hs
  by_cases hs : (n : Int) ≤ 1048576
  · have hn' : n ≤ 1048576 := by omega
    have hr : (0 : Int) ≤ 1048576 - n := by omega
    obtain ⟨r, hr0⟩ : ∃ r, r = darkV n X s := ⟨_, rfl⟩
    obtain ⟨r1, r2, r3⟩ := r
    have HR := hide hr0
    clear hr0
    cases r3
    all_goals
      have hq0 : Below w0.heap.size w0 w0 := Below.refl _ _
      go_enter Try.func8, Try.ntmps8
      go_wp2_with fail
      refine (sz_sunDayS_ok _ _ _ _ hs (by omega) _).mono ?_
      rintro e u ⟨rfl, rfl⟩
      go_wp2_with fail
      refine (to_sunDayS _ _ _ X _ hn' ha).mono ?_
      rintro e w1 ⟨vA, rfl, hb1, OA_1⟩
      have hs1 : Below w0.heap.size w0 w1 := below_call (by go_grown) hb1
      have hz1 := hs1.size
      have hq1 : Below w0.heap.size w0 w1 := hq0.trans (hs1.mono hq0.size)
      have BA : ∀ g, vA.ownBlock = some g → w0.heap.size ≤ g ∧ g < w1.heap.size := fun g hg => ⟨Nat.le_trans (by first | exact Nat.le_refl _ | exact hz1 | simp) (OA_1.blk g hg).1, (OA_1.blk g hg).2⟩
      obtain ⟨AA, cA, hvA, hcA, _⟩ := OA_1.arr
      subst hvA
      go_wp2_with fail
      refine ((spec_darkest _ _ _ X s _ hn' OA_1.arr1).mono fun _ _ h => darkRes_use HR.out h).mono ?_
      rintro e w2 ⟨rfl, hb2⟩
      have hs2 : Below w1.heap.size w1 w2 := below_call (by go_grown) hb2
      have hz2 := hs2.size
      have hq2 : Below w0.heap.size w0 w2 := hq1.trans (hs2.mono hq1.size)
      have OA_2 := OA_1.below hs2 (Nat.le_refl _)
      go_wp2_with fail
      refine (to_sunDayS _ _ _ X _ hn' (ha.on hq2)).mono ?_
      rintro e w3 ⟨vX, rfl, hb3, OX_3⟩
      have hs3 : Below w2.heap.size w2 w3 := below_call (by go_grown) hb3
      have hz3 := hs3.size
      have hq3 : Below w0.heap.size w0 w3 := hq2.trans (hs3.mono hq2.size)
      have OA_3 := OA_2.below hs3 (Nat.le_refl _)
      have BX : ∀ g, vX.ownBlock = some g → w2.heap.size ≤ g ∧ g < w3.heap.size := fun g hg => ⟨Nat.le_trans (by first | exact Nat.le_refl _ | exact hz3 | simp) (OX_3.blk g hg).1, (OX_3.blk g hg).2⟩
      obtain ⟨AX, cX, hvX, hcX, _⟩ := OX_3.arr
      subst hvX
      go_wp2_with fail
      refine ((impl_darkest _ _ _ X s _ hn' OX_3.arr1).mono fun _ _ h => darkRes_use HR.out h).mono ?_
      rintro e w4 ⟨rfl, hb4⟩
      have hs4 : Below w3.heap.size w3 w4 := below_call (by go_grown) hb4
      have hz4 := hs4.size
      have hq4 : Below w0.heap.size w0 w4 := hq3.trans (hs4.mono hq3.size)
      have OA_4 := OA_3.below hs4 (Nat.le_refl _)
      have OX_4 := OX_3.below hs4 (Nat.le_refl _)
      go_wp2_with fail
      refine (to_sunDayS _ _ _ X _ hn' (ha.on hq4)).mono ?_
      rintro e w5 ⟨vP, rfl, hb5, OP_5⟩
      have hs5 : Below w4.heap.size w4 w5 := below_call (by go_grown) hb5
      have hz5 := hs5.size
      have hq5 : Below w0.heap.size w0 w5 := hq4.trans (hs5.mono hq4.size)
      have OA_5 := OA_4.below hs5 (Nat.le_refl _)
      have OX_5 := OX_4.below hs5 (Nat.le_refl _)
      have BP : ∀ g, vP.ownBlock = some g → w4.heap.size ≤ g ∧ g < w5.heap.size := fun g hg => ⟨Nat.le_trans (by first | exact Nat.le_refl _ | exact hz5 | simp) (OP_5.blk g hg).1, (OP_5.blk g hg).2⟩
      obtain ⟨AP, cP, hvP, hcP, _⟩ := OP_5.arr
      subst hvP
      go_wp2_with fail
      refine (eq_sunDayS _ _ _ _ _ _ X X true (eqX_self _ _ _) _ hn' hn' OX_5.arr1 OP_5.arr1).mono ?_
      rintro e w6 ⟨rfl, hb6⟩
      have hs6 : Below w5.heap.size w5 w6 := below_call (by go_grown) hb6
      have hz6 := hs6.size
      have hq6 : Below w0.heap.size w0 w6 := hq5.trans (hs6.mono hq5.size)
      have OA_6 := OA_5.below hs6 (Nat.le_refl _)
      have OX_6 := OX_5.below hs6 (Nat.le_refl _)
      have OP_6 := OP_5.below hs6 (Nat.le_refl _)
      go_wp2
      go_returns
      exact ⟨rfl, hq6⟩
  · have hs' : (1048576 : Int) < n := by omega
    go_enter Try.func8, Try.ntmps8
    go_wp2_with fail
    refine (sz_sunDayS_over _ _ _ _ hs' hn (by omega) (by omega) _).mono ?_
    rintro e u ⟨rfl, rfl⟩
    go_wp2
    go_returns
    exact ⟨rfl, Below.refl _ _⟩
end Go.Proofs.Ytnlpgbjalfgoiaa
