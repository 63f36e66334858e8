/- An alarm as text: the walks of both sides. -/
import Derived.Test.YtgiphgfbfhaamaaDoorTxtN
import Derived.Test.YtgiphgfbfhaamaaDoorAlaQ
import Derived.Deep.RegionHeld3
namespace Go.Proofs.YtgiphgfbfhaamaaDoor
open Go.RowKit
set_option linter.unusedVariables false
set_option linter.unusedSimpArgs false

def stS (x : Int) : ByteArray := if x = 0 then { data := #[113, 117, 105, 101, 116] } else if x = 1 then { data := #[108, 105, 115, 116, 101, 110] } else if x = 2 then { data := #[103, 105, 118, 101, 110] } else { data := #[111, 118, 101, 114] }
def alTxt (a : Nat) (st : ByteArray) (n : Nat) : ByteArray := (((dgS a ++ { data := #[32] }) ++ st) ++ { data := #[32, 104, 101, 97, 114, 100, 32] }) ++ dgS n
def txtV (v : Bool) (x0 x1 : Int) (n : Nat) : ByteArray := if v then alTxt x0.toNat (stS x1) n else { data := #[] }
theorem txtV_yes {a n : Nat} {x1 : Int} {s : ByteArray} (h : txtV true (a : Int) x1 n = s) : s = alTxt a (stS x1) n := by
  rw [← h]; rfl
theorem ret_txt {v : Value} {s : ByteArray} (h : v = .tuple #[.string s, .bool true]) : Ending.returned v = .returned (.tuple #[.string s, .bool true]) := by rw [h]
def stArr : List Value := [.string { data := #[113, 117, 105, 101, 116] }, .string { data := #[108, 105, 115, 116, 101, 110] }, .string { data := #[103, 105, 118, 101, 110] }, .string { data := #[111, 118, 101, 114] }]
def stAr : Array Value := #[.string { data := #[113, 117, 105, 101, 116] }, .string { data := #[108, 105, 115, 116, 101, 110] }, .string { data := #[103, 105, 118, 101, 110] }, .string { data := #[111, 118, 101, 114] }]
theorem st_at {j : Nat} (h : j < 4) : stArr[j]? = some (.string (stS (j : Int))) := by
  rcases (by omega : j = 0 ∨ j = 1 ∨ j = 2 ∨ j = 3) with rfl | rfl | rfl | rfl <;> rfl
theorem st_at2 {j : Nat} (h : j < 4) : stAr[j]? = some (.string (stS (j : Int))) := by
  rcases (by omega : j = 0 ∨ j = 1 ∨ j = 2 ∨ j = 3) with rfl | rfl | rfl | rfl <;> rfl
theorem stS_size (x : Int) : (stS x).size ≤ 6 := by
  unfold stS
  split
  · decide
  · split
    · decide
    · split
      · decide
      · decide
theorem below_dn {B : Nat} {w a : World} (h : Below B w a) : ∀ k, Below B w (a.drewN k)
  | 0 => h
  | k + 1 => (below_dn h k).drew
theorem below_d1 {B : Nat} {w a : World} (h : Below B w a) : Below B w a.drew := h.drew
theorem sT_alloc {w : World} {g : Nat} {a b c : Value} (o : Obj) (h : g < w.heap.size ∧ w.cell? ⟨g, 0, none⟩ = some a ∧ w.cell? ⟨g, 1, none⟩ = some b ∧ w.cell? ⟨g, 2, none⟩ = some c) : g < (w.alloc o).heap.size ∧ (w.alloc o).cell? ⟨g, 0, none⟩ = some a ∧ (w.alloc o).cell? ⟨g, 1, none⟩ = some b ∧ (w.alloc o).cell? ⟨g, 2, none⟩ = some c :=
  ⟨by rw [World.size_alloc]; exact Nat.lt_succ_of_lt h.1, (World.cell?_alloc_lt w o ⟨g, 0, none⟩ h.1).trans h.2.1, (World.cell?_alloc_lt w o ⟨g, 1, none⟩ h.1).trans h.2.2.1, (World.cell?_alloc_lt w o ⟨g, 2, none⟩ h.1).trans h.2.2.2⟩
theorem sT_drewN {w : World} {g : Nat} {a b c : Value} (k : Nat) (h : g < w.heap.size ∧ w.cell? ⟨g, 0, none⟩ = some a ∧ w.cell? ⟨g, 1, none⟩ = some b ∧ w.cell? ⟨g, 2, none⟩ = some c) : g < (w.drewN k).heap.size ∧ (w.drewN k).cell? ⟨g, 0, none⟩ = some a ∧ (w.drewN k).cell? ⟨g, 1, none⟩ = some b ∧ (w.drewN k).cell? ⟨g, 2, none⟩ = some c := h
theorem sT_drew {w : World} {g : Nat} {a b c : Value} (h : g < w.heap.size ∧ w.cell? ⟨g, 0, none⟩ = some a ∧ w.cell? ⟨g, 1, none⟩ = some b ∧ w.cell? ⟨g, 2, none⟩ = some c) : g < w.drew.heap.size ∧ w.drew.cell? ⟨g, 0, none⟩ = some a ∧ w.drew.cell? ⟨g, 1, none⟩ = some b ∧ w.drew.cell? ⟨g, 2, none⟩ = some c := h
theorem wpAnyH_more {P : Program} {md : Region.Mode} {ops : Array Oper} {Q : Exit → Act → World → Prop} {S S' : World → Prop} (hSS : ∀ w, S' w → S w) : ∀ (fuel : Nat) (listed : Array Bool) (a : Act) (w : World), wpAnyH P md ops Q S' fuel listed a w → wpAnyH P md ops Q S fuel listed a w
  | 0, _, _, _, h => h
  | fuel + 1, _, _, _, h => ⟨h.1, fun i hi => wpOp_mono (fun a' w' h' => ⟨hSS _ h'.1, wpAnyH_more hSS fuel _ a' w' h'.2⟩) (h.2 i hi)⟩
theorem sU_mk {w : World} {g b j : Nat} {x y z u : Value} (h : g < w.heap.size ∧ w.cell? ⟨g, 0, none⟩ = some x ∧ w.cell? ⟨g, 1, none⟩ = some y ∧ w.cell? ⟨g, 2, none⟩ = some z) (k : w.cell? ⟨b, j, none⟩ = some u) : g < w.heap.size ∧ w.cell? ⟨g, 0, none⟩ = some x ∧ w.cell? ⟨g, 1, none⟩ = some y ∧ w.cell? ⟨g, 2, none⟩ = some z ∧ w.cell? ⟨b, j, none⟩ = some u := ⟨h.1, h.2.1, h.2.2.1, h.2.2.2, k⟩
theorem sU_drewN {w : World} {g b j : Nat} {x y z u : Value} (m : Nat) (h : g < w.heap.size ∧ w.cell? ⟨g, 0, none⟩ = some x ∧ w.cell? ⟨g, 1, none⟩ = some y ∧ w.cell? ⟨g, 2, none⟩ = some z ∧ w.cell? ⟨b, j, none⟩ = some u) : g < (w.drewN m).heap.size ∧ (w.drewN m).cell? ⟨g, 0, none⟩ = some x ∧ (w.drewN m).cell? ⟨g, 1, none⟩ = some y ∧ (w.drewN m).cell? ⟨g, 2, none⟩ = some z ∧ (w.drewN m).cell? ⟨b, j, none⟩ = some u := by simpa using h
theorem sU_drew {w : World} {g b j : Nat} {x y z u : Value} (h : g < w.heap.size ∧ w.cell? ⟨g, 0, none⟩ = some x ∧ w.cell? ⟨g, 1, none⟩ = some y ∧ w.cell? ⟨g, 2, none⟩ = some z ∧ w.cell? ⟨b, j, none⟩ = some u) : g < w.drew.heap.size ∧ w.drew.cell? ⟨g, 0, none⟩ = some x ∧ w.drew.cell? ⟨g, 1, none⟩ = some y ∧ w.drew.cell? ⟨g, 2, none⟩ = some z ∧ w.drew.cell? ⟨b, j, none⟩ = some u := by simpa using h
set_option maxHeartbeats 4000000 in
set_option maxRecDepth 100000 in
theorem spec_text (x0 x1 : Int) (A : Option Addr) (n c : Nat) (X : Nat → Nat → Int) (x3 x4 : Int) (v : Bool) (hv : alaB x0 x1 n X x3 x4 = v) (s : ByteArray) (hs : txtV v x0 x1 n = s) (w : World) (hn : n ≤ 1048576) (hnc : n ≤ c) (ha : Arr w w.heap.size A n 2 (iv X)) :
    Calls Tryd.prog 5 #[.agg #[.int .i64 x0, .int .i64 x1, .slice A n c, .int .i64 x3, .int .i64 x4]] w fun e w' => e = .returned (.tuple #[.string s, .bool v]) ∧ Below w.heap.size w w' := by
  have HV := hide hv
  have hcx0 : Cells (w.alloc (.cells #[.int .i64 x0, .int .i64 x1, .slice A n c, .int .i64 x3, .int .i64 x4] 30)) w.heap.size [.int .i64 x0, .int .i64 x1, .slice A n c, .int .i64 x3, .int .i64 x4] := Cells.new w _ _ _ rfl
  have hb0 : Below w.heap.size w (w.alloc (.cells #[.int .i64 x0, .int .i64 x1, .slice A n c, .int .i64 x3, .int .i64 x4] 30)) := below_al (Below.refl _ _)
  cases v
  · obtain rfl : ({ data := #[] } : ByteArray) = s := hs
    clear hv
    go_enter Tryd.func5, Tryd.ntmps5
    go_wp2_with fail
    refine (spec_ala _ _ _ _ _ X _ _ _ HV.out _ hn hnc (ha.on hb0)).mono ?_
    rintro e w1 ⟨rfl, hb1⟩
    obtain ⟨qc1, qf1⟩ := bcell hb1
    have hz1 := hb1.size
    try simp only [World.size_alloc, World.size_setCell, World.size_drew] at hz1
    have hq1 : Below w.heap.size w w1 := below_call (by go_grown) hb1
    try have hl0_1 : w.heap.size < w1.heap.size := by omega
    try have hl1_1 : w.heap.size + 1 < w1.heap.size := by omega
    try have hl2_1 : w.heap.size + 2 < w1.heap.size := by omega
    try have hl3_1 : w.heap.size + 3 < w1.heap.size := by omega
    have hcx1 := hcx0.on hb1
    have l0 := hcx1.2 0 _ rfl; have l1 := hcx1.2 1 _ rfl; have l2 := hcx1.2 2 _ rfl; have l3 := hcx1.2 3 _ rfl; have l4 := hcx1.2 4 _ rfl; have l5 := hcx1.1
    clear qc1 qf1 hcx0 hb0
    go_wp2
    go_returns
    exact ⟨rfl, hq1⟩
  · obtain ⟨⟨t0, t1⟩, ⟨s0, s1⟩, _, h8, _⟩ := ala_of hv
    obtain ⟨a, rfl⟩ : ∃ a : Nat, x0 = a := ⟨x0.toNat, by omega⟩
    have ha6 : a ≤ 1048576 := by omega
    have HS := hide (txtV_yes hs)
    have sz1 := dgS_size ha6
    have sz2 := dgS_size hn
    obtain ⟨z1, hz1'⟩ : ∃ z, (dgS a).size = z := ⟨_, rfl⟩
    obtain ⟨z2, hz2'⟩ : ∃ z, (dgS n).size = z := ⟨_, rfl⟩
    rw [hz1'] at sz1; rw [hz2'] at sz2
    clear hv hs
    obtain ⟨j, rfl⟩ : ∃ j : Nat, x1 = j := ⟨x1.toNat, by omega⟩
    have hj4 : (j : Int) < 4 := by omega
    have hj0 : (0 : Int) ≤ (j : Int) := by omega
    have hat := st_at (show j < 4 by omega)
    have hat2 := st_at2 (show j < 4 by omega)
    have sz3 := stS_size (j : Int)
    have HS2 := hide HS.out
    obtain ⟨st, hst⟩ : ∃ st, stS (j : Int) = st := ⟨_, rfl⟩
    rw [hst] at sz3 hat hat2 HS2
    obtain ⟨z3, hz3'⟩ : ∃ z, st.size = z := ⟨_, rfl⟩
    rw [hz3'] at sz3
    clear HS hst
    go_enter Tryd.func5, Tryd.ntmps5
    go_wp2_with fail
    refine (spec_ala _ _ _ _ _ X _ _ _ HV.out _ hn hnc (ha.on hb0)).mono ?_
    rintro e w1 ⟨rfl, hb1⟩
    obtain ⟨qc1, qf1⟩ := bcell hb1
    have hz1 := hb1.size
    try simp only [World.size_alloc, World.size_setCell, World.size_drew] at hz1
    have hq1 : Below w.heap.size w w1 := below_call (by go_grown) hb1
    try have hl0_1 : w.heap.size < w1.heap.size := by omega
    try have hl1_1 : w.heap.size + 1 < w1.heap.size := by omega
    try have hl2_1 : w.heap.size + 2 < w1.heap.size := by omega
    try have hl3_1 : w.heap.size + 3 < w1.heap.size := by omega
    have hcx1 := hcx0.on hb1
    have l0 := hcx1.2 0 _ rfl; have l1 := hcx1.2 1 _ rfl; have l2 := hcx1.2 2 _ rfl; have l3 := hcx1.2 3 _ rfl; have l4 := hcx1.2 4 _ rfl; have l5 := hcx1.1
    clear qc1 qf1 hcx0 hb0
    have hS := sT_drew (g := w.heap.size) (a := .int .i64 (a : Nat)) (b := .int .i64 (j : Nat)) (c := .slice A n c) ⟨l5, l0, l1, l2⟩
    have mn := fun (k : Nat) => ((Blk.new (w1.drewN k) 9 stAr).cell j).trans hat2
    simp only [stArr] at hat
    simp only [World.heap_drewN, stAr] at mn
    clear hat2
    go_wp2
    have g1 : ¬ 9223372036854775807 < z1 + 1 := by omega
    have g2 : ¬ 9223372036854775807 < z1 + 1 + z3 := by omega
    have g3 : ¬ 9223372036854775807 < z1 + 1 + z3 + 7 := by omega
    have g4 : ¬ 9223372036854775807 < z1 + 1 + z3 + 7 + z2 := by omega
    refine wp_region_held_drew (S := (fun w' => w.heap.size < w'.heap.size ∧ w'.cell? ⟨w.heap.size, 0, none⟩ = some (.int .i64 (a : Nat)) ∧ w'.cell? ⟨w.heap.size, 1, none⟩ = some (.int .i64 (j : Nat)) ∧ w'.cell? ⟨w.heap.size, 2, none⟩ = some (.slice A n c))) (by kernel_rfl) hS (fun hHeld => ?_)
    try simp only [Act.put, List.setIfInBounds_toArray, List.set_cons_zero, List.set_cons_succ]
    refine wpAnyH_take (i := 0) (oi := _) (v := ?_) rfl (by kernel_rfl) (by kernel_rfl) (by kernel_rfl) (fun _ _ _ h => h) (Or.inl ⟨by rfl, ?_⟩) (by assumption) ?_
    rotate_left
    · intro w hSw
      try dsimp only at hSw
      go_simp
      try (with_reducible rfl)
    try simp only [Act.put, List.setIfInBounds_toArray, List.set_cons_zero, List.set_cons_succ]
    refine wpAnyH_take (i := 1) (oi := _) (v := ?_) rfl (by kernel_rfl) (by kernel_rfl) (by kernel_rfl) (fun _ _ _ h => h) (Or.inl ⟨by rfl, ?_⟩) (by assumption) ?_
    rotate_left
    · intro w hSw
      try dsimp only at hSw
      go_simp
      try (with_reducible rfl)
    try simp only [Act.put, List.setIfInBounds_toArray, List.set_cons_zero, List.set_cons_succ]
    refine wpAnyH_take (i := 5) (oi := _) (v := ?_) rfl (by kernel_rfl) (by kernel_rfl) (by kernel_rfl) (fun _ _ _ h => h) (Or.inl ⟨by rfl, ?_⟩) (by assumption) ?_
    rotate_left
    · intro w hSw
      try dsimp only at hSw
      go_simp
      try (with_reducible rfl)
    try simp only [Act.put, List.setIfInBounds_toArray, List.set_cons_zero, List.set_cons_succ]
    refine wpAnyH_take (i := 6) (oi := _) (v := ?_) rfl (by kernel_rfl) (by kernel_rfl) (by kernel_rfl) (fun _ _ _ h => h) (Or.inl ⟨by rfl, ?_⟩) (by assumption) ?_
    rotate_left
    · intro w hSw
      try dsimp only at hSw
      go_simp
      try (with_reducible rfl)
    try simp only [Act.put, List.setIfInBounds_toArray, List.set_cons_zero, List.set_cons_succ]
    refine wpAnyH_take (i := 11) (oi := _) (v := ?_) rfl (by kernel_rfl) (by kernel_rfl) (by kernel_rfl) (fun _ _ _ h => h) (Or.inl ⟨by rfl, ?_⟩) (by assumption) ?_
    rotate_left
    · intro w hSw
      try dsimp only at hSw
      go_simp
      try (with_reducible rfl)
    try simp only [Act.put, List.setIfInBounds_toArray, List.set_cons_zero, List.set_cons_succ]
    refine wpAnyH_take (i := 12) (oi := _) (v := ?_) rfl (by kernel_rfl) (by kernel_rfl) (by kernel_rfl) (fun _ _ _ h => h) (Or.inl ⟨by rfl, ?_⟩) (by assumption) ?_
    rotate_left
    · intro w hSw
      try dsimp only at hSw
      go_simp
      try (with_reducible rfl)
    try simp only [Act.put, List.setIfInBounds_toArray, List.set_cons_zero, List.set_cons_succ]
    refine wpAnyH_take (i := 13) (oi := _) (v := ?_) rfl (by kernel_rfl) (by kernel_rfl) (by kernel_rfl) (fun _ _ _ h => h) (Or.inl ⟨by rfl, ?_⟩) (by assumption) ?_
    rotate_left
    · intro w hSw
      try dsimp only at hSw
      go_simp
      try (with_reducible rfl)
    try simp only [Act.put, List.setIfInBounds_toArray, List.set_cons_zero, List.set_cons_succ]
    refine wpAnyH_ready (rs := [2, 4]) (by kernel_rfl) (by simp) ?_
    refine AllReadyH.cons (o := _) rfl (fun K hK => ?_) ?_
    · skip
      first | (go_at_call 11; refine (spec_num _ (by assumption) _).mono ?_; rintro e w9 ⟨rfl, k9, rfl⟩) | (go_simp; go_at_call 11; refine (spec_num _ (by assumption) _).mono ?_; rintro e w9 ⟨rfl, k9, rfl⟩)
      go_simp
      refine hK.out _ _ ?_ (fun hHeld => ?_)
      · (repeat (first | assumption | refine sT_alloc _ ?_ | refine sT_drewN _ ?_ | refine sT_drew ?_))
      clear hK K
      try simp only [Act.put, List.setIfInBounds_toArray, List.set_cons_zero, List.set_cons_succ]
      refine wpAnyH_take (i := 3) (oi := _) (v := ?_) rfl (by kernel_rfl) (by kernel_rfl) (by kernel_rfl) (fun _ _ _ h => h) (Or.inl ⟨by rfl, ?_⟩) (by assumption) ?_
      rotate_left
      · intro w hSw
        try dsimp only at hSw
        go_simp
        try (with_reducible rfl)
      try simp only [Act.put, List.setIfInBounds_toArray, List.set_cons_zero, List.set_cons_succ]
      refine wpAnyH_ready (rs := [4, 14]) (by kernel_rfl) (by simp) ?_
      refine AllReadyH.cons (o := _) rfl (fun K hK => ?_) ?_
      · skip
        go_simp
        refine hK.out _ _ ?_ (fun hHeld => ?_)
        · (repeat (first | assumption | refine sT_alloc _ ?_ | refine sT_drewN _ ?_ | refine sT_drew ?_))
        clear hK K
        try simp only [Act.put, List.setIfInBounds_toArray, List.set_cons_zero, List.set_cons_succ]
        refine wpAnyH_more (S' := (fun w' => w.heap.size < w'.heap.size ∧ w'.cell? ⟨w.heap.size, 0, none⟩ = some (.int .i64 (a : Nat)) ∧ w'.cell? ⟨w.heap.size, 1, none⟩ = some (.int .i64 (j : Nat)) ∧ w'.cell? ⟨w.heap.size, 2, none⟩ = some (.slice A n c) ∧ w'.cell? ⟨w1.heap.size, j, none⟩ = some (.string st))) (fun w' h => ⟨h.1, h.2.1, h.2.2.1, h.2.2.2.1⟩) _ _ _ _ ?_
        have hHeld2 := sU_mk hHeld (mn _)
        clear hHeld
        refine wpAnyH_take (i := 7) (oi := { dst := some 14, op := Op.indexAddr 37 (Operand.tmp 11) (Operand.tmp 13), type := 0, pos := "l21_alarm.go:200", after := _, guard := none }) (v := ?_) rfl (by kernel_rfl) (by kernel_rfl) (by kernel_rfl) (fun _ _ _ h => h) (Or.inl ⟨by rfl, ?_⟩) (by assumption) ?_
        rotate_left
        · intro w hSw
          try dsimp only at hSw
          go_simp
          try (with_reducible rfl)
        try simp only [Act.put, List.setIfInBounds_toArray, List.set_cons_zero, List.set_cons_succ]
        refine wpAnyH_take (i := 8) (oi := { dst := some 15, op := Op.load 9 (Operand.tmp 14), type := 9, pos := "l21_alarm.go:200", after := _, guard := none }) (v := ?_) rfl (by kernel_rfl) (by kernel_rfl) (by kernel_rfl) (fun _ _ _ h => h) (Or.inl ⟨by rfl, ?_⟩) (by assumption) ?_
        rotate_left
        · intro w hSw
          try dsimp only at hSw
          go_simp
          try (with_reducible rfl)
        try simp only [Act.put, List.setIfInBounds_toArray, List.set_cons_zero, List.set_cons_succ]
        refine wpAnyH_take (i := 9) (oi := { dst := some 16, op := Op.binOp BinOp.add 9 (Operand.tmp 10) (Operand.tmp 15) 9, type := 9, pos := "l21_alarm.go:200", after := _, guard := none }) (v := ?_) rfl (by kernel_rfl) (by kernel_rfl) (by kernel_rfl) (fun _ _ _ h => h) (Or.inl ⟨by rfl, ?_⟩) (by assumption) ?_
        rotate_left
        · intro w hSw
          try dsimp only at hSw
          go_simp
          try (with_reducible rfl)
        try simp only [Act.put, List.setIfInBounds_toArray, List.set_cons_zero, List.set_cons_succ]
        refine wpAnyH_take (i := 10) (oi := { dst := some 17, op := Op.binOp BinOp.add 9 (Operand.tmp 16) (Operand.const (Value.string { data := #[32, 104, 101, 97, 114, 100, 32] })) 9, type := 9, pos := "l21_alarm.go:200", after := _, guard := none }) (v := ?_) rfl (by kernel_rfl) (by kernel_rfl) (by kernel_rfl) (fun _ _ _ h => h) (Or.inl ⟨by rfl, ?_⟩) (by assumption) ?_
        rotate_left
        · intro w hSw
          try dsimp only at hSw
          go_simp
          try (with_reducible rfl)
        try simp only [Act.put, List.setIfInBounds_toArray, List.set_cons_zero, List.set_cons_succ]
        refine wpAnyH_ready (rs := [14]) (by kernel_rfl) (by simp) ?_
        refine AllReadyH.cons (o := _) rfl (fun K hK => ?_) ?_
        · skip
          first | (go_at_call 11; refine (spec_num _ (by assumption) _).mono ?_; rintro e w9 ⟨rfl, k9, rfl⟩) | (go_simp; go_at_call 11; refine (spec_num _ (by assumption) _).mono ?_; rintro e w9 ⟨rfl, k9, rfl⟩)
          go_simp
          refine hK.out _ _ ?_ (fun hHeld => ?_)
          · (repeat (first | assumption | refine sU_drewN _ ?_ | refine sU_drew ?_))
          clear hK K
          try simp only [Act.put, List.setIfInBounds_toArray, List.set_cons_zero, List.set_cons_succ]
          refine wpAnyH_take (i := 15) (oi := { dst := some 22, op := Op.binOp BinOp.add 9 (Operand.tmp 17) (Operand.tmp 21) 9, type := 9, pos := "l21_alarm.go:200", after := _, guard := none }) (v := ?_) rfl (by kernel_rfl) (by kernel_rfl) (by kernel_rfl) (fun _ _ _ h => h) (Or.inl ⟨by rfl, ?_⟩) (by assumption) ?_
          rotate_left
          · intro w hSw
            try dsimp only at hSw
            go_simp
            try (with_reducible rfl)
          try simp only [Act.put, List.setIfInBounds_toArray, List.set_cons_zero, List.set_cons_succ]
          refine wpAnyH_take (i := 16) (oi := { dst := some 2, op := Op.assign (Operand.tmp 22), type := 9, pos := "l21_alarm.go:200", after := _, guard := none }) (v := ?_) rfl (by kernel_rfl) (by kernel_rfl) (by kernel_rfl) (fun _ _ _ h => h) (Or.inl ⟨by rfl, ?_⟩) (by assumption) ?_
          rotate_left
          · intro w hSw
            try dsimp only at hSw
            go_simp
            try (with_reducible rfl)
          try simp only [Act.put, List.setIfInBounds_toArray, List.set_cons_zero, List.set_cons_succ]
          refine wpAnyH_take (i := 17) (oi := { dst := some 3, op := Op.assign (Operand.const (Value.bool true)), type := 4, pos := "l21_alarm.go:200", after := _, guard := none }) (v := ?_) rfl (by kernel_rfl) (by kernel_rfl) (by kernel_rfl) (fun _ _ _ h => h) (Or.inl ⟨by rfl, ?_⟩) (by assumption) ?_
          rotate_left
          · intro w hSw
            try dsimp only at hSw
            go_simp
            try (with_reducible rfl)
          try simp only [Act.put, List.setIfInBounds_toArray, List.set_cons_zero, List.set_cons_succ]
          refine wpAnyH_done (by kernel_rfl) ?_ _
          go_wp2
          go_returns
          exact ⟨ret_txt (by rw [HS2.out]; rfl), (by repeat (first | with_reducible assumption | with_reducible refine below_dn ?_ _ | with_reducible refine below_al ?_ | with_reducible refine below_d1 ?_))⟩
        exact AllReadyH.nil
      refine AllReadyH.cons (o := _) rfl (fun K hK => ?_) ?_
      · skip
        first | (go_at_call 11; refine (spec_num _ (by assumption) _).mono ?_; rintro e w9 ⟨rfl, k9, rfl⟩) | (go_simp; go_at_call 11; refine (spec_num _ (by assumption) _).mono ?_; rintro e w9 ⟨rfl, k9, rfl⟩)
        go_simp
        refine hK.out _ _ ?_ (fun hHeld => ?_)
        · (repeat (first | assumption | refine sT_alloc _ ?_ | refine sT_drewN _ ?_ | refine sT_drew ?_))
        clear hK K
        try simp only [Act.put, List.setIfInBounds_toArray, List.set_cons_zero, List.set_cons_succ]
        refine wpAnyH_ready (rs := [4]) (by kernel_rfl) (by simp) ?_
        refine AllReadyH.cons (o := _) rfl (fun K hK => ?_) ?_
        · skip
          go_simp
          refine hK.out _ _ ?_ (fun hHeld => ?_)
          · (repeat (first | assumption | refine sT_alloc _ ?_ | refine sT_drewN _ ?_ | refine sT_drew ?_))
          clear hK K
          try simp only [Act.put, List.setIfInBounds_toArray, List.set_cons_zero, List.set_cons_succ]
          refine wpAnyH_more (S' := (fun w' => w.heap.size < w'.heap.size ∧ w'.cell? ⟨w.heap.size, 0, none⟩ = some (.int .i64 (a : Nat)) ∧ w'.cell? ⟨w.heap.size, 1, none⟩ = some (.int .i64 (j : Nat)) ∧ w'.cell? ⟨w.heap.size, 2, none⟩ = some (.slice A n c) ∧ w'.cell? ⟨w1.heap.size, j, none⟩ = some (.string st))) (fun w' h => ⟨h.1, h.2.1, h.2.2.1, h.2.2.2.1⟩) _ _ _ _ ?_
          have hHeld2 := sU_mk hHeld (mn _)
          clear hHeld
          refine wpAnyH_take (i := 7) (oi := { dst := some 14, op := Op.indexAddr 37 (Operand.tmp 11) (Operand.tmp 13), type := 0, pos := "l21_alarm.go:200", after := _, guard := none }) (v := ?_) rfl (by kernel_rfl) (by kernel_rfl) (by kernel_rfl) (fun _ _ _ h => h) (Or.inl ⟨by rfl, ?_⟩) (by assumption) ?_
          rotate_left
          · intro w hSw
            try dsimp only at hSw
            go_simp
            try (with_reducible rfl)
          try simp only [Act.put, List.setIfInBounds_toArray, List.set_cons_zero, List.set_cons_succ]
          refine wpAnyH_take (i := 8) (oi := { dst := some 15, op := Op.load 9 (Operand.tmp 14), type := 9, pos := "l21_alarm.go:200", after := _, guard := none }) (v := ?_) rfl (by kernel_rfl) (by kernel_rfl) (by kernel_rfl) (fun _ _ _ h => h) (Or.inl ⟨by rfl, ?_⟩) (by assumption) ?_
          rotate_left
          · intro w hSw
            try dsimp only at hSw
            go_simp
            try (with_reducible rfl)
          try simp only [Act.put, List.setIfInBounds_toArray, List.set_cons_zero, List.set_cons_succ]
          refine wpAnyH_take (i := 9) (oi := { dst := some 16, op := Op.binOp BinOp.add 9 (Operand.tmp 10) (Operand.tmp 15) 9, type := 9, pos := "l21_alarm.go:200", after := _, guard := none }) (v := ?_) rfl (by kernel_rfl) (by kernel_rfl) (by kernel_rfl) (fun _ _ _ h => h) (Or.inl ⟨by rfl, ?_⟩) (by assumption) ?_
          rotate_left
          · intro w hSw
            try dsimp only at hSw
            go_simp
            try (with_reducible rfl)
          try simp only [Act.put, List.setIfInBounds_toArray, List.set_cons_zero, List.set_cons_succ]
          refine wpAnyH_take (i := 10) (oi := { dst := some 17, op := Op.binOp BinOp.add 9 (Operand.tmp 16) (Operand.const (Value.string { data := #[32, 104, 101, 97, 114, 100, 32] })) 9, type := 9, pos := "l21_alarm.go:200", after := _, guard := none }) (v := ?_) rfl (by kernel_rfl) (by kernel_rfl) (by kernel_rfl) (fun _ _ _ h => h) (Or.inl ⟨by rfl, ?_⟩) (by assumption) ?_
          rotate_left
          · intro w hSw
            try dsimp only at hSw
            go_simp
            try (with_reducible rfl)
          try simp only [Act.put, List.setIfInBounds_toArray, List.set_cons_zero, List.set_cons_succ]
          refine wpAnyH_take (i := 15) (oi := { dst := some 22, op := Op.binOp BinOp.add 9 (Operand.tmp 17) (Operand.tmp 21) 9, type := 9, pos := "l21_alarm.go:200", after := _, guard := none }) (v := ?_) rfl (by kernel_rfl) (by kernel_rfl) (by kernel_rfl) (fun _ _ _ h => h) (Or.inl ⟨by rfl, ?_⟩) (by assumption) ?_
          rotate_left
          · intro w hSw
            try dsimp only at hSw
            go_simp
            try (with_reducible rfl)
          try simp only [Act.put, List.setIfInBounds_toArray, List.set_cons_zero, List.set_cons_succ]
          refine wpAnyH_take (i := 16) (oi := { dst := some 2, op := Op.assign (Operand.tmp 22), type := 9, pos := "l21_alarm.go:200", after := _, guard := none }) (v := ?_) rfl (by kernel_rfl) (by kernel_rfl) (by kernel_rfl) (fun _ _ _ h => h) (Or.inl ⟨by rfl, ?_⟩) (by assumption) ?_
          rotate_left
          · intro w hSw
            try dsimp only at hSw
            go_simp
            try (with_reducible rfl)
          try simp only [Act.put, List.setIfInBounds_toArray, List.set_cons_zero, List.set_cons_succ]
          refine wpAnyH_take (i := 17) (oi := { dst := some 3, op := Op.assign (Operand.const (Value.bool true)), type := 4, pos := "l21_alarm.go:200", after := _, guard := none }) (v := ?_) rfl (by kernel_rfl) (by kernel_rfl) (by kernel_rfl) (fun _ _ _ h => h) (Or.inl ⟨by rfl, ?_⟩) (by assumption) ?_
          rotate_left
          · intro w hSw
            try dsimp only at hSw
            go_simp
            try (with_reducible rfl)
          try simp only [Act.put, List.setIfInBounds_toArray, List.set_cons_zero, List.set_cons_succ]
          refine wpAnyH_done (by kernel_rfl) ?_ _
          go_wp2
          go_returns
          exact ⟨ret_txt (by rw [HS2.out]; rfl), (by repeat (first | with_reducible assumption | with_reducible refine below_dn ?_ _ | with_reducible refine below_al ?_ | with_reducible refine below_d1 ?_))⟩
        exact AllReadyH.nil
      exact AllReadyH.nil
    refine AllReadyH.cons (o := _) rfl (fun K hK => ?_) ?_
    · skip
      go_simp
      refine hK.out _ _ ?_ (fun hHeld => ?_)
      · (repeat (first | assumption | refine sT_alloc _ ?_ | refine sT_drewN _ ?_ | refine sT_drew ?_))
      clear hK K
      try simp only [Act.put, List.setIfInBounds_toArray, List.set_cons_zero, List.set_cons_succ]
      refine wpAnyH_more (S' := (fun w' => w.heap.size < w'.heap.size ∧ w'.cell? ⟨w.heap.size, 0, none⟩ = some (.int .i64 (a : Nat)) ∧ w'.cell? ⟨w.heap.size, 1, none⟩ = some (.int .i64 (j : Nat)) ∧ w'.cell? ⟨w.heap.size, 2, none⟩ = some (.slice A n c) ∧ w'.cell? ⟨w1.heap.size, j, none⟩ = some (.string st))) (fun w' h => ⟨h.1, h.2.1, h.2.2.1, h.2.2.2.1⟩) _ _ _ _ ?_
      have hHeld2 := sU_mk hHeld (mn _)
      clear hHeld
      refine wpAnyH_take (i := 7) (oi := { dst := some 14, op := Op.indexAddr 37 (Operand.tmp 11) (Operand.tmp 13), type := 0, pos := "l21_alarm.go:200", after := _, guard := none }) (v := ?_) rfl (by kernel_rfl) (by kernel_rfl) (by kernel_rfl) (fun _ _ _ h => h) (Or.inl ⟨by rfl, ?_⟩) (by assumption) ?_
      rotate_left
      · intro w hSw
        try dsimp only at hSw
        go_simp
        try (with_reducible rfl)
      try simp only [Act.put, List.setIfInBounds_toArray, List.set_cons_zero, List.set_cons_succ]
      refine wpAnyH_take (i := 8) (oi := { dst := some 15, op := Op.load 9 (Operand.tmp 14), type := 9, pos := "l21_alarm.go:200", after := _, guard := none }) (v := ?_) rfl (by kernel_rfl) (by kernel_rfl) (by kernel_rfl) (fun _ _ _ h => h) (Or.inl ⟨by rfl, ?_⟩) (by assumption) ?_
      rotate_left
      · intro w hSw
        try dsimp only at hSw
        go_simp
        try (with_reducible rfl)
      try simp only [Act.put, List.setIfInBounds_toArray, List.set_cons_zero, List.set_cons_succ]
      refine wpAnyH_ready (rs := [2]) (by kernel_rfl) (by simp) ?_
      refine AllReadyH.cons (o := _) rfl (fun K hK => ?_) ?_
      · skip
        first | (go_at_call 11; refine (spec_num _ (by assumption) _).mono ?_; rintro e w9 ⟨rfl, k9, rfl⟩) | (go_simp; go_at_call 11; refine (spec_num _ (by assumption) _).mono ?_; rintro e w9 ⟨rfl, k9, rfl⟩)
        go_simp
        refine hK.out _ _ ?_ (fun hHeld => ?_)
        · (repeat (first | assumption | refine sU_drewN _ ?_ | refine sU_drew ?_))
        clear hK K
        try simp only [Act.put, List.setIfInBounds_toArray, List.set_cons_zero, List.set_cons_succ]
        refine wpAnyH_take (i := 3) (oi := _) (v := ?_) rfl (by kernel_rfl) (by kernel_rfl) (by kernel_rfl) (fun _ _ _ h => h) (Or.inl ⟨by rfl, ?_⟩) (by assumption) ?_
        rotate_left
        · intro w hSw
          try dsimp only at hSw
          go_simp
          try (with_reducible rfl)
        try simp only [Act.put, List.setIfInBounds_toArray, List.set_cons_zero, List.set_cons_succ]
        refine wpAnyH_take (i := 9) (oi := { dst := some 16, op := Op.binOp BinOp.add 9 (Operand.tmp 10) (Operand.tmp 15) 9, type := 9, pos := "l21_alarm.go:200", after := _, guard := none }) (v := ?_) rfl (by kernel_rfl) (by kernel_rfl) (by kernel_rfl) (fun _ _ _ h => h) (Or.inl ⟨by rfl, ?_⟩) (by assumption) ?_
        rotate_left
        · intro w hSw
          try dsimp only at hSw
          go_simp
          try (with_reducible rfl)
        try simp only [Act.put, List.setIfInBounds_toArray, List.set_cons_zero, List.set_cons_succ]
        refine wpAnyH_take (i := 10) (oi := { dst := some 17, op := Op.binOp BinOp.add 9 (Operand.tmp 16) (Operand.const (Value.string { data := #[32, 104, 101, 97, 114, 100, 32] })) 9, type := 9, pos := "l21_alarm.go:200", after := _, guard := none }) (v := ?_) rfl (by kernel_rfl) (by kernel_rfl) (by kernel_rfl) (fun _ _ _ h => h) (Or.inl ⟨by rfl, ?_⟩) (by assumption) ?_
        rotate_left
        · intro w hSw
          try dsimp only at hSw
          go_simp
          try (with_reducible rfl)
        try simp only [Act.put, List.setIfInBounds_toArray, List.set_cons_zero, List.set_cons_succ]
        refine wpAnyH_ready (rs := [14]) (by kernel_rfl) (by simp) ?_
        refine AllReadyH.cons (o := _) rfl (fun K hK => ?_) ?_
        · skip
          first | (go_at_call 11; refine (spec_num _ (by assumption) _).mono ?_; rintro e w9 ⟨rfl, k9, rfl⟩) | (go_simp; go_at_call 11; refine (spec_num _ (by assumption) _).mono ?_; rintro e w9 ⟨rfl, k9, rfl⟩)
          go_simp
          refine hK.out _ _ ?_ (fun hHeld => ?_)
          · (repeat (first | assumption | refine sU_drewN _ ?_ | refine sU_drew ?_))
          clear hK K
          try simp only [Act.put, List.setIfInBounds_toArray, List.set_cons_zero, List.set_cons_succ]
          refine wpAnyH_take (i := 15) (oi := { dst := some 22, op := Op.binOp BinOp.add 9 (Operand.tmp 17) (Operand.tmp 21) 9, type := 9, pos := "l21_alarm.go:200", after := _, guard := none }) (v := ?_) rfl (by kernel_rfl) (by kernel_rfl) (by kernel_rfl) (fun _ _ _ h => h) (Or.inl ⟨by rfl, ?_⟩) (by assumption) ?_
          rotate_left
          · intro w hSw
            try dsimp only at hSw
            go_simp
            try (with_reducible rfl)
          try simp only [Act.put, List.setIfInBounds_toArray, List.set_cons_zero, List.set_cons_succ]
          refine wpAnyH_take (i := 16) (oi := { dst := some 2, op := Op.assign (Operand.tmp 22), type := 9, pos := "l21_alarm.go:200", after := _, guard := none }) (v := ?_) rfl (by kernel_rfl) (by kernel_rfl) (by kernel_rfl) (fun _ _ _ h => h) (Or.inl ⟨by rfl, ?_⟩) (by assumption) ?_
          rotate_left
          · intro w hSw
            try dsimp only at hSw
            go_simp
            try (with_reducible rfl)
          try simp only [Act.put, List.setIfInBounds_toArray, List.set_cons_zero, List.set_cons_succ]
          refine wpAnyH_take (i := 17) (oi := { dst := some 3, op := Op.assign (Operand.const (Value.bool true)), type := 4, pos := "l21_alarm.go:200", after := _, guard := none }) (v := ?_) rfl (by kernel_rfl) (by kernel_rfl) (by kernel_rfl) (fun _ _ _ h => h) (Or.inl ⟨by rfl, ?_⟩) (by assumption) ?_
          rotate_left
          · intro w hSw
            try dsimp only at hSw
            go_simp
            try (with_reducible rfl)
          try simp only [Act.put, List.setIfInBounds_toArray, List.set_cons_zero, List.set_cons_succ]
          refine wpAnyH_done (by kernel_rfl) ?_ _
          go_wp2
          go_returns
          exact ⟨ret_txt (by rw [HS2.out]; rfl), (by repeat (first | with_reducible assumption | with_reducible refine below_dn ?_ _ | with_reducible refine below_al ?_ | with_reducible refine below_d1 ?_))⟩
        exact AllReadyH.nil
      exact AllReadyH.nil
    exact AllReadyH.nil
set_option maxHeartbeats 4000000 in
set_option maxRecDepth 100000 in
theorem impl_text (x0 x1 : Int) (A : Option Addr) (n c : Nat) (X : Nat → Nat → Int) (x3 x4 : Int) (v : Bool) (hv : alaB x0 x1 n X x3 x4 = v) (s : ByteArray) (hs : txtV v x0 x1 n = s) (w : World) (hn : n ≤ 1048576) (hnc : n ≤ c) (ha : Arr w w.heap.size A n 2 (iv X)) (htab : Lib.TabIs Tryd.prog w "internal/strconv.uint64pow10" .u64 Lib.pow10Tab) :
    Calls Tryd.prog 7 #[.agg #[.int .i64 x0, .int .i64 x1, .slice A n c, .int .i64 x3, .int .i64 x4]] w fun e w' => e = .returned (.tuple #[.string s, .bool v]) ∧ Below w.heap.size w w' := by
  have HV := hide hv; have HT := hide (Lib.tabBelow_of_tabIs htab)
  clear htab
  have hcx0 : Cells (w.alloc (.cells #[.int .i64 x0, .int .i64 x1, .slice A n c, .int .i64 x3, .int .i64 x4] 30)) w.heap.size [.int .i64 x0, .int .i64 x1, .slice A n c, .int .i64 x3, .int .i64 x4] := Cells.new w _ _ _ rfl
  have hb0 : Below w.heap.size w (w.alloc (.cells #[.int .i64 x0, .int .i64 x1, .slice A n c, .int .i64 x3, .int .i64 x4] 30)) := below_al (Below.refl _ _)
  cases v
  · obtain rfl : ({ data := #[] } : ByteArray) = s := hs
    clear hv
    go_enter Tryd.func7, Tryd.ntmps7
    go_wp2_with fail
    refine (impl_isAla _ _ _ _ _ X _ _ _ HV.out _ hn hnc (ha.on hb0)).mono ?_
    rintro e w1 ⟨rfl, hb1⟩
    obtain ⟨qc1, qf1⟩ := bcell hb1
    have hz1 := hb1.size
    try simp only [World.size_alloc, World.size_setCell, World.size_drew] at hz1
    have hq1 : Below w.heap.size w w1 := below_call (by go_grown) hb1
    try have hl0_1 : w.heap.size < w1.heap.size := by omega
    try have hl1_1 : w.heap.size + 1 < w1.heap.size := by omega
    try have hl2_1 : w.heap.size + 2 < w1.heap.size := by omega
    try have hl3_1 : w.heap.size + 3 < w1.heap.size := by omega
    have hcx1 := hcx0.on hb1
    have l0 := hcx1.2 0 _ rfl; have l1 := hcx1.2 1 _ rfl; have l2 := hcx1.2 2 _ rfl; have l3 := hcx1.2 3 _ rfl; have l4 := hcx1.2 4 _ rfl; have l5 := hcx1.1
    clear qc1 qf1 hcx0 hb0
    go_wp2
    go_returns
    exact ⟨rfl, hq1⟩
  · obtain ⟨⟨t0, t1⟩, ⟨s0, s1⟩, _, h8, _⟩ := ala_of hv
    obtain ⟨a, rfl⟩ : ∃ a : Nat, x0 = a := ⟨x0.toNat, by omega⟩
    have ha6 : a ≤ 1048576 := by omega
    have HS := hide (txtV_yes hs)
    have sz1 := dgS_size ha6
    have sz2 := dgS_size hn
    obtain ⟨z1, hz1'⟩ : ∃ z, (dgS a).size = z := ⟨_, rfl⟩
    obtain ⟨z2, hz2'⟩ : ∃ z, (dgS n).size = z := ⟨_, rfl⟩
    rw [hz1'] at sz1; rw [hz2'] at sz2
    clear hv hs
    rcases (by omega : x1 = 0 ∨ x1 = 1 ∨ x1 = 2 ∨ x1 = 3) with rfl | rfl | rfl | rfl
    all_goals
      go_enter Tryd.func7, Tryd.ntmps7
      go_wp2_with fail
      refine (impl_isAla _ _ _ _ _ X _ _ _ HV.out _ hn hnc (ha.on hb0)).mono ?_
      rintro e w1 ⟨rfl, hb1⟩
      obtain ⟨qc1, qf1⟩ := bcell hb1
      have hz1 := hb1.size
      try simp only [World.size_alloc, World.size_setCell, World.size_drew] at hz1
      have hq1 : Below w.heap.size w w1 := below_call (by go_grown) hb1
      try have hl0_1 : w.heap.size < w1.heap.size := by omega
      try have hl1_1 : w.heap.size + 1 < w1.heap.size := by omega
      try have hl2_1 : w.heap.size + 2 < w1.heap.size := by omega
      try have hl3_1 : w.heap.size + 3 < w1.heap.size := by omega
      have hcx1 := hcx0.on hb1
      have l0 := hcx1.2 0 _ rfl; have l1 := hcx1.2 1 _ rfl; have l2 := hcx1.2 2 _ rfl; have l3 := hcx1.2 3 _ rfl; have l4 := hcx1.2 4 _ rfl; have l5 := hcx1.1
      clear qc1 qf1 hcx0 hb0
      have hx := fun (o : Obj) => BW.cell (w := w1.alloc o)
      have HTB := hide (fun (o : Obj) (y : BW (w1.alloc o)) => HT.out _ (below_call (below_al hq1) y.prop))
      go_wp2
      refine wp_region_bw (by kernel_rfl) (by kernel_rfl) ?_
      repeat (go_big_quiet_step ((first | (go_at_call 14; exact BW.call (impl_itoa _ (by assumption) _ (HTB.out _ _))))))
      refine wpQuiet_end fun w1 hb1 => ?_
      have hb4 := below_call (below_al hq1) hb1
      go_wp2
      go_returns
      exact ⟨ret_txt (by rw [HS.out]; rfl), hb4⟩
end Go.Proofs.YtgiphgfbfhaamaaDoor
